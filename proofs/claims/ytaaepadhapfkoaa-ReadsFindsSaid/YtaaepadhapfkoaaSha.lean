/-
  SHA-256 over numbers and lists: no Go in sight.
-/
namespace Go.Proofs.Ytaaepadhapfkoaa.Sha
/-- a word turned down by n bits -/
def rot (x n : Nat) : Nat := (x * 2 ^ (32 - n) % 4294967296) ||| (x / 2 ^ n)
def s0 (x : Nat) : Nat := (rot x 7 ^^^ rot x 18) ^^^ x / 8
def s1 (x : Nat) : Nat := (rot x 17 ^^^ rot x 19) ^^^ x / 1024
def S1 (e : Nat) : Nat := (rot e 6 ^^^ rot e 11) ^^^ rot e 25
def S0 (a : Nat) : Nat := (rot a 2 ^^^ rot a 13) ^^^ rot a 22
def ch (e f g : Nat) : Nat := (e &&& f) ^^^ ((4294967295 - e) &&& g)
def maj (a b c : Nat) : Nat := ((a &&& b) ^^^ (a &&& c)) ^^^ (b &&& c)
/-- the k's of the rounds -/
def K : List Nat := [
  0x428a2f98, 0x71374491, 0xb5c0fbcf, 0xe9b5dba5, 0x3956c25b, 0x59f111f1, 0x923f82a4, 0xab1c5ed5,
  0xd807aa98, 0x12835b01, 0x243185be, 0x550c7dc3, 0x72be5d74, 0x80deb1fe, 0x9bdc06a7, 0xc19bf174,
  0xe49b69c1, 0xefbe4786, 0x0fc19dc6, 0x240ca1cc, 0x2de92c6f, 0x4a7484aa, 0x5cb0a9dc, 0x76f988da,
  0x983e5152, 0xa831c66d, 0xb00327c8, 0xbf597fc7, 0xc6e00bf3, 0xd5a79147, 0x06ca6351, 0x14292967,
  0x27b70a85, 0x2e1b2138, 0x4d2c6dfc, 0x53380d13, 0x650a7354, 0x766a0abb, 0x81c2c92e, 0x92722c85,
  0xa2bfe8a1, 0xa81a664b, 0xc24b8b70, 0xc76c51a3, 0xd192e819, 0xd6990624, 0xf40e3585, 0x106aa070,
  0x19a4c116, 0x1e376c08, 0x2748774c, 0x34b0bcb5, 0x391c0cb3, 0x4ed8aa4a, 0x5b9cca4f, 0x682e6ff3,
  0x748f82ee, 0x78a5636f, 0x84c87814, 0x8cc70208, 0x90befffa, 0xa4506ceb, 0xbef9a3f7, 0xc67178f2]
/-- a state: eight words -/
structure St where
  a : Nat
  b : Nat
  c : Nat
  d : Nat
  e : Nat
  f : Nat
  g : Nat
  h : Nat
def St.l (s : St) : List Nat := [s.a, s.b, s.c, s.d, s.e, s.f, s.g, s.h]
def H0 : St := ⟨0x6a09e667, 0xbb67ae85, 0x3c6ef372, 0xa54ff53a, 0x510e527f, 0x9b05688c, 0x1f83d9ab, 0x5be0cd19⟩
def one (s : St) (k w : Nat) : Nat := (s.h + S1 s.e + ch s.e s.f s.g + k + w) % 4294967296
def two (s : St) : Nat := (S0 s.a + maj s.a s.b s.c) % 4294967296
def round (s : St) (k w : Nat) : St := ⟨(one s k w + two s) % 4294967296, s.a, s.b, s.c, (s.d + one s k w) % 4294967296, s.e, s.f, s.g⟩
/-- the first bytes' number, four of them -/
def be4 (b : List Nat) (i : Nat) : Nat := ((b.getD i 0 * 256 + b.getD (i + 1) 0) * 256 + b.getD (i + 2) 0) * 256 + b.getD (i + 3) 0
def nxt (l : List Nat) (t : Nat) : Nat := (l.getD (t - 16) 0 + s0 (l.getD (t - 15) 0) + l.getD (t - 7) 0 + s1 (l.getD (t - 2) 0)) % 4294967296
/-- the words of a block, the first n of them -/
def sched (b : List Nat) : Nat → List Nat
  | 0 => []
  | t + 1 => sched b t ++ [if t < 16 then be4 b (4 * t) else nxt (sched b t) t]
/-- a block's word -/
def W (b : List Nat) (t : Nat) : Nat := (sched b (t + 1)).getD t 0
theorem sched_len (b : List Nat) : ∀ n, (sched b n).length = n
  | 0 => rfl
  | n + 1 => by rw [sched, List.length_append, sched_len b n]; rfl
theorem sched_get (b : List Nat) (t : Nat) : ∀ n, t < n → (sched b n).getD t 0 = W b t
  | n + 1, h => by
    by_cases e : t = n
    · subst e; rfl
    · have hl := sched_len b n
      rw [← sched_get b t n (by omega), sched, List.getD_eq_getElem?_getD, List.getD_eq_getElem?_getD, List.getElem?_append_left (by omega)]
theorem get_snoc (l : List Nat) (x n : Nat) (h : l.length = n) : (l ++ [x]).getD n 0 = x := by
  subst h
  rw [List.getD_eq_getElem?_getD, List.getElem?_append_right (Nat.le_refl _), Nat.sub_self]
  rfl
theorem W_eq (b : List Nat) (t : Nat) : W b t = if t < 16 then be4 b (4 * t) else nxt (sched b t) t := get_snoc (sched b t) _ t (sched_len b t)
theorem W_lo (b : List Nat) {t : Nat} (h : t < 16) : W b t = be4 b (4 * t) := (W_eq b t).trans (if_pos h)
theorem W_hi (b : List Nat) {t : Nat} (h : 16 ≤ t) : W b t = (W b (t - 16) + s0 (W b (t - 15)) + W b (t - 7) + s1 (W b (t - 2))) % 4294967296 := by
  rw [(W_eq b t).trans (if_neg (by omega)), nxt, sched_get b _ t (by omega), sched_get b _ t (by omega), sched_get b _ t (by omega), sched_get b _ t (by omega)]
theorem rot_lt {x n : Nat} (h : x < 4294967296) : rot x n < 4294967296 := Nat.or_lt_two_pow (n := 32) (Nat.mod_lt _ (by omega)) (Nat.lt_of_le_of_lt (Nat.div_le_self _ _) h)
theorem xor_lt {x y : Nat} (hx : x < 4294967296) (hy : y < 4294967296) : x ^^^ y < 4294967296 := Nat.xor_lt_two_pow (n := 32) hx hy
theorem and_lt {x y : Nat} (hx : x < 4294967296) : x &&& y < 4294967296 := Nat.lt_of_le_of_lt Nat.and_le_left hx
theorem s0_lt {x : Nat} (h : x < 4294967296) : s0 x < 4294967296 := xor_lt (xor_lt (rot_lt h) (rot_lt h)) (by omega)
theorem s1_lt {x : Nat} (h : x < 4294967296) : s1 x < 4294967296 := xor_lt (xor_lt (rot_lt h) (rot_lt h)) (by omega)
theorem S0_lt {x : Nat} (h : x < 4294967296) : S0 x < 4294967296 := xor_lt (xor_lt (rot_lt h) (rot_lt h)) (rot_lt h)
theorem S1_lt {x : Nat} (h : x < 4294967296) : S1 x < 4294967296 := xor_lt (xor_lt (rot_lt h) (rot_lt h)) (rot_lt h)
theorem ch_lt {e f g : Nat} (h : e < 4294967296) : ch e f g < 4294967296 := xor_lt (and_lt h) (and_lt (by omega))
theorem maj_lt {a b c : Nat} (ha : a < 4294967296) (hb : b < 4294967296) : maj a b c < 4294967296 := xor_lt (xor_lt (and_lt ha) (and_lt ha)) (and_lt hb)
theorem get_lt {l : List Nat} {n : Nat} (hn : 0 < n) (h : ∀ c ∈ l, c < n) (i : Nat) : l.getD i 0 < n := by
  rw [List.getD_eq_getElem?_getD]
  by_cases hi : i < l.length
  · rw [List.getElem?_eq_getElem hi]; exact h _ (List.getElem_mem hi)
  · rw [List.getElem?_eq_none (by omega)]; exact hn
theorem be4_lt {b : List Nat} (h : ∀ c ∈ b, c < 256) (i : Nat) : be4 b i < 4294967296 := by
  have h0 := get_lt (by omega) h i
  have h1 := get_lt (by omega) h (i + 1)
  have h2 := get_lt (by omega) h (i + 2)
  have h3 := get_lt (by omega) h (i + 3)
  unfold be4
  omega
theorem W_lt {b : List Nat} (h : ∀ c ∈ b, c < 256) (t : Nat) : W b t < 4294967296 := by
  by_cases e : t < 16
  · rw [W_lo b e]; exact be4_lt h _
  · rw [W_hi b (by omega)]; omega
theorem K_lt : ∀ c ∈ K, c < 4294967296 := by decide
def St.ok (s : St) : Prop := s.a < 4294967296 ∧ s.b < 4294967296 ∧ s.c < 4294967296 ∧ s.d < 4294967296 ∧ s.e < 4294967296 ∧ s.f < 4294967296 ∧ s.g < 4294967296 ∧ s.h < 4294967296
theorem round_ok {s : St} (h : s.ok) (k w : Nat) : (round s k w).ok := by
  obtain ⟨h1, h2, h3, h4, h5, h6, h7, h8⟩ := h
  exact ⟨Nat.mod_lt _ (by omega), h1, h2, h3, Nat.mod_lt _ (by omega), h5, h6, h7⟩
theorem H0_ok : H0.ok := by unfold St.ok; decide
/-- n rounds -/
def rounds (b : List Nat) (s : St) : Nat → St
  | 0 => s
  | t + 1 => round (rounds b s t) (K.getD t 0) (W b t)
theorem rounds_ok {s : St} (b : List Nat) (h : s.ok) : ∀ n, (rounds b s n).ok
  | 0 => h
  | n + 1 => round_ok (rounds_ok b h n) _ _
def St.add (s v : St) : St := ⟨(v.a + s.a) % 4294967296, (v.b + s.b) % 4294967296, (v.c + s.c) % 4294967296, (v.d + s.d) % 4294967296, (v.e + s.e) % 4294967296, (v.f + s.f) % 4294967296, (v.g + s.g) % 4294967296, (v.h + s.h) % 4294967296⟩
/-- the state behind a block -/
def block (s : St) (b : List Nat) : St := s.add (rounds b s 64)
theorem block_ok (s : St) (b : List Nat) : (block s b).ok := ⟨Nat.mod_lt _ (by omega), Nat.mod_lt _ (by omega), Nat.mod_lt _ (by omega), Nat.mod_lt _ (by omega), Nat.mod_lt _ (by omega), Nat.mod_lt _ (by omega), Nat.mod_lt _ (by omega), Nat.mod_lt _ (by omega)⟩
/-- the block of a message -/
def part (m : List Nat) (i : Nat) : List Nat := (m.drop (64 * i)).take 64
/-- the state behind n blocks -/
def after (m : List Nat) (s : St) : Nat → St
  | 0 => s
  | n + 1 => block (after m s n) (part m n)
theorem after_ok (m : List Nat) {s : St} (h : s.ok) : ∀ n, (after m s n).ok
  | 0 => h
  | _ + 1 => block_ok _ _
/-- a number's bytes, the highest first -/
def be (n : Nat) : Nat → List Nat
  | 0 => []
  | k + 1 => be (n / 256) k ++ [n % 256]
theorem be_len : ∀ k n, (be n k).length = k
  | 0, _ => rfl
  | k + 1, n => by rw [be, List.length_append, be_len k]; rfl
theorem be_lt : ∀ k n, ∀ c ∈ be n k, c < 256
  | 0, _ => by intro c h; cases h
  | k + 1, n => by
    intro c h
    rw [be, List.mem_append] at h
    rcases h with h | h
    · exact be_lt k _ c h
    · simp at h; omega
/-- what is behind the whole blocks -/
def tail (b : List Nat) : List Nat := b.drop (b.length / 64 * 64) ++ [128] ++ List.replicate ((120 - (b.length % 64 + 1) % 64) % 64) 0 ++ be (b.length * 8) 8
/-- the digest -/
def fin (b : List Nat) : St := after (tail b) (after b H0 (b.length / 64)) ((tail b).length / 64)
def sum (b : List Nat) : List Nat := (fin b).l.flatMap fun x => be x 4
theorem tail_len (b : List Nat) : (tail b).length % 64 = 0 ∧ (tail b).length / 64 ≤ 2 ∧ 1 ≤ (tail b).length / 64 := by
  unfold tail
  simp only [List.length_append, List.length_drop, List.length_replicate, List.length_cons, List.length_nil, be_len]
  omega
theorem tail_lt (b : List Nat) (h : ∀ c ∈ b, c < 256) : ∀ c ∈ tail b, c < 256 := by
  intro c hc
  unfold tail at hc
  simp only [List.mem_append, List.mem_replicate, List.mem_singleton] at hc
  rcases hc with ((hc | hc) | hc) | hc
  · exact h c (List.mem_of_mem_drop hc)
  · omega
  · omega
  · exact be_lt 8 _ c hc
theorem fin_ok (b : List Nat) : (fin b).ok := after_ok _ (after_ok _ H0_ok _) _
theorem fin_lt (b : List Nat) : ∀ c ∈ (fin b).l, c < 4294967296 := by
  obtain ⟨h1, h2, h3, h4, h5, h6, h7, h8⟩ := fin_ok b
  intro c hc
  simp only [St.l, List.mem_cons, List.not_mem_nil, or_false] at hc
  rcases hc with rfl | rfl | rfl | rfl | rfl | rfl | rfl | rfl <;> assumption
theorem sum_len (b : List Nat) : (sum b).length = 32 := by
  simp [sum, St.l, be_len]
theorem sum_lt (b : List Nat) : ∀ c ∈ sum b, c < 256 := by
  intro c h
  obtain ⟨x, _, hx⟩ := List.mem_flatMap.1 h
  exact be_lt 4 x c hx
end Go.Proofs.Ytaaepadhapfkoaa.Sha
