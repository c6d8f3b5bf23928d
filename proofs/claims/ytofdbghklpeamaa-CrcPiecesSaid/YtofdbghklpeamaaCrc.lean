/-
  The plain arithmetic of CRC-32: bits, bytes, sums, joins: no Go in sight.
-/
namespace Go.Proofs.Ytofdbghklpeamaa.Crc
/-- one bit on -/
def step (x : Nat) : Nat := if x % 2 = 1 then x / 2 ^^^ 3988292384 else x / 2
/-- n bits on -/
def on : Nat → Nat → Nat
  | x, 0 => x
  | x, n + 1 => on (step x) n

theorem step_lt {x : Nat} (h : x < 4294967296) : step x < 4294967296 := by
  unfold step
  split
  · exact Nat.xor_lt_two_pow (n := 32) (by omega) (by omega)
  · omega
theorem on_lt (n : Nat) : ∀ {x : Nat}, x < 4294967296 → on x n < 4294967296 := by
  induction n with
  | zero => intro x h; exact h
  | succ n ih => intro x h; exact ih (step_lt h)
theorem on_succ' (n : Nat) : ∀ x, on x (n + 1) = step (on x n) := by
  induction n with
  | zero => intro x; rfl
  | succ n ih => intro x; show on (step x) (n + 1) = step (on (step x) n); exact ih _
theorem on_add (m n : Nat) : ∀ x, on x (m + n) = on (on x m) n := by
  induction n with
  | zero => intro x; rfl
  | succ n ih => intro x; rw [← Nat.add_assoc, on_succ', on_succ', ih]
theorem step_xor (x y : Nat) : step (x ^^^ y) = step x ^^^ step y := by
  have h2 : (x ^^^ y) / 2 = x / 2 ^^^ y / 2 := by
    have := Nat.shiftRight_xor_distrib (a := x) (b := y) (i := 1)
    simpa [Nat.shiftRight_eq_div_pow] using this
  have h1 : (x ^^^ y) % 2 = (x % 2) ^^^ (y % 2) := by
    have := Nat.xor_mod_two_pow (a := x) (b := y) (n := 1)
    simpa using this
  unfold step
  rw [h2, h1]
  have hx : x % 2 = 0 ∨ x % 2 = 1 := by omega
  have hy : y % 2 = 0 ∨ y % 2 = 1 := by omega
  rcases hx with hx | hx <;> rcases hy with hy | hy <;> rw [hx, hy]
  · simp
  · simp [Nat.xor_assoc]
  · simp only [Nat.xor_zero, if_true]; rw [if_neg (by omega)]; rw [Nat.xor_assoc, Nat.xor_assoc, Nat.xor_comm (y / 2)]
  · simp only [Nat.xor_self, if_true]
    have e : x / 2 ^^^ 3988292384 ^^^ (y / 2 ^^^ 3988292384) = x / 2 ^^^ y / 2 := by
      rw [Nat.xor_assoc, Nat.xor_comm (y / 2), ← Nat.xor_assoc 3988292384, Nat.xor_self, Nat.zero_xor]
    rw [e]; rfl
theorem on_xor (n : Nat) : ∀ x y, on (x ^^^ y) n = on x n ^^^ on y n := by
  induction n with
  | zero => intro x y; rfl
  | succ n ih => intro x y; show on (step (x ^^^ y)) n = _; rw [step_xor, ih]; rfl
theorem on_zero (n : Nat) : on 0 n = 0 := by
  induction n with
  | zero => rfl
  | succ n ih => exact ih
/-- shifts without a one falling out -/
theorem on_shift (n : Nat) : ∀ h, on (h * 2 ^ n) n = h := by
  induction n with
  | zero => intro h; simp [on]
  | succ n ih =>
    intro h
    have e : step (h * 2 ^ (n + 1)) = h * 2 ^ n := by
      unfold step
      have : h * 2 ^ (n + 1) = (h * 2 ^ n) * 2 := by rw [Nat.pow_succ]; rw [Nat.mul_assoc]
      rw [this, if_neg (by omega)]
      omega
    show on (step (h * 2 ^ (n + 1))) n = h
    rw [e, ih]
theorem split8 (x : Nat) : x = (x / 256 * 2 ^ 8) ^^^ (x % 256) := by
  apply Nat.eq_of_testBit_eq
  intro i
  have h1 : (x / 256 * 2 ^ 8).testBit i = (decide (i ≥ 8) && x.testBit i) := by
    rw [Nat.testBit_mul_two_pow]
    by_cases hi : 8 ≤ i
    · have e : x / 256 = x >>> 8 := by rw [Nat.shiftRight_eq_div_pow]
      rw [e, Nat.testBit_shiftRight]
      simp [hi]
    · simp [hi]
  have h2 : (x % 256).testBit i = (decide (i < 8) && x.testBit i) := by
    have := Nat.testBit_mod_two_pow x 8 i
    simpa using this
  rw [Nat.testBit_xor, h1, h2]
  by_cases hi : i < 8
  · have : ¬ 8 ≤ i := by omega
    simp [hi, this]
  · have : 8 ≤ i := by omega
    simp [hi, this]
/-- the table's step: eight bits on, by the low byte -/
theorem on_byte (x c : Nat) : on (x ^^^ c) 8 = x / 256 ^^^ on ((x % 256) ^^^ c) 8 := by
  conv => lhs; rw [split8 x]
  rw [Nat.xor_assoc, on_xor, on_shift]
/-- bytes taken into a state -/
def more (x : Nat) (b : List Nat) : Nat := b.foldl (fun x c => on (x ^^^ c) 8) x
theorem more_nil (x : Nat) : more x [] = x := rfl
theorem more_cons (x c : Nat) (b : List Nat) : more x (c :: b) = more (on (x ^^^ c) 8) b := rfl
theorem more_append (x : Nat) (a b : List Nat) : more x (a ++ b) = more (more x a) b := List.foldl_append
theorem more_snoc (x : Nat) (a : List Nat) (c : Nat) : more x (a ++ [c]) = on (more x a ^^^ c) 8 := by rw [more_append]; rfl
theorem xor_lt {x y : Nat} (hx : x < 4294967296) (hy : y < 4294967296) : x ^^^ y < 4294967296 := Nat.xor_lt_two_pow (n := 32) hx hy
theorem more_lt (b : List Nat) : ∀ {x : Nat}, x < 4294967296 → (∀ c ∈ b, c < 256) → more x b < 4294967296 := by
  induction b with
  | nil => intro x h _; exact h
  | cons c b ih =>
    intro x h hb
    exact ih (on_lt 8 (xor_lt h (by have := hb c (by simp); omega))) (fun d hd => hb d (by simp [hd]))
/-- a state goes on by itself -/
theorem more_state (b : List Nat) : ∀ x, more x b = on x (8 * b.length) ^^^ more 0 b := by
  induction b with
  | nil => intro x; simp [more_nil, on]
  | cons c b ih =>
    intro x
    rw [more_cons, more_cons, ih, ih (on (0 ^^^ c) 8), on_xor, on_xor, Nat.zero_xor, List.length_cons]
    have e : 8 * (b.length + 1) = 8 + 8 * b.length := by omega
    rw [e, on_add, Nat.xor_assoc]
theorem more_xor (b : List Nat) (x y : Nat) : more (x ^^^ y) b = on y (8 * b.length) ^^^ more x b := by
  rw [more_state b (x ^^^ y), more_state b x, on_xor, Nat.xor_comm (on x _), Nat.xor_assoc]
/-- the sum of bytes behind a sum -/
def crc (s : Nat) (b : List Nat) : Nat := 4294967295 ^^^ more (4294967295 ^^^ s) b
theorem crc_lt {s : Nat} {b : List Nat} (hs : s < 4294967296) (hb : ∀ c ∈ b, c < 256) : crc s b < 4294967296 :=
  xor_lt (by omega) (more_lt b (xor_lt (by omega) hs) hb)
theorem inv_inv (x : Nat) : 4294967295 ^^^ (4294967295 ^^^ x) = x := by rw [← Nat.xor_assoc, Nat.xor_self, Nat.zero_xor]
theorem crc_append (s : Nat) (a b : List Nat) : crc s (a ++ b) = crc (crc s a) b := by
  unfold crc
  rw [inv_inv, more_append]
/-- two sums joined, the second one of n bytes -/
def join (a b n : Nat) : Nat := on a (8 * n) ^^^ b
theorem join_lt {a b n : Nat} (ha : a < 4294967296) (hb : b < 4294967296) : join a b n < 4294967296 := xor_lt (on_lt _ ha) hb
theorem join_crc (a b : List Nat) : join (crc 0 a) (crc 0 b) b.length = crc 0 (a ++ b) := by
  unfold join crc
  rw [Nat.xor_zero, more_append, more_state b (more 4294967295 a), more_state b 4294967295, on_xor]
  generalize on 4294967295 (8 * b.length) = p
  generalize on (more 4294967295 a) (8 * b.length) = q
  generalize more 0 b = r
  rw [Nat.xor_comm p q, Nat.xor_assoc, Nat.xor_comm 4294967295 (p ^^^ r), ← Nat.xor_assoc p (p ^^^ r), ← Nat.xor_assoc p p, Nat.xor_self, Nat.zero_xor, ← Nat.xor_assoc, Nat.xor_comm]
theorem join_join (a b c m n : Nat) : join (join a b m) c n = join a (join b c n) (m + n) := by
  unfold join
  rw [on_xor, ← on_add, Nat.mul_add, Nat.xor_assoc]
/-- one step can be taken back -/
theorem step_inj {x y : Nat} (hx : x < 4294967296) (hy : y < 4294967296) (h : step x = step y) : x = y := by
  have top : ∀ {z : Nat}, z < 2147483648 → (z ^^^ 3988292384) / 2147483648 = 1 := by
    intro z hz
    have : (z ^^^ 3988292384) >>> 31 = z >>> 31 ^^^ 3988292384 >>> 31 := Nat.shiftRight_xor_distrib
    rw [Nat.shiftRight_eq_div_pow, Nat.shiftRight_eq_div_pow, Nat.shiftRight_eq_div_pow] at this
    have e : z / 2 ^ 31 = 0 := by omega
    rw [e] at this
    simpa using this
  unfold step at h
  by_cases h1 : x % 2 = 1
  · by_cases h2 : y % 2 = 1
    · rw [if_pos h1, if_pos h2] at h
      have h3 : x / 2 = y / 2 := by
        have := congrArg (fun z => z ^^^ 3988292384) h
        simpa [Nat.xor_assoc] using this
      omega
    · rw [if_pos h1, if_neg h2] at h
      have := top (z := x / 2) (by omega)
      rw [h] at this
      omega
  · by_cases h2 : y % 2 = 1
    · rw [if_neg h1, if_pos h2] at h
      have := top (z := y / 2) (by omega)
      rw [← h] at this
      omega
    · rw [if_neg h1, if_neg h2] at h
      omega
theorem on_inj (n : Nat) : ∀ {x y : Nat}, x < 4294967296 → y < 4294967296 → on x n = on y n → x = y := by
  induction n with
  | zero => intro x y _ _ h; exact h
  | succ n ih => intro x y hx hy h; exact step_inj hx hy (ih (step_lt hx) (step_lt hy) h)
theorem xor_cancel {x y z : Nat} (h : x ^^^ z = y ^^^ z) : x = y := by
  have := congrArg (fun w => w ^^^ z) h
  simpa [Nat.xor_assoc] using this
theorem more_inj (b : List Nat) {x y : Nat} (hx : x < 4294967296) (hy : y < 4294967296) (h : more x b = more y b) : x = y := by
  rw [more_state b x, more_state b y] at h
  exact on_inj _ hx hy (xor_cancel h)
/-- bytes as one number, the lowest first -/
def word : List Nat → Nat
  | [] => 0
  | c :: b => c + 256 * word b
theorem word_lt : ∀ (b : List Nat), (∀ c ∈ b, c < 256) → word b < 256 ^ b.length
  | [], _ => by simp [word]
  | c :: b, h => by
    have h1 := word_lt b (fun d hd => h d (by simp [hd]))
    have h2 := h c (by simp)
    rw [word, List.length_cons, Nat.pow_succ]
    omega
theorem word_inj : ∀ (a b : List Nat), a.length = b.length → (∀ c ∈ a, c < 256) → (∀ c ∈ b, c < 256) → word a = word b → a = b
  | [], [], _, _, _, _ => rfl
  | [], _ :: _, h, _, _, _ => by simp at h
  | _ :: _, [], h, _, _, _ => by simp at h
  | c :: a, d :: b, h, ha, hb, e => by
    have h1 := ha c (by simp)
    have h2 := hb d (by simp)
    simp only [word] at e
    have : c = d := by omega
    have e2 : word a = word b := by omega
    rw [this, word_inj a b (by simpa using h) (fun x hx => ha x (by simp [hx])) (fun x hx => hb x (by simp [hx])) e2]
theorem add_xor_shift (c t k : Nat) (hc : c < 2 ^ k) : c + t * 2 ^ k = c ^^^ t * 2 ^ k := by
  have h := Nat.two_pow_add_eq_or_of_lt (i := k) (b := c) hc t
  have e : t * 2 ^ k + c = t * 2 ^ k ||| c := by rw [Nat.mul_comm]; exact h
  rw [Nat.add_comm, e]
  apply Nat.eq_of_testBit_eq
  intro i
  rw [Nat.testBit_or, Nat.testBit_xor, Nat.testBit_mul_two_pow]
  by_cases hi : k ≤ i
  · have : c.testBit i = false := Nat.testBit_lt_two_pow (Nat.lt_of_lt_of_le hc (Nat.pow_le_pow_right (by omega) hi))
    simp [this]
  · simp [hi]
/-- bytes are taken in as one word -/
theorem more_word : ∀ (b : List Nat) (x : Nat), (∀ c ∈ b, c < 256) → more x b = on (x ^^^ word b) (8 * b.length)
  | [], x, _ => by simp [more_nil, word, on]
  | c :: b, x, h => by
    have h1 := h c (by simp)
    rw [more_cons, more_word b _ (fun d hd => h d (by simp [hd])), List.length_cons]
    have e : 8 * (b.length + 1) = 8 + 8 * b.length := by omega
    rw [e, on_add]
    congr 1
    have e2 : word (c :: b) = c ^^^ word b * 2 ^ 8 := by
      rw [word, ← add_xor_shift c (word b) 8 (by omega)]; omega
    rw [e2, ← Nat.xor_assoc, on_xor 8 (x ^^^ c), on_shift]
/-- what is changed in four bytes in a row is seen -/
theorem changed (s : Nat) (p q q' r : List Nat) (hs : s < 4294967296) (hl : q.length = q'.length) (h4 : q.length ≤ 4)
    (hp : ∀ c ∈ p, c < 256) (hq : ∀ c ∈ q, c < 256) (hq' : ∀ c ∈ q', c < 256) :
    more s (p ++ (q ++ r)) = more s (p ++ (q' ++ r)) ↔ q = q' := by
  constructor
  · intro h
    rw [more_append, more_append s p, more_append, more_append _ q'] at h
    have hs' := more_lt p hs hp
    have h1 := more_inj r (more_lt q hs' hq) (more_lt q' hs' hq') h
    rw [more_word q _ hq, more_word q' _ hq', ← hl] at h1
    have b256 : (256 : Nat) ^ q.length ≤ 256 ^ 4 := Nat.pow_le_pow_right (by omega) h4
    have hw := word_lt q hq
    have hw' := word_lt q' hq'
    rw [← hl] at hw'
    have h2 := on_inj _ (xor_lt hs' (by omega)) (xor_lt hs' (by omega)) h1
    rw [Nat.xor_comm _ (word q), Nat.xor_comm _ (word q')] at h2
    exact word_inj q q' hl hq hq' (xor_cancel h2)
  · intro h; rw [h]
/-- a matrix' columns taken together: the first k -/
def timesTo (m : Nat → Nat) (x : Nat) : Nat → Nat
  | 0 => 0
  | k + 1 => if x / 2 ^ k % 2 = 1 then timesTo m x k ^^^ m k else timesTo m x k
theorem timesTo_on (m : Nat → Nat) (n x k : Nat) (hm : ∀ i, i < k → m i = on (2 ^ i) n) : timesTo m x k = on (x % 2 ^ k) n := by
  induction k with
  | zero => simp [timesTo, Nat.mod_one, on_zero]
  | succ k ih =>
    have h1 := ih (fun i hi => hm i (by omega))
    unfold timesTo
    rw [h1, hm k (by omega), ← on_xor]
    have hmod : x % 2 ^ (k + 1) = x % 2 ^ k + (x / 2 ^ k % 2) * 2 ^ k := by
      rw [Nat.pow_succ, Nat.mod_mul, Nat.mul_comm (2 ^ k)]
    by_cases hb : x / 2 ^ k % 2 = 1
    · rw [if_pos hb, hmod, hb, add_xor_shift _ 1 k (Nat.mod_lt _ (Nat.two_pow_pos k)), Nat.one_mul]
    · have : x / 2 ^ k % 2 = 0 := by omega
      rw [if_neg hb, hmod, this, Nat.zero_mul, Nat.add_zero]
theorem times_on (m : Nat → Nat) (n x : Nat) (hx : x < 4294967296) (hm : ∀ i, i < 32 → m i = on (2 ^ i) n) : timesTo m x 32 = on x n := by
  rw [timesTo_on m n x 32 hm, Nat.mod_eq_of_lt (by omega)]
theorem timesTo_lt (m : Nat → Nat) (x k : Nat) (hm : ∀ i, i < k → m i < 4294967296) : timesTo m x k < 4294967296 := by
  induction k with
  | zero => simp [timesTo]
  | succ k ih =>
    unfold timesTo
    split
    · exact xor_lt (ih (fun i hi => hm i (by omega))) (hm k (by omega))
    · exact ih (fun i hi => hm i (by omega))
/-- a squaring's round -/
theorem on_half (a k n : Nat) (h : n % 2 = 1) : on (on a k) (2 * k * (n / 2)) = on a (k * n) := by
  rw [← on_add]
  congr 1
  have h2 : n = 2 * (n / 2) + 1 := by omega
  generalize n / 2 = q at *
  subst h2
  rw [Nat.mul_add, Nat.mul_one, Nat.mul_comm 2 k, Nat.mul_assoc, Nat.add_comm]
theorem on_even (a k n : Nat) (h : n % 2 = 0) : on a (2 * k * (n / 2)) = on a (k * n) := by
  congr 1
  have h2 : n = 2 * (n / 2) := by omega
  generalize n / 2 = q at *
  subst h2
  rw [Nat.mul_comm 2 k, Nat.mul_assoc]
theorem known_a : crc 0 [97] = 3904355907 := by decide +kernel
theorem known_0 : crc 0 [0] = 3523407757 := by decide +kernel
theorem known_nil : crc 0 [] = 0 := by decide +kernel
theorem known_9 : crc 0 [49, 50, 51, 52, 53, 54, 55, 56, 57] = 3421780262 := by decide +kernel
end Go.Proofs.Ytofdbghklpeamaa.Crc
