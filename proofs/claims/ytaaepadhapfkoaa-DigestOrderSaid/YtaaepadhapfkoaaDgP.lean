/-
  Digest: the order of ids: plain laws.
-/
import Derived.Test.YtaaepadhapfkoaaDgX
namespace Go.Proofs.Ytaaepadhapfkoaa
set_option linter.unusedSimpArgs false
set_option linter.unusedVariables false

theorem cmpL_cons (x y : Nat) (a b : List Nat) : cmpL (x :: a) (y :: b) = if x < y then -1 else if y < x then 1 else cmpL a b := rfl
theorem cmpL_refl : ∀ a, cmpL a a = 0
  | [] => rfl
  | x :: a => by rw [cmpL_cons, if_neg (Nat.lt_irrefl x), if_neg (Nat.lt_irrefl x), cmpL_refl a]
theorem cmpL_zero : ∀ a b, cmpL a b = 0 → a = b
  | [], [], _ => rfl
  | [], _ :: _, h => by cases h
  | _ :: _, [], h => by cases h
  | x :: a, y :: b, h => by
    rw [cmpL_cons] at h
    by_cases h1 : x < y
    · rw [if_pos h1] at h; cases h
    · by_cases h2 : y < x
      · rw [if_neg h1, if_pos h2] at h; cases h
      · rw [if_neg h1, if_neg h2] at h
        rw [show x = y by omega, cmpL_zero a b h]
theorem cmpL_swap : ∀ a b, cmpL b a = - cmpL a b
  | [], [] => rfl
  | [], _ :: _ => rfl
  | _ :: _, [] => rfl
  | x :: a, y :: b => by
    rw [cmpL_cons, cmpL_cons]
    by_cases h1 : x < y
    · rw [if_pos h1, if_neg (by omega), if_pos h1]; rfl
    · by_cases h2 : y < x
      · rw [if_pos h2, if_neg h1, if_pos h2]
      · rw [if_neg h1, if_neg h2, if_neg h2, if_neg h1, cmpL_swap a b]
theorem cmpL_trans : ∀ a b c, cmpL a b < 0 → cmpL b c < 0 → cmpL a c < 0
  | [], _, [], h1, h2 => by
    rename_i b
    have := cmpL_swap b []
    cases b with
    | nil => exact h1
    | cons y b => exact absurd h2 (by show ¬ ((1 : Int) < 0); omega)
  | [], _, _ :: _, _, _ => by show (-1 : Int) < 0; omega
  | x :: a, [], c, h1, _ => absurd h1 (by show ¬ ((1 : Int) < 0); omega)
  | x :: a, y :: b, [], _, h2 => absurd h2 (by show ¬ ((1 : Int) < 0); omega)
  | x :: a, y :: b, z :: c, h1, h2 => by
    rw [cmpL_cons] at h1 h2 ⊢
    by_cases e1 : x < y
    · by_cases e2 : y < z
      · rw [if_pos (by omega)]; omega
      · by_cases e3 : z < y
        · rw [if_neg e2, if_pos e3] at h2; omega
        · rw [if_pos (by omega)]; omega
    · by_cases e2 : y < x
      · rw [if_neg e1, if_pos e2] at h1; omega
      · rw [if_neg e1, if_neg e2] at h1
        by_cases e3 : y < z
        · rw [if_pos (by omega)]; omega
        · by_cases e4 : z < y
          · rw [if_neg e3, if_pos e4] at h2; omega
          · rw [if_neg e3, if_neg e4] at h2
            rw [if_neg (by omega), if_neg (by omega)]
            exact cmpL_trans a b c h1 h2
theorem fold_lt : ∀ (a b : List Nat) (n m : Nat), a.length = b.length → (∀ c ∈ a, c < 256) → n < m → a.foldl (fun n c => n * 256 + c) n < b.foldl (fun n c => n * 256 + c) m
  | [], [], n, m, _, _, h => h
  | x :: a, y :: b, n, m, hl, hb, h => by
    rw [List.foldl_cons, List.foldl_cons]
    have hx := hb x (List.mem_cons_self ..)
    exact fold_lt a b _ _ (by simpa using hl) (fun c hc => hb c (List.mem_cons_of_mem _ hc)) (by omega)
theorem fold_le : ∀ (a b : List Nat) (n : Nat), a.length = b.length → (∀ c ∈ a, c < 256) → cmpL a b ≤ 0 → a.foldl (fun n c => n * 256 + c) n ≤ b.foldl (fun n c => n * 256 + c) n
  | [], [], n, _, _, _ => Nat.le_refl _
  | x :: a, y :: b, n, hl, hb, h => by
    rw [List.foldl_cons, List.foldl_cons]
    rw [cmpL_cons] at h
    by_cases h1 : x < y
    · exact Nat.le_of_lt (fold_lt a b _ _ (by simpa using hl) (fun c hc => hb c (List.mem_cons_of_mem _ hc)) (by omega))
    · by_cases h2 : y < x
      · rw [if_neg h1, if_pos h2] at h; omega
      · rw [if_neg h1, if_neg h2] at h
        rw [show x = y by omega]
        exact fold_le a b _ (by simpa using hl) (fun c hc => hb c (List.mem_cons_of_mem _ hc)) h
theorem cmpL_take : ∀ (k : Nat) (a b : List Nat), a.length = b.length → cmpL a b ≤ 0 → cmpL (a.take k) (b.take k) ≤ 0
  | 0, a, b, _, _ => by simp [cmpL]
  | k + 1, [], [], _, _ => by simp [cmpL]
  | k + 1, x :: a, y :: b, hl, h => by
    rw [List.take_succ_cons, List.take_succ_cons, cmpL_cons]
    rw [cmpL_cons] at h
    by_cases h1 : x < y
    · rw [if_pos h1]; omega
    · by_cases h2 : y < x
      · rw [if_neg h1, if_pos h2] at h; omega
      · rw [if_neg h1, if_neg h2] at h ⊢
        exact cmpL_take k a b (by simpa using hl) h
/-- who is less weighs no more -/
theorem weigh_le {a b : List Nat} (hl : a.length = b.length) (ha : ∀ c ∈ a, c < 256) (h : cmpL a b < 0) : num (a.take 8) ≤ num (b.take 8) :=
  fold_le _ _ 0 (by rw [List.length_take, List.length_take, hl]) (fun c hc => ha c (List.mem_of_mem_take hc)) (cmpL_take 8 a b hl (by omega))
theorem hex_lt : ∀ i j : Fin 16, decide (hexD i.val < hexD j.val) = decide (i.val < j.val) := by decide
theorem hex_eq : ∀ i j : Fin 16, (hexD i.val == hexD j.val) = decide (i.val = j.val) := by decide
/-- who is less has the lesser text -/
theorem text_less : ∀ (a b : List Nat), a.length = b.length → (∀ c ∈ a, c < 256) → (∀ c ∈ b, c < 256) → Op.bytesLess (hexB a) (hexB b) = decide (cmpL a b < 0)
  | [], [], _, _, _ => rfl
  | x :: a, y :: b, hl, ha, hb => by
    have hx := ha x (List.mem_cons_self ..)
    have hy := hb y (List.mem_cons_self ..)
    have ih := text_less a b (by simpa using hl) (fun c hc => ha c (List.mem_cons_of_mem _ hc)) (fun c hc => hb c (List.mem_cons_of_mem _ hc))
    have e1 := hex_lt ⟨x / 16, by omega⟩ ⟨y / 16, by omega⟩
    have e2 := hex_eq ⟨x / 16, by omega⟩ ⟨y / 16, by omega⟩
    have e3 := hex_lt ⟨x % 16, by omega⟩ ⟨y % 16, by omega⟩
    have e4 := hex_eq ⟨x % 16, by omega⟩ ⟨y % 16, by omega⟩
    dsimp only at e1 e2 e3 e4
    have hs : Op.bytesLess (hexB (x :: a)) (hexB (y :: b)) = (decide (hexD (x / 16) < hexD (y / 16)) || ((hexD (x / 16) == hexD (y / 16)) && (decide (hexD (x % 16) < hexD (y % 16)) || ((hexD (x % 16) == hexD (y % 16)) && Op.bytesLess (hexB a) (hexB b))))) := rfl
    rw [hs, e1, e2, e3, e4, ih, cmpL_cons]
    by_cases h1 : x < y
    · rw [if_pos h1]
      by_cases h2 : x / 16 < y / 16
      · simp [h2]
      · have h3 : x / 16 = y / 16 := by omega
        have h4 : x % 16 < y % 16 := by omega
        simp [h3, h4]
    · by_cases h2 : y < x
      · rw [if_neg h1, if_pos h2]
        have h3 : ¬ x / 16 < y / 16 := by omega
        by_cases h4 : x / 16 = y / 16
        · have h5 : ¬ x % 16 < y % 16 := by omega
          have h6 : ¬ x % 16 = y % 16 := by omega
          simp [h4, h5, h6]
        · simp [h3, h4]
      · rw [if_neg h1, if_neg h2]
        have h3 : x = y := by omega
        subst h3
        simp
end Go.Proofs.Ytaaepadhapfkoaa
