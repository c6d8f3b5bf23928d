/-
  Digest: the document's digit, weight and order of ids.
-/
import Derived.Test.YtaaepadhapfkoaaDgO
namespace Go.Proofs.Ytaaepadhapfkoaa
set_option linter.unusedSimpArgs false
set_option linter.unusedVariables false
open Go.RowKit

/-- a digit's number, below 0 where it is none -/
def dgt (c : Nat) : Int := if 48 ≤ c ∧ c ≤ 57 then (c : Int) - 48 else if 97 ≤ c ∧ c ≤ 102 then (c : Int) - 87 else -1
theorem cmpL_consD (x y : Nat) (a b : List Nat) : cmpL (x :: a) (y :: b) = if x < y then -1 else if y < x then 1 else cmpL a b := rfl
theorem reti64 {a b : Int} (h : a = b) : Ending.returned (.int .i64 a) = Ending.returned (.int .i64 b) := by rw [h]
theorem digit_any (c : Nat) (w : World) (hc : c < 256) : Calls Try.prog 56 #[.int .u8 c] w fun e w' => e = .returned (.int .i64 (dgt c)) ∧ w = w' := by
  go_enter Try.func56, Try.ntmps56
  unfold dgt
  have hc' : (c : Int) < 256 := by omega
  by_cases h1 : 48 ≤ c
  · have h1' : (48 : Int) ≤ (c : Int) := by omega
    by_cases h2 : c ≤ 57
    · have h2' : (c : Int) ≤ 57 := by omega
      rw [if_pos ⟨h1, h2⟩]
      clear hc h1 h2
      go_wp2
      go_ret
      exact ⟨reti64 (by first | rfl | go_num), rfl⟩
    · have h2' : ¬ (c : Int) ≤ 57 := by omega
      rw [if_neg (fun h => h2 h.2)]
      by_cases h3 : 97 ≤ c
      · have h3' : (97 : Int) ≤ (c : Int) := by omega
        by_cases h4 : c ≤ 102
        · have h4' : (c : Int) ≤ 102 := by omega
          rw [if_pos ⟨h3, h4⟩]
          clear hc h1 h2 h3 h4
          go_wp2
          go_ret
          exact ⟨reti64 (by first | rfl | go_num), rfl⟩
        · have h4' : ¬ (c : Int) ≤ 102 := by omega
          rw [if_neg (fun h => h4 h.2)]
          clear hc h1 h2 h3 h4
          go_wp2
          go_ret
          exact ⟨rfl, rfl⟩
      · have h3' : ¬ (97 : Int) ≤ (c : Int) := by omega
        rw [if_neg (fun h => h3 h.1)]
        clear hc h1 h2 h3
        go_wp2
        go_ret
        exact ⟨rfl, rfl⟩
  · have h1' : ¬ (48 : Int) ≤ (c : Int) := by omega
    have h3' : ¬ (97 : Int) ≤ (c : Int) := by omega
    rw [if_neg (fun h => h1 h.1), if_neg (fun h => by omega)]
    clear hc h1
    go_wp2
    go_ret
    exact ⟨rfl, rfl⟩
set_option maxHeartbeats 800000 in
theorem weighR_any (l : List Nat) (w : World) (hl : l.length = 32) (hb : ∀ c ∈ l, c < 256) :
    Calls Try.prog 21 #[.agg (cellsOf l).toArray] w fun e w' => e = .returned (.int .u64 (num (l.take 8))) ∧ Below w.heap.size w w' := by
  have hr := reads_heap hb (heap_alloc_new w (.cells (cellsOf l).toArray 23))
  have HB : Hf (∀ c ∈ l, c < 256) := ⟨hb⟩
  have HL := Hf.mk hl
  have hbl : Below w.heap.size w (w.alloc (.cells (cellsOf l).toArray 23)) := (Below.refl _ _).alloc (Nat.le_refl _) _
  have HR := Hf.mk hr
  have HBL := Hf.mk hbl
  clear hr hbl hl hb
  generalize (cellsOf l).toArray = zs at *
  go_enter Try.func21, Try.ntmps21
  go_wp2
  generalize w.alloc (.cells zs 23) = W at HR HBL ⊢
  go_loop [3, 4] (fun v i => ∃ k : Nat, k ≤ 8 ∧ i = .int .i64 k ∧ v = .int .u64 (num (l.take k))) (fun _ i => 8 - (intOf i).toNat)
  case atStart => exact ⟨0, by omega, rfl, rfl⟩
  case round =>
    obtain ⟨k, hk, rfl, rfl⟩ := hrel
    by_cases hgo : k < 8
    · have hgo2 : (k : Int) < 8 := by omega
      have hkl : k < l.length := by rw [HL.out]; omega
      obtain ⟨_, _, q, hbb, hc⟩ := HR.out.form (by omega)
      cases q
      have q0 := hc k hkl
      rw [Nat.zero_add] at q0
      have hb1 := num_lt k (l.take k) (by rw [List.length_take]; omega) (fun c h => HB.out c (List.mem_of_mem_take h))
      have hc2 := Sha.get_lt (by omega) HB.out k
      have hs : num (l.take (k + 1)) = num (l.take k) * 256 + l.getD k 0 := by rw [take_snoc hkl, num_snoc]
      have hp : 256 ^ k ≤ 256 ^ 7 := Nat.pow_le_pow_right (by omega) (by omega)
      have hp7 : (256 : Nat) ^ 7 = 72057594037927936 := by decide
      obtain ⟨n, hn⟩ : ∃ n, num (l.take k) = n := ⟨_, rfl⟩
      obtain ⟨c, hcc⟩ : ∃ c, l.getD k 0 = c := ⟨_, rfl⟩
      rw [hn] at hb1 hs ⊢
      rw [hcc] at hc2 hs q0
      have hn2 : n < 72057594037927936 := by omega
      have hn3 : (n : Int) < 72057594037927936 := by omega
      have Hs := Lib.hid hs
      clear hn hcc hs hc hp hp7 hb1 hkl
      go_wp2
      go_round
      case rel => exact ⟨k + 1, by omega, by go_num, by rw [Hs.out]; exact vint (by go_num)⟩
      case measure => simp [intOf]; omega
    · obtain rfl : k = 8 := by omega
      go_wp2
      go_ret
      exact ⟨rfl, HBL.out⟩
set_option maxHeartbeats 1000000 in
theorem lessR_any (a b : List Nat) (w : World) (ha : a.length = 32) (hb : b.length = 32) (ha1 : ∀ c ∈ a, c < 256) (hb1 : ∀ c ∈ b, c < 256) :
    Calls Try.prog 20 #[.agg (cellsOf a).toArray, .agg (cellsOf b).toArray] w fun e w' => e = .returned (.bool (decide (cmpL a b < 0))) ∧ Below w.heap.size w w' := by
  have h1 : ((w.alloc (.cells (cellsOf a).toArray 23)).alloc (.cells (cellsOf b).toArray 23)).heap[w.heap.size]? = some (.cells (cellsOf a).toArray 23) := (Below.heap_alloc _ _ _ (by simp)).trans (heap_alloc_new _ _)
  have h2 := heap_alloc_new (w.alloc (.cells (cellsOf a).toArray 23)) (.cells (cellsOf b).toArray 23)
  rw [World.size_alloc] at h2
  have HA := Hf.mk (reads_heap ha1 h1)
  have HB := Hf.mk (reads_heap hb1 h2)
  have HLA := Hf.mk ha
  have HLB := Hf.mk hb
  have HBL : Hf (Below w.heap.size w ((w.alloc (.cells (cellsOf a).toArray 23)).alloc (.cells (cellsOf b).toArray 23))) := ⟨((Below.refl _ _).alloc (Nat.le_refl _) _).alloc (by simp) _⟩
  clear h1 h2 ha hb ha1 hb1
  generalize (cellsOf a).toArray = za at *
  generalize (cellsOf b).toArray = zb at *
  go_enter Try.func20, Try.ntmps20
  go_wp2
  generalize (w.alloc (.cells za 23)).alloc (.cells zb 23) = W at HA HB HBL ⊢
  go_loopw [5] (fun i wr => ∃ k : Nat, k ≤ 32 ∧ i = .int .i64 k ∧ Hf (cmpL a b = cmpL (a.drop k) (b.drop k)) ∧ Hf (Below W.heap.size W wr)) (fun i _ => 32 - (intOf i).toNat)
  case atStart => exact ⟨0, by omega, rfl, ⟨rfl⟩, ⟨Below.refl _ _⟩⟩
  case round =>
    obtain ⟨k, hk, rfl, HC, HW⟩ := hrel
    by_cases hgo : k < 32
    · have hgo2 : (k : Int) < 32 := by omega
      have e1 := drop_get (l := a) (k := k) (by rw [HLA.out]; exact hgo)
      have e2 := drop_get (l := b) (k := k) (by rw [HLB.out]; exact hgo)
      obtain ⟨_, _, q, _, ca⟩ := (HA.out.below HW.out).form (by rw [HLA.out]; omega)
      cases q
      obtain ⟨_, _, q, _, cb⟩ := (HB.out.below HW.out).form (by rw [HLB.out]; omega)
      cases q
      have c0 := ca k (by rw [HLA.out]; exact hgo)
      have c1 := cb k (by rw [HLB.out]; exact hgo)
      rw [Nat.zero_add] at c0 c1
      clear ca cb
      obtain ⟨x, hx⟩ : ∃ x, a.getD k 0 = x := ⟨_, rfl⟩
      obtain ⟨y, hy⟩ : ∃ y, b.getD k 0 = y := ⟨_, rfl⟩
      rw [hx] at c0 e1
      rw [hy] at c1 e2
      have hc := HC.out
      rw [e1, e2, cmpL_consD] at hc
      clear hx hy e1 e2 HC
      by_cases h1 : x < y
      · have h1' : (x : Int) < (y : Int) := by omega
        have h2' : ¬ (x : Int) = (y : Int) := by omega
        rw [if_pos h1] at hc
        have HR := Hf.mk (show decide (cmpL a b < 0) = true by rw [hc]; decide)
        clear hc h1
        go_wp2_with go_quiet (fail)
        go_ret
        exact ⟨by rw [HR.out]; rfl, below_step HBL.out (by first | exact HW.out | exact below_drewN HW.out _ | exact below_drewN (below_drewN HW.out _) _)⟩
      · by_cases h2 : y < x
        · have h1' : ¬ (x : Int) < (y : Int) := by omega
          have h2' : ¬ (x : Int) = (y : Int) := by omega
          rw [if_neg h1, if_pos h2] at hc
          have HR := Hf.mk (show decide (cmpL a b < 0) = false by rw [hc]; decide)
          clear hc h1 h2
          go_wp2_with go_quiet (fail)
          go_ret
          exact ⟨by rw [HR.out]; rfl, below_step HBL.out (by first | exact HW.out | exact below_drewN HW.out _ | exact below_drewN (below_drewN HW.out _) _)⟩
        · obtain rfl : x = y := by omega
          rw [if_neg h1, if_neg h2] at hc
          have HR := Hf.mk hc
          clear hc h1 h2
          go_wp2_with go_quiet (fail)
          go_roundw
          case rel => exact ⟨k + 1, by omega, by go_num, HR, ⟨below_drewN HW.out _⟩⟩
          case measure => simp [intOf]; omega
    · obtain rfl : k = 32 := by omega
      have hc := HC.out
      rw [List.drop_eq_nil_of_le (by rw [HLA.out]; omega), List.drop_eq_nil_of_le (by rw [HLB.out]; omega)] at hc
      have HR := Hf.mk (show decide (cmpL a b < 0) = false by rw [hc]; decide)
      clear hc HC
      go_wp2
      go_ret
      exact ⟨by rw [HR.out]; rfl, below_step HBL.out (by first | exact HW.out | exact below_drewN HW.out _ | exact below_drewN (below_drewN HW.out _) _)⟩
end Go.Proofs.Ytaaepadhapfkoaa
