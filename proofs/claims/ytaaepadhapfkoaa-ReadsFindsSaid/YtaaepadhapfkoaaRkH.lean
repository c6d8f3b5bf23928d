/-
  Rank: who is at home; an order that is not told.
-/
import Derived.Test.YtaaepadhapfkoaaRkS
import Derived.Test.YtaaepadhapfkoaaRkC
namespace Go.Proofs.Ytaaepadhapfkoaa
set_option linter.unusedSimpArgs false
set_option linter.unusedVariables false
open Go.RowKit

/-- the order as ints -/
def ordI (id : List Nat) (n : Nat) : List Int := (ordL id n).map fun x : Nat => (x : Int)
theorem ordI_len (id : List Nat) (n : Nat) : (ordI id n).length = n := by unfold ordI; rw [List.length_map, ordL_len]
theorem order_bad (id : List Nat) (n : Int) (w : World) (hn : ¬ (1 ≤ n ∧ n ≤ 64)) :
    Calls Try.prog 24 #[.agg (cellsOf id).toArray, .int .i64 n] w fun e w' => e = .returned (.tuple #[.slice none 0 0, .int .i64 2]) ∧ Below w.heap.size w w' := by
  generalize (cellsOf id).toArray = zs
  have HB : Hf (Below w.heap.size w (w.alloc (.cells zs 23))) := ⟨(Below.refl _ _).alloc (Nat.le_refl _) _⟩
  go_enter Try.func24, Try.ntmps24
  by_cases h1 : n < 1
  · clear hn
    go_wp2
    go_ret2
    exact ⟨rfl, HB.out⟩
  · have h2 : 64 < n := by omega
    clear hn
    go_wp2
    go_ret2
    exact ⟨rfl, HB.out⟩
set_option maxRecDepth 100000 in
theorem home_bad (id : List Nat) (n c x : Int) (w : World) (hl : id.length = 32) (hn : ¬ (1 ≤ n ∧ n ≤ 64 ∧ 1 ≤ c ∧ c ≤ n)) :
    Calls Try.prog 30 #[.agg (cellsOf id).toArray, .int .i64 n, .int .i64 c, .int .i64 x] w fun e w' => e = .returned (.bool false) ∧ Below w.heap.size w w' := by
  generalize (cellsOf id).toArray = zs
  have HB : Hf (Below w.heap.size w (w.alloc (.cells zs 23))) := ⟨(Below.refl _ _).alloc (Nat.le_refl _) _⟩
  have HF := Hf.mk (fun u => fine_any n c u)
  rw [decide_eq_false hn] at HF
  clear hn
  go_enter Try.func30, Try.ntmps30
  go_wp2_with (go_at_call 63; refine (HF.out _).mono ?_; rintro e w' ⟨rfl, rfl⟩)
  go_ret
  exact ⟨rfl, HB.out⟩
set_option maxRecDepth 100000 in
theorem home_fine (id : List Nat) (n c : Nat) (x : Int) (w : World) (hl : id.length = 32) (hb : ∀ c ∈ id, c < 256) (hn : 1 ≤ n) (hn2 : n ≤ 64) (hc : 1 ≤ c) (hc2 : c ≤ n) :
    Calls Try.prog 30 #[.agg (cellsOf id).toArray, .int .i64 n, .int .i64 c, .int .i64 x] w fun e w' => e = .returned (.bool (decide (x ∈ (ordI id n).take c))) ∧ Below w.heap.size w w' := by
  have HF := Hf.mk (fun u => fine_any (n : Int) (c : Int) u)
  rw [decide_eq_true (show (1 : Int) ≤ n ∧ (n : Int) ≤ 64 ∧ (1 : Int) ≤ c ∧ (c : Int) ≤ n from ⟨by omega, by omega, by omega, by omega⟩)] at HF
  have HO := Hf.mk (fun u => ordered_any id n u hl hb hn hn2)
  have HX := Hf.mk (fun (u : World) (base g cap : Nat) (h : u.ownsRow base 3 1 (.slice (some ⟨g, 0, none⟩) n cap) n (intsN (ordL id n))) (c' : Nat) => contains_any (some ⟨g, 0, none⟩) ((ordI id n).take c) c' x u ((rdI_own h).take c) (by rw [List.length_take, ordI_len]; omega))
  have hlen : ((ordI id n).take c).length = c := by rw [List.length_take, ordI_len]; omega
  rw [hlen] at HX
  have hz : (cellsOf id).toArray.size = 32 := by rw [List.size_toArray, cellsOf_length, hl]
  have h1 := heap_alloc_new w (.cells (cellsOf id).toArray 23)
  have HB : Hf (Below w.heap.size w (w.alloc (.cells (cellsOf id).toArray 23))) := ⟨(Below.refl _ _).alloc (Nat.le_refl _) _⟩
  generalize (cellsOf id).toArray = zs at *
  generalize decide (x ∈ (ordI id n).take c) = r at *
  have H1 := Hf.mk h1
  have HZ := Hf.mk hz
  have hc2' : (c : Int) ≤ (n : Int) := by omega
  clear h1 hz hl hb hlen
  have HCP : Hf (∀ (u : World) (base g cap : Nat) (xs : List Value), u.ownsRow base 3 1 (.slice (some ⟨g, 0, none⟩) n cap) n xs → n ≤ cap) := ⟨fun u base g cap xs h => by
    rcases h.2 with ⟨h0, _⟩ | ⟨g', cap', cur, hv, _, _, hh, _⟩
    · cases h0
    · cases hv; exact hh⟩
  go_enter Try.func30, Try.ntmps30
  go_wp2_with (first
    | (go_at_call 63; (with_reducible refine (HF.out _).mono ?_); rintro e w' ⟨rfl, rfl⟩)
    | (with_reducible refine wpList_load_row rfl 23 _ rfl w.heap.size rfl 23 zs (0, 0) _ H1.out Try.underlying23 rfl (size23.trans (by rw [HZ.out])) ?_)
    | (go_at_call 24; go_loud ((with_reducible refine (HO.out _).mono ?_); rintro e w1 ⟨g, cap, rfl, hown, hb1⟩; have HB1 := Hf.mk hb1; have HX1 := Hf.mk (HX.out _ _ _ _ hown cap); have hcap := HCP.out _ _ _ _ _ hown; have hcap2 : (c : Int) ≤ (cap : Int) := (by omega); clear hb1 hown))
    | (go_at_call 66; (with_reducible refine HX1.out.mono ?_); rintro e w' ⟨rfl, rfl⟩))
  go_ret
  exact ⟨rfl, below_step HB.out HB1.out⟩
end Go.Proofs.Ytaaepadhapfkoaa
