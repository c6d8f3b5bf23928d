/-
  Rank: the live nodes behind the homes, collected.
-/
import Derived.Test.YtaaepadhapfkoaaRkI
import Derived.Test.YtaaepadhapfkoaaRkO
import Derived.Maps.AppendAt
namespace Go.Proofs.Ytaaepadhapfkoaa
set_option linter.unusedSimpArgs false
set_option linter.unusedVariables false
open Go.RowKit
attribute [local go_sem] Oper.semAt_some

def intsZ (l : List Int) : List Value := l.map (Value.int .i64)
theorem intsZ_len (l : List Int) : (intsZ l).length = l.length := by simp [intsZ]
theorem standing_at (n : Nat) (hn : 2 ≤ n) (b1 b2 c1 c2 : Nat) (A1 A2 : Option Addr) (l1 l2 : List Int) (w w0 : World) (hw0 : Below w.heap.size w w0) (h1 : b1 < w.heap.size) (h2 : b2 < w.heap.size) (r1 : RdI w A1 l1) (r2 : RdI w A2 l2) (hl1 : l1.length ≤ 9223372036854775807) (hl2 : l2.length ≤ 9223372036854775807)
    (hc1 : w.cell? ⟨b1, 0, none⟩ = some (.slice A1 l1.length c1)) (hc2 : w.cell? ⟨b2, 0, none⟩ = some (.slice A2 l2.length c2)) :
    SeqStopsK Fence.wide n Try.prog 101 #[.pointer (some ⟨b1, 0, none⟩), .pointer (some ⟨b2, 0, none⟩)] (fun x : Int => #[.int .i64 x]) (Below w.heap.size) (fun ys => ys = liveOf l1 l2) (fun _ => True) l1.length w0 := fun l J Jx W hW _ _ hY h0 =>
  standing_in n hn l b1 b2 c1 c2 A1 A2 l1 l2 w h1 h2 r1 r2 hl1 hl2 hc1 hc2 J Jx hY W (hw0.trans (hW.mono hw0.size)) h0
set_option maxRecDepth 100000 in
set_option maxHeartbeats 2000000 in
theorem appendSeq_any (b1 b2 c1 c2 : Nat) (A1 A2 : Option Addr) (l1 l2 : List Int) (w : World) (h1 : b1 < w.heap.size) (h2 : b2 < w.heap.size) (r1 : RdI w A1 l1) (r2 : RdI w A2 l2) (hl1 : l1.length ≤ 1000) (hl2 : l2.length ≤ 9223372036854775807)
    (hc1 : w.cell? ⟨b1, 0, none⟩ = some (.slice A1 l1.length c1)) (hc2 : w.cell? ⟨b2, 0, none⟩ = some (.slice A2 l2.length c2)) :
    Calls Try.prog 100 #[.slice none 0 0, .func (.func 101) #[] #[.pointer (some ⟨b1, 0, none⟩), .pointer (some ⟨b2, 0, none⟩)]] w fun e w' => ∃ v, e = .returned v ∧ w'.ownsRow w.heap.size 3 1 v (liveOf l1 l2).length (intsZ (liveOf l1 l2)) ∧ Below w.heap.size w w' := by
  have HST := Hf.mk (fun w0 hw0 => standing_at 4 (by decide) b1 b2 c1 c2 A1 A2 l1 l2 w w0 hw0 h1 h2 r1 r2 (by omega) hl2 hc1 hc2)
  clear h1 h2 r1 r2 hl2 hc1 hc2
  obtain ⟨i0, hi, hz0, hz1, hz2⟩ := info_parts info3
  refine (callsIn_wide (n := 5)).1 (callsIn_of_wp_marks Try.func100 rfl trivial ?_ rfl)
  simp only [Try.ntmps100, List.size_toArray, List.length_cons, List.length_nil, Nat.reduceAdd, Nat.reduceSub, Array.replicate_succ, Array.replicate_zero, List.push_toArray, List.append_toArray, List.nil_append, List.cons_append]
  gi_wp2
  have hbx := Boxed.new w 34 (.slice none 0 0)
  have hbl : Below w.heap.size w (w.alloc (.cells #[.slice none 0 0] 34)) := (Below.refl _ _).alloc (Nat.le_refl _) _
  have hsz : (w.alloc (.cells #[.slice none 0 0] 34)).heap.size = w.heap.size + 1 := by simp
  generalize w.alloc (.cells #[.slice none 0 0] 34) = w0 at hbx hbl hsz ⊢
  refine wpIn_rangeFunc_ownF (F := Fence.wide) (n := 5) rfl (by decide) (gf := 101) (lb := #[.pointer (some ⟨b1, 0, none⟩), .pointer (some ⟨b2, 0, none⟩)]) rfl trivial (enters_of Try.func101 (by kernel_rfl) rfl)
    (HST.out w0 hbl) belowK_t (belowK_b (by omega)) (Below.refl _ _) (fun _ => rfl)
    (fun pre W => (∃ v, Boxed W w.heap.size 34 v ∧ W.ownsRow w.heap.size 3 1 v pre.length (intsZ pre) ∧ True) ∧ Below w.heap.size w W)
    (fun _ _ _ => False)
    (OwnFrom.and (Own.from (holdsRow_own w.heap.size w.heap.size 34 3 1 (fun pre : List Int => pre.length) (fun pre => intsZ pre) (fun _ _ => True)) _) (ownFrom_below (Nat.le_refl _) (by omega)))
    (fun _ _ _ _ _ hs _ _ => hs)
    ⟨⟨_, hbx, World.ownsRow_nil _ _ _ _, trivial⟩, hbl⟩
    (fun x => { tmps := #[.slice none 0 0, .func (.func 101) #[] #[.pointer (some ⟨b1, 0, none⟩), .pointer (some ⟨b2, 0, none⟩)], .pointer (some ⟨w.heap.size, 0, none⟩), undef, .slice none 0 0, .int .i64 x, .func (.func 101) #[] #[.pointer (some ⟨b1, 0, none⟩), .pointer (some ⟨b2, 0, none⟩)], .int .i64 x, undef, undef, undef, undef, undef], defers := [] }) ?assign ?body ?done ?stop
  case assign =>
    intro l x W K hK
    gi_wp2
    exact hK
  case body =>
    rintro l pre x W ⟨⟨v, hv, hr, _⟩, hB⟩ hlen
    have q0 := hv.cell
    have HF := hv.frozen
    have hlen2 : pre.length < 1000 := Nat.lt_of_lt_of_le hlen hl1
    have HMX : Hf (pre.length + 1 ≤ maxLen) := ⟨by unfold maxLen; omega⟩
    gi_wp2_with (gi_at_builtin; refine wpListIn_append_own _ rfl (.tmp 8) (.tmp 10) 34 rfl w.heap.size 3 i0 (.int .i64 0) 1 8 Try.underlying34 hi hz0 hz1 hz2 rfl (by decide) v pre.length (intsZ pre) rfl (hr.alloc _) ⟨W.heap.size, 0, none⟩ 1 1 [.int .i64 x] rfl rfl (new_cells1 _ _ _) (by simp [Value.oneCell']) HMX.out (by omega) (by have := hB.size; simp; omega) ?_; intro v' w1 hown' hgrow _; obtain ⟨g', cap', rfl⟩ := ownsRow_succ hown'; obtain ⟨hv1, hv2, hr2, hk2, hb2⟩ := hv.appended (by decide) hr hB.size (Nat.le_refl _) hown' hgrow; have hc1 := hv1.cell; have hf1 := hv1.frozen)
    refine ⟨hk2, hb2, ⟨_, hv2, ?_, trivial⟩, hB.trans hb2⟩
    rw [List.length_append]
    show _root_.Go.World.ownsRow _ _ _ _ _ (pre.length + 1) (List.map _ (pre ++ [x]))
    rw [List.map_append]
    exact hr2
  case done =>
    rintro D ys W hD rfl ⟨⟨v, hv, hr, _⟩, hB⟩ hK
    have q0 := hv.cell
    gi_wp2
    refine ⟨by simp, .inl ⟨_, _, rfl, run_takeDeferred hK, ?_⟩⟩
    exact ⟨_, results_tmp rfl _ _ _, v, rfl, ownsRow_putObj hr _ hK rfl, hB.trans (belowK_b (w := w) (Nat.le_refl _) W D _ _ (by omega) hK rfl rfl)⟩
  case stop =>
    rintro D c pre W _ _ h _
    exact h.elim
theorem collect_any (b1 b2 c1 c2 : Nat) (A1 A2 : Option Addr) (l1 l2 : List Int) (w : World) (h1 : b1 < w.heap.size) (h2 : b2 < w.heap.size) (r1 : RdI w A1 l1) (r2 : RdI w A2 l2) (hl1 : l1.length ≤ 1000) (hl2 : l2.length ≤ 9223372036854775807)
    (hc1 : w.cell? ⟨b1, 0, none⟩ = some (.slice A1 l1.length c1)) (hc2 : w.cell? ⟨b2, 0, none⟩ = some (.slice A2 l2.length c2)) :
    Calls Try.prog 64 #[.func (.func 101) #[] #[.pointer (some ⟨b1, 0, none⟩), .pointer (some ⟨b2, 0, none⟩)]] w fun e w' => ∃ v, e = .returned v ∧ w'.ownsRow w.heap.size 3 1 v (liveOf l1 l2).length (intsZ (liveOf l1 l2)) ∧ Below w.heap.size w w' := by
  have HA := Hf.mk (appendSeq_any b1 b2 c1 c2 A1 A2 l1 l2 w h1 h2 r1 r2 hl1 hl2 hc1 hc2)
  clear r1 r2 hc1 hc2
  go_enter Try.func64, Try.ntmps64
  go_wp2_with (go_at_call 100; refine HA.out.mono ?_; rintro e w' ⟨v, rfl, hr, hb⟩)
  go_ret
  exact ⟨v, rfl, hr, hb⟩
end Go.Proofs.Ytaaepadhapfkoaa
