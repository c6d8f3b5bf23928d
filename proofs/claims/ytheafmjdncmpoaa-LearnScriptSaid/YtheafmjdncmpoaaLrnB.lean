/-
  Learn: bytes.Clone, CopyBytes: bytes in memory of their own, their block told whole.
-/
import Derived.Test.YtheafmjdncmpoaaLrnS
import Derived.Test.YtheafmjdncmpoaaQuoF
namespace Go.Proofs.Ytheafmjdncmpoaa
set_option linter.unusedSimpArgs false
set_option linter.unusedVariables false
open Go.RowKit Go.Proofs.YtheafmjdncmpoaaW.PrintWords Go.Proofs.YtheafmjdncmpoaaW.PrintMore

theorem info5 : (Try.prog.info? 5).map (fun i => (i.zero, i.size, i.bytes)) = some (some (.int .u8 0), 1, 1) := by kernel_rfl
/-- bytes of the call's own, their block's cells bytes all -/
def RowB (w : World) (base : Nat) (v : Value) (xs : List Int) : Prop := kB.R 5 w base (fun _ => True) v xs ∧ Full (isI .u8) 5 w v
theorem RowB.nil (w : World) (base : Nat) : RowB w base (.slice none 0 0) [] := ⟨Kd.R_nil _ _ _ _ _, Full.nil _ _ _ _ _⟩
theorem RowB.below {w w1 : World} {base : Nat} {v : Value} {xs : List Int} (h : RowB w base v xs) (hb : Below w.heap.size w w1) : RowB w1 base v xs := ⟨Kd.R_below h.1 hb, h.2.below hb⟩
theorem zero_isB : ∀ u ∈ (Value.int .u8 0).cells.toList, isI .u8 u := by
  intro u hu
  simp [Value.cells] at hu
  exact ⟨0, hu⟩
theorem byte_get {w : World} {A : Option Addr} {l : List Int} (h : Kd.C kB w A l.length l) (i : Nat) (hi : i < l.length) : ∃ ad, A = some ad ∧ w.cell? (ad.add i) = some (.int .u8 (l.getD i 0)) := by
  obtain ⟨ad, c, e, hl, hK, hc⟩ := Kd.C_get h 0 (i : Int) (by omega) (by omega)
  rw [Int.toNat_natCast] at hK hc
  obtain rfl : c = [.int .u8 (l.getD i 0)] := hK
  have := hc 0 _ rfl
  exact ⟨ad, e, by simpa [show kB.sz = 1 from rfl] using this⟩
theorem C_newsB {w : World} {ad : Addr} {l : List Int} (h : Kd.C kB w (some ad) l.length l) : ∀ j u, (l.map fun x => Value.int .u8 x)[j]? = some u → w.cell? (ad.add j) = some u := by
  intro j u hu
  rw [List.getElem?_map] at hu
  obtain ⟨x, hx, rfl⟩ := Option.map_eq_some_iff.1 hu
  have hj := (List.getElem?_eq_some_iff.1 hx).1
  obtain ⟨ad', e, hc⟩ := byte_get h j hj
  obtain rfl := Option.some.inj e
  rw [hc, List.getD_eq_getElem?_getD, hx]
  rfl
theorem RB_of_owns {w : World} {base : Nat} {v : Value} {l : List Int} (h : w.ownsRow base 5 1 v l.length (l.map fun x => Value.int .u8 x)) : kB.R 5 w base (fun _ => True) v l :=
  Kd.R_of_own (enc := Value.int .u8) (h1 := fun _ => rfl) (by simpa [encs] using h) (fun _ _ => trivial)
/-- a copy told -/
def Copied (w : World) (l : List Int) (e : Ending) (w' : World) : Prop := ∃ A c, e = .returned (.slice A l.length c) ∧ Below w.heap.size w w' ∧ RowB w' w.heap.size (.slice A l.length c) l
theorem Copied.of {w w' : World} {l : List Int} {e : Ending} {v : Value} (h1 : e = .returned v) (h2 : Below w.heap.size w w') (h3 : RowB w' w.heap.size v l) : Copied w l e w' := by
  obtain ⟨A, c, e1, _⟩ := Kd.R_reads h3.1
  subst e1
  exact ⟨A, c, h1, h2, h3⟩
set_option maxHeartbeats 1600000 in
set_option maxRecDepth 100000 in
theorem copyB_some (ad : Addr) (c : Nat) (l : List Int) (w : World) (h : Kd.C kB w (some ad) l.length l) (hl : l.length ≤ 100000) :
    Calls Try.prog 89 #[.slice (some ad) l.length c] w (Copied w l) := by
  obtain ⟨i0, hi, hz0, hz1, hz2⟩ := info_parts info5
  have HC := Aside0.mk (C_newsB (Kd.C_below h ((Below.refl w.heap.size w).alloc (o := .cells #[] 5) (Nat.le_refl _))))
  clear h
  have HO : Aside0 ((w.alloc (.cells #[] 5)).ownsRow w.heap.size 5 1 (.slice (some ⟨w.heap.size, 0, none⟩) 0 0) 0 []) := ⟨World.ownsRow_lit w #[] 0 (Nat.le_refl _) (by decide) rfl⟩
  have HF : Aside0 (Full (isI .u8) 5 (w.alloc (.cells #[] 5)) (.slice (some ⟨w.heap.size, 0, none⟩) 0 0)) := ⟨fun k hk => by
    obtain rfl : w.heap.size = k := by simpa [Value.ownBlock] using hk
    exact ⟨#[], heap_alloc_new _ _, by simp⟩⟩
  have HB : Aside0 (Below w.heap.size w (w.alloc (.cells #[] 5))) := ⟨(Below.refl _ _).alloc (Nat.le_refl _) _⟩
  go_enter Try.func89, Try.ntmps89
  go_wp2_with ((with_reducible refine gate_builtin (b := .append) (xs := #[.tmp 3, .tmp 4]) rfl ?_); at_builtin; refine wpList_append_full (w.alloc (.cells #[] 5)) (isI .u8) rfl (.tmp 3) (.tmp 4) 69 rfl w.heap.size 5 i0 (.int .u8 0) 1 1 Try.underlying69 hi hz0 hz1 hz2 rfl (by decide) (.slice (some ⟨w.heap.size, 0, none⟩) 0 0) 0 [] rfl HO.out HF.out zero_isB ad l.length c (l.map fun x => Value.int .u8 x) rfl ?c1 HC.out ?c2 ?c3 ?c4 ?c5 ?c6 ?_; (case c1 => simp); (case c2 => intro u hu; obtain ⟨x, _, rfl⟩ := List.mem_map.1 hu; rfl); (case c3 => intro u hu; obtain ⟨x, _, rfl⟩ := List.mem_map.1 hu; exact ⟨x, rfl⟩); (case c4 => simp only [maxLen]; omega); (case c5 => omega); (case c6 => simp); intro v1 w1 ho hg hat hf; have HO1 := Aside0.mk ho; have HG1 := Aside0.mk hg; have HF1 := Aside0.mk hf; clear ho hg hat hf)
  go_ret
  refine Copied.of (v := v1) rfl (HB.out.grown HG1.out (by simp) (fun k hk => ?_)) ⟨?_, HF1.out⟩
  · obtain rfl : w.heap.size = k := by simpa [Value.ownBlock] using hk
    exact Nat.le_refl _
  · refine RB_of_owns ?_
    simpa using HO1.out
set_option maxHeartbeats 1600000 in
set_option maxRecDepth 100000 in
theorem copyB_none (w : World) : Calls Try.prog 89 #[.slice none 0 0] w (Copied w []) := by
  obtain ⟨i0, hi, hz0, hz1, hz2⟩ := info_parts info5
  have HO : Aside0 ((w.alloc (.cells #[] 5)).ownsRow w.heap.size 5 1 (.slice (some ⟨w.heap.size, 0, none⟩) 0 0) 0 []) := ⟨World.ownsRow_lit w #[] 0 (Nat.le_refl _) (by decide) rfl⟩
  have HF : Aside0 (Full (isI .u8) 5 (w.alloc (.cells #[] 5)) (.slice (some ⟨w.heap.size, 0, none⟩) 0 0)) := ⟨fun k hk => by
    obtain rfl : w.heap.size = k := by simpa [Value.ownBlock] using hk
    exact ⟨#[], heap_alloc_new _ _, by simp⟩⟩
  go_enter Try.func89, Try.ntmps89
  go_wp2_with ((with_reducible refine gate_builtin (b := .append) (xs := #[.tmp 3, .tmp 4]) rfl ?_); at_builtin; refine Kd.event_run (v := .slice (some ⟨w.heap.size, 0, none⟩) 0 0) (w1 := w.alloc (.cells #[] 5)) rfl ?c1 ?_; (case c1 => (unfold execOp; simp only [resolve, invoke, builtin, Sem.run_bind, Sem.run_pure, Result.andThen_ok, List.map_toArray, List.map_cons, List.map_nil]; rw [show (Builtin.append_ #[69, 69] 69 #[.slice (some ⟨w.heap.size, 0, none⟩) 0 0, .slice none 0 0]).run Try.prog (w.alloc (.cells #[] 5)) = _ from run_append_owned_none (P := Try.prog) (w.alloc (.cells #[] 5)) w.heap.size 69 69 5 i0 1 Try.underlying69 hi _ _ _ HO.out]; rfl)))
  go_ret
  exact Copied.of (l := []) rfl ((Below.refl _ _).alloc (Nat.le_refl _) _) ⟨RB_of_owns (l := []) HO.out, HF.out⟩
/-- bytes that a call is given -/
def Given (w : World) (A : Option Addr) (c : Nat) (l : List Int) : Prop := BytesAt w A c l ∧ (A = none → c = 0)
theorem Given.below {w w1 : World} {A : Option Addr} {c : Nat} {l : List Int} (h : Given w A c l) (hb : Below w.heap.size w w1) : Given w1 A c l := ⟨h.1.below hb, h.2⟩
theorem Given.empty {w : World} {c : Nat} {l : List Int} (h : Given w none c l) : l = [] ∧ c = 0 := by
  refine ⟨?_, h.2 rfl⟩
  rcases Nat.eq_zero_or_pos l.length with e | e
  · exact List.length_eq_zero_iff.1 e
  · obtain ⟨ad, e2, _⟩ := h.1.1.2.2 e
    cases e2
theorem CopyB_any {A : Option Addr} {c : Nat} {l : List Int} {w : World} (h : Given w A c l) (hl : l.length ≤ 100000) :
    Calls Try.prog 89 #[.slice A l.length c] w (Copied w l) := by
  cases A with
  | some ad => exact copyB_some ad c l w h.1.1 hl
  | none =>
    obtain ⟨rfl, rfl⟩ := h.empty
    exact copyB_none w
set_option maxHeartbeats 1600000 in
set_option maxRecDepth 100000 in
theorem clone_some (ad : Addr) (c : Nat) (l : List Int) (w : World) (h : Kd.C kB w (some ad) l.length l) (hl : l.length ≤ 100000) :
    Calls Try.prog 86 #[.slice (some ad) l.length c] w (Copied w l) := by
  obtain ⟨i0, hi, hz0, hz1, hz2⟩ := info_parts info5
  have HC := Aside0.mk (C_newsB (Kd.C_below h ((Below.refl w.heap.size w).alloc (o := .cells #[] 5) (Nat.le_refl _))))
  clear h
  have HO : Aside0 ((w.alloc (.cells #[] 5)).ownsRow w.heap.size 5 1 (.slice (some ⟨w.heap.size, 0, none⟩) 0 0) 0 []) := ⟨World.ownsRow_lit w #[] 0 (Nat.le_refl _) (by decide) rfl⟩
  have HF : Aside0 (Full (isI .u8) 5 (w.alloc (.cells #[] 5)) (.slice (some ⟨w.heap.size, 0, none⟩) 0 0)) := ⟨fun k hk => by
    obtain rfl : w.heap.size = k := by simpa [Value.ownBlock] using hk
    exact ⟨#[], heap_alloc_new _ _, by simp⟩⟩
  have HB : Aside0 (Below w.heap.size w (w.alloc (.cells #[] 5))) := ⟨(Below.refl _ _).alloc (Nat.le_refl _) _⟩
  have hnil := Lib.run_eql_slice_nil (P := Try.prog) w 69 5 (some ad) l.length c 0 0 Try.underlying69
  go_enter Try.func86, Try.ntmps86
  go_wp2_with ((with_reducible refine gate_builtin (b := .append) (xs := #[.tmp 5, .tmp 6]) rfl ?_); at_builtin; refine wpList_append_full (w.alloc (.cells #[] 5)) (isI .u8) rfl (.tmp 5) (.tmp 6) 69 rfl w.heap.size 5 i0 (.int .u8 0) 1 1 Try.underlying69 hi hz0 hz1 hz2 rfl (by decide) (.slice (some ⟨w.heap.size, 0, none⟩) 0 0) 0 [] rfl HO.out HF.out zero_isB ad l.length c (l.map fun x => Value.int .u8 x) rfl ?c1 HC.out ?c2 ?c3 ?c4 ?c5 ?c6 ?_; (case c1 => simp); (case c2 => intro u hu; obtain ⟨x, _, rfl⟩ := List.mem_map.1 hu; rfl); (case c3 => intro u hu; obtain ⟨x, _, rfl⟩ := List.mem_map.1 hu; exact ⟨x, rfl⟩); (case c4 => simp only [maxLen]; omega); (case c5 => omega); (case c6 => simp); intro v1 w1 ho hg hat hf; have HO1 := Aside0.mk ho; have HG1 := Aside0.mk hg; have HF1 := Aside0.mk hf; clear ho hg hat hf)
  go_ret
  refine Copied.of (v := v1) rfl (HB.out.grown HG1.out (by simp) (fun k hk => ?_)) ⟨?_, HF1.out⟩
  · obtain rfl : w.heap.size = k := by simpa [Value.ownBlock] using hk
    exact Nat.le_refl _
  · refine RB_of_owns ?_
    simpa using HO1.out
theorem clone_none (w : World) : Calls Try.prog 86 #[.slice none 0 0] w (Copied w []) := by
  have hnil := Lib.run_eql_slice_nil (P := Try.prog) w 69 5 none 0 0 0 0 Try.underlying69
  go_enter Try.func86, Try.ntmps86
  go_wp2
  go_ret
  exact Copied.of (v := .slice none 0 0) (l := []) rfl (Below.refl _ _) (RowB.nil _ _)
theorem Clone_any {A : Option Addr} {c : Nat} {l : List Int} {w : World} (h : Given w A c l) (hl : l.length ≤ 100000) :
    Calls Try.prog 86 #[.slice A l.length c] w (Copied w l) := by
  cases A with
  | some ad => exact clone_some ad c l w h.1.1 hl
  | none =>
    obtain ⟨rfl, rfl⟩ := h.empty
    exact clone_none w
end Go.Proofs.Ytheafmjdncmpoaa
