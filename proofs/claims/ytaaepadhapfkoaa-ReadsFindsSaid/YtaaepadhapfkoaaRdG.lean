/-
  Reads: what it has, and its error.
-/
import Derived.Test.YtaaepadhapfkoaaRdF
namespace Go.Proofs.Ytaaepadhapfkoaa
set_option linter.unusedSimpArgs false
set_option linter.unusedVariables false
open Go.RowKit

theorem given_nil (w : World) : Given w none 0 [] := ⟨⟨fun c h => (by cases h), fun i hi => (by simp at hi)⟩, Nat.le_refl _, by decide, fun _ => rfl⟩
/-- the bytes that are told -/
def Rdr.doneB (R : Rdr) : List Nat := if R.st = 2 then R.data else []
section
variable {w w' : World} {p : Nat} {R : Rdr} {a1 a2 a3 : Option Addr} {c1 c2 c3 : Nat}
theorem rfailed_any (h : RAt w p R a1 c1 a2 c2 a3 c3) (hm : 1 ≤ R.me) : Calls Try.prog 43 #[.pointer (some ⟨p, 0, none⟩)] w fun e w' => e = .returned (.int .i64 R.err) ∧ w' = w := by
  have HN := Hf.mk (none_any p R.me w h.cme hm)
  have q := h.cerr
  clear h
  go_enter Try.func43, Try.ntmps43
  go_wp2_with (go_at_call 81; (with_reducible refine HN.out.mono ?_); rintro e w' ⟨rfl, hw⟩; have hw := hw.symm; subst hw)
  go_ret
  exact ⟨rfl, rfl⟩
theorem rdone_any (h : RAt w p R a1 c1 a2 c2 a3 c3) (hm : 1 ≤ R.me) (hd : R.data.length ≤ 1000000) (hs : R.st < 4) :
    Calls Try.prog 42 #[.pointer (some ⟨p, 0, none⟩)] w fun e w' => ∃ A c, e = .returned (.tuple #[.slice A R.doneB.length c, .bool (R.st == 2)]) ∧ Given w' A c R.doneB ∧ Below w.heap.size w w' := by
  have HN := Hf.mk (none_any p R.me w h.cme hm)
  have q := h.cst
  have q2 := h.cdat
  have HC := Hf.mk (clone_any a3 c3 R.data w h.dat hd)
  clear h
  by_cases h2 : R.st = 2
  · have HD : Hf (R.doneB = R.data) := ⟨by unfold Rdr.doneB; rw [if_pos h2]⟩
    rw [h2] at q
    have HS : Hf ((R.st == 2) = true) := ⟨beq_iff_eq.2 h2⟩
    clear h2 hs
    go_enter Try.func42, Try.ntmps42
    go_wp2_with (first
      | (go_at_call 81; (with_reducible refine HN.out.mono ?_); rintro e w' ⟨rfl, hw⟩; have hw := hw.symm; subst hw)
      | (go_at_call 75; (with_reducible refine HC.out.mono ?_); rintro e w1 ⟨b3, d3, rfl, hg1, ht1, _, hb1⟩; have HG1 := Hf.mk hg1; have HB1 := Hf.mk hb1; clear hg1 ht1 hb1))
    go_ret2
    exact ⟨b3, d3, by rw [HD.out, HS.out]; rfl, by rw [HD.out]; exact HG1.out, HB1.out⟩
  · have HD : Hf (R.doneB = []) := ⟨by unfold Rdr.doneB; rw [if_neg h2]⟩
    have HS : Hf ((R.st == 2) = false) := ⟨beq_eq_false_iff_ne.2 h2⟩
    have hb : ((R.st : Int) == 2) = false := beq_eq_false_iff_ne.2 (by omega)
    have hb' : ((R.st : Int) != 2) = true := by rw [bne, hb]; rfl
    clear h2 hs
    go_enter Try.func42, Try.ntmps42
    go_wp2_with (first
      | (go_at_call 81; (with_reducible refine HN.out.mono ?_); rintro e w' ⟨rfl, hw⟩; have hw := hw.symm; subst hw))
    go_ret2
    exact ⟨none, 0, by rw [HD.out, HS.out]; rfl, by rw [HD.out]; exact given_nil _, Below.refl _ _⟩
end
end Go.Proofs.Ytaaepadhapfkoaa
