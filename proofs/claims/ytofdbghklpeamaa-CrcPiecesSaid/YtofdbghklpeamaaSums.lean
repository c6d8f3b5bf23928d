/-
  The walks of the laws CrcSums, CrcPieces.
-/
import Derived.Test.YtofdbghklpeamaaBytes
import Derived.Test.YtofdbghklpeamaaLaws
namespace Go.Proofs.Ytofdbghklpeamaa
open Go.RowKit

/-- a slice of integers that came in: nil, or a row of 'cap' cells, the numbers 'zs' -/
def IsRow (k : IntKind) (w : World) (a : Option Addr) (len cap : Nat) (zs : List Int) : Prop :=
  (a = none ∧ len = 0 ∧ cap = 0 ∧ zs = []) ∨
  ∃ x, a = some x ∧ len ≤ cap ∧ cap ≤ maxLen ∧ zs.length = cap ∧ (∀ i, i < zs.length → w.cell? (x.add i) = some (.int k (zs.getD i 0))) ∧ ∀ n ∈ zs, (Lit.int k n).wf = true
theorem isRow_reads {w : World} {a : Option Addr} {len cap : Nat} {zs : List Int} (h : IsRow .u8 w a len cap zs) :
    ∃ l : List Nat, l.length = len ∧ Reads w a l ∧ len ≤ cap ∧ (a = none → cap = 0) := by
  rcases h with ⟨rfl, rfl, rfl, rfl⟩ | ⟨x, rfl, hl, hm, hz, hcell, hwz⟩
  · exact ⟨[], rfl, ⟨by simp, by simp⟩, Nat.le_refl _, fun _ => rfl⟩
  · have hnat : ∀ n ∈ zs, 0 ≤ n ∧ n < 256 := by
      intro n hn
      have := hwz n hn
      have hx : 0 ≤ n ∧ n ≤ 255 := by simpa [Lit.wf, IntKind.min, IntKind.max, IntKind.signed, IntKind.bits] using this
      omega
    refine ⟨(zs.take len).map Int.toNat, by simp; omega, ⟨?_, fun i hi => ?_⟩, hl, fun e => by cases e⟩
    · intro c hc
      obtain ⟨n, hn, rfl⟩ := List.mem_map.1 hc
      have := hnat n (List.mem_of_mem_take hn)
      omega
    · have hi' : i < zs.length := by simp at hi; omega
      have hil : i < len := by simp at hi; omega
      have hc := hcell i hi'
      obtain ⟨b, off, spot⟩ := x
      have hspot : spot = none := by
        have h0 := hcell 0 (by omega)
        simpa [Addr.add] using World.cell?_spot h0
      subst hspot
      have hadd : (⟨b, off, none⟩ : Addr).add i = ⟨b, off + i, none⟩ := by unfold Addr.add; split <;> simp_all
      rw [hadd] at hc
      refine ⟨b, off, rfl, block_lt_of_cell hc, ?_⟩
      rw [hc]
      have hz2 : zs.getD i 0 = zs[i] := by simp [List.getD, hi']
      have hn := hnat zs[i] (List.getElem_mem hi')
      rw [hz2]
      congr 1
      apply vint
      have e : ((zs.take len).map Int.toNat).getD i 0 = zs[i].toNat := by
        simp [List.getD, hil, hi']
      rw [e]
      omega
set_option maxHeartbeats 1600000 in
theorem crcSums_walk (s : Int) (a : Option Addr) (len cap : Nat) (z : List Int) (w : World) (ws : (Lit.int .u32 s).wf = true) (wz : IsRow .u8 w a len cap z) :
    Calls Try.prog 3 #[.int .u32 s, .slice a len cap] w fun e w' => e = .returned (.bool true) ∧ Below w.heap.size w w' := by
  obtain ⟨S, rfl, hS⟩ := wf_u32 ws
  obtain ⟨l, rfl, hr, _, hnil⟩ := isRow_reads wz
  clear ws wz
  by_cases hlong : 4000 < l.length
  · clear hr hnil
    go_enter Try.func3, Try.ntmps3
    go_wp2_with (go_at_call 9; (with_reducible refine (awake_any _).mono ?_); rintro e w1 ⟨rfl, hb1⟩; have Hb1 := Lib.hid hb1; clear hb1)
    go_ret
    exact ⟨rfl, Hb1.out⟩
  · have Hr := Lib.hid hr
    have Hn := Lib.hid hnil
    clear hr hnil
    obtain ⟨X, hX⟩ : ∃ X, X = Crc.crc 0 l := ⟨_, rfl⟩
    obtain ⟨Y, hY⟩ : ∃ Y, Y = Crc.crc S l := ⟨_, rfl⟩
    have HX := Lib.hid hX
    have HY := Lib.hid hY
    clear hX hY
    go_enter Try.func3, Try.ntmps3
    go_wp2_with (first
      | (go_at_call 9; (with_reducible refine (awake_any _).mono ?_); rintro e w9 ⟨rfl, hb9⟩; have Hb9 := Lib.hid hb9; clear hb9)
      | (go_at_call 10; (with_reducible refine (lent_any a l cap _ Hr.out (by omega) Hn.out).mono ?_); rintro e w1 ⟨g, cur, rfl, hh, ht, hg, hb1⟩; have Hr1 := Lib.hid (Hr.out.below hb1); have Hf1 := Lib.hid (lent_front Hr.out.bytes hh ht); have Hh1 := Lib.hid hh; have Ht := Lib.hid ht; have Hb1 := Lib.hid hb1; clear hh ht hb1 hg)
      | (go_at_call 11; (with_reducible refine (sum_any _ l _ _ Hf1.out (by omega)).mono ?_); rw [← HX.out]; rintro e w2 ⟨rfl, hb2⟩; have Hr2 := Lib.hid (Hr1.out.below hb2); have Hf2 := Lib.hid (Hf1.out.below hb2); have Hh2 := Lib.hid ((hb2.block g (Array.getElem?_eq_some_iff.1 Hh1.out).1).trans Hh1.out); have Hb2 := Lib.hid hb2; clear hb2)
      | (go_at_call 12; (with_reducible refine (refsum_any _ l _ _ Hr2.out (by omega)).mono ?_); rw [← HX.out]; rintro e w' ⟨rfl, rfl⟩)
      | (go_at_call 13; (with_reducible refine (more_any S hS _ l _ _ Hf2.out (by omega)).mono ?_); rw [← HY.out]; rintro e w3 ⟨rfl, hb3⟩; have Hr3 := Lib.hid (Hr2.out.below hb3); have Hh3 := Lib.hid ((hb3.block g (Array.getElem?_eq_some_iff.1 Hh2.out).1).trans Hh2.out); have Hb3 := Lib.hid hb3; clear hb3)
      | (go_at_call 14; (with_reducible refine (refmore_any S hS _ l _ _ Hr3.out (by omega)).mono ?_); rw [← HY.out]; rintro e w' ⟨rfl, rfl⟩)
      | (go_at_call 15; (with_reducible refine (kept_any g cur a l cap _ Hr3.out (by omega) Hh3.out Ht.out).mono ?_); rintro e w4 ⟨rfl, hb4⟩; have Hb4 := Lib.hid hb4; clear hb4))
    go_ret
    exact ⟨rfl, bnext (bnext (bnext (bnext Hb1.out Hb2.out) Hb3.out) Hb4.out) Hb9.out⟩
end Go.Proofs.Ytofdbghklpeamaa
