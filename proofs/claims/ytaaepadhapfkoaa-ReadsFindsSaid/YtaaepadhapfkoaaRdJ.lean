/-
  Reads: time goes.
-/
import Derived.Test.YtaaepadhapfkoaaRdI
namespace Go.Proofs.Ytaaepadhapfkoaa
set_option linter.unusedSimpArgs false
set_option linter.unusedVariables false
open Go.RowKit

/-- asked again, up to a place -/
def againK (R : Rdr) (k : Nat) : List (Bool × Int) := (List.range k).filterMap fun i => if R.kn.getD i 0 = 1 then some (false, R.ord.getD i 0) else none
theorem againK_succ (R : Rdr) (k : Nat) : againK R (k + 1) = againK R k ++ if R.kn.getD k 0 = 1 then [(false, R.ord.getD k 0)] else [] := by
  unfold againK
  rw [List.range_succ, List.filterMap_append]
  congr 1
  by_cases h : R.kn.getD k 0 = 1
  · rw [if_pos h]; simp only [List.filterMap_cons, List.filterMap_nil, if_pos h]
  · rw [if_neg h]; simp only [List.filterMap_cons, List.filterMap_nil, if_neg h]
theorem againK_len (R : Rdr) : ∀ k, (againK R k).length ≤ k
  | 0 => Nat.le_refl _
  | k + 1 => by
    rw [againK_succ, List.length_append]
    have := againK_len R k
    split <;> simp <;> omega
theorem notes_box (w : World) {R : Rdr} {t : Int} (hl : (ntR R (false, t) (.slice none 0 0)).length = 48) : NotesAt (w.alloc (.cells (ntR R (false, t) (.slice none 0 0)).toArray 69)) w.heap.size (.slice (some ⟨w.heap.size, 0, none⟩) 1 1) R [(false, t)] := by
  refine ⟨[((false, t), .slice none 0 0)], rfl, ?_, ?_⟩
  · have e : cellsN R [((false, t), .slice none 0 0)] = ntR R (false, t) (.slice none 0 0) := by simp [cellsN]
    rw [e]
    exact owns_one w hl
  · intro y hy
    obtain rfl := List.mem_singleton.1 hy
    rfl
theorem tick_not {R : Rdr} (h : R.st ≠ 1) : R.tickO = [] ∧ R.tickR = R := by
  unfold Rdr.tickO Rdr.tickR
  rw [if_pos h, if_pos h]
  exact ⟨rfl, rfl⟩
theorem tick_over {R : Rdr} (h : R.st = 1) (h2 : R.all + 1 ≥ R.pat) : R.tickO = [] ∧ R.tickR = R.ticked.fails 13 := by
  have h1 : ¬ R.st ≠ 1 := fun e => e h
  constructor
  · unfold Rdr.tickO; rw [if_neg h1, if_pos h2]
  · unfold Rdr.tickR; rw [if_neg h1, if_pos h2]
theorem tick_wait {R : Rdr} (h : R.st = 1) (h2 : ¬ R.all + 1 ≥ R.pat) (h3 : R.ticks + 1 < R.retry) : R.tickO = [] ∧ R.tickR = R.ticked := by
  have h1 : ¬ R.st ≠ 1 := fun e => e h
  constructor
  · unfold Rdr.tickO; rw [if_neg h1, if_neg h2, if_pos h3]
  · unfold Rdr.tickR; rw [if_neg h1, if_neg h2, if_pos h3]
theorem tick_go {R : Rdr} (h : R.st = 1) (h2 : ¬ R.all + 1 ≥ R.pat) (h3 : ¬ R.ticks + 1 < R.retry) : R.tickO = againK R R.ord.length ++ R.onO ∧ R.tickR = ({ R.ticked with ticks := 0 } : Rdr).onR := by
  have h1 : ¬ R.st ≠ 1 := fun e => e h
  constructor
  · unfold Rdr.tickO; rw [if_neg h1, if_neg h2, if_neg h3]; rfl
  · unfold Rdr.tickR; rw [if_neg h1, if_neg h2, if_neg h3]
section
variable {w w' : World} {p : Nat} {R : Rdr} {a1 a2 a3 : Option Addr} {c1 c2 c3 : Nat}
/-- behind a call that sends: what is told -/
def SendsAt (w0 : World) (p : Nat) (R : Rdr) (a1 : Option Addr) (c1 : Nat) (a2 : Option Addr) (c2 : Nat) (R' : Rdr) (ns : List (Bool × Int)) (e : Ending) (w' : World) : Prop :=
  ∃ v, e = .returned v ∧ NotesAt w' w0.heap.size v R ns ∧ (∃ b3 d3, RAt w' p R' a1 c1 a2 c2 b3 d3) ∧ w0.grownBy w' (some p)
theorem tick_idle (h : RAt w p R a1 c1 a2 c2 a3 c3) (hm : 1 ≤ R.me) (hs : R.st ≠ 1) (hs4 : R.st < 4) :
    Calls Try.prog 46 #[.pointer (some ⟨p, 0, none⟩)] w (SendsAt w p R a1 c1 a2 c2 R.tickR R.tickO) := by
  have HN := Hf.mk (none_any p R.me w h.cme hm)
  have q := h.cst
  have HR := Hf.mk h
  have hb : ((R.st : Int) == 1) = false := beq_eq_false_iff_ne.2 (by omega)
  have hb' : ((R.st : Int) != 1) = true := by rw [bne, hb]; rfl
  have HT := Hf.mk (tick_not hs)
  clear h hs hs4
  go_enter Try.func46, Try.ntmps46
  go_wp2_with (go_at_call 81; (with_reducible refine HN.out.mono ?_); rintro e w' ⟨rfl, hw⟩; have hw := hw.symm; subst hw)
  go_ret
  exact ⟨_, rfl, by rw [HT.out.1]; exact NotesAt.nil _ _ _, by rw [HT.out.2]; exact ⟨a3, c3, HR.out⟩, World.grownBy.refl _ _⟩
set_option maxHeartbeats 4000000 in
set_option maxRecDepth 100000 in
theorem tick_runs (h : RAt w p R a1 c1 a2 c2 a3 c3) (ok : R.Ok) (hs : R.st = 1) :
    Calls Try.prog 46 #[.pointer (some ⟨p, 0, none⟩)] w (SendsAt w p R a1 c1 a2 c2 R.tickR R.tickO) := by
  have HN := Hf.mk (none_any p R.me w h.cme ok.me1)
  have q := h.cst
  rw [hs] at q
  have qt := h.cticks
  have qa := h.call
  have qp := h.cpat
  have qr := h.cretry
  have f1 := h.free 109
  have f2 := h.free 110
  have HR := Hf.mk h
  have HS := Hf.mk hs
  have HOK := Hf.mk ok
  have hpl := h.lt
  obtain ⟨t0, t1, t2⟩ := ok.tk
  have t3 : R.ticks ≤ 2147483648 := by omega
  clear h hs ok
  go_enter Try.func46, Try.ntmps46
  go_upto_region 3 with (go_at_call 81; (with_reducible refine HN.out.mono ?_); rintro e w' ⟨rfl, hw⟩; have hw := hw.symm; subst hw)
  go_cut [2] from 13 to 80 (fun v2 wx => v2 = .slice none 0 0 ∧ Hf (RAt wx p R.ticked a1 c1 a2 c2 a3 c3) ∧ Hf (w.grownBy wx (some p)))
  case first =>
    go_region
    go_wp2
    go_meet
    case rel => exact ⟨rfl, ⟨((HR.out.putTicks _).putAll _).below (Below.refl _ _).drew⟩, ⟨grown_below ((grownBy_set w p 109 _).trans (grownBy_set _ p 110 _)) (Below.refl _ _).drew⟩⟩
  case rest =>
    clear q qt qa qp qr f1 f2
    obtain ⟨rfl, HRT, HGT⟩ := hcut
    have qt := HRT.out.cticks
    have qa := HRT.out.call
    have qp := HRT.out.cpat
    have qr := HRT.out.cretry
    change wc.cell? ⟨p, 109, none⟩ = some (.int .i64 (R.ticks + 1)) at qt
    change wc.cell? ⟨p, 110, none⟩ = some (.int .i64 (R.all + 1)) at qa
    change wc.cell? ⟨p, 39, none⟩ = some (.int .i64 R.pat) at qp
    change wc.cell? ⟨p, 38, none⟩ = some (.int .i64 R.retry) at qr
    by_cases h2 : R.all + 1 ≥ R.pat
    · have HT := Hf.mk (tick_over HS.out h2)
      have hd : decide (R.pat ≤ R.all + 1) = true := decide_eq_true h2
      have hd' : decide (R.all + 1 ≥ R.pat) = true := decide_eq_true h2
      clear h2
      have HFA := Hf.mk (fun k => fails_any (HRT.out.below (below_drewN (Below.refl wc.heap.size wc) k)) 13)
      have HGD := Hf.mk (fun k => grown_below HGT.out (below_drewN (Below.refl wc.heap.size wc) k))
      go_upto_region 5 with go_quiet (fail)
      go_wp2_with (go_at_call 84; (with_reducible refine (HFA.out _).mono ?_); rintro e w1 ⟨rfl, hr1, hg1⟩; have HR1 := Hf.mk hr1; have HG1 := Hf.mk ((HGD.out _).trans hg1); clear hr1 hg1)
      go_ret
      exact ⟨_, rfl, by rw [HT.out.1]; exact NotesAt.nil _ _ _, by rw [HT.out.2]; exact ⟨_, _, HR1.out⟩, HG1.out⟩
    · have hd : decide (R.pat ≤ R.all + 1) = false := decide_eq_false h2
      have hd' : decide (R.all + 1 ≥ R.pat) = false := decide_eq_false h2
      by_cases h3 : R.ticks + 1 < R.retry
      · have HT := Hf.mk (tick_wait HS.out h2 h3)
        have hd3 : decide (R.ticks + 1 < R.retry) = true := decide_eq_true h3
        clear h2 h3
        go_upto_region 7 with go_quiet (fail)
        go_upto_region 8 with go_quiet (fail)
        go_wp2
        go_ret
        exact ⟨_, rfl, by rw [HT.out.1]; exact NotesAt.nil _ _ _, by rw [HT.out.2]; exact ⟨_, _, HRT.out.below (by first | exact below_drewN (Below.refl wc.heap.size wc) _ | exact below_drewN (below_drewN (Below.refl wc.heap.size wc) _) _)⟩, grown_below HGT.out (by first | exact below_drewN (Below.refl wc.heap.size wc) _ | exact below_drewN (below_drewN (Below.refl wc.heap.size wc) _) _)⟩
      · have HT := Hf.mk (tick_go HS.out h2 h3)
        have hd3 : decide (R.ticks + 1 < R.retry) = false := decide_eq_false h3
        clear h2 h3
        go_upto_region 7 with go_quiet (fail)
        go_upto_region 9 with go_quiet (fail)
        generalize hw : (wc.drewN _).drewN _ = wd
        have HRW : Hf (RAt wd p R.ticked a1 c1 a2 c2 a3 c3) := ⟨by rw [← hw]; exact HRT.out.below (below_drewN (below_drewN (Below.refl wc.heap.size wc) _) _)⟩
        have HGW : Hf (w.grownBy wd (some p)) := ⟨by rw [← hw]; exact grown_below HGT.out (below_drewN (below_drewN (Below.refl wc.heap.size wc) _) _)⟩
        clear hw qt qa qp qr
        have f9 := HRW.out.free 109
        have q9 := HRW.out.cticks
        have HR0 : Hf (RAt (wd.setCell ⟨p, 109, none⟩ (.int .i64 0)) p { R.ticked with ticks := 0 } a1 c1 a2 c2 a3 c3) := ⟨HRW.out.putTicks 0⟩
        have HG0 : Hf (w.grownBy (wd.setCell ⟨p, 109, none⟩ (.int .i64 0)) (some p)) := ⟨HGW.out.trans (grownBy_set wd p 109 _)⟩
        go_upto_region 10 with fail
        generalize wd.setCell ⟨p, 109, none⟩ (.int .i64 0) = u1 at *
        have HK0 : Hf (Kin { R.ticked with ticks := 0 } R) := ⟨⟨rfl, rfl, rfl, rfl, rfl, rfl⟩⟩
        have HE0 : Hf (({ R.ticked with ticks := 0 } : Rdr).onO = R.onO) := ⟨rfl⟩
        have HP0 : Hf (({ R.ticked with ticks := 0 } : Rdr).id = R.id ∧ ({ R.ticked with ticks := 0 } : Rdr).kn = R.kn ∧ ({ R.ticked with ticks := 0 } : Rdr).ord = R.ord) := ⟨⟨rfl, rfl, rfl⟩⟩
        generalize ({ R.ticked with ticks := 0 } : Rdr) = R0 at *
        have qo := HR0.out.cord
        rw [HP0.out.2.2] at qo
        have hol := HOK.out.ordl
        have HWS : Hf (w.heap.size ≤ u1.heap.size) := ⟨HG0.out.size⟩
        go_wp2
        go_loopw [2, 59] (fun v2 i wr => ∃ (k : Nat) (B : Option Addr) (d : Nat), k ≤ R.ord.length ∧ i = .int .i64 k ∧ v2 = .slice B (againK R k).length d ∧ Hf (NotesAt wr w.heap.size (.slice B (againK R k).length d) R (againK R k)) ∧ Hf (RAt wr p R0 a1 c1 a2 c2 a3 c3) ∧ Hf (w.grownBy wr (some p))) (fun _ i _ => R.ord.length - (intOf i).toNat)
        case atStart => exact ⟨0, none, 0, by omega, rfl, rfl, ⟨NotesAt.nil _ _ _⟩, HR0, HG0⟩
        case round =>
          obtain ⟨k, B, d, hk, rfl, rfl, HN2, HRK, HGK⟩ := hrel
          by_cases hgo : k < R.ord.length
          · have hgo2 : (k : Int) < (R.ord.length : Int) := by omega
            have hk64 : k < 64 := by omega
            have hk64' : (k : Int) < 64 := by omega
            have q0 := HRK.out.cknown hk64
            rw [HP0.out.2.1] at q0
            have HSC := Hf.mk (againK_succ R k)
            have HLK := Hf.mk (againK_len R k)
            obtain ⟨x, hx⟩ : ∃ x, R.kn.getD k 0 = x := ⟨_, rfl⟩
            rw [hx] at q0 HSC
            clear hx
            by_cases hx1 : x = 1
            · subst hx1
              have HSD : Hf (againK R (k + 1) = againK R k ++ [(false, R.ord.getD k 0)]) := ⟨by rw [HSC.out, if_pos rfl]⟩
              have hG := get_any HRK.out (by rw [HP0.out.1]; exact HOK.out.idl) k (by rw [HP0.out.2.2]; exact hgo)
              rw [HP0.out.2.2, ← HK0.out.cells] at hG
              have hlen := ntR_len (R := R) HOK.out.idl (false, R.ord.getD k 0) (.slice none 0 0)
              have HBX := Hf.mk (fun u => notes_box u hlen)
              generalize ntR R (false, R.ord.getD k 0) (.slice none 0 0) = cs at *
              have HG := Hf.mk hG
              have HLEN := Hf.mk hlen
              have HLN : Hf ((againK R k).length + [(false, R.ord.getD k 0)].length ≤ 100000) := ⟨by have := HLK.out; simp; omega⟩
              clear hG hlen HSC
              generalize againK R k = ns at *
              generalize R.ord.getD k 0 = y at *
              go_wp2_with (first
                | (go_at_call 91; (with_reducible refine HG.out.mono ?_); rintro e w1 ⟨rfl, hb1⟩; have HB1 := Hf.mk (below_step hb1 ((Below.refl w1.heap.size w1).alloc (Nat.le_refl _) (.cells cs.toArray 69))); have HN3 := Hf.mk (HN2.out.below HB1.out); have HR3 := Hf.mk (HRK.out.below HB1.out); have HX3 := Hf.mk (HBX.out w1); have HS3 := Hf.mk (Nat.le_trans HGK.out.size hb1.size); clear hb1)
                | (refine wpList_box rfl (.tmp 72) rfl cs rfl HLEN.out ?_)
                | (at_builtin; refine wpList_append_notes rfl (.tmp 69) (.tmp 73) rfl w.heap.size w1.heap.size _ _ R ns _ rfl rfl HN3.out HX3.out HS3.out HLN.out (by have := HS3.out; simp; omega) ?_; intro v2 w2 hn2 hg2 _; have HN4 := Hf.mk hn2; have HG4 := Hf.mk hg2; clear hn2 hg2))
              go_roundw
              case rel =>
                obtain ⟨B2, d2, hv2, _⟩ := HN4.out.form
                refine ⟨k + 1, B2, d2, by omega, by go_num, ?_, ⟨?_⟩, ⟨?_⟩, ⟨?_⟩⟩
                · rw [HSD.out]; exact hv2
                · rw [HSD.out, ← hv2]; exact HN4.out
                · exact HR3.out.grown69 HG4.out fun k hk => (HN3.out.blk k hk).2
                · exact grown_new (grown_below HGK.out HB1.out) HG4.out (Nat.le_refl _) fun g hg => (HN3.out.blk g hg).1
              case measure => simp [intOf]; omega
            · have hx1' : ((x : Int) == 1) = false := beq_eq_false_iff_ne.2 (by omega)
              have HSD : Hf (againK R (k + 1) = againK R k) := ⟨by rw [HSC.out, if_neg hx1, List.append_nil]⟩
              clear hx1 HSC
              generalize againK R k = ns at *
              go_wp2
              go_roundw
              case rel => exact ⟨k + 1, B, d, by omega, by go_num, by rw [HSD.out], by rw [HSD.out]; exact HN2, HRK, HGK⟩
              case measure => simp [intOf]; omega
          · obtain rfl : k = R.ord.length := by omega
            have HLK := Hf.mk (againK_len R R.ord.length)
            have HON := Hf.mk (on_any HRK.out (by rw [HP0.out.1]; exact HOK.out.idl) (by rw [HP0.out.2.1]; exact HOK.out.knl) (by rw [HP0.out.2.2]; exact hol))
            have HLN : Hf ((againK R R.ord.length).length + R0.onO.length ≤ 100000) := ⟨by have := HLK.out; have := onO_len R0; omega⟩
            have HOG := Hf.mk (onO_get R0)
            have HT2 := Hf.mk HT.out
            generalize againK R R.ord.length = ns at *
            go_wp2_with (first
              | (go_at_call 83; (with_reducible refine HON.out.mono ?_); rintro e w1 ⟨v, rfl, _, hn1, hr1, hg1⟩; have HN1 := Hf.mk (hn1.kin HK0.out (.inr HOG.out)); have HR1 := Hf.mk hr1; have HG1 := Hf.mk hg1; have HN7 := Hf.mk (HN2.out.grown hg1 hpl); have HSB := Hf.mk (Nat.le_trans HGK.out.size hg1.size); clear hn1 hr1 hg1)
              | (at_builtin; refine wpList_append_notes rfl (.tmp 76) (.tmp 78) rfl w.heap.size wr.heap.size _ _ R ns R0.onO rfl rfl HN7.out HN1.out HGK.out.size HLN.out HSB.out ?_; intro v2 w2 hn2 hg2 _; have HN4 := Hf.mk hn2; have HG4 := Hf.mk hg2; clear hn2 hg2))
            go_ret
            refine ⟨_, rfl, ?_, ?_, ?_⟩
            · rw [HT2.out.1, ← HE0.out]; exact HN4.out
            · rw [HT2.out.2]; exact ⟨_, _, HR1.out.grown69 HG4.out fun k hk => (HN7.out.blk k hk).2⟩
            · exact grown_new (HGK.out.trans HG1.out) HG4.out (Nat.le_refl _) fun g hg => (HN7.out.blk g hg).1
end
end Go.Proofs.Ytaaepadhapfkoaa
