/-
  Reads: a read begins.
-/
import Derived.Test.YtaaepadhapfkoaaRdH
import Derived.Test.YtaaepadhapfkoaaDgM
import Derived.Test.YtaaepadhapfkoaaDgV
import Derived.Test.YtaaepadhapfkoaaDgE
import Derived.Deep.DeepCutAuto
import Derived.Deep.CutBlock
namespace Go.Proofs.Ytaaepadhapfkoaa
set_option linter.unusedSimpArgs false
set_option linter.unusedVariables false
open Go.RowKit

section
variable {P : Program} {ops : Array Oper} {C : World → Prop} {Q : Act → Prop} {rest : List Oper} {o : Oper} {a : Act}
theorem qstep_loadm (hw : Region.wanted o (yielded ops a.tmps) = true) (ty : TypeId) (x : Operand) (ho : o.op = .load ty x) (b k : Nat) (hx : a.eval x = .pointer (some ⟨b, k, none⟩)) (cs : List Value) (d : TypeDesc)
    (hC : ∀ W, C W → W.rangeAt b k cs) (hu : P.underlying ty = some d) (hd : d.isRow = true) (hi : (P.info? ty).map (·.size) = some cs.length)
    (h : wpQuiet P ops C Q rest (a.put o.dst (.agg cs.toArray))) : wpQuiet P ops C Q (o :: rest) a := by
  refine wpQuiet_step fun K hK => ?_
  rw [if_pos hw]
  refine ⟨.agg cs.toArray, fun W hW => ?_, hK _ h⟩
  unfold Oper.quietAt execOp
  simp only [ho, hx, Instr.loadAt, Instr.sureAddr, Sem.run_bind, Sem.run_pure, Result.andThen_ok, run_loadVar_mid W b k ty cs d (hC W hW) hu hd hi]
  exact ⟨rfl, rfl⟩
theorem qstep_load1 (hw : Region.wanted o (yielded ops a.tmps) = true) (ty : TypeId) (x : Operand) (ho : o.op = .load ty x) (b k : Nat) (hx : a.eval x = .pointer (some ⟨b, k, none⟩)) (v : Value)
    (hC : ∀ W, C W → (Instr.loadAt ty (.pointer (some ⟨b, k, none⟩))).run P W = .ok v W)
    (h : wpQuiet P ops C Q rest (a.put o.dst v)) : wpQuiet P ops C Q (o :: rest) a := by
  refine wpQuiet_step fun K hK => ?_
  rw [if_pos hw]
  refine ⟨v, fun W hW => ?_, hK _ h⟩
  unfold Oper.quietAt execOp
  simp only [ho, hx, Sem.run_bind, Sem.run_pure, Result.andThen_ok, hC W hW]
  exact ⟨rfl, rfl⟩
end
section
variable {w w' : World} {p : Nat} {R : Rdr} {a1 a2 a3 : Option Addr} {c1 c2 c3 : Nat}
theorem onNR_succ (k : Nat) (R : Rdr) : Rdr.onNR (k + 1) R = (Rdr.onNR k R).onR := rfl
theorem onNO_succ (k : Nat) (R : Rdr) : Rdr.onNO (k + 1) R = Rdr.onNO k R ++ (Rdr.onNR k R).onO := rfl
theorem Kin.onNR (R : Rdr) : ∀ k, Kin R (Rdr.onNR k R)
  | 0 => Kin.refl R
  | k + 1 => (Kin.onNR R k).trans (Kin.onR _)
theorem onNR_ord (R : Rdr) : ∀ k, (Rdr.onNR k R).ord = R.ord
  | 0 => rfl
  | k + 1 => (onR_ord _).trans (onNR_ord R k)
theorem onNR_data (R : Rdr) : ∀ k, (Rdr.onNR k R).data = R.data
  | 0 => rfl
  | k + 1 => (onR_data _).trans (onNR_data R k)
theorem onNR_kn (R : Rdr) : ∀ k, (Rdr.onNR k R).kn.length = R.kn.length
  | 0 => rfl
  | k + 1 => (onR_kn _).trans (onNR_kn R k)
theorem onO_len (R : Rdr) : R.onO.length ≤ 1 := by unfold Rdr.onO; split <;> simp
theorem onO_get (R : Rdr) : ∀ x ∈ R.onO, x.1 = false := by
  unfold Rdr.onO
  split
  · intro x hx; obtain rfl := List.mem_singleton.1 hx; rfl
  · intro x hx; cases hx
theorem onNO_len (R : Rdr) : ∀ k, (Rdr.onNO k R).length ≤ k
  | 0 => Nat.le_refl _
  | k + 1 => by rw [onNO_succ, List.length_append]; have := onNO_len R k; have := onO_len (Rdr.onNR k R); omega
/-- begun: what is told -/
def StartsAt (w0 : World) (p : Nat) (R : Rdr) (a1 : Option Addr) (c1 : Nat) (a2 : Option Addr) (c2 : Nat) (R' : Rdr) (ns : List (Bool × Int)) (er : Int) (e : Ending) (w' : World) : Prop :=
  ∃ v, e = .returned (.tuple #[v, .int .i64 er]) ∧ NotesAt w' w0.heap.size v R ns ∧ (∃ b3 d3, RAt w' p R' a1 c1 a2 c2 b3 d3) ∧ w0.grownBy w' (some p)
theorem start_yes {R : Rdr} {l : List Nat} {has : Bool} (hs : R.st = 0) (h : has = true ∧ Sha.sum l = R.id) : R.startO l has = [] ∧ R.startR l has = R.gets l := by
  have h1 : ¬ R.st ≠ 0 := fun e => e hs
  constructor
  · unfold Rdr.startO; rw [if_neg h1, if_pos h]
  · unfold Rdr.startR; rw [if_neg h1, if_pos h]
theorem start_on {R : Rdr} {l : List Nat} {has : Bool} (hs : R.st = 0) (h : ¬ (has = true ∧ Sha.sum l = R.id)) : R.startO l has = Rdr.onNO R.copies.toNat { R with st := 1 } ∧
    R.startR l has = if Rdr.onNO R.copies.toNat { R with st := 1 } = [] then (Rdr.onNR R.copies.toNat { R with st := 1 }).fails 6 else Rdr.onNR R.copies.toNat { R with st := 1 } := by
  have h1 : ¬ R.st ≠ 0 := fun e => e hs
  constructor
  · unfold Rdr.startO; rw [if_neg h1, if_neg h]
  · unfold Rdr.startR; rw [if_neg h1, if_neg h]
theorem start_not (h : RAt w p R a1 c1 a2 c2 a3 c3) (hm : 1 ≤ R.me) (hs : R.st ≠ 0) (hs4 : R.st < 4) (A : Option Addr) (n c : Nat) (has : Bool) :
    Calls Try.prog 39 #[.pointer (some ⟨p, 0, none⟩), .slice A n c, .bool has] w (StartsAt w p R a1 c1 a2 c2 R [] 9) := by
  have HN := Hf.mk (none_any p R.me w h.cme hm)
  have q := h.cst
  have HR := Hf.mk h
  have hb : ((R.st : Int) == 0) = false := beq_eq_false_iff_ne.2 (by omega)
  have hb' : ((R.st : Int) != 0) = true := by rw [bne, hb]; rfl
  clear h hs hs4
  go_enter Try.func39, Try.ntmps39
  go_wp2_with (go_at_call 81; (with_reducible refine HN.out.mono ?_); rintro e w' ⟨rfl, hw⟩; have hw := hw.symm; subst hw)
  go_ret2
  exact ⟨_, rfl, NotesAt.nil _ _ _, ⟨a3, c3, HR.out⟩, World.grownBy.refl _ _⟩
set_option maxHeartbeats 4000000 in
set_option maxRecDepth 100000 in
theorem start_any (h : RAt w p R a1 c1 a2 c2 a3 c3) (ok : R.Ok) (hs : R.st = 0) (A : Option Addr) (c : Nat) (l : List Nat) (has : Bool) (hg : Given w A c l) (hl : l.length ≤ 5000) :
    Calls Try.prog 39 #[.pointer (some ⟨p, 0, none⟩), .slice A l.length c, .bool has] w (StartsAt w p R a1 c1 a2 c2 (R.startR l has) (R.startO l has) 0) := by
  have HN := Hf.mk (none_any p R.me w h.cme ok.me1)
  have q := h.cst
  rw [hs] at q
  have HR := Hf.mk h
  have HS := Hf.mk hs
  have HOK := Hf.mk ok
  have HG := Hf.mk hg
  obtain ⟨eb, heb⟩ : ∃ x, (has && decide (Sha.sum l = R.id)) = x := ⟨_, rfl⟩
  have HEB := Hf.mk heb
  have HEQ := Hf.mk (fun u => run_eql_ids (Sha.sum l) R.id u (Sha.sum_len _) ok.idl (Sha.sum_lt _) ok.idb)
  have HID : Hf (∀ W, Below w.heap.size w W → W.rangeAt p 1 (cellsOf R.id)) := ⟨fun W hW => (h.below hW).cid ok.idl⟩
  have HCS : Hf ((Try.prog.info? 23).map (·.size) = some (cellsOf R.id).length) := ⟨by rw [cellsOf_length, ok.idl]; exact size23⟩
  have HSM : Hf (∀ W, Below w.heap.size w W → Calls Try.prog 38 #[.slice A l.length c] W fun e w' => e = .returned (.agg (cellsOf (Sha.sum l)).toArray) ∧ Below W.heap.size W w') := ⟨fun W hW => sum_any A c l W (hg.below hW) (by omega)⟩
  generalize cellsOf R.id = cs at *
  generalize (cellsOf (Sha.sum l)).toArray = zd at *
  have HE38 : Hf (∀ args u, (callFunc 38 args).run Try.prog u = .ok (.enter 38 args) u) := ⟨enters_of Try.func38 (by kernel_rfl) rfl⟩
  clear h hs ok hg heb
  go_enter Try.func39, Try.ntmps39
  go_upto_region 5 with (go_at_call 81; (with_reducible refine HN.out.mono ?_); rintro e w' ⟨rfl, hw⟩; have hw := hw.symm; subst hw)
  go_cut [17] from 18 to 51 (fun v17 wx => v17 = .bool eb ∧ Hf (Below w.heap.size w wx))
  case first =>
    cases has with
    | true =>
      have heq := HEQ.out
      have HD : Hf (decide (Sha.sum l = R.id) = eb) := ⟨by rw [← HEB.out]; simp⟩
      rw [HD.out] at heq
      refine wp_region_quiet (C := fun W' => Below w.heap.size w W') (by kernel_rfl) (by kernel_rfl) (Below.refl _ _).drew ?_
      simp only [List.toList_toArray]
      (go_big_quiet_want; go_big_quiet_op; first | go_big_quiet_on | (refine ⟨_, fun _ _ => rfl, ?_⟩; go_big_quiet_on))
      (go_big_quiet_want; go_big_quiet_op; first | go_big_quiet_on | (refine ⟨_, fun _ _ => rfl, ?_⟩; go_big_quiet_on))
      (go_big_quiet_want; go_big_quiet_op; first | go_big_quiet_on | (refine ⟨_, fun _ _ => rfl, ?_⟩; go_big_quiet_on))
      refine qstep_call (by rfl) 38 #[.tmp 20] #[54] rfl #[.slice A l.length c] (by simp [Act.eval, Act.put]) (.agg zd) HE38.out (fun W hW => (HSM.out W hW).mono fun e w'' h => ⟨h.1, below_step hW h.2⟩) ?_
      (refine wpQuiet_step (fun K hK => ?_); go_simp; refine ⟨_, fun _ _ => rfl, hK _ ?_⟩; clear hK K)
      (go_big_quiet_want; go_big_quiet_op; first | go_big_quiet_on | (refine ⟨_, fun _ _ => rfl, ?_⟩; go_big_quiet_on))
      (go_big_quiet_want; go_big_quiet_op; first | go_big_quiet_on | (refine ⟨_, fun _ _ => rfl, ?_⟩; go_big_quiet_on))
      refine qstep_loadm (by rfl) 23 (.tmp 24) rfl p 1 rfl cs _ HID.out Try.underlying23 rfl HCS.out ?_
      (refine wpQuiet_step (fun K hK => ?_); go_simp; refine ⟨_, fun _ _ => rfl, hK _ ?_⟩; clear hK K)
      (go_big_quiet_want; go_big_quiet_op; first | go_big_quiet_on | (refine ⟨_, fun _ _ => rfl, ?_⟩; go_big_quiet_on))
      (go_big_quiet_want; go_big_quiet_op; first | go_big_quiet_on | (refine ⟨_, fun _ _ => rfl, ?_⟩; go_big_quiet_on))
      refine wpQuiet_nil ?_
      intro w2 hW2
      have HW2 := Hf.mk hW2
      clear hW2
      go_wp2
      go_meet
      case rel => exact ⟨rfl, HW2⟩
    | false =>
      have HD : Hf (eb = false) := ⟨by rw [← HEB.out]; rfl⟩
      obtain rfl := HD.out
      go_wp2_with go_quiet (fail)
      go_meet
      case rel => exact ⟨rfl, ⟨below_drewN (Below.refl _ _) _⟩⟩
  case rest =>
    obtain ⟨rfl, HB⟩ := hcut
    have HRC := Hf.mk (HR.out.below HB.out)
    have hpl := HR.out.lt
    cases eb with
    | true =>
      have hE := HEB.out
      have HH : Hf (has = true ∧ Sha.sum l = R.id) := ⟨by simpa using hE⟩
      clear hE
      have HGT := Hf.mk (gets_any HRC.out A c l (HG.out.below HB.out) (by omega))
      have HF1 : Hf (R.startO l has = [] ∧ R.startR l has = R.gets l) := ⟨start_yes HS.out HH.out⟩
      clear q
      go_wp2_with (go_at_call 82; (with_reducible refine HGT.out.mono ?_); rintro e w1 ⟨rfl, hr1, hg1⟩; have HR1 := Hf.mk hr1; have HG1 := Hf.mk hg1; clear hr1 hg1)
      go_ret2
      exact ⟨_, rfl, by rw [HF1.out.1]; exact NotesAt.nil _ _ _, by rw [HF1.out.2]; exact HR1.out, World.grownBy.trans (grown_of_below _ HB.out) HG1.out⟩
    | false =>
      have hE := HEB.out
      have HH : Hf (¬ (has = true ∧ Sha.sum l = R.id)) := ⟨by
        intro h
        rw [h.1, decide_eq_true h.2] at hE
        cases hE⟩
      clear hE q
      obtain ⟨m, hm⟩ : ∃ m : Nat, R.copies = m := ⟨R.copies.toNat, by have := HOK.out.cop; omega⟩
      have hm64 : m ≤ 64 := by have := HOK.out.cop; omega
      have HM : Hf (R.copies.toNat = m) := ⟨by omega⟩
      obtain ⟨R1, hR1⟩ : ∃ x, ({ R with st := 1 } : Rdr) = x := ⟨_, rfl⟩
      have HR1 : Hf (RAt (wc.setCell ⟨p, 40, none⟩ (.int .u8 1)) p R1 a1 c1 a2 c2 a3 c3) := ⟨by rw [← hR1]; exact HRC.out.putSt 1⟩
      have HK1 : Hf (Kin R R1) := ⟨by rw [← hR1]; exact ⟨rfl, rfl, rfl, rfl, rfl, rfl⟩⟩
      have HL1 : Hf (R1.id.length = 32 ∧ R1.kn.length = 64 ∧ R1.ord.length ≤ 64) := ⟨by rw [← hR1]; exact ⟨HOK.out.idl, HOK.out.knl, HOK.out.ordl⟩⟩
      have HF1 : Hf (R.startO l has = Rdr.onNO m R1 ∧ R.startR l has = if Rdr.onNO m R1 = [] then (Rdr.onNR m R1).fails 6 else Rdr.onNR m R1) := ⟨by
        have := start_on HS.out HH.out
        rw [HM.out, hR1] at this
        exact this⟩
      have HGB : Hf (w.grownBy (wc.setCell ⟨p, 40, none⟩ (.int .u8 1)) (some p)) := ⟨(grown_of_below _ HB.out).trans (grownBy_set wc p 40 _)⟩
      have q34 := HRC.out.ccopies
      rw [hm] at q34
      have q40 := HRC.out.cst
      have f40 := HRC.out.free 40
      have HWS : Hf (w.heap.size ≤ (wc.setCell ⟨p, 40, none⟩ (.int .u8 1)).heap.size) := ⟨HGB.out.size⟩
      clear hR1 hm
      go_wp2
      generalize wc.setCell ⟨p, 40, none⟩ (.int .u8 1) = u1 at *
      go_loopw [6, 38] (fun v6 i wr => ∃ (k : Nat) (B : Option Addr) (d : Nat), k ≤ m ∧ i = .int .i64 k ∧ v6 = .slice B (Rdr.onNO k R1).length d ∧ Hf (NotesAt wr w.heap.size (.slice B (Rdr.onNO k R1).length d) R (Rdr.onNO k R1)) ∧ Hf (RAt wr p (Rdr.onNR k R1) a1 c1 a2 c2 a3 c3) ∧ Hf (w.grownBy wr (some p))) (fun _ i _ => m - (intOf i).toNat)
      case atStart => exact ⟨0, none, 0, by omega, rfl, rfl, ⟨NotesAt.nil _ _ _⟩, HR1, HGB⟩
      case round =>
        obtain ⟨k, B, d, hk, rfl, rfl, HN6, HRK, HGK⟩ := hrel
        by_cases hgo : k < m
        · have hgo2 : (k : Int) < (m : Int) := by omega
          have HON := Hf.mk (on_any HRK.out (by rw [(Kin.onNR R1 k).id]; exact HL1.out.1) (by rw [onNR_kn]; exact HL1.out.2.1) (by rw [onNR_ord]; exact HL1.out.2.2))
          have HKK := Hf.mk (HK1.out.trans (Kin.onNR R1 k))
          have HLN : Hf ((Rdr.onNO k R1).length + (Rdr.onNR k R1).onO.length ≤ 100000) := ⟨by have := onNO_len R1 k; have := onO_len (Rdr.onNR k R1); omega⟩
          have HOG := Hf.mk (onO_get (Rdr.onNR k R1))
          have HSC : Hf (Rdr.onNO (k + 1) R1 = Rdr.onNO k R1 ++ (Rdr.onNR k R1).onO ∧ Rdr.onNR (k + 1) R1 = (Rdr.onNR k R1).onR) := ⟨rfl, rfl⟩
          have HKB : Hf (Kin (Rdr.onNR k R1) R) := ⟨⟨HKK.out.me.symm, HKK.out.cn.symm, HKK.out.cb.symm, HKK.out.cc.symm, HKK.out.set.symm, HKK.out.id.symm⟩⟩
          generalize Rdr.onNO k R1 = ns at *
          generalize Rdr.onNR k R1 = R2 at *
          go_wp2_with (first
            | (go_at_call 83; (with_reducible refine HON.out.mono ?_); rintro e w1 ⟨v, rfl, _, hn1, hr1, hg1⟩; have HN1 := Hf.mk (hn1.kin HKB.out (.inr HOG.out)); have HR1 := Hf.mk hr1; have HG1 := Hf.mk hg1; have HN7 := Hf.mk (HN6.out.grown hg1 (by omega)); have HSB := Hf.mk (Nat.le_trans HGK.out.size hg1.size); clear hn1 hr1 hg1)
            | (at_builtin; refine wpList_append_notes rfl (.tmp 40) (.tmp 42) rfl w.heap.size wr.heap.size _ _ R ns R2.onO rfl rfl HN7.out HN1.out HGK.out.size HLN.out HSB.out ?_; intro v2 w2 hn2 hg2 _; have HN2 := Hf.mk hn2; have HG2 := Hf.mk hg2; clear hn2 hg2))
          go_roundw
          case rel =>
            obtain ⟨B2, d2, hv2, _⟩ := HN2.out.form
            refine ⟨k + 1, B2, d2, by omega, by go_num, ?_, ⟨?_⟩, ⟨?_⟩, ⟨?_⟩⟩
            · rw [HSC.out.1]; exact hv2
            · rw [HSC.out.1, ← hv2]; exact HN2.out
            · rw [HSC.out.2]; exact HR1.out.grown69 HG2.out fun k hk => (HN7.out.blk k hk).2
            · exact grown_new (HGK.out.trans HG1.out) HG2.out (Nat.le_refl _) fun g hg => (HN7.out.blk g hg).1
          case measure => simp [intOf]; omega
        · obtain rfl : k = m := by omega
          have HF2 := Hf.mk HF1.out
          generalize Rdr.onNR k R1 = R2 at *
          generalize Rdr.onNO k R1 = ns at *
          by_cases hns : ns = []
          · have hl0 : ((ns.length : Int) == 0) = true := by rw [hns]; rfl
            have HFA := Hf.mk (fails_any HRK.out 6)
            have HE2 : Hf (R.startO l has = ns ∧ R.startR l has = R2.fails 6) := ⟨⟨HF2.out.1, by rw [HF2.out.2, if_pos hns]⟩⟩
            clear hns
            go_wp2_with (go_at_call 84; (with_reducible refine HFA.out.mono ?_); rintro e w1 ⟨rfl, hr1, hg1⟩; have HR1 := Hf.mk hr1; have HG1 := Hf.mk hg1; clear hr1 hg1)
            go_ret2
            exact ⟨_, rfl, by rw [HE2.out.1]; exact HN6.out.grown HG1.out hpl, by rw [HE2.out.2]; exact ⟨_, _, HR1.out⟩, HGK.out.trans HG1.out⟩
          · have hl0 : ((ns.length : Int) == 0) = false := beq_eq_false_iff_ne.2 (by have := List.length_pos_iff.2 hns; omega)
            have HE2 : Hf (R.startO l has = ns ∧ R.startR l has = R2) := ⟨⟨HF2.out.1, by rw [HF2.out.2, if_neg hns]⟩⟩
            clear hns
            go_wp2
            go_ret2
            exact ⟨_, rfl, by rw [HE2.out.1]; exact HN6.out, by rw [HE2.out.2]; exact ⟨_, _, HRK.out⟩, HGK.out⟩
end
end Go.Proofs.Ytaaepadhapfkoaa
