/-
  Reads: what is read has the digest asked for; a read is over within its patience: the walk.
-/
import Derived.Test.YtaaepadhapfkoaaReSa
import Derived.Test.YtaaepadhapfkoaaRdW
import Derived.Deep.CutBlock
import Derived.Deep.CutRange
namespace Go.Proofs.Ytaaepadhapfkoaa
set_option linter.unusedSimpArgs false
set_option linter.unusedVariables false
open Go.RowKit

theorem bg_all {b : Bg} (h : b.id.length = 32) : b.cells[0]? = some (.int .i64 b.set) ∧ b.cells[34]? = some (.int .i64 b.nodes) ∧ b.cells[35]? = some (.int .i64 b.copies) ∧ b.cells[39]? = some (.int .i64 b.retry) ∧ b.cells[40]? = some (.int .i64 b.pat) ∧ b.cells.length = 41 := by
  have hc : ∀ j, 32 ≤ j → b.cells[j + 1]? = ([.int .i64 b.me, .int .i64 b.nodes, .int .i64 b.copies, .int .i64 b.cn, .int .i64 b.cb, .int .i64 b.cc, .int .i64 b.retry, .int .i64 b.pat] : List Value)[j - 32]? := fun j hj => by
    unfold Bg.cells
    rw [List.getElem?_cons_succ, List.getElem?_append_right (by rw [cellsOf_length, h]; exact hj), cellsOf_length, h]
  refine ⟨rfl, hc 33 (by decide), hc 34 (by decide), hc 38 (by decide), hc 39 (by decide), ?_⟩
  unfold Bg.cells
  simp [cellsOf_length, h]
theorem bg_set {b : Bg} (h : b.id.length = 32) (x : Int) : b.cells.toArray.setIfInBounds 40 (.int .i64 x) = ({ b with pat := x } : Bg).cells.toArray := by
  unfold Bg.cells
  apply Array.ext'
  rw [Array.toList_setIfInBounds]
  show List.set _ _ _ = _
  rw [List.set_cons_succ, List.set_append_right _ _ (by rw [cellsOf_length, h]; decide), cellsOf_length, h]
  rfl
theorem keptH {W W' : World} {g : Nat} {o : Obj} (h : W.heap[g]? = some o) (hb : Below W.heap.size W W') : W'.heap[g]? = some o :=
  (hb.block g (Array.getElem?_eq_some_iff.1 h).1).trans h
/-- the read, what it was made of, and the bytes told last -/
structure RI (w W : World) (p : Nat) (a1 : Option Addr) (c1 : Nat) (a2 : Option Addr) (c2 : Nat) (B : Bg) (E : Option Addr) (ec L i : Nat) (old : List Nat) (R : Rdr) : Prop where
  rat : ∃ a3 c3, RAt W p R a1 c1 a2 c2 a3 c3
  ok : R.Ok
  dat : R.data.length ≤ 5000
  id : R.id = B.id
  pat : R.pat = B.pat
  far : Far L i R
  beg : W.heap[w.heap.size]? = some (.cells B.cells.toArray 81 (0, 0))
  bel : Below w.heap.size w W
  en : Given W E ec old
  et : AtT W E 5
  hp : w.heap.size < p
section
variable {w W W' : World} {p : Nat} {a1 a2 E : Option Addr} {c1 c2 ec L i n : Nat} {B : Bg} {old : List Nat} {R R' : Rdr}
theorem RI.below (h : RI w W p a1 c1 a2 c2 B E ec L i old R) (hb : Below W.heap.size W W') : RI w W' p a1 c1 a2 c2 B E ec L i old R := by
  obtain ⟨a3, c3, hr⟩ := h.rat
  exact ⟨⟨a3, c3, hr.below hb⟩, h.ok, h.dat, h.id, h.pat, h.far, keptH h.beg hb, below_step h.bel hb, h.en.below hb, h.et.keep (fun ad ha => hb.block _ (h.et.lt ha)), h.hp⟩
theorem RI.step (h : RI w W p a1 c1 a2 c2 B E ec L i old R) (hs : Stp L i R R' n) (hl : Left W p a1 c1 a2 c2 R' W') : RI w W' p a1 c1 a2 c2 B E ec L (i + 1) old R' := by
  obtain ⟨hr, hg⟩ := hl
  obtain ⟨a3, c3, hr0⟩ := h.rat
  have hE : ∀ ad, E = some ad → W'.heap[ad.block]? = W.heap[ad.block]? := fun ad ha => hg.block _ (h.et.lt ha) (fun e => by injection e with e; exact hr0.ne h.et (by decide) ha e)
  exact ⟨hr, hs.rof.ok, hs.rof.dat, hs.rof.id.trans h.id, hs.rof.pat.trans h.pat, hs.far, (hg.block _ (Array.getElem?_eq_some_iff.1 h.beg).1 (fun e => by injection e with e; have := h.hp; omega)).trans h.beg, h.bel.grown hg h.bel.size (fun k hk => by injection hk with hk; have := h.hp; omega), h.en.keep hg.size hE, h.et.keep hE, h.hp⟩
theorem RI.told (h : RI w W p a1 c1 a2 c2 B E ec L i old R) {E' : Option Addr} {ec' : Nat} {new : List Nat} (hg : Given W E' ec' new) (ht : AtT W E' 5) : RI w W p a1 c1 a2 c2 B E' ec' L i new R :=
  ⟨h.rat, h.ok, h.dat, h.id, h.pat, h.far, h.beg, h.bel, hg, ht, h.hp⟩
end
set_option maxHeartbeats 4000000 in
set_option maxRecDepth 100000 in
theorem right_any (b : Bg) (a : Option Addr) (len cap : Nat) (xs : List Ac) (w : World) (hl : b.id.length = 32) (hb : ∀ x ∈ b.id, x < 256) (hxs : IsActs w a len cap xs) :
    Calls Try.prog 12 #[.agg b.cells.toArray, .slice a len cap] w fun e w' => e = .returned (.bool true) ∧ Below w.heap.size w w' := by
  have hbox := heap_alloc_new w (.cells b.cells.toArray 81)
  have hbx : Below w.heap.size w (w.alloc (.cells b.cells.toArray 81)) := (Below.refl _ _).alloc (Nat.le_refl _) _
  obtain ⟨P, hP⟩ : ∃ P : Nat, b.pat % 200 = P := ⟨(b.pat % 200).toNat, by have := Int.emod_nonneg b.pat (show (200 : Int) ≠ 0 by decide); omega⟩
  have hP2 : P < 200 := by have := Int.emod_lt_of_pos b.pat (show (0 : Int) < 200 by decide); omega
  have HPK := Hf.mk (fun u => Pick_any b.pat 200 u (by decide) (by decide))
  rw [hP] at HPK
  have c40 := (Go.Joins.cell_of_block hbox 40).trans ((List.getElem?_toArray).trans (bg_all hl).2.2.2.2.1)
  have HK := Hf.mk (fun u => known_reads u)
  have HBX := Hf.mk hbox
  have HBB := Hf.mk hbx
  have HC40 := Hf.mk c40
  clear hP hbox hbx c40
  go_enter Try.func12, Try.ntmps12
  go_upto_region 1 with fail
  generalize hW0 : w.alloc (.cells b.cells.toArray 81) = W0 at *
  have hlt0 : w.heap.size < W0.heap.size := by rw [← hW0]; simp
  have HLT0 := Hf.mk hlt0
  clear hW0 hlt0
  go_upto_region 2 with (go_at_call 11; (with_reducible refine (HK.out _).mono ?_); rintro e w1 ⟨rfl, hb1⟩; have HB1 := Hf.mk hb1; clear hb1)
  have q40 := (HB1.out.cell (p := ⟨w.heap.size, 40, none⟩) HLT0.out).trans HC40.out
  have h1 := keptH HBX.out HB1.out
  have HH1 := Hf.mk h1
  have f40 := Go.Joins.unfrozen_of_block h1 40
  clear h1 HBX HC40
  go_upto_region 3 with (go_at_call 33; (with_reducible refine (HPK.out _).mono ?_); rintro e w' ⟨rfl, hw'⟩; subst hw')
  have h2 := Go.Joins.block_setCell (i := 40) HH1.out (.int .i64 (1 + (P : Int)))
  rw [bg_set hl] at h2
  have hbs := ((HBB.out.trans (HB1.out.mono HBB.out.size)).setCell (p := ⟨w.heap.size, 40, none⟩) (Nat.le_refl _) (.int .i64 (1 + (P : Int))))
  generalize w1.setCell ⟨w.heap.size, 40, none⟩ (.int .i64 (1 + (P : Int))) = W2 at *
  obtain ⟨Q, hQ⟩ : ∃ Q : Nat, 1 + P = Q := ⟨_, rfl⟩
  have hQ1 : 1 ≤ Q := by omega
  have hQ2 : Q ≤ 200 := by omega
  have hQ3 : (1 + (P : Int)) = (Q : Int) := by omega
  rw [hQ3] at h2
  have hl2 : ({ b with pat := (Q : Int) } : Bg).id.length = 32 := hl
  have hb2 : ∀ x ∈ ({ b with pat := (Q : Int) } : Bg).id, x < 256 := hb
  have hp2 : ({ b with pat := (Q : Int) } : Bg).pat = (Q : Int) := rfl
  generalize ({ b with pat := (Q : Int) } : Bg) = B at *
  clear hb hl hP2 hQ hQ3 q40 f40
  have H2 := Hf.mk h2
  have HW2 := Hf.mk hbs
  have HXS := Hf.mk hxs
  have HLW : Hf (w.heap.size < W2.heap.size) := ⟨(Array.getElem?_eq_some_iff.1 h2).1⟩
  obtain ⟨k0, k34, k35, k39, k40, kl⟩ := bg_all hl2
  obtain ⟨k33, k36, k37, k38, kid⟩ := bg_get hl2
  have HCS : Hf (∀ u : World, u.heap[w.heap.size]? = some (.cells B.cells.toArray 81 (0, 0)) → ∀ j v, B.cells[j]? = some v → u.cell? ⟨w.heap.size, j, none⟩ = some v) := ⟨fun u hu j v hv => (Go.Joins.cell_of_block hu j).trans ((List.getElem?_toArray).trans hv)⟩
  have q0 := HCS.out W2 H2.out 0 _ k0
  have q33 := HCS.out W2 H2.out 33 _ k33
  have q34 := HCS.out W2 H2.out 34 _ k34
  have q35 := HCS.out W2 H2.out 35 _ k35
  have q36 := HCS.out W2 H2.out 36 _ k36
  have q37 := HCS.out W2 H2.out 37 _ k37
  have q38 := HCS.out W2 H2.out 38 _ k38
  have q39 := HCS.out W2 H2.out 39 _ k39
  have q40 := HCS.out W2 H2.out 40 _ k40
  have HRI : Hf (W2.rangeAt w.heap.size 1 (cellsOf B.id)) := ⟨fun j v hv => HCS.out W2 H2.out (1 + j) v (kid j v hv)⟩
  have HSI : Hf ((Try.prog.info? 23).map (·.size) = some (cellsOf B.id).length) := ⟨by rw [cellsOf_length, hl2]; exact size23⟩
  have HKI := Hf.mk kid
  have HK40 := Hf.mk k40
  have HKL := Hf.mk kl
  have HP2 := Hf.mk hp2
  have HL2 := Hf.mk hl2
  have HB2 := Hf.mk hb2
  clear h2 hbs hxs k0 k33 k34 k35 k36 k37 k38 k39 k40 kid kl HH1 HB1 HBB HK HPK
  by_cases ok : newOk B.set B.me B.nodes B.copies B.cn B.cb B.cc B.retry B.pat
  · have HNW := Hf.mk (new_any B.set B.id B.me B.nodes B.copies B.cn B.cb B.cc B.retry B.pat W2 hl2 hb2 ok)
    have HOK := Hf.mk (ok_made hl2 hb2 ok)
    have HLG := Hf.mk (fun (u : World) (hu : Below w.heap.size w u) => long_any a len cap xs u (HXS.out.below hu))
    clear ok hl2 hb2 hp2
    go_upto_region 4 with (first
      | (refine wpList_load_midW (by rfl) 23 (.tmp 23) (by rfl) w.heap.size 1 (by rfl) (cellsOf B.id) _ HRI.out Try.underlying23 rfl HSI.out ?_)
      | (go_at_call 37; (with_reducible refine HNW.out.mono ?_); rintro e w3 ⟨p, a1, c1, a2, c2, rfl, hp, hr, hb3⟩; have HP := Hf.mk hp; have HR := Hf.mk hr; have HB3 := Hf.mk hb3; clear hp hr hb3))
    clear q0 q33 q34 q35 q36 q37 q38 q39 q40
    have HB3' := Hf.mk (below_step HW2.out HB3.out)
    go_wp2_with (go_at_call 48; (with_reducible refine (HLG.out _ HB3'.out).mono ?_); rintro e w4 ⟨r, rfl, hrf, hb4⟩; have HRF := Hf.mk hrf; have HB4 := Hf.mk hb4; clear hrf hb4)
    · go_ret
      exact ⟨rfl, below_step HB3'.out HB4.out⟩
    · obtain rfl : r = false := by assumption
      have hlong := HRF.out rfl
      have HRI0 : Hf (RI w w4 p a1 c1 a2 c2 B none 0 len 0 [] (madeR B.set B.id B.me B.nodes B.copies B.cn B.cb B.cc B.retry B.pat)) := ⟨{
        rat := ⟨none, 0, HR.out.below HB4.out⟩, ok := HOK.out, dat := by show (0 : Nat) ≤ 5000; decide, id := rfl, pat := rfl, far := .inl (Nat.zero_le _),
        beg := keptH (keptH H2.out HB3.out) HB4.out, bel := below_step HB3'.out HB4.out, en := given_nil _, et := AtT.nil _ _, hp := Nat.lt_of_lt_of_le HLW.out HP.out }⟩
      have hst0 : (madeR B.set B.id B.me B.nodes B.copies B.cn B.cb B.cc B.retry B.pat).st = 0 := rfl
      generalize madeR B.set B.id B.me B.nodes B.copies B.cn B.cb B.cc B.retry B.pat = R0 at HRI0 hst0
      have hov0 : R0.over = false := by unfold Rdr.over; rw [hst0]; rfl
      have hdn0 : R0.doneB = [] := by unfold Rdr.doneB; rw [hst0]; rfl
      rw [← hdn0] at HRI0
      obtain ⟨hlen, hacts⟩ := hlong
      have HAC := Hf.mk hacts
      have hqI : (Q : Int) ≤ 200 := by omega
      clear hacts HRF HB4 HB3 HB3' HP HR HOK HLG HNW H2 HW2 HLW HRI
      clear hst0
      have HDN0 := Hf.mk hdn0
      clear hdn0
      go_loopw [8, 9, 10] (fun vo ve i wr => ∃ (k : Nat) (R : Rdr) (E : Option Addr) (ec : Nat), k ≤ len + Q + 1 ∧ vo = .bool R.over ∧ ve = .slice E R.doneB.length ec ∧ i = .int .i64 k ∧ Hf (RI w wr p a1 c1 a2 c2 B E ec len k R.doneB R)) (fun _ _ i _ => len + Q + 1 - (intOf i).toNat)
      case atStart => exact ⟨0, R0, none, 0, by omega, by rw [hov0], by rw [HDN0.out]; rfl, rfl, HRI0⟩
      case round =>
        obtain ⟨k, R, E, ec, hk, rfl, rfl, rfl, HI⟩ := hrel
        clear HRI0 HDN0 hov0
        have q40 := HCS.out wr HI.out.beg 40 _ HK40.out
        rw [HP2.out] at q40
        by_cases hgo : k < len + Q + 1
        · have hgo2 : (k : Int) < (len : Int) + (Q : Int) + 1 := by omega
          obtain ⟨ov, hov⟩ : ∃ z, R.over = z := ⟨_, rfl⟩
          rw [hov]
          have HOE := Hf.mk hov
          clear hov
          go_upto_block 2 with fail
          go_cut [11] from 58 to 176 (fun v11 wx => ∃ (R' : Rdr) (n : Nat) (A : Option Addr) (c : Nat), v11 = .slice A n c ∧ Hf (RI w wx p a1 c1 a2 c2 B E ec len (k + 1) R.doneB R') ∧ Hf (ov = true → R' = R ∧ n = 0))
          case first =>
            obtain ⟨a3, c3, hr⟩ := HI.out.rat
            have HR := Hf.mk hr
            clear hr
            rcases (show k = len ∨ len < k ∨ k < len by omega) with hkl | hkl | hkl
            · subst hkl
              have HC : Hf (Calls Try.prog 39 #[.pointer (some ⟨p, 0, none⟩), .slice none 0 0, .bool false] wr (BegunN wr p a1 c1 a2 c2 (R.startR [] false) (R.startO [] false).length)) := ⟨start_rr HR.out HI.out.ok none 0 [] false (given_nil _) (by simp)⟩
              have HST := Hf.mk (stp_start (L := k) (i := k) HI.out.ok HI.out.dat (by omega) [] false (by simp))
              go_wp2_with (go_at_call 39; (with_reducible refine HC.out.mono ?_); rintro e w5 ⟨A5, c5, er, rfl, hlft⟩; have HLF := Hf.mk hlft; clear hlft)
              go_meet
              case rel => exact ⟨_, _, A5, c5, rfl, ⟨HI.out.step HST.out HLF.out⟩, ⟨fun h => HST.out.over (HOE.out.trans h)⟩⟩
            · have hkl2 : (len : Int) < (k : Int) := by omega
              have hkl3 : ¬ (k : Int) = (len : Int) := by omega
              have HC := Hf.mk (tick_rr HR.out HI.out.ok)
              have HST := Hf.mk (stp_tick (L := len) (i := k) HI.out.ok HI.out.dat HI.out.far (by omega))
              go_wp2_with (go_at_call 46; (with_reducible refine HC.out.mono ?_); rintro e w5 ⟨A5, c5, rfl, hlft⟩; have HLF := Hf.mk hlft; clear hlft)
              go_meet
              case rel => exact ⟨_, _, A5, c5, rfl, ⟨HI.out.step HST.out HLF.out⟩, ⟨fun h => HST.out.over (HOE.out.trans h)⟩⟩
            · have hkl2 : (k : Int) < (len : Int) := by omega
              have hkl3 : ¬ (k : Int) = (len : Int) := by omega
              have hkl4 : ¬ (len : Int) < (k : Int) := by omega
              have hb4w : ∀ b o, a = some ⟨b, o, none⟩ → b < w.heap.size := fun b o e => by
                obtain ⟨b', o', _, _, _, e', hlt', _⟩ := HXS.out.at hkl
                rw [e'] at e
                cases e
                exact hlt'
              obtain ⟨b4, o4, bA, bc, N, rfl, hlt, x0, x1, x2, _, hra, hgb, hn⟩ := (HXS.out.below HI.out.bel).at hkl
              obtain ⟨hac1, hac2⟩ := HAC.out k hkl
              have HRA := Hf.mk hra
              have HGB := Hf.mk hgb
              have HN := Hf.mk hn
              have HX1 := Hf.mk x1
              have HX2 := Hf.mk x2
              have HLT := Hf.mk hlt
              have hbp : b4 < p := Nat.lt_trans (hb4w _ _ rfl) HI.out.hp
              clear hb4w
              clear hra hgb hn hlt x1 x2
              generalize xs.getD k zAc = q at *
              obtain ⟨qk, hqk⟩ : ∃ z, q.kind = z := ⟨_, rfl⟩
              rw [hqk] at x0
              have HST3 := Hf.mk (stp_tick (L := len) (i := k) HI.out.ok HI.out.dat HI.out.far (by omega))
              by_cases h3 : qk = 3
              · subst h3
                have HC := Hf.mk (tick_rr HR.out HI.out.ok)
                go_wp2_with (go_at_call 46; (with_reducible refine HC.out.mono ?_); rintro e w5 ⟨A5, c5, rfl, hlft⟩; have HLF := Hf.mk hlft; clear hlft)
                go_meet
                case rel => exact ⟨_, _, A5, c5, rfl, ⟨HI.out.step HST3.out HLF.out⟩, ⟨fun h => HST3.out.over (HOE.out.trans h)⟩⟩
              · have h3b : (qk == 3) = false := beq_eq_false_iff_ne.2 h3
                by_cases h0 : qk = 0
                · subst h0
                  go_upto_region 17 with fail
                  have HD := Hf.mk ((Below.refl wr.heap.size wr).drew)
                  have HC := Hf.mk (start_rr (HR.out.below HD.out) HI.out.ok bA bc q.b q.has (HGB.out.below HD.out) (by omega))
                  have HST := Hf.mk (stp_start (L := len) (i := k) HI.out.ok HI.out.dat (by omega) q.b q.has (by omega))
                  have HID := Hf.mk (HI.out.below HD.out)
                  have HLB : Hf (b4 < wr.drew.heap.size ∧ b4 ≠ p) := ⟨Nat.lt_of_lt_of_le HLT.out (Nat.le_refl _), fun e => by have h1 := hbp; omega⟩
                  refine wp_region_held_drew (S := fun u => u.cell? ⟨b4, o4 + k * 52 + 1, none⟩ = some (.slice bA q.b.length bc) ∧ u.cell? ⟨b4, o4 + k * 52 + 2, none⟩ = some (.bool q.has)) (by kernel_rfl) ⟨HX1.out, HX2.out⟩ (fun hHeld => ?_)
                  clear HX1 HX2
                  generalize wr.drew = w2 at *
                  change wpAnyH _ _ _ _ _ 16 (Array.replicate 16 false) _ _
                  refine wpAnyH_take (i := 0) rfl (by kernel_rfl) (by kernel_rfl) (by kernel_rfl) (fun _ _ _ h => h) (Or.inl ⟨by rfl, (by intro u hSw; obtain ⟨s0, s1⟩ := hSw; go_simp; first | done | (with_reducible rfl))⟩) hHeld ?_
                  (try simp only [List.getElem_toArray, List.getElem_cons_succ, List.getElem_cons_zero, Act.put, List.setIfInBounds_toArray, List.set_cons_zero, List.set_cons_succ])
                  refine wpAnyH_take (i := 1) rfl (by kernel_rfl) (by kernel_rfl) (by kernel_rfl) (fun _ _ _ h => h) (Or.inl ⟨by rfl, (by intro u hSw; obtain ⟨s0, s1⟩ := hSw; go_simp; first | done | (with_reducible rfl))⟩) hHeld ?_
                  (try simp only [List.getElem_toArray, List.getElem_cons_succ, List.getElem_cons_zero, Act.put, List.setIfInBounds_toArray, List.set_cons_zero, List.set_cons_succ])
                  refine wpAnyH_take (i := 2) rfl (by kernel_rfl) (by kernel_rfl) (by kernel_rfl) (fun _ _ _ h => h) (Or.inl ⟨by rfl, (by intro u hSw; obtain ⟨s0, s1⟩ := hSw; go_simp; first | done | (with_reducible rfl))⟩) hHeld ?_
                  (try simp only [List.getElem_toArray, List.getElem_cons_succ, List.getElem_cons_zero, Act.put, List.setIfInBounds_toArray, List.set_cons_zero, List.set_cons_succ])
                  refine wpAnyH_take (i := 3) rfl (by kernel_rfl) (by kernel_rfl) (by kernel_rfl) (fun _ _ _ h => h) (Or.inl ⟨by rfl, (by intro u hSw; obtain ⟨s0, s1⟩ := hSw; go_simp; first | done | (with_reducible rfl))⟩) hHeld ?_
                  (try simp only [List.getElem_toArray, List.getElem_cons_succ, List.getElem_cons_zero, Act.put, List.setIfInBounds_toArray, List.set_cons_zero, List.set_cons_succ])
                  refine wpAnyH_take (i := 4) rfl (by kernel_rfl) (by kernel_rfl) (by kernel_rfl) (fun _ _ _ h => h) (Or.inl ⟨by rfl, (by intro u hSw; obtain ⟨s0, s1⟩ := hSw; go_simp; first | done | (with_reducible rfl))⟩) hHeld ?_
                  (try simp only [List.getElem_toArray, List.getElem_cons_succ, List.getElem_cons_zero, Act.put, List.setIfInBounds_toArray, List.set_cons_zero, List.set_cons_succ])
                  refine wpAnyH_take (i := 5) rfl (by kernel_rfl) (by kernel_rfl) (by kernel_rfl) (fun _ _ _ h => h) (Or.inl ⟨by rfl, (by intro u hSw; obtain ⟨s0, s1⟩ := hSw; go_simp; first | done | (with_reducible rfl))⟩) hHeld ?_
                  (try simp only [List.getElem_toArray, List.getElem_cons_succ, List.getElem_cons_zero, Act.put, List.setIfInBounds_toArray, List.set_cons_zero, List.set_cons_succ])
                  refine wpAnyH_take (i := 6) rfl (by kernel_rfl) (by kernel_rfl) (by kernel_rfl) (fun _ _ _ h => h) (Or.inl ⟨by rfl, (by intro u hSw; obtain ⟨s0, s1⟩ := hSw; go_simp; first | done | (with_reducible rfl))⟩) hHeld ?_
                  (try simp only [List.getElem_toArray, List.getElem_cons_succ, List.getElem_cons_zero, Act.put, List.setIfInBounds_toArray, List.set_cons_zero, List.set_cons_succ])
                  refine wpAnyH_take (i := 7) rfl (by kernel_rfl) (by kernel_rfl) (by kernel_rfl) (fun _ _ _ h => h) (Or.inl ⟨by rfl, (by intro u hSw; obtain ⟨s0, s1⟩ := hSw; go_simp; first | done | (with_reducible rfl))⟩) hHeld ?_
                  (try simp only [List.getElem_toArray, List.getElem_cons_succ, List.getElem_cons_zero, Act.put, List.setIfInBounds_toArray, List.set_cons_zero, List.set_cons_succ])
                  refine wpAnyH_take (i := 8) rfl (by kernel_rfl) (by kernel_rfl) (by kernel_rfl) (fun _ _ _ h => h) (Or.inl ⟨by rfl, (by intro u hSw; obtain ⟨s0, s1⟩ := hSw; go_simp; first | done | (with_reducible rfl))⟩) hHeld ?_
                  (try simp only [List.getElem_toArray, List.getElem_cons_succ, List.getElem_cons_zero, Act.put, List.setIfInBounds_toArray, List.set_cons_zero, List.set_cons_succ])
                  refine wpAnyH_take (i := 9) rfl (by kernel_rfl) (by kernel_rfl) (by kernel_rfl) (fun _ _ _ h => h) (Or.inl ⟨by rfl, (by intro u hSw; obtain ⟨s0, s1⟩ := hSw; go_simp; first | done | (with_reducible rfl))⟩) hHeld ?_
                  (try simp only [List.getElem_toArray, List.getElem_cons_succ, List.getElem_cons_zero, Act.put, List.setIfInBounds_toArray, List.set_cons_zero, List.set_cons_succ])
                  refine wpAnyH_take (i := 10) rfl (by kernel_rfl) (by kernel_rfl) (by kernel_rfl) (fun _ _ _ h => h) (Or.inl ⟨by rfl, (by intro u hSw; obtain ⟨s0, s1⟩ := hSw; go_simp; first | done | (with_reducible rfl))⟩) hHeld ?_
                  (try simp only [List.getElem_toArray, List.getElem_cons_succ, List.getElem_cons_zero, Act.put, List.setIfInBounds_toArray, List.set_cons_zero, List.set_cons_succ])
                  refine wpAnyH_ready (rs := [11]) (by kernel_rfl) (by simp) ?_
                  refine AllReadyH.cons rfl (fun K hK => ?_) AllReadyH.nil
                  go_simp
                  go_at_call 39
                  (with_reducible refine HC.out.mono ?_)
                  rintro e w5 ⟨A5, c5, er, rfl, hlft⟩
                  have HLF := Hf.mk hlft
                  have hk : w5.cell? ⟨b4, o4 + k * 52 + 1, none⟩ = some (.slice bA q.b.length bc) ∧ w5.cell? ⟨b4, o4 + k * 52 + 2, none⟩ = some (.bool q.has) := by
                    have hb := hlft.2.block b4 HLB.out.1 (fun e => by injection e with e; exact HLB.out.2 e)
                    exact ⟨(World.cell?_of_block (a := ⟨b4, o4 + k * 52 + 1, none⟩) hb).trans hHeld.1, (World.cell?_of_block (a := ⟨b4, o4 + k * 52 + 2, none⟩) hb).trans hHeld.2⟩
                  clear hlft hHeld
                  refine hK.out _ _ hk (fun hHeld => ?_)
                  clear hK K hk
                  (try simp only [List.getElem_toArray, List.getElem_cons_succ, List.getElem_cons_zero, Act.put, List.setIfInBounds_toArray, List.set_cons_zero, List.set_cons_succ])
                  refine wpAnyH_take (i := 12) rfl (by kernel_rfl) (by kernel_rfl) (by kernel_rfl) (fun _ _ _ h => h) (Or.inl ⟨by rfl, (by intro u hSw; obtain ⟨s0, s1⟩ := hSw; go_simp; first | done | (with_reducible rfl))⟩) hHeld ?_
                  (try simp only [List.getElem_toArray, List.getElem_cons_succ, List.getElem_cons_zero, Act.put, List.setIfInBounds_toArray, List.set_cons_zero, List.set_cons_succ])
                  refine wpAnyH_take (i := 13) rfl (by kernel_rfl) (by kernel_rfl) (by kernel_rfl) (fun _ _ _ h => h) (Or.inl ⟨by rfl, (by intro u hSw; obtain ⟨s0, s1⟩ := hSw; go_simp; first | done | (with_reducible rfl))⟩) hHeld ?_
                  (try simp only [List.getElem_toArray, List.getElem_cons_succ, List.getElem_cons_zero, Act.put, List.setIfInBounds_toArray, List.set_cons_zero, List.set_cons_succ])
                  refine wpAnyH_take (i := 14) rfl (by kernel_rfl) (by kernel_rfl) (by kernel_rfl) (fun _ _ _ h => h) (Or.inl ⟨by rfl, (by intro u hSw; obtain ⟨s0, s1⟩ := hSw; go_simp; first | done | (with_reducible rfl))⟩) hHeld ?_
                  (try simp only [List.getElem_toArray, List.getElem_cons_succ, List.getElem_cons_zero, Act.put, List.setIfInBounds_toArray, List.set_cons_zero, List.set_cons_succ])
                  refine wpAnyH_take (i := 15) rfl (by kernel_rfl) (by kernel_rfl) (by kernel_rfl) (fun _ _ _ h => h) (Or.inl ⟨by rfl, (by intro u hSw; obtain ⟨s0, s1⟩ := hSw; go_simp; first | done | (with_reducible rfl))⟩) hHeld ?_
                  (try simp only [List.getElem_toArray, List.getElem_cons_succ, List.getElem_cons_zero, Act.put, List.setIfInBounds_toArray, List.set_cons_zero, List.set_cons_succ])
                  refine wpAnyH_done (by kernel_rfl) ?_ _
                  clear hHeld
                  go_wp2
                  go_meet
                  case rel => exact ⟨_, _, A5, c5, rfl, ⟨HID.out.step HST.out HLF.out⟩, ⟨fun h => HST.out.over (HOE.out.trans h)⟩⟩
                · have h0b : (qk == 0) = false := beq_eq_false_iff_ne.2 h0
                  by_cases h12 : qk = 1 ∨ qk = 2
                  · have HNT := Hf.mk (note_any q bA bc N B)
                    have HBC : Hf (wr.rangeAt w.heap.size 0 B.cells) := ⟨fun j v hv => by rw [Nat.zero_add]; exact HCS.out wr HI.out.beg j v hv⟩
                    have HZ85 : Hf ((Try.prog.info? 85).map (·.size) = some (acC q bA bc N).length) := ⟨by unfold acC; rw [List.length_cons, List.length_cons, List.length_cons, List.length_append, HN.out.len]; kernel_rfl⟩
                    have HZ81 : Hf ((Try.prog.info? 81).map (·.size) = some B.cells.length) := ⟨by rw [HKL.out]; kernel_rfl⟩
                    have HD := Hf.mk ((Below.refl wr.heap.size wr).drew)
                    have HND := Hf.mk (HN.out.below HD.out)
                    have HID := Hf.mk (HI.out.below HD.out)
                    have HRD := Hf.mk (HR.out.below HD.out)
                    have HBI := Hf.mk HB2.out
                    have HL := Hf.mk HL2.out
                    have HNC : Hf (∀ u, NtF u N q.x → Calls Try.prog 49 #[.agg (acC q bA bc N).toArray, .agg B.cells.toArray] u fun e w' => ∃ N', e = .returned (.agg N'.toArray) ∧ NtF w' N' (noteQ q B) ∧ Below u.heap.size u w') := ⟨fun u hu => HNT.out u hu HL.out HBI.out⟩
                    have hnd : (noteQ q B).d.length ≤ 5000 := by unfold noteQ; split <;> (show q.x.d.length ≤ 5000) <;> omega
                    have HST := Hf.mk (stp_take (L := len) (i := k) HI.out.ok HI.out.dat hkl (noteQ q B) hnd)
                    have HNQ := Hf.mk hnd
                    clear hnd HNT
                    generalize acC q bA bc N = ac at *
                    generalize B.cells = bs at *
                    have HS0 : Hf (wr.rangeAt b4 (o4 + k * 52) ac ∧ wr.rangeAt w.heap.size 0 bs) := ⟨⟨HRA.out, HBC.out⟩⟩
                    rcases h12 with h1 | h1
                    all_goals
                      subst h1
                      go_upto_region 19 with fail
                      have hwp := HI.out.hp
                      refine wp_region_held_drew (S := fun u => u.rangeAt b4 (o4 + k * 52) ac ∧ u.rangeAt w.heap.size 0 bs) (by kernel_rfl) HS0.out (fun hHeld => ?_)
                      clear HRA HBC HS0
                      have HLB : Hf (b4 < wr.drew.heap.size ∧ b4 ≠ p ∧ w.heap.size < wr.drew.heap.size ∧ w.heap.size ≠ p) := ⟨HLT.out, fun e => by omega, (Array.getElem?_eq_some_iff.1 HID.out.beg).1, fun e => by omega⟩
                      generalize wr.drew = w2 at *
                      change wpAnyH _ _ _ _ _ 9 (Array.replicate 9 false) _ _
                      refine wpAnyH_take (i := 0) rfl (by kernel_rfl) (by kernel_rfl) (by kernel_rfl) (fun _ _ _ h => h) (Or.inl ⟨by rfl, (by intro u hSw; go_simp; first | done | (with_reducible rfl))⟩) hHeld ?_
                      (try simp only [List.getElem_toArray, List.getElem_cons_succ, List.getElem_cons_zero, Act.put, List.setIfInBounds_toArray, List.set_cons_zero, List.set_cons_succ])
                      refine wpAnyH_take (i := 1) rfl (by kernel_rfl) (by kernel_rfl) (by kernel_rfl) (fun _ _ _ h => h) (Or.inl ⟨by rfl, (by intro u hSw; go_simp; first | done | (with_reducible rfl))⟩) hHeld ?_
                      (try simp only [List.getElem_toArray, List.getElem_cons_succ, List.getElem_cons_zero, Act.put, List.setIfInBounds_toArray, List.set_cons_zero, List.set_cons_succ])
                      refine wpAnyH_take (i := 2) rfl (by kernel_rfl) (by kernel_rfl) (by kernel_rfl) (fun _ _ _ h => h) (Or.inl ⟨by rfl, (by intro u hSw; go_simp; first | done | (with_reducible rfl))⟩) hHeld ?_
                      (try simp only [List.getElem_toArray, List.getElem_cons_succ, List.getElem_cons_zero, Act.put, List.setIfInBounds_toArray, List.set_cons_zero, List.set_cons_succ])
                      refine wpAnyH_take (i := 3) rfl (by kernel_rfl) (by kernel_rfl) (by kernel_rfl) (fun _ _ _ h => h) (Or.inl ⟨by rfl, (by intro u hSw; go_simp; first | done | (with_reducible rfl))⟩) hHeld ?_
                      (try simp only [List.getElem_toArray, List.getElem_cons_succ, List.getElem_cons_zero, Act.put, List.setIfInBounds_toArray, List.set_cons_zero, List.set_cons_succ])
                      refine wpAnyH_take (i := 4) rfl (by kernel_rfl) (by kernel_rfl) (by kernel_rfl) (fun _ _ _ h => h) (yieldsIf_load_mid (by rfl) 85 (.tmp 133) (by rfl) b4 (o4 + k * 52) (by rfl) ac _ (fun u hu => hu.1) Try.underlying85 rfl HZ85.out) hHeld ?_
                      (try simp only [List.getElem_toArray, List.getElem_cons_succ, List.getElem_cons_zero, Act.put, List.setIfInBounds_toArray, List.set_cons_zero, List.set_cons_succ])
                      refine wpAnyH_take (i := 5) rfl (by kernel_rfl) (by kernel_rfl) (by kernel_rfl) (fun _ _ _ h => h) (yieldsIf_load_mid (by rfl) 81 (.tmp 2) (by rfl) w.heap.size 0 (by rfl) bs _ (fun u hu => hu.2) Try.underlying81 rfl HZ81.out) hHeld ?_
                      (try simp only [List.getElem_toArray, List.getElem_cons_succ, List.getElem_cons_zero, Act.put, List.setIfInBounds_toArray, List.set_cons_zero, List.set_cons_succ])
                      refine wpAnyH_ready (rs := [6]) (by kernel_rfl) (by simp) ?_
                      refine AllReadyH.cons rfl (fun K hK => ?_) AllReadyH.nil
                      go_simp
                      go_at_call 49
                      (with_reducible refine (HNC.out _ HND.out).mono ?_)
                      rintro e w5 ⟨N', rfl, hn, hb5⟩
                      have HN5 := Hf.mk hn
                      have HI5 := Hf.mk (HID.out.below hb5)
                      have HC5 := Hf.mk (take_rr (HRD.out.below hb5) HI.out.ok hn HNQ.out)
                      have hk : w5.rangeAt b4 (o4 + k * 52) ac ∧ w5.rangeAt w.heap.size 0 bs := ⟨fun j v hv => (hb5.cell (p := ⟨b4, o4 + k * 52 + j, none⟩) HLB.out.1).trans (hHeld.1 j v hv), fun j v hv => (hb5.cell (p := ⟨w.heap.size, 0 + j, none⟩) HLB.out.2.2.1).trans (hHeld.2 j v hv)⟩
                      have HL5 : Hf (b4 < w5.heap.size ∧ w.heap.size < w5.heap.size) := ⟨Nat.lt_of_lt_of_le HLB.out.1 hb5.size, Nat.lt_of_lt_of_le HLB.out.2.2.1 hb5.size⟩
                      clear hn hb5 hHeld
                      refine hK.out _ _ hk (fun hHeld => ?_)
                      clear hK K hk
                      (try simp only [List.getElem_toArray, List.getElem_cons_succ, List.getElem_cons_zero, Act.put, List.setIfInBounds_toArray, List.set_cons_zero, List.set_cons_succ])
                      refine wpAnyH_ready (rs := [7]) (by kernel_rfl) (by simp) ?_
                      refine AllReadyH.cons rfl (fun K hK => ?_) AllReadyH.nil
                      go_simp
                      go_at_call 41
                      (with_reducible refine HC5.out.mono ?_)
                      rintro e w6 ⟨A6, c6, rfl, hlft⟩
                      have HLF := Hf.mk hlft
                      have hk : w6.rangeAt b4 (o4 + k * 52) ac ∧ w6.rangeAt w.heap.size 0 bs := by
                        have h1 := hlft.2.block b4 HL5.out.1 (fun e => by injection e with e; exact HLB.out.2.1 e)
                        have h2 := hlft.2.block w.heap.size HL5.out.2 (fun e => by injection e with e; exact HLB.out.2.2.2 e)
                        exact ⟨fun j v hv => (World.cell?_of_block (a := ⟨b4, o4 + k * 52 + j, none⟩) h1).trans (hHeld.1 j v hv), fun j v hv => (World.cell?_of_block (a := ⟨w.heap.size, 0 + j, none⟩) h2).trans (hHeld.2 j v hv)⟩
                      clear hlft hHeld
                      refine hK.out _ _ hk (fun hHeld => ?_)
                      clear hK K hk
                      (try simp only [List.getElem_toArray, List.getElem_cons_succ, List.getElem_cons_zero, Act.put, List.setIfInBounds_toArray, List.set_cons_zero, List.set_cons_succ])
                      refine wpAnyH_take (i := 8) rfl (by kernel_rfl) (by kernel_rfl) (by kernel_rfl) (fun _ _ _ h => h) (Or.inl ⟨by rfl, (by intro u hSw; go_simp; first | done | (with_reducible rfl))⟩) hHeld ?_
                      (try simp only [List.getElem_toArray, List.getElem_cons_succ, List.getElem_cons_zero, Act.put, List.setIfInBounds_toArray, List.set_cons_zero, List.set_cons_succ])
                      refine wpAnyH_done (by kernel_rfl) ?_ _
                      clear hHeld
                      go_wp2
                      go_meet
                      case rel => exact ⟨_, _, A6, c6, rfl, ⟨HI5.out.step HST.out HLF.out⟩, ⟨fun h => HST.out.over (HOE.out.trans h)⟩⟩
                  · have h1 : ¬ qk = 1 := fun e => h12 (.inl e)
                    have h2 : ¬ qk = 2 := fun e => h12 (.inr e)
                    have h1b : (qk == 1) = false := beq_eq_false_iff_ne.2 h1
                    have h2b : (qk == 2) = false := beq_eq_false_iff_ne.2 h2
                    have HST := Hf.mk (stp_none (L := len) (i := k) HI.out.ok HI.out.dat hkl)
                    go_wp2
                    go_meet
                    case rel => exact ⟨R, 0, none, 0, rfl, ⟨HI.out.step HST.out ⟨⟨a3, c3, HR.out⟩, World.grownBy.refl _ _⟩⟩, ⟨fun h => HST.out.over (HOE.out.trans h)⟩⟩
          case rest =>
            obtain ⟨R', n, A, c, rfl, HJ, HOV⟩ := hcut
            clear HI
            obtain ⟨a3, c3, hr⟩ := HJ.out.rat
            obtain ⟨is, his⟩ : ∃ z, (R'.st == 2) = z := ⟨_, rfl⟩
            have HD := Hf.mk (rdone_rr hr HJ.out.ok.me1 (Nat.le_trans HJ.out.dat (by decide)) HJ.out.ok.st4)
            rw [his] at HD
            have HIS := Hf.mk his
            have HR := Hf.mk hr
            have HOVE := Hf.mk (over_err HJ.out.ok)
            clear hr his
            go_upto_region 21 with (go_at_call 42; (with_reducible refine HD.out.mono ?_); rintro e w6 ⟨A', c', rfl, hg, ht, hb6⟩; have HGD := Hf.mk hg; have HTD := Hf.mk ht; have HB6 := Hf.mk hb6; clear hg ht hb6)
            have HJ6 := Hf.mk (HJ.out.below HB6.out)
            have HR6 := Hf.mk (HR.out.below HB6.out)
            clear HJ HR HD HB6 q40
            have HE40 : Hf (∀ args u, (callFunc 40 args).run Try.prog u = .ok (.enter 40 args) u) := ⟨enters_of Try.func40 (by kernel_rfl) rfl⟩
            have HE38 : Hf (∀ args u, (callFunc 38 args).run Try.prog u = .ok (.enter 38 args) u) := ⟨enters_of Try.func38 (by kernel_rfl) rfl⟩
            have HE43 : Hf (∀ args u, (callFunc 43 args).run Try.prog u = .ok (.enter 43 args) u) := ⟨enters_of Try.func43 (by kernel_rfl) rfl⟩
            have HC1 : Hf (∀ u, Below w6.heap.size w6 u → u.rangeAt w.heap.size 1 (cellsOf B.id)) := ⟨fun u hu j v hv => HCS.out u (keptH HJ6.out.beg hu) (1 + j) v (HKI.out j v hv)⟩
            have HS1 : Hf ((Try.prog.info? 23).map (·.size) = some (cellsOf B.id).length) := ⟨by rw [cellsOf_length, HL2.out]; exact size23⟩
            have HFB : Hf (∀ u, Below w6.heap.size w6 u → Calls Try.prog 43 #[.pointer (some ⟨p, 0, none⟩)] u fun e w' => e = .returned (.int .i64 R'.err) ∧ w' = u) := ⟨fun u hu => rfailed_any (HR6.out.below hu) HJ6.out.ok.me1⟩
            have hnq := fun u => run_neq_ids B.id B.id u HL2.out HL2.out HB2.out HB2.out
            rw [decide_eq_true (rfl : B.id = B.id)] at hnq
            have HSS : Hf (is = true → ∀ u, Below w6.heap.size w6 u → Calls Try.prog 38 #[.slice A' R'.doneB.length c'] u fun e w' => e = .returned (.agg (cellsOf B.id).toArray) ∧ Below w6.heap.size w6 w') := ⟨fun hi u hu => by
              have hs : R'.st = 2 := beq_iff_eq.1 (HIS.out.trans hi)
              have h1 := (doneB_sum HJ6.out.ok hs).1.trans HJ6.out.id
              rw [← h1]
              exact (sum_any A' c' R'.doneB u (HGD.out.below hu) (Nat.le_trans (doneB_len HJ6.out.dat) (by decide))).mono fun e w' hh => ⟨hh.1, below_step hu hh.2⟩⟩
            have HSE : Hf (is = true → R'.err = 0) := ⟨fun hi => (doneB_sum HJ6.out.ok (beq_iff_eq.1 (HIS.out.trans hi))).2⟩
            have HQB : Hf (R'.doneB = R.doneB → ∀ u, Below w6.heap.size w6 u → Calls Try.prog 40 #[.slice A' R'.doneB.length c', .slice E R.doneB.length ec] u fun e w' => e = .returned (.bool true) ∧ Below w6.heap.size w6 w') := ⟨fun h u hu => (sameBytes_any A' E c' ec R'.doneB R.doneB u (HGD.out.below hu) (HJ6.out.en.below hu)).mono fun e w' hh => ⟨by rw [hh.1, decide_eq_true h], by rw [hh.2]; exact hu⟩⟩
            obtain ⟨cs, hcs⟩ : ∃ z, cellsOf B.id = z := ⟨_, rfl⟩
            rw [hcs] at HC1 HS1 hnq HSS
            clear hcs
            rw [HIS.out] at HOVE
            clear HIS
            cases ov with
            | true =>
              obtain ⟨e1, e2⟩ := HOV.out rfl
              subst e2
              have HSB := Hf.mk (HQB.out (by rw [e1]))
              clear e1
              clear HQB HOV
              cases is with
              | true =>
                have HSM := Hf.mk (HSS.out rfl)
                have he0 := HSE.out rfl
                have HFA : Hf (∀ u, Below w6.heap.size w6 u → Calls Try.prog 43 #[.pointer (some ⟨p, 0, none⟩)] u fun e w' => e = .returned (.int .i64 0) ∧ Below w6.heap.size w6 w') := ⟨fun u hu => (HFB.out u hu).mono fun e w' hh => ⟨by rw [hh.1, he0], by rw [hh.2]; exact hu⟩⟩
                have HOVR : Hf (R'.over = true) := ⟨HOVE.out.symm.trans rfl⟩
                clear he0 HSS HSE HFB
                refine wp_region_quiet (C := fun W' => Below w6.heap.size w6 W') (by kernel_rfl) (by kernel_rfl) (Below.refl _ _).drew ?_
                simp only [List.toList_toArray]
                (first | go_big_quiet_skip | (go_big_quiet_want; go_big_quiet_op; first | go_big_quiet_on | (refine ⟨_, fun _ _ => rfl, ?_⟩; go_big_quiet_on)))
                (first | go_big_quiet_skip | (go_big_quiet_want; go_big_quiet_op; first | go_big_quiet_on | (refine ⟨_, fun _ _ => rfl, ?_⟩; go_big_quiet_on)))
                (first | go_big_quiet_skip | (go_big_quiet_want; go_big_quiet_op; first | go_big_quiet_on | (refine ⟨_, fun _ _ => rfl, ?_⟩; go_big_quiet_on)))
                (first | go_big_quiet_skip | (go_big_quiet_want; go_big_quiet_op; first | go_big_quiet_on | (refine ⟨_, fun _ _ => rfl, ?_⟩; go_big_quiet_on)))
                (first | go_big_quiet_skip | (go_big_quiet_want; go_big_quiet_op; first | go_big_quiet_on | (refine ⟨_, fun _ _ => rfl, ?_⟩; go_big_quiet_on)))
                (first | go_big_quiet_skip | (go_big_quiet_want; go_big_quiet_op; first | go_big_quiet_on | (refine ⟨_, fun _ _ => rfl, ?_⟩; go_big_quiet_on)))
                (first | go_big_quiet_skip | (go_big_quiet_want; go_big_quiet_op; first | go_big_quiet_on | (refine ⟨_, fun _ _ => rfl, ?_⟩; go_big_quiet_on)))
                (first | go_big_quiet_skip | (go_big_quiet_want; go_big_quiet_op; first | go_big_quiet_on | (refine ⟨_, fun _ _ => rfl, ?_⟩; go_big_quiet_on)))
                refine qstep_call (by rfl) 40 #[.tmp 149, .tmp 150] #[54, 54] rfl #[.slice A' R'.doneB.length c', .slice E R.doneB.length ec] (by simp [Act.eval, Act.put]) (.bool true) HE40.out HSB.out ?_
                simp only [Act.put, List.setIfInBounds_toArray, List.set_cons_zero, List.set_cons_succ]; (first | go_big_quiet_skip | (go_big_quiet_want; go_big_quiet_op; first | go_big_quiet_on | (refine ⟨_, fun _ _ => rfl, ?_⟩; go_big_quiet_on)))
                (first | go_big_quiet_skip | (go_big_quiet_want; go_big_quiet_op; first | go_big_quiet_on | (refine ⟨_, fun _ _ => rfl, ?_⟩; go_big_quiet_on)))
                (first | go_big_quiet_skip | (go_big_quiet_want; go_big_quiet_op; first | go_big_quiet_on | (refine ⟨_, fun _ _ => rfl, ?_⟩; go_big_quiet_on)))
                (first | go_big_quiet_skip | (go_big_quiet_want; go_big_quiet_op; first | go_big_quiet_on | (refine ⟨_, fun _ _ => rfl, ?_⟩; go_big_quiet_on)))
                (first | go_big_quiet_skip | (go_big_quiet_want; go_big_quiet_op; first | go_big_quiet_on | (refine ⟨_, fun _ _ => rfl, ?_⟩; go_big_quiet_on)))
                (first | go_big_quiet_skip | (go_big_quiet_want; go_big_quiet_op; first | go_big_quiet_on | (refine ⟨_, fun _ _ => rfl, ?_⟩; go_big_quiet_on)))
                (first | go_big_quiet_skip | (go_big_quiet_want; go_big_quiet_op; first | go_big_quiet_on | (refine ⟨_, fun _ _ => rfl, ?_⟩; go_big_quiet_on)))
                refine qstep_call (by rfl) 38 #[.tmp 158] #[54] rfl #[.slice A' R'.doneB.length c'] (by simp [Act.eval, Act.put]) (.agg cs.toArray) HE38.out HSM.out ?_
                simp only [Act.put, List.setIfInBounds_toArray, List.set_cons_zero, List.set_cons_succ]; (first | go_big_quiet_skip | (go_big_quiet_want; go_big_quiet_op; first | go_big_quiet_on | (refine ⟨_, fun _ _ => rfl, ?_⟩; go_big_quiet_on)))
                refine qstep_loadm (by rfl) 23 (.tmp 160) (by rfl) w.heap.size 1 (by rfl) cs _ HC1.out Try.underlying23 rfl HS1.out ?_
                simp only [Act.put, List.setIfInBounds_toArray, List.set_cons_zero, List.set_cons_succ]; (first | go_big_quiet_skip | (go_big_quiet_want; go_big_quiet_op; first | go_big_quiet_on | (refine ⟨_, fun _ _ => rfl, ?_⟩; go_big_quiet_on)))
                (first | go_big_quiet_skip | (go_big_quiet_want; go_big_quiet_op; first | go_big_quiet_on | (refine ⟨_, fun _ _ => rfl, ?_⟩; go_big_quiet_on)))
                (first | go_big_quiet_skip | (go_big_quiet_want; go_big_quiet_op; first | go_big_quiet_on | (refine ⟨_, fun _ _ => rfl, ?_⟩; go_big_quiet_on)))
                refine qstep_call (by rfl) 43 #[.tmp 164] #[57] rfl #[.pointer (some ⟨p, 0, none⟩)] (by simp [Act.eval, Act.put]) (.int .i64 0) HE43.out HFA.out ?_
                simp only [Act.put, List.setIfInBounds_toArray, List.set_cons_zero, List.set_cons_succ]; (first | go_big_quiet_skip | (go_big_quiet_want; go_big_quiet_op; first | go_big_quiet_on | (refine ⟨_, fun _ _ => rfl, ?_⟩; go_big_quiet_on)))
                (first | go_big_quiet_skip | (go_big_quiet_want; go_big_quiet_op; first | go_big_quiet_on | (refine ⟨_, fun _ _ => rfl, ?_⟩; go_big_quiet_on)))
                (first | go_big_quiet_skip | (go_big_quiet_want; go_big_quiet_op; first | go_big_quiet_on | (refine ⟨_, fun _ _ => rfl, ?_⟩; go_big_quiet_on)))
                (first | go_big_quiet_skip | (go_big_quiet_want; go_big_quiet_op; first | go_big_quiet_on | (refine ⟨_, fun _ _ => rfl, ?_⟩; go_big_quiet_on)))
                refine wpQuiet_nil ?_
                intro w7 hb7
                have HB7 := Hf.mk hb7
                clear hb7
                go_wp2
                go_roundw
                case rel => exact ⟨k + 1, R', A', c', by omega, by rw [HOVR.out], rfl, by go_num, ⟨(HJ6.out.below HB7.out).told (HGD.out.below HB7.out) (HTD.out.keep (fun ad ha => HB7.out.block _ (HTD.out.lt ha)))⟩⟩
                case measure => simp [intOf]; omega
              | false =>
                have HOVS : Hf ((R'.err != 0) = R'.over) := ⟨by have := HOVE.out; rwa [Bool.false_or] at this⟩
                clear HSS HSE
                refine wp_region_quiet (C := fun W' => Below w6.heap.size w6 W') (by kernel_rfl) (by kernel_rfl) (Below.refl _ _).drew ?_
                simp only [List.toList_toArray]
                (first | go_big_quiet_skip | (go_big_quiet_want; go_big_quiet_op; first | go_big_quiet_on | (refine ⟨_, fun _ _ => rfl, ?_⟩; go_big_quiet_on)))
                (first | go_big_quiet_skip | (go_big_quiet_want; go_big_quiet_op; first | go_big_quiet_on | (refine ⟨_, fun _ _ => rfl, ?_⟩; go_big_quiet_on)))
                (first | go_big_quiet_skip | (go_big_quiet_want; go_big_quiet_op; first | go_big_quiet_on | (refine ⟨_, fun _ _ => rfl, ?_⟩; go_big_quiet_on)))
                (first | go_big_quiet_skip | (go_big_quiet_want; go_big_quiet_op; first | go_big_quiet_on | (refine ⟨_, fun _ _ => rfl, ?_⟩; go_big_quiet_on)))
                (first | go_big_quiet_skip | (go_big_quiet_want; go_big_quiet_op; first | go_big_quiet_on | (refine ⟨_, fun _ _ => rfl, ?_⟩; go_big_quiet_on)))
                (first | go_big_quiet_skip | (go_big_quiet_want; go_big_quiet_op; first | go_big_quiet_on | (refine ⟨_, fun _ _ => rfl, ?_⟩; go_big_quiet_on)))
                (first | go_big_quiet_skip | (go_big_quiet_want; go_big_quiet_op; first | go_big_quiet_on | (refine ⟨_, fun _ _ => rfl, ?_⟩; go_big_quiet_on)))
                (first | go_big_quiet_skip | (go_big_quiet_want; go_big_quiet_op; first | go_big_quiet_on | (refine ⟨_, fun _ _ => rfl, ?_⟩; go_big_quiet_on)))
                refine qstep_call (by rfl) 40 #[.tmp 149, .tmp 150] #[54, 54] rfl #[.slice A' R'.doneB.length c', .slice E R.doneB.length ec] (by simp [Act.eval, Act.put]) (.bool true) HE40.out HSB.out ?_
                simp only [Act.put, List.setIfInBounds_toArray, List.set_cons_zero, List.set_cons_succ]; (first | go_big_quiet_skip | (go_big_quiet_want; go_big_quiet_op; first | go_big_quiet_on | (refine ⟨_, fun _ _ => rfl, ?_⟩; go_big_quiet_on)))
                (first | go_big_quiet_skip | (go_big_quiet_want; go_big_quiet_op; first | go_big_quiet_on | (refine ⟨_, fun _ _ => rfl, ?_⟩; go_big_quiet_on)))
                (first | go_big_quiet_skip | (go_big_quiet_want; go_big_quiet_op; first | go_big_quiet_on | (refine ⟨_, fun _ _ => rfl, ?_⟩; go_big_quiet_on)))
                (first | go_big_quiet_skip | (go_big_quiet_want; go_big_quiet_op; first | go_big_quiet_on | (refine ⟨_, fun _ _ => rfl, ?_⟩; go_big_quiet_on)))
                (first | go_big_quiet_skip | (go_big_quiet_want; go_big_quiet_op; first | go_big_quiet_on | (refine ⟨_, fun _ _ => rfl, ?_⟩; go_big_quiet_on)))
                (first | go_big_quiet_skip | (go_big_quiet_want; go_big_quiet_op; first | go_big_quiet_on | (refine ⟨_, fun _ _ => rfl, ?_⟩; go_big_quiet_on)))
                (first | go_big_quiet_skip | (go_big_quiet_want; go_big_quiet_op; first | go_big_quiet_on | (refine ⟨_, fun _ _ => rfl, ?_⟩; go_big_quiet_on)))
                (first | go_big_quiet_skip | (go_big_quiet_want; go_big_quiet_op; first | go_big_quiet_on | (refine ⟨_, fun _ _ => rfl, ?_⟩; go_big_quiet_on)))
                (first | go_big_quiet_skip | (go_big_quiet_want; go_big_quiet_op; first | go_big_quiet_on | (refine ⟨_, fun _ _ => rfl, ?_⟩; go_big_quiet_on)))
                (first | go_big_quiet_skip | (go_big_quiet_want; go_big_quiet_op; first | go_big_quiet_on | (refine ⟨_, fun _ _ => rfl, ?_⟩; go_big_quiet_on)))
                (first | go_big_quiet_skip | (go_big_quiet_want; go_big_quiet_op; first | go_big_quiet_on | (refine ⟨_, fun _ _ => rfl, ?_⟩; go_big_quiet_on)))
                (first | go_big_quiet_skip | (go_big_quiet_want; go_big_quiet_op; first | go_big_quiet_on | (refine ⟨_, fun _ _ => rfl, ?_⟩; go_big_quiet_on)))
                (first | go_big_quiet_skip | (go_big_quiet_want; go_big_quiet_op; first | go_big_quiet_on | (refine ⟨_, fun _ _ => rfl, ?_⟩; go_big_quiet_on)))
                (first | go_big_quiet_skip | (go_big_quiet_want; go_big_quiet_op; first | go_big_quiet_on | (refine ⟨_, fun _ _ => rfl, ?_⟩; go_big_quiet_on)))
                (first | go_big_quiet_skip | (go_big_quiet_want; go_big_quiet_op; first | go_big_quiet_on | (refine ⟨_, fun _ _ => rfl, ?_⟩; go_big_quiet_on)))
                (first | go_big_quiet_skip | (go_big_quiet_want; go_big_quiet_op; first | go_big_quiet_on | (refine ⟨_, fun _ _ => rfl, ?_⟩; go_big_quiet_on)))
                (first | go_big_quiet_skip | (go_big_quiet_want; go_big_quiet_op; first | go_big_quiet_on | (refine ⟨_, fun _ _ => rfl, ?_⟩; go_big_quiet_on)))
                (first | go_big_quiet_skip | (go_big_quiet_want; go_big_quiet_op; first | go_big_quiet_on | (refine ⟨_, fun _ _ => rfl, ?_⟩; go_big_quiet_on)))
                refine wpQuiet_nil ?_
                intro w7 hb7
                have HB7 := Hf.mk hb7
                clear hb7
                have HF7 := Hf.mk (HFB.out w7 HB7.out)
                by_cases he : R'.err = 0
                · have hov2 : R'.over = false := by rw [← HOVS.out, he]; rfl
                  rw [he] at HF7
                  have HOV2 := Hf.mk hov2
                  clear hov2 he
                  go_wp2_with (go_at_call 43; (with_reducible refine HF7.out.mono ?_); rintro e w8 ⟨rfl, hw8⟩; have hw8 := hw8.symm; subst hw8)
                  go_roundw
                  case rel => exact ⟨k + 1, R', A', c', by omega, by rw [HOV2.out], rfl, by go_num, ⟨(HJ6.out.below HB7.out).told (HGD.out.below HB7.out) (HTD.out.keep (fun ad ha => HB7.out.block _ (HTD.out.lt ha)))⟩⟩
                  case measure => simp [intOf]; omega
                · have hov2 : R'.over = true := by rw [← HOVS.out]; exact bne_iff_ne.2 he
                  have HOV2 := Hf.mk hov2
                  obtain ⟨er, her⟩ : ∃ z, R'.err = z := ⟨_, rfl⟩
                  rw [her] at HF7 he
                  have he1 : (er == 0) = false := beq_eq_false_iff_ne.2 he
                  have he2 : (er != 0) = true := bne_iff_ne.2 he
                  clear hov2 he her
                  go_wp2_with (go_at_call 43; (with_reducible refine HF7.out.mono ?_); rintro e w8 ⟨rfl, hw8⟩; have hw8 := hw8.symm; subst hw8)
                  go_roundw
                  case rel => exact ⟨k + 1, R', A', c', by omega, by rw [HOV2.out], rfl, by go_num, ⟨(HJ6.out.below HB7.out).told (HGD.out.below HB7.out) (HTD.out.keep (fun ad ha => HB7.out.block _ (HTD.out.lt ha)))⟩⟩
                  case measure => simp [intOf]; omega
            | false =>
              clear HQB HOV
              cases is with
              | true =>
                have HSM := Hf.mk (HSS.out rfl)
                have he0 := HSE.out rfl
                have HFA : Hf (∀ u, Below w6.heap.size w6 u → Calls Try.prog 43 #[.pointer (some ⟨p, 0, none⟩)] u fun e w' => e = .returned (.int .i64 0) ∧ Below w6.heap.size w6 w') := ⟨fun u hu => (HFB.out u hu).mono fun e w' hh => ⟨by rw [hh.1, he0], by rw [hh.2]; exact hu⟩⟩
                have HOVR : Hf (R'.over = true) := ⟨HOVE.out.symm.trans rfl⟩
                clear he0 HSS HSE HFB
                have hnpos : True := trivial
                refine wp_region_quiet (C := fun W' => Below w6.heap.size w6 W') (by kernel_rfl) (by kernel_rfl) (Below.refl _ _).drew ?_
                simp only [List.toList_toArray]
                (first | go_big_quiet_skip | (go_big_quiet_want; go_big_quiet_op; first | go_big_quiet_on | (refine ⟨_, fun _ _ => rfl, ?_⟩; go_big_quiet_on)))
                (first | go_big_quiet_skip | (go_big_quiet_want; go_big_quiet_op; first | go_big_quiet_on | (refine ⟨_, fun _ _ => rfl, ?_⟩; go_big_quiet_on)))
                (first | go_big_quiet_skip | (go_big_quiet_want; go_big_quiet_op; first | go_big_quiet_on | (refine ⟨_, fun _ _ => rfl, ?_⟩; go_big_quiet_on)))
                (first | go_big_quiet_skip | (go_big_quiet_want; go_big_quiet_op; first | go_big_quiet_on | (refine ⟨_, fun _ _ => rfl, ?_⟩; go_big_quiet_on)))
                (first | go_big_quiet_skip | (go_big_quiet_want; go_big_quiet_op; first | go_big_quiet_on | (refine ⟨_, fun _ _ => rfl, ?_⟩; go_big_quiet_on)))
                (first | go_big_quiet_skip | (go_big_quiet_want; go_big_quiet_op; first | go_big_quiet_on | (refine ⟨_, fun _ _ => rfl, ?_⟩; go_big_quiet_on)))
                (first | go_big_quiet_skip | (go_big_quiet_want; go_big_quiet_op; first | go_big_quiet_on | (refine ⟨_, fun _ _ => rfl, ?_⟩; go_big_quiet_on)))
                (first | go_big_quiet_skip | (go_big_quiet_want; go_big_quiet_op; first | go_big_quiet_on | (refine ⟨_, fun _ _ => rfl, ?_⟩; go_big_quiet_on)))
                (first | go_big_quiet_skip | (go_big_quiet_want; go_big_quiet_op; first | go_big_quiet_on | (refine ⟨_, fun _ _ => rfl, ?_⟩; go_big_quiet_on)))
                (first | go_big_quiet_skip | (go_big_quiet_want; go_big_quiet_op; first | go_big_quiet_on | (refine ⟨_, fun _ _ => rfl, ?_⟩; go_big_quiet_on)))
                (first | go_big_quiet_skip | (go_big_quiet_want; go_big_quiet_op; first | go_big_quiet_on | (refine ⟨_, fun _ _ => rfl, ?_⟩; go_big_quiet_on)))
                (first | go_big_quiet_skip | (go_big_quiet_want; go_big_quiet_op; first | go_big_quiet_on | (refine ⟨_, fun _ _ => rfl, ?_⟩; go_big_quiet_on)))
                (first | go_big_quiet_skip | (go_big_quiet_want; go_big_quiet_op; first | go_big_quiet_on | (refine ⟨_, fun _ _ => rfl, ?_⟩; go_big_quiet_on)))
                (first | go_big_quiet_skip | (go_big_quiet_want; go_big_quiet_op; first | go_big_quiet_on | (refine ⟨_, fun _ _ => rfl, ?_⟩; go_big_quiet_on)))
                (first | go_big_quiet_skip | (go_big_quiet_want; go_big_quiet_op; first | go_big_quiet_on | (refine ⟨_, fun _ _ => rfl, ?_⟩; go_big_quiet_on)))
                (first | go_big_quiet_skip | (go_big_quiet_want; go_big_quiet_op; first | go_big_quiet_on | (refine ⟨_, fun _ _ => rfl, ?_⟩; go_big_quiet_on)))
                refine qstep_call (by rfl) 38 #[.tmp 158] #[54] rfl #[.slice A' R'.doneB.length c'] (by simp [Act.eval, Act.put]) (.agg cs.toArray) HE38.out HSM.out ?_
                simp only [Act.put, List.setIfInBounds_toArray, List.set_cons_zero, List.set_cons_succ]; (first | go_big_quiet_skip | (go_big_quiet_want; go_big_quiet_op; first | go_big_quiet_on | (refine ⟨_, fun _ _ => rfl, ?_⟩; go_big_quiet_on)))
                refine qstep_loadm (by rfl) 23 (.tmp 160) (by rfl) w.heap.size 1 (by rfl) cs _ HC1.out Try.underlying23 rfl HS1.out ?_
                simp only [Act.put, List.setIfInBounds_toArray, List.set_cons_zero, List.set_cons_succ]; (first | go_big_quiet_skip | (go_big_quiet_want; go_big_quiet_op; first | go_big_quiet_on | (refine ⟨_, fun _ _ => rfl, ?_⟩; go_big_quiet_on)))
                (first | go_big_quiet_skip | (go_big_quiet_want; go_big_quiet_op; first | go_big_quiet_on | (refine ⟨_, fun _ _ => rfl, ?_⟩; go_big_quiet_on)))
                (first | go_big_quiet_skip | (go_big_quiet_want; go_big_quiet_op; first | go_big_quiet_on | (refine ⟨_, fun _ _ => rfl, ?_⟩; go_big_quiet_on)))
                refine qstep_call (by rfl) 43 #[.tmp 164] #[57] rfl #[.pointer (some ⟨p, 0, none⟩)] (by simp [Act.eval, Act.put]) (.int .i64 0) HE43.out HFA.out ?_
                simp only [Act.put, List.setIfInBounds_toArray, List.set_cons_zero, List.set_cons_succ]; (first | go_big_quiet_skip | (go_big_quiet_want; go_big_quiet_op; first | go_big_quiet_on | (refine ⟨_, fun _ _ => rfl, ?_⟩; go_big_quiet_on)))
                (first | go_big_quiet_skip | (go_big_quiet_want; go_big_quiet_op; first | go_big_quiet_on | (refine ⟨_, fun _ _ => rfl, ?_⟩; go_big_quiet_on)))
                (first | go_big_quiet_skip | (go_big_quiet_want; go_big_quiet_op; first | go_big_quiet_on | (refine ⟨_, fun _ _ => rfl, ?_⟩; go_big_quiet_on)))
                (first | go_big_quiet_skip | (go_big_quiet_want; go_big_quiet_op; first | go_big_quiet_on | (refine ⟨_, fun _ _ => rfl, ?_⟩; go_big_quiet_on)))
                refine wpQuiet_nil ?_
                intro w7 hb7
                have HB7 := Hf.mk hb7
                clear hb7
                go_wp2
                go_roundw
                case rel => exact ⟨k + 1, R', A', c', by omega, by rw [HOVR.out], rfl, by go_num, ⟨(HJ6.out.below HB7.out).told (HGD.out.below HB7.out) (HTD.out.keep (fun ad ha => HB7.out.block _ (HTD.out.lt ha)))⟩⟩
                case measure => simp [intOf]; omega
              | false =>
                have HOVS : Hf ((R'.err != 0) = R'.over) := ⟨by have := HOVE.out; rwa [Bool.false_or] at this⟩
                clear HSS HSE
                have hnpos : True := trivial
                refine wp_region_quiet (C := fun W' => Below w6.heap.size w6 W') (by kernel_rfl) (by kernel_rfl) (Below.refl _ _).drew ?_
                simp only [List.toList_toArray]
                (first | go_big_quiet_skip | (go_big_quiet_want; go_big_quiet_op; first | go_big_quiet_on | (refine ⟨_, fun _ _ => rfl, ?_⟩; go_big_quiet_on)))
                (first | go_big_quiet_skip | (go_big_quiet_want; go_big_quiet_op; first | go_big_quiet_on | (refine ⟨_, fun _ _ => rfl, ?_⟩; go_big_quiet_on)))
                (first | go_big_quiet_skip | (go_big_quiet_want; go_big_quiet_op; first | go_big_quiet_on | (refine ⟨_, fun _ _ => rfl, ?_⟩; go_big_quiet_on)))
                (first | go_big_quiet_skip | (go_big_quiet_want; go_big_quiet_op; first | go_big_quiet_on | (refine ⟨_, fun _ _ => rfl, ?_⟩; go_big_quiet_on)))
                (first | go_big_quiet_skip | (go_big_quiet_want; go_big_quiet_op; first | go_big_quiet_on | (refine ⟨_, fun _ _ => rfl, ?_⟩; go_big_quiet_on)))
                (first | go_big_quiet_skip | (go_big_quiet_want; go_big_quiet_op; first | go_big_quiet_on | (refine ⟨_, fun _ _ => rfl, ?_⟩; go_big_quiet_on)))
                (first | go_big_quiet_skip | (go_big_quiet_want; go_big_quiet_op; first | go_big_quiet_on | (refine ⟨_, fun _ _ => rfl, ?_⟩; go_big_quiet_on)))
                (first | go_big_quiet_skip | (go_big_quiet_want; go_big_quiet_op; first | go_big_quiet_on | (refine ⟨_, fun _ _ => rfl, ?_⟩; go_big_quiet_on)))
                (first | go_big_quiet_skip | (go_big_quiet_want; go_big_quiet_op; first | go_big_quiet_on | (refine ⟨_, fun _ _ => rfl, ?_⟩; go_big_quiet_on)))
                (first | go_big_quiet_skip | (go_big_quiet_want; go_big_quiet_op; first | go_big_quiet_on | (refine ⟨_, fun _ _ => rfl, ?_⟩; go_big_quiet_on)))
                (first | go_big_quiet_skip | (go_big_quiet_want; go_big_quiet_op; first | go_big_quiet_on | (refine ⟨_, fun _ _ => rfl, ?_⟩; go_big_quiet_on)))
                (first | go_big_quiet_skip | (go_big_quiet_want; go_big_quiet_op; first | go_big_quiet_on | (refine ⟨_, fun _ _ => rfl, ?_⟩; go_big_quiet_on)))
                (first | go_big_quiet_skip | (go_big_quiet_want; go_big_quiet_op; first | go_big_quiet_on | (refine ⟨_, fun _ _ => rfl, ?_⟩; go_big_quiet_on)))
                (first | go_big_quiet_skip | (go_big_quiet_want; go_big_quiet_op; first | go_big_quiet_on | (refine ⟨_, fun _ _ => rfl, ?_⟩; go_big_quiet_on)))
                (first | go_big_quiet_skip | (go_big_quiet_want; go_big_quiet_op; first | go_big_quiet_on | (refine ⟨_, fun _ _ => rfl, ?_⟩; go_big_quiet_on)))
                (first | go_big_quiet_skip | (go_big_quiet_want; go_big_quiet_op; first | go_big_quiet_on | (refine ⟨_, fun _ _ => rfl, ?_⟩; go_big_quiet_on)))
                (first | go_big_quiet_skip | (go_big_quiet_want; go_big_quiet_op; first | go_big_quiet_on | (refine ⟨_, fun _ _ => rfl, ?_⟩; go_big_quiet_on)))
                (first | go_big_quiet_skip | (go_big_quiet_want; go_big_quiet_op; first | go_big_quiet_on | (refine ⟨_, fun _ _ => rfl, ?_⟩; go_big_quiet_on)))
                (first | go_big_quiet_skip | (go_big_quiet_want; go_big_quiet_op; first | go_big_quiet_on | (refine ⟨_, fun _ _ => rfl, ?_⟩; go_big_quiet_on)))
                (first | go_big_quiet_skip | (go_big_quiet_want; go_big_quiet_op; first | go_big_quiet_on | (refine ⟨_, fun _ _ => rfl, ?_⟩; go_big_quiet_on)))
                (first | go_big_quiet_skip | (go_big_quiet_want; go_big_quiet_op; first | go_big_quiet_on | (refine ⟨_, fun _ _ => rfl, ?_⟩; go_big_quiet_on)))
                (first | go_big_quiet_skip | (go_big_quiet_want; go_big_quiet_op; first | go_big_quiet_on | (refine ⟨_, fun _ _ => rfl, ?_⟩; go_big_quiet_on)))
                (first | go_big_quiet_skip | (go_big_quiet_want; go_big_quiet_op; first | go_big_quiet_on | (refine ⟨_, fun _ _ => rfl, ?_⟩; go_big_quiet_on)))
                (first | go_big_quiet_skip | (go_big_quiet_want; go_big_quiet_op; first | go_big_quiet_on | (refine ⟨_, fun _ _ => rfl, ?_⟩; go_big_quiet_on)))
                (first | go_big_quiet_skip | (go_big_quiet_want; go_big_quiet_op; first | go_big_quiet_on | (refine ⟨_, fun _ _ => rfl, ?_⟩; go_big_quiet_on)))
                (first | go_big_quiet_skip | (go_big_quiet_want; go_big_quiet_op; first | go_big_quiet_on | (refine ⟨_, fun _ _ => rfl, ?_⟩; go_big_quiet_on)))
                (first | go_big_quiet_skip | (go_big_quiet_want; go_big_quiet_op; first | go_big_quiet_on | (refine ⟨_, fun _ _ => rfl, ?_⟩; go_big_quiet_on)))
                refine wpQuiet_nil ?_
                intro w7 hb7
                have HB7 := Hf.mk hb7
                clear hb7
                have HF7 := Hf.mk (HFB.out w7 HB7.out)
                by_cases he : R'.err = 0
                · have hov2 : R'.over = false := by rw [← HOVS.out, he]; rfl
                  rw [he] at HF7
                  have HOV2 := Hf.mk hov2
                  clear hov2 he
                  go_wp2_with (go_at_call 43; (with_reducible refine HF7.out.mono ?_); rintro e w8 ⟨rfl, hw8⟩; have hw8 := hw8.symm; subst hw8)
                  go_roundw
                  case rel => exact ⟨k + 1, R', A', c', by omega, by rw [HOV2.out], rfl, by go_num, ⟨(HJ6.out.below HB7.out).told (HGD.out.below HB7.out) (HTD.out.keep (fun ad ha => HB7.out.block _ (HTD.out.lt ha)))⟩⟩
                  case measure => simp [intOf]; omega
                · have hov2 : R'.over = true := by rw [← HOVS.out]; exact bne_iff_ne.2 he
                  have HOV2 := Hf.mk hov2
                  obtain ⟨er, her⟩ : ∃ z, R'.err = z := ⟨_, rfl⟩
                  rw [her] at HF7 he
                  have he1 : (er == 0) = false := beq_eq_false_iff_ne.2 he
                  have he2 : (er != 0) = true := bne_iff_ne.2 he
                  clear hov2 he her
                  go_wp2_with (go_at_call 43; (with_reducible refine HF7.out.mono ?_); rintro e w8 ⟨rfl, hw8⟩; have hw8 := hw8.symm; subst hw8)
                  go_roundw
                  case rel => exact ⟨k + 1, R', A', c', by omega, by rw [HOV2.out], rfl, by go_num, ⟨(HJ6.out.below HB7.out).told (HGD.out.below HB7.out) (HTD.out.keep (fun ad ha => HB7.out.block _ (HTD.out.lt ha)))⟩⟩
                  case measure => simp [intOf]; omega
        · have hgo2 : ¬ (k : Int) < (len : Int) + (Q : Int) + 1 := by omega
          have hov := far_end HI.out.ok HI.out.far (by omega) (by rw [HI.out.pat, HP2.out]; omega)
          rw [hov]
          go_wp2
          go_ret
          exact ⟨rfl, HI.out.bel⟩
  · have HNW := Hf.mk (new_bad B.set B.id B.me B.nodes B.copies B.cn B.cb B.cc B.retry B.pat W2 hl2 hb2 ok)
    clear ok hl2 hb2 hp2
    go_wp2_with (first
      | (refine wpList_load_midW (by rfl) 23 (.tmp 23) (by rfl) w.heap.size 1 (by rfl) (cellsOf B.id) _ HRI.out Try.underlying23 rfl HSI.out ?_)
      | (go_at_call 37; (with_reducible refine HNW.out.mono ?_); rintro e w3 ⟨rfl, hb3⟩; have HB3 := Hf.mk hb3; clear hb3))
    go_ret
    exact ⟨rfl, below_step HW2.out HB3.out⟩
theorem readsRight_walk (b : Bg) (a : Option Addr) (len cap : Nat) (xs : List Ac) (W : World) (hl : b.id.length = 32) (hb : ∀ x ∈ b.id, x < 256) (h : IsActs W a len cap xs) :
    Calls Try.prog 12 #[.agg b.cells.toArray, .slice a len cap] W fun e w' => e = .returned (.bool true) ∧ Below W.heap.size W w' := right_any b a len cap xs W hl hb h
end Go.Proofs.Ytaaepadhapfkoaa
