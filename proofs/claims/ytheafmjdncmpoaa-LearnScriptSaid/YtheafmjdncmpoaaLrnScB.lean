/-
  Learn: the document's Hear.
  Learn: both learners answer alike; the document's New.
  LearnScript: both learners in memory; both hear a word.
  LearnScript: hears.
  LearnScript: alike; the law.
  LearnScript, walked.
-/
import Derived.Test.YtheafmjdncmpoaaLrnScA
import Derived.Deep.RegionHeld3
import Derived.Laws.MakeOwn
import Derived.Test.YtheafmjdncmpoaaLrnN
import Derived.Outline
namespace Go.Proofs.Ytheafmjdncmpoaa
set_option linter.unusedSimpArgs false
set_option linter.unusedVariables false
open Go.RowKit Go.Proofs.YtheafmjdncmpoaaW.PrintWords Go.Proofs.YtheafmjdncmpoaaW.PrintMore

theorem countN_pos {P : Nat → Bool} : ∀ {n j : Nat}, j < n → P j = true → 0 < countN P n
  | n + 1, j, h, hp => by
    by_cases e : j = n
    · subst e; unfold countN; rw [hp]; simp
    · have := countN_pos (P := P) (n := n) (j := j) (by omega) hp
      unfold countN; omega
theorem countN_none {P : Nat → Bool} : ∀ {n : Nat}, (∀ j, j < n → P j = false) → countN P n = 0
  | 0, _ => rfl
  | n + 1, h => by unfold countN; rw [countN_none fun j hj => h j (by omega), h n (by omega)]; rfl
section
variable {L : Lr} {i : Nat} {n d : Int} {x : List Int}
theorem hearI_ok (h1 : 1 ≤ i) (h2 : i ≤ L.nodes) (hc : checkB n d = true) (hx : x.length ≤ 4000) : ¬ ((i : Int) < 1 ∨ (L.nodes : Int) < (i : Int) ∨ checkB n d = false ∨ 4000 < x.length) := by
  rw [hc]
  simp
  omega
theorem hearI_bad (h1 : 1 ≤ i) (h2 : i ≤ L.nodes) (hc : checkB n d = true) (hx : x.length ≤ 4000) {j : Nat} (hj : j < L.nodes) (hb : badI L n d x j = true) : hearI L i n d x = ((false, 12), L) := by
  unfold hearI
  rw [if_neg (hearI_ok h1 h2 hc hx), if_pos (countN_pos hj hb)]
theorem hearI_old (h1 : 1 ≤ i) (h2 : i ≤ L.nodes) (hc : checkB n d = true) (hx : x.length ≤ 4000) (hb : ∀ j, j < L.nodes → badI L n d x j = false) (hl : lessB (L.of i).n (L.of i).d n d = false) : hearI L i n d x = ((false, 0), L) := by
  unfold hearI
  rw [if_neg (hearI_ok h1 h2 hc hx), if_neg (by rw [countN_none hb]; omega), if_pos (by rw [Int.toNat_natCast]; exact hl)]
theorem hearI_go (h1 : 1 ≤ i) (h2 : i ≤ L.nodes) (hc : checkB n d = true) (hx : x.length ≤ 4000) (hb : ∀ j, j < L.nodes → badI L n d x j = false) (hl : lessB (L.of i).n (L.of i).d n d = true) : hearI L i n d x = goI L i n d x := by
  unfold hearI
  rw [if_neg (hearI_ok h1 h2 hc hx), if_neg (by rw [countN_none hb]; omega), if_neg (by rw [Int.toNat_natCast, hl]; simp), Int.toNat_natCast]
  rfl
end
theorem rstore1 {w u W3 : World} {base : Nat} {F : Nat → Prop} {p t d ct cd : Nat} {L : Lr} {A : Option Addr} {c : Nat} {x : List Int} {j : Nat} {n dd : Int} (hR : RL u base F p t d ct cd L) (hM : Moved F w u) (hj : j < L.nodes) (hF : F t) (hlt : t < w.heap.size)
    (q0 : u.cell? ⟨w.heap.size, 0, none⟩ = some (.int .i64 n)) (q1 : u.cell? ⟨w.heap.size, 1, none⟩ = some (.int .i64 dd)) (hG : Given u A c x) (hW : (u.setCell ⟨t, j * 2, none⟩ (.int .i64 n)).setCell ⟨t, j * 2 + 1, none⟩ (.int .i64 dd) = W3) :
    Aside0 (Moved F w W3) ∧ Aside0 (RL W3 base F p t d ct cd (L.set (j + 1) ⟨n, dd, (L.of (j + 1)).x⟩)) ∧ Aside0 (W3.cell? ⟨w.heap.size, 0, none⟩ = some (.int .i64 n)) ∧ Aside0 (W3.cell? ⟨w.heap.size, 1, none⟩ = some (.int .i64 dd)) ∧ Aside0 (Given W3 A c x) := by
  obtain ⟨r0, r1⟩ := hR.ballot hj
  subst hW
  have r1' : (u.setCell ⟨t, j * 2, none⟩ (.int .i64 n)).cell? ⟨t, j * 2 + 1, none⟩ = some (.int .i64 (L.of (j + 1)).d) := by rw [World.cell?_setCell_other _ _ _ _ (by simp)]; exact r1
  have o : ∀ k, ((u.setCell ⟨t, j * 2, none⟩ (.int .i64 n)).setCell ⟨t, j * 2 + 1, none⟩ (.int .i64 dd)).cell? ⟨w.heap.size, k, none⟩ = u.cell? ⟨w.heap.size, k, none⟩ := fun k => by
    rw [World.cell?_setCell_other _ ⟨t, j * 2 + 1, none⟩ _ _ (by intro e; injection e; omega), World.cell?_setCell_other _ ⟨t, j * 2, none⟩ _ _ (by intro e; injection e; omega)]
  exact ⟨⟨(hM.set _ hF _).set _ hF _⟩, ⟨hR.setB hj n dd⟩, ⟨(o 0).trans q0⟩, ⟨(o 1).trans q1⟩, ⟨(hG.1.set _ (fun z e => by rw [r0] at e; simp at e) _).set _ (fun z e => by rw [r1'] at e; simp at e) _, hG.2⟩⟩
theorem rstore2 {w u u9 W3 : World} {base : Nat} {F : Nat → Prop} {p t d ct cd : Nat} {L : Lr} {A : Option Addr} {c : Nat} {x : List Int} {j : Nat} {n dd : Int} {v : Value} (hR : RL u base F p t d ct cd L) (hM : Moved F w u) (hbase : base ≤ w.heap.size) (hj : j < L.nodes) (hF : F d) (hlt : d < w.heap.size)
    (q0 : u.cell? ⟨w.heap.size, 0, none⟩ = some (.int .i64 n)) (q1 : u.cell? ⟨w.heap.size, 1, none⟩ = some (.int .i64 dd)) (hG : Given u A c x) (hb : Below u.heap.size u u9) (hr : RowB u9 u.heap.size v x) (hW : u9.setCell ⟨d, j, none⟩ v = W3) :
    Aside0 (Moved F w W3) ∧ Aside0 (RL W3 base (fun k => F k ∨ w.heap.size ≤ k) p t d ct cd (L.set (j + 1) ⟨(L.of (j + 1)).n, (L.of (j + 1)).d, x⟩)) ∧ Aside0 (W3.cell? ⟨w.heap.size, 0, none⟩ = some (.int .i64 n)) ∧ Aside0 (W3.cell? ⟨w.heap.size, 1, none⟩ = some (.int .i64 dd)) ∧ Aside0 (Given W3 A c x) := by
  obtain ⟨A2, c2, r0, _⟩ := (hR.below hb).datum hj
  subst hW
  have o : ∀ k, (u9.setCell ⟨d, j, none⟩ v).cell? ⟨w.heap.size, k, none⟩ = u9.cell? ⟨w.heap.size, k, none⟩ := fun k => by
    rw [World.cell?_setCell_other _ ⟨d, j, none⟩ _ _ (by intro e; injection e; omega)]
  have hv : kB.R 5 u9 base (fun k => F k ∨ w.heap.size ≤ k) v x := Kd.R_lower (Kd.R_mono (Kd.R_bound hr.1) (fun k hk => .inr (Nat.le_trans hM.size hk.2.1))) (Nat.le_trans hbase hM.size)
  exact ⟨⟨(hM.trans (Moved.of_below hb)).set _ hF _⟩, ⟨((hR.below hb).mono fun k hk => .inl hk).setX hj hv⟩, ⟨(o 0).trans (pw_cell_below hb q0)⟩, ⟨(o 1).trans (pw_cell_below hb q1)⟩, ⟨((hG.below hb).1.set _ (fun z e => by rw [r0] at e; simp at e) _), hG.2⟩⟩
set_option maxHeartbeats 6400000 in
set_option maxRecDepth 100000 in
theorem rhear_rest {w : World} {base : Nat} {F : Nat → Prop} {p t d ct cd : Nat} {L : Lr} {A : Option Addr} {c : Nat} {x : List Int} {i : Nat} {n dd : Int} (h : RL w base F p t d ct cd L) (hbase : base ≤ w.heap.size) (hg : Given w A c x)
    (hn : L.nodes ≤ 64) (h1 : 1 ≤ i) (h2 : i ≤ L.nodes) (hc : checkB n dd = true) (hx : x.length ≤ 4000) :
    Calls Try.prog 91 #[.pointer (some ⟨p, 0, none⟩), .int .i64 i, .agg #[.int .i64 n, .int .i64 dd], .slice A x.length c] w (RAns w base F p t d ct cd (hearI L i n dd x).2 (ansV (hearI L i n dd x).1)) := by
  have HEB := Aside0.mk (fun j (hj : j < L.nodes) => hearI_bad (L := L) (i := i) (n := n) (d := dd) (x := x) h1 h2 hc hx hj)
  have HEO := Aside0.mk (hearI_old (L := L) (i := i) (n := n) (d := dd) (x := x) h1 h2 hc hx)
  have HEG := Aside0.mk (hearI_go (L := L) (i := i) (n := n) (d := dd) (x := x) h1 h2 hc hx)
  obtain ⟨W, hW⟩ : ∃ W, w.alloc (.cells #[.int .i64 n, .int .i64 dd] 23) = W := ⟨_, rfl⟩
  have hb : Below w.heap.size w W := by rw [← hW]; exact (Below.refl _ _).alloc (Nat.le_refl _) _
  have HB := Aside0.mk hb
  have b0 : W.cell? ⟨w.heap.size, 0, none⟩ = some (.int .i64 n) := by rw [← hW]; exact (cell_of_row _ w.heap.size 0 _ _ _ (heap_alloc_new w _)).trans rfl
  have b1 : W.cell? ⟨w.heap.size, 1, none⟩ = some (.int .i64 dd) := by rw [← hW]; exact (cell_of_row _ w.heap.size 1 _ _ _ (heap_alloc_new w _)).trans rfl
  have HAT : Aside0 (∀ u, Below W.heap.size W u → u.cell? ⟨w.heap.size, 0, none⟩ = some (.int .i64 n) ∧ u.cell? ⟨w.heap.size, 1, none⟩ = some (.int .i64 dd) ∧ RL u base F p t d ct cd L ∧ Given u A c x) := ⟨fun u hu => ⟨pw_cell_below hu b0, pw_cell_below hu b1, (h.below hb).below hu, (hg.below hb).below hu⟩⟩
  have HK := Aside0.mk (rcheck_any n dd W)
  rw [hc] at HK
  simp only [if_true] at HK
  obtain ⟨A1, c1, p0, _⟩ := (HAT.out W (Below.refl _ _)).2.2.1.fields
  have HFP : Aside0 (F p ∧ F t ∧ F d ∧ p < w.heap.size ∧ t < w.heap.size ∧ d < w.heap.size) := by
    obtain ⟨vd, k1, _⟩ := h.hp
    obtain ⟨cs, k3, _⟩ := h.ht
    obtain ⟨ds, k5, _⟩ := h.hd
    exact ⟨h.fp.1, h.ft.1, h.fd.1, (Array.getElem?_eq_some_iff.1 k1).1, (Array.getElem?_eq_some_iff.1 k3).1, (Array.getElem?_eq_some_iff.1 k5).1⟩
  clear h hg hb
  obtain ⟨j, rfl⟩ : ∃ j, i = j + 1 := ⟨i - 1, by omega⟩
  have hj : j < L.nodes := by omega
  have hki : ((j + 1 : Nat) : Int) = (j : Int) + 1 := by omega
  rw [hki] at HEB HEO HEG ⊢
  have g1 : (1 : Int) ≤ (j : Int) + 1 := by omega
  have g2 : (j : Int) + 1 ≤ (L.nodes : Int) := by omega
  have g3 : (j : Int) < (L.nodes : Int) := by omega
  have w1 : IntKind.i64.wrap (j : Int) = (j : Int) := by rw [IntKind.wrap_i64]; omega
  have w2 : IntKind.i64.wrap ((j : Int) + 1 - 1) = (j : Int) := by rw [IntKind.wrap_i64]; omega
  clear hki h1 h2
  have g4 : (x.length : Int) ≤ 4000 := by omega
  clear hc
  go_enter Try.func91, Try.ntmps91
  go_wp2_with (go_at_call 25; (with_reducible refine HK.out.mono ?_); rintro e u ⟨rfl, hb⟩; have HB2 := Aside0.mk hb; have b2 := (HAT.out u hb).1; have b3 := (HAT.out u hb).2.1; clear hb)
  have HB3 := HB2
  clear b2 b3 p0 HK HB2
  have HEND : Aside0 (∀ u v, Below W.heap.size W u → RAns w base F p t d ct cd L v (.returned v) u) := ⟨fun u v hu => ⟨rfl, Moved.of_below (below_step HB.out hu), (HAT.out u hu).2.2.1.mono fun k hk => .inl hk⟩⟩
  go_loopw [10] (fun v wr => ∃ k : Nat, k ≤ L.nodes ∧ v = .int .i64 k ∧ Aside0 (∀ j, j < k → badI L n dd x j = false) ∧ Aside0 (Below W.heap.size W wr)) (fun v _ => L.nodes - (intOf v).toNat)
  case atStart => exact ⟨0, by omega, rfl, ⟨fun j hj => absurd hj (by omega)⟩, HB3⟩
  case round =>
    clear HB3
    obtain ⟨k, hk, rfl, HP, HB3⟩ := hrel
    obtain ⟨q0, q1, hR, hG⟩ := HAT.out wr HB3.out
    obtain ⟨A1, c1, p0, p1, _, _, _⟩ := hR.fields
    by_cases hgo : k < L.nodes
    · obtain ⟨r0, r1⟩ := hR.ballot hgo
      obtain ⟨A2, c2, r2, hG2⟩ := hR.datum hgo
      have HBAD : Aside0 (badI L n dd x k = (((L.of (k + 1)).n == n && (L.of (k + 1)).d == dd) && !sameB (L.of (k + 1)).x x)) := ⟨rfl⟩
      have hcv1 := Kd.C_string (P := Try.prog) (A := A2) (c := c2) Try.underlying69 Try.underlying5 Try.underlying9 hG2.1.1
      have hcv2 := Kd.C_string (P := Try.prog) (A := A) (c := c) Try.underlying69 Try.underlying5 Try.underlying9 hG.1.1
      have HKEEP : Aside0 (∀ u, Below wr.heap.size wr u → u.cell? ⟨w.heap.size, 0, none⟩ = some (.int .i64 n) ∧ u.cell? ⟨w.heap.size, 1, none⟩ = some (.int .i64 dd) ∧ u.cell? ⟨p, 0, none⟩ = some (.slice (some ⟨t, 0, none⟩) L.nodes ct) ∧ u.cell? ⟨p, 1, none⟩ = some (.slice (some ⟨d, 0, none⟩) L.nodes cd) ∧
          u.cell? ⟨t, k * 2, none⟩ = some (.int .i64 (L.of (k + 1)).n) ∧ u.cell? ⟨t, k * 2 + 1, none⟩ = some (.int .i64 (L.of (k + 1)).d) ∧ u.cell? ⟨d, k, none⟩ = some (.slice A2 (L.of (k + 1)).x.length c2) ∧
          (convert 69 9 (.slice A2 (L.of (k + 1)).x.length c2)).run Try.prog u = .ok (.string (strOfNums (L.of (k + 1)).x)) u ∧ (convert 69 9 (.slice A x.length c)).run Try.prog u = .ok (.string (strOfNums x)) u) :=
        ⟨fun u hb => ⟨pw_cell_below hb q0, pw_cell_below hb q1, pw_cell_below hb p0, pw_cell_below hb p1, pw_cell_below hb r0, pw_cell_below hb r1, pw_cell_below hb r2, Kd.C_string (P := Try.prog) (A := A2) (c := c2) Try.underlying69 Try.underlying5 Try.underlying9 (hG2.below hb).1.1, Kd.C_string (P := Try.prog) (A := A) (c := c) Try.underlying69 Try.underlying5 Try.underlying9 (hG.below hb).1.1⟩⟩
      obtain ⟨⟨nb, db, xb⟩, hh⟩ : ∃ q, L.of (k + 1) = q := ⟨_, rfl⟩
      rw [hh] at r0 r1 r2 hcv1 HBAD HKEEP
      simp only at r0 r1 r2 hcv1 HBAD HKEEP
      clear hh hG2 hG hR
      have kI1 : (k : Int) < (L.nodes : Int) := by omega
      by_cases e1 : nb = n
      · by_cases e2 : db = dd
        · subst e1
          subst e2
          cases hsb : sameB xb x with
          | false =>
            have hbad : badI L nb db x k = true := by rw [HBAD.out, hsb]; simp
            have HE := HEB.out k hgo hbad
            have HFIN : Aside0 (∀ u, Below W.heap.size W u → RAns w base F p t d ct cd (hearI L ((j : Int) + 1) nb db x).2 (ansV (hearI L ((j : Int) + 1) nb db x).1) (.returned (ansV (false, 12))) u) := ⟨by rw [HE]; exact fun u hu => HEND.out u _ hu⟩
            unfold sameB at hsb
            clear hbad HE HBAD HP hcv1 hcv2
            go_wp2_with fail
            go_region_held3 (fun u => u.cell? ⟨w.heap.size, 0, none⟩ = some (.int .i64 nb) ∧ u.cell? ⟨w.heap.size, 1, none⟩ = some (.int .i64 db) ∧ u.cell? ⟨p, 0, none⟩ = some (.slice (some ⟨t, 0, none⟩) L.nodes ct) ∧ u.cell? ⟨p, 1, none⟩ = some (.slice (some ⟨d, 0, none⟩) L.nodes cd) ∧
              u.cell? ⟨t, k * 2, none⟩ = some (.int .i64 nb) ∧ u.cell? ⟨t, k * 2 + 1, none⟩ = some (.int .i64 db) ∧ u.cell? ⟨d, k, none⟩ = some (.slice A2 xb.length c2) ∧
              (convert 69 9 (.slice A2 xb.length c2)).run Try.prog u = .ok (.string (strOfNums xb)) u ∧ (convert 69 9 (.slice A x.length c)).run Try.prog u = .ok (.string (strOfNums x)) u)
              (exact HKEEP.out _ (Below.refl _ _).drew) (fail)
            all_goals
              go_wp2_with fail
              exact bodyPost_ret (v := ansV (false, 12)) (by simp [results, Try.results91, go_sem, ansV]) rfl (HFIN.out _ (below_step HB3.out (Below.refl _ _).drew))
          | true =>
            have HNB : Aside0 (badI L nb db x k = false) := ⟨by rw [HBAD.out, hsb]; simp⟩
            unfold sameB at hsb
            clear HBAD hcv1 hcv2
            go_wp2_with fail
            go_region_held3 (fun u => u.cell? ⟨w.heap.size, 0, none⟩ = some (.int .i64 nb) ∧ u.cell? ⟨w.heap.size, 1, none⟩ = some (.int .i64 db) ∧ u.cell? ⟨p, 0, none⟩ = some (.slice (some ⟨t, 0, none⟩) L.nodes ct) ∧ u.cell? ⟨p, 1, none⟩ = some (.slice (some ⟨d, 0, none⟩) L.nodes cd) ∧
              u.cell? ⟨t, k * 2, none⟩ = some (.int .i64 nb) ∧ u.cell? ⟨t, k * 2 + 1, none⟩ = some (.int .i64 db) ∧ u.cell? ⟨d, k, none⟩ = some (.slice A2 xb.length c2) ∧
              (convert 69 9 (.slice A2 xb.length c2)).run Try.prog u = .ok (.string (strOfNums xb)) u ∧ (convert 69 9 (.slice A x.length c)).run Try.prog u = .ok (.string (strOfNums x)) u)
              (exact HKEEP.out _ (Below.refl _ _).drew) (fail)
            all_goals
              go_wp2_with fail
              go_roundw
              case rel =>
                refine ⟨k + 1, by omega, by go_num, ⟨fun j hj => ?_⟩, ⟨below_step HB3.out (Below.refl _ _).drew⟩⟩
                by_cases e : j = k
                · subst e; exact HNB.out
                · exact HP.out j (by omega)
              case measure => simp [intOf]; omega
        · have HNB : Aside0 (badI L n dd x k = false) := ⟨by rw [HBAD.out]; simp [e2]⟩
          have e2' : (db == dd) = false := by simpa using e2
          subst e1
          clear HBAD hcv1 hcv2
          go_wp2_with fail
          go_quiet (fail)
          rename_i nq
          go_wp2_with fail
          go_roundw
          case rel =>
            refine ⟨k + 1, by omega, by go_num, ⟨fun j hj => ?_⟩, ⟨below_step HB3.out (pw_below_drewN (Below.refl _ _) nq)⟩⟩
            by_cases e : j = k
            · subst e; exact HNB.out
            · exact HP.out j (by omega)
          case measure => simp [intOf]; omega
      · have HNB : Aside0 (badI L n dd x k = false) := ⟨by rw [HBAD.out]; simp [e1]⟩
        have e1' : (nb == n) = false := by simpa using e1
        clear HBAD hcv1 hcv2
        go_wp2_with fail
        go_quiet (fail)
        rename_i nq
        go_wp2_with fail
        go_roundw
        case rel =>
          refine ⟨k + 1, by omega, by go_num, ⟨fun j hj => ?_⟩, ⟨below_step HB3.out (pw_below_drewN (Below.refl _ _) nq)⟩⟩
          by_cases e : j = k
          · subst e; exact HNB.out
          · exact HP.out j (by omega)
        case measure => simp [intOf]; omega
    · obtain rfl : k = L.nodes := by omega
      obtain ⟨r0, r1⟩ := hR.ballot hj
      have HL := Aside0.mk (fun u => rless_any (L.of (j + 1)).n (L.of (j + 1)).d n dd u)
      have HKEEP : Aside0 (∀ u, Below wr.heap.size wr u → Below W.heap.size W u ∧ u.cell? ⟨w.heap.size, 0, none⟩ = some (.int .i64 n) ∧ u.cell? ⟨w.heap.size, 1, none⟩ = some (.int .i64 dd) ∧ u.cell? ⟨p, 0, none⟩ = some (.slice (some ⟨t, 0, none⟩) L.nodes ct) ∧
          u.cell? ⟨t, j * 2, none⟩ = some (.int .i64 (L.of (j + 1)).n) ∧ u.cell? ⟨t, j * 2 + 1, none⟩ = some (.int .i64 (L.of (j + 1)).d)) :=
        ⟨fun u hb => ⟨below_step HB3.out hb, pw_cell_below hb q0, pw_cell_below hb q1, pw_cell_below hb p0, pw_cell_below hb r0, pw_cell_below hb r1⟩⟩
      have HST : Aside0 (∀ u v, (Below W.heap.size W u ∧ u.cell? ⟨w.heap.size, 0, none⟩ = some (.int .i64 n) ∧ u.cell? ⟨w.heap.size, 1, none⟩ = some (.int .i64 dd) ∧ u.cell? ⟨p, 0, none⟩ = some (.slice (some ⟨t, 0, none⟩) L.nodes ct) ∧
          u.cell? ⟨t, j * 2, none⟩ = some (.int .i64 (L.of (j + 1)).n) ∧ u.cell? ⟨t, j * 2 + 1, none⟩ = some (.int .i64 (L.of (j + 1)).d)) → Below u.heap.size u v → (Below W.heap.size W v ∧ v.cell? ⟨w.heap.size, 0, none⟩ = some (.int .i64 n) ∧ v.cell? ⟨w.heap.size, 1, none⟩ = some (.int .i64 dd) ∧ v.cell? ⟨p, 0, none⟩ = some (.slice (some ⟨t, 0, none⟩) L.nodes ct) ∧
          v.cell? ⟨t, j * 2, none⟩ = some (.int .i64 (L.of (j + 1)).n) ∧ v.cell? ⟨t, j * 2 + 1, none⟩ = some (.int .i64 (L.of (j + 1)).d))) :=
        ⟨fun u v h hb => ⟨below_step h.1 hb, pw_cell_below hb h.2.1, pw_cell_below hb h.2.2.1, pw_cell_below hb h.2.2.2.1, pw_cell_below hb h.2.2.2.2.1, pw_cell_below hb h.2.2.2.2.2⟩⟩
      obtain ⟨⟨nb, db, xb⟩, hh⟩ : ∃ q, L.of (j + 1) = q := ⟨_, rfl⟩
      rw [hh] at r0 r1 HL HKEEP HST HEO HEG
      simp only at r0 r1 HL HKEEP HST HEO HEG
      have HH := Aside0.mk hh
      clear hh hG hR
      cases hlb : lessB nb db n dd with
      | false =>
        have HE := HEO.out HP.out hlb
        have HFIN : Aside0 (∀ u, Below W.heap.size W u → RAns w base F p t d ct cd (hearI L ((j : Int) + 1) n dd x).2 (ansV (hearI L ((j : Int) + 1) n dd x).1) (.returned (ansV (false, 0))) u) := ⟨by rw [HE]; exact fun u hu => HEND.out u _ hu⟩
        rw [hlb] at HL
        clear HE HEO HEG HEB HP hlb
        go_wp2_with fail
        go_region_held3 (fun u => Below W.heap.size W u ∧ u.cell? ⟨w.heap.size, 0, none⟩ = some (.int .i64 n) ∧ u.cell? ⟨w.heap.size, 1, none⟩ = some (.int .i64 dd) ∧ u.cell? ⟨p, 0, none⟩ = some (.slice (some ⟨t, 0, none⟩) L.nodes ct) ∧
          u.cell? ⟨t, j * 2, none⟩ = some (.int .i64 nb) ∧ u.cell? ⟨t, j * 2 + 1, none⟩ = some (.int .i64 db))
          (first | exact HKEEP.out _ (Below.refl _ _).drew | assumption)
          (first | (go_at_call 26; refine (HL.out _).mono ?_; rintro e u ⟨rfl, hb⟩; have hk := HST.out _ _ ‹(fun u => Below W.heap.size W u ∧ u.cell? ⟨w.heap.size, 0, none⟩ = some (.int .i64 n) ∧ u.cell? ⟨w.heap.size, 1, none⟩ = some (.int .i64 dd) ∧ u.cell? ⟨p, 0, none⟩ = some (.slice (some ⟨t, 0, none⟩) L.nodes ct) ∧ u.cell? ⟨t, j * 2, none⟩ = some (.int .i64 nb) ∧ u.cell? ⟨t, j * 2 + 1, none⟩ = some (.int .i64 db)) _› hb; clear hb))
        all_goals
          have HB4 := Aside0.mk hk.1
          clear hk
          go_wp2_with fail
          exact bodyPost_ret (v := ansV (false, 0)) (by simp [results, Try.results91, go_sem, ansV]) rfl (HFIN.out _ HB4.out)
      | true =>
        have HE := Aside0.mk (HEG.out HP.out hlb)
        rw [hlb] at HL
        clear HEO HEG HEB HP hlb HEND
        go_wp2_with fail
        go_region_held3 (fun u => Below W.heap.size W u ∧ u.cell? ⟨w.heap.size, 0, none⟩ = some (.int .i64 n) ∧ u.cell? ⟨w.heap.size, 1, none⟩ = some (.int .i64 dd) ∧ u.cell? ⟨p, 0, none⟩ = some (.slice (some ⟨t, 0, none⟩) L.nodes ct) ∧
          u.cell? ⟨t, j * 2, none⟩ = some (.int .i64 nb) ∧ u.cell? ⟨t, j * 2 + 1, none⟩ = some (.int .i64 db))
          (first | exact HKEEP.out _ (Below.refl _ _).drew | assumption)
          (first | (go_at_call 26; refine (HL.out _).mono ?_; rintro e u ⟨rfl, hb⟩; have hk := HST.out _ _ ‹(fun u => Below W.heap.size W u ∧ u.cell? ⟨w.heap.size, 0, none⟩ = some (.int .i64 n) ∧ u.cell? ⟨w.heap.size, 1, none⟩ = some (.int .i64 dd) ∧ u.cell? ⟨p, 0, none⟩ = some (.slice (some ⟨t, 0, none⟩) L.nodes ct) ∧ u.cell? ⟨t, j * 2, none⟩ = some (.int .i64 nb) ∧ u.cell? ⟨t, j * 2 + 1, none⟩ = some (.int .i64 db)) _› hb; clear hb))
        have HB4 := Aside0.mk hk.1
        clear hk HKEEP HST HL
        obtain ⟨x0, x1, hR, hG⟩ := HAT.out u HB4.out
        have HX : Aside0 (RL u base F p t d ct cd L ∧ u.cell? ⟨w.heap.size, 0, none⟩ = some (.int .i64 n) ∧ u.cell? ⟨w.heap.size, 1, none⟩ = some (.int .i64 dd) ∧ Given u A c x ∧ Moved F w u) := ⟨hR, x0, x1, hG, Moved.of_below (below_step HB.out HB4.out)⟩
        obtain ⟨A1, c1, y0, _⟩ := hR.fields
        obtain ⟨z0, z1⟩ := hR.ballot hj
        have f0 := hR.frozenT (j * 2)
        have f1 := hR.frozenT (j * 2 + 1)
        clear hR hG HB4 p0 p1 q0 q1 r0 r1 HAT HB3 b0 b1
        go_upto_region 10 with fail
        go_cut [] from 76 to 83 (fun wx => Aside0 (Moved F w wx) ∧ Aside0 (RL wx base F p t d ct cd (L.set (j + 1) ⟨n, dd, (L.of (j + 1)).x⟩)) ∧ Aside0 (wx.cell? ⟨w.heap.size, 0, none⟩ = some (.int .i64 n)) ∧ Aside0 (wx.cell? ⟨w.heap.size, 1, none⟩ = some (.int .i64 dd)) ∧ Aside0 (Given wx A c x))
        case first =>
          have HXD : Aside0 (RL u.drew base F p t d ct cd L ∧ u.drew.cell? ⟨w.heap.size, 0, none⟩ = some (.int .i64 n) ∧ u.drew.cell? ⟨w.heap.size, 1, none⟩ = some (.int .i64 dd) ∧ Given u.drew A c x ∧ Moved F w u.drew) := ⟨HX.out.1.below (Below.refl _ _).drew, x0, x1, HX.out.2.2.2.1.below (Below.refl _ _).drew, HX.out.2.2.2.2.trans (Moved.of_below (Below.refl _ _).drew)⟩
          go_region_with (fail)
          all_goals
            go_wp2_with fail
            go_meet
            case rel => exact rstore1 HXD.out.1 HXD.out.2.2.2.2 hj HFP.out.2.1 HFP.out.2.2.2.2.1 HXD.out.2.1 HXD.out.2.2.1 HXD.out.2.2.2.1 rfl
        case rest =>
          clear y0 z0 z1 f0 f1 HX
          obtain ⟨HM, HR, HC0, HC1, HG⟩ := hcut
          have HL1 : Aside0 ((L.set (j + 1) ⟨n, dd, (L.of (j + 1)).x⟩).set (j + 1) ⟨((L.set (j + 1) ⟨n, dd, (L.of (j + 1)).x⟩).of (j + 1)).n, ((L.set (j + 1) ⟨n, dd, (L.of (j + 1)).x⟩).of (j + 1)).d, x⟩ = L.set (j + 1) ⟨n, dd, x⟩) := ⟨by rw [set_set]; simp [Lr.set]⟩
          have HN1 : Aside0 ((L.set (j + 1) ⟨n, dd, (L.of (j + 1)).x⟩).nodes = L.nodes) := ⟨rfl⟩
          obtain ⟨L1, hL1⟩ : ∃ L1, L.set (j + 1) ⟨n, dd, (L.of (j + 1)).x⟩ = L1 := ⟨_, rfl⟩
          rw [hL1] at HR HL1 HN1
          clear hL1
          have hj1 : j < L1.nodes := by rw [HN1.out]; exact hj
          obtain ⟨A1, c1, y0, y1, _, _, _⟩ := HR.out.fields
          obtain ⟨A2, c2, z2, _⟩ := HR.out.datum hj1
          rw [HN1.out] at y0 y1
          have f2 := HR.out.frozenD j
          obtain ⟨lz, hlz⟩ : ∃ lz, (L1.of (j + 1)).x.length = lz := ⟨_, rfl⟩
          rw [hlz] at z2
          have HJ1 := Aside0.mk hj1
          clear hlz hj1
          go_upto_region 11 with fail
          go_cut [] from 84 to 93 (fun wx => Aside0 (Moved F w wx) ∧ Aside0 (RL wx base (fun k => F k ∨ w.heap.size ≤ k) p t d ct cd (L.set (j + 1) ⟨n, dd, x⟩)) ∧ Aside0 (wx.cell? ⟨w.heap.size, 0, none⟩ = some (.int .i64 n)) ∧ Aside0 (wx.cell? ⟨w.heap.size, 1, none⟩ = some (.int .i64 dd)) ∧ Aside0 (Given wx A c x))
          case first =>
            have HX : Aside0 (∀ u9 W3 v, Below wc.heap.size wc u9 → RowB u9 wc.heap.size v x → u9.setCell ⟨d, j, none⟩ v = W3 → Aside0 (Moved F w W3) ∧ Aside0 (RL W3 base (fun k => F k ∨ w.heap.size ≤ k) p t d ct cd (L.set (j + 1) ⟨n, dd, x⟩)) ∧ Aside0 (W3.cell? ⟨w.heap.size, 0, none⟩ = some (.int .i64 n)) ∧ Aside0 (W3.cell? ⟨w.heap.size, 1, none⟩ = some (.int .i64 dd)) ∧ Aside0 (Given W3 A c x)) :=
              ⟨fun u9 W3 v h1 h2 h3 => by
                have := rstore2 (F := F) (n := n) (dd := dd) HR.out HM.out hbase HJ1.out HFP.out.2.2.1 HFP.out.2.2.2.2.2 HC0.out HC1.out HG.out h1 h2 h3
                rw [HL1.out] at this
                exact this⟩
            have HZ : Aside0 (∀ u9, Below wc.heap.size wc u9 → u9.cell? ⟨d, j, none⟩ = some (.slice A2 lz c2) ∧ u9.frozen? ⟨d, j, none⟩ = false) := ⟨fun u9 hb => ⟨pw_cell_below hb z2, (HR.out.below hb).frozenD j⟩⟩
            have hpw : p < wc.heap.size := World.block_lt_of_cell? wc _ y1
            have HZ1 : Aside0 (∀ u9, Below wc.heap.size wc u9 → u9.cell? ⟨p, 1, none⟩ = some (.slice (some ⟨d, 0, none⟩) L.nodes cd)) := ⟨fun u9 hb => pw_cell_below hb y1⟩
            go_region_law (refine step_copyB wc rfl (.tmp 90) (.tmp 91) rfl rfl rfl ?n1 (Nat.le_refl _) ?n2 ?n3 (by omega) ?_; (case n1 => exact heap_alloc_new wc (.cells #[] 5)); (case n2 => (repeat (first | exact Below.refl _ _ | refine Below.drew ?_ | refine Below.alloc ?_ (Nat.le_refl _) _))); (case n3 => refine HG.out.below ?_; (repeat (first | exact Below.refl _ _ | refine Below.drew ?_ | refine Below.alloc ?_ (Nat.le_refl _) _))); intro A3 c3 u9 hb hr; have HB9 := Aside0.mk hb; have HR9 := Aside0.mk hr; obtain ⟨z9, f9⟩ := HZ.out u9 hb; have y9 := HZ1.out u9 hb; clear hb hr)
            all_goals
              go_wp2_with fail
              go_meet
              case rel => exact HX.out _ _ _ HB9.out HR9.out rfl
          case rest =>
            clear y0 y1 z2 f2 HR HM HC0 HC1 HG HL1 HN1 HJ1
            obtain ⟨HM, HR, HC0, HC1, HG⟩ := hcut
            have HGI : Aside0 (goI L (j + 1) n dd x = if countN (goodI (L.set (j + 1) ⟨n, dd, x⟩) n dd) L.nodes < L.nodes / 2 + 1 then ((false, 0), L.set (j + 1) ⟨n, dd, x⟩) else (((decideI (L.set (j + 1) ⟨n, dd, x⟩) x).1, 0), (decideI (L.set (j + 1) ⟨n, dd, x⟩) x).2)) := ⟨rfl⟩
            have HN2 : Aside0 ((L.set (j + 1) ⟨n, dd, x⟩).nodes = L.nodes) := ⟨rfl⟩
            obtain ⟨L2, hL2⟩ : ∃ L2, L.set (j + 1) ⟨n, dd, x⟩ = L2 := ⟨_, rfl⟩
            rw [hL2] at HR HGI HN2
            clear hL2
            have HMJ := Aside0.mk (fun u => rmaj_of (n := L.nodes) (by omega) hn u)
            have HREF := Aside0.mk (Below.refl wc.heap.size wc)
            go_wp2_with fail
            go_loopw [11, 12] (fun m v wr => ∃ k : Nat, k ≤ L.nodes ∧ v = .int .i64 k ∧ m = .int .i64 (countN (goodI L2 n dd) k) ∧ Aside0 (Below wc.heap.size wc wr)) (fun _ v _ => L.nodes - (intOf v).toNat)
            case atStart => exact ⟨0, by omega, rfl, rfl, HREF⟩
            case round =>
              clear HREF
              obtain ⟨k, hk, rfl, rfl, HB5⟩ := hrel
              have hcl := countN_le (goodI L2 n dd) k
              have HRW := Aside0.mk (HR.out.below HB5.out)
              obtain ⟨A1, c1, y0, _, y2, y3, _⟩ := HRW.out.fields
              rw [HN2.out] at y0
              have x0 := pw_cell_below HB5.out HC0.out
              have x1 := pw_cell_below HB5.out HC1.out
              by_cases hgo : k < L.nodes
              · obtain ⟨z0, z1⟩ := HRW.out.ballot (i := k) (by rw [HN2.out]; exact hgo)
                have HCK : Aside0 (countN (goodI L2 n dd) (k + 1) = countN (goodI L2 n dd) k + (if ((L2.of (k + 1)).n == n && (L2.of (k + 1)).d == dd) = true then 1 else 0)) := ⟨rfl⟩
                obtain ⟨⟨nb, db, xb⟩, hh⟩ : ∃ q, L2.of (k + 1) = q := ⟨_, rfl⟩
                rw [hh] at z0 z1 HCK
                simp only at z0 z1 HCK
                clear hh
                obtain ⟨cc, hcc⟩ : ∃ cc, countN (goodI L2 n dd) k = cc := ⟨_, rfl⟩
                rw [hcc] at HCK hcl ⊢
                clear hcc
                have kI1 : (k : Int) < (L.nodes : Int) := by omega
                by_cases e1 : nb = n
                · by_cases e2 : db = dd
                  · subst e1
                    subst e2
                    have HC2 : Aside0 (countN (goodI L2 nb db) (k + 1) = cc + 1) := ⟨by rw [HCK.out]; simp⟩
                    go_wp2_with fail
                    go_quiet (fail)
                    rename_i nq
                    go_wp2_with fail
                    go_roundw
                    case rel => exact ⟨k + 1, by omega, by go_num, by rw [HC2.out]; go_num, ⟨below_step HB5.out (pw_below_drewN (Below.refl _ _) nq)⟩⟩
                    case measure => simp [intOf]; omega
                  · have e2' : (db == dd) = false := by simpa using e2
                    subst e1
                    have HC2 : Aside0 (countN (goodI L2 nb dd) (k + 1) = cc) := ⟨by rw [HCK.out]; simp [e2]⟩
                    go_wp2_with fail
                    go_quiet (fail)
                    rename_i nq
                    go_wp2_with fail
                    go_roundw
                    case rel => exact ⟨k + 1, by omega, by go_num, by rw [HC2.out], ⟨below_step HB5.out (pw_below_drewN (Below.refl _ _) nq)⟩⟩
                    case measure => simp [intOf]; omega
                · have e1' : (nb == n) = false := by simpa using e1
                  have HC2 : Aside0 (countN (goodI L2 n dd) (k + 1) = cc) := ⟨by rw [HCK.out]; simp [e1]⟩
                  go_wp2_with fail
                  go_quiet (fail)
                  rename_i nq
                  go_wp2_with fail
                  go_roundw
                  case rel => exact ⟨k + 1, by omega, by go_num, by rw [HC2.out], ⟨below_step HB5.out (pw_below_drewN (Below.refl _ _) nq)⟩⟩
                  case measure => simp [intOf]; omega
              · obtain rfl : k = L.nodes := by omega
                obtain ⟨cc, hcc⟩ : ∃ cc, countN (goodI L2 n dd) L.nodes = cc := ⟨_, rfl⟩
                rw [hcc] at HGI hcl ⊢
                clear hcc
                obtain ⟨mj, hmj⟩ : ∃ mj, L.nodes / 2 + 1 = mj := ⟨_, rfl⟩
                have hmj64 : mj ≤ 64 := by omega
                rw [hmj] at HMJ HGI
                clear hmj
                have HMV := Aside0.mk (HM.out.trans (Moved.of_below HB5.out))
                have HGV := Aside0.mk (HG.out.below HB5.out)
                clear x0 x1 HC0 HC1 HB5 HR HM HG
                obtain ⟨dc, hdc⟩ : ∃ dc, L2.dec = dc := ⟨_, rfl⟩
                rw [hdc] at y2
                cases dc with
                | true =>
                  have e : hearI L ((j : Int) + 1) n dd x = ((false, 0), L2) := by
                    rw [HE.out, HGI.out]
                    split
                    · rfl
                    · simp [decideI, hdc]
                  have HFIN : Aside0 (RAns w base F p t d ct cd (hearI L ((j : Int) + 1) n dd x).2 (ansV (hearI L ((j : Int) + 1) n dd x).1) (.returned (ansV (false, 0))) wr) := ⟨by rw [e]; exact ⟨rfl, HMV.out, HRW.out⟩⟩
                  clear e hdc HE HGI
                  go_wp2_with fail
                  exact bodyPost_ret (v := ansV (false, 0)) (by simp [results, Try.results91, go_sem, ansV]) rfl HFIN.out
                | false =>
                  by_cases hm : cc < mj
                  · have e : hearI L ((j : Int) + 1) n dd x = ((false, 0), L2) := by rw [HE.out, HGI.out, if_pos hm]
                    have HFIN : Aside0 (∀ u, Below wr.heap.size wr u → RAns w base F p t d ct cd (hearI L ((j : Int) + 1) n dd x).2 (ansV (hearI L ((j : Int) + 1) n dd x).1) (.returned (ansV (false, 0))) u) := ⟨by rw [e]; exact fun u hu => ⟨rfl, HMV.out.trans (Moved.of_below hu), HRW.out.below hu⟩⟩
                    have hm2 : (cc : Int) < (mj : Int) := by omega
                    clear e hdc HE HGI
                    go_wp2_with (go_at_call 36; (with_reducible refine (HMJ.out _).mono ?_); rintro e u ⟨rfl, hb⟩; have HB6 := Aside0.mk hb; clear hb)
                    exact bodyPost_ret (v := ansV (false, 0)) (by simp [results, Try.results91, go_sem, ansV]) rfl (HFIN.out _ HB6.out)
                  · have e : hearI L ((j : Int) + 1) n dd x = ((true, 0), { L2 with dec := true, data := x }) := by rw [HE.out, HGI.out, if_neg hm]; simp [decideI, hdc]
                    have hm2 : (mj : Int) ≤ (cc : Int) := by omega
                    have HFIN : Aside0 (∀ u9, Moved F w u9 → RL u9 base (fun k => F k ∨ w.heap.size ≤ k) p t d ct cd { L2 with dec := true, data := x } → RAns w base F p t d ct cd (hearI L ((j : Int) + 1) n dd x).2 (ansV (hearI L ((j : Int) + 1) n dd x).1) (.returned (ansV (true, 0))) u9) := ⟨by rw [e]; exact fun u9 h1 h2 => ⟨rfl, h1, h2⟩⟩
                    clear e HE HGI
                    have HX8 : Aside0 (∀ u, Below wr.heap.size wr u → u.cell? ⟨p, 2, none⟩ = some (.bool false) ∧ u.frozen? ⟨p, 2, none⟩ = false ∧ Aside0 (Given (u.setCell ⟨p, 2, none⟩ (.bool true)) A c x) ∧ Aside0 (RL (u.setCell ⟨p, 2, none⟩ (.bool true)) base (fun k => F k ∨ w.heap.size ≤ k) p t d ct cd { L2 with dec := true }) ∧ Aside0 (Moved F w (u.setCell ⟨p, 2, none⟩ (.bool true)))) := ⟨fun u hb =>
                      ⟨pw_cell_below hb y2, (HRW.out.below hb).frozen 2, ⟨(HGV.out.below hb).1.set _ (fun z e => by rw [pw_cell_below hb y2] at e; simp at e) _, HGV.out.2⟩, ⟨(HRW.out.below hb).setIs⟩, ⟨(HMV.out.trans (Moved.of_below hb)).set _ HFP.out.1 _⟩⟩⟩
                    have HBASE : Aside0 (base ≤ w.heap.size) := ⟨hbase⟩
                    clear hdc
                    go_wp2_with (first
                      | (go_at_call 36; (with_reducible refine (HMJ.out _).mono ?_); rintro e u ⟨rfl, hb⟩; obtain ⟨k2, k3, HG0, HR0, HM0⟩ := HX8.out u hb; clear hb HRW HGV HMV HX8 y0 y2 y3)
                      | ((with_reducible refine gate_builtin (b := .append) (xs := #[.tmp 132, .tmp 133]) rfl ?_); at_builtin; refine wp_append_copy' (u.setCell ⟨p, 2, none⟩ (.bool true)) (by simp) rfl (.tmp 132) (.tmp 133) rfl rfl rfl HG0.out (by omega) ?_; intro A2 c2 w1 hb hr; have HB := Aside0.mk hb; have HRW := Aside0.mk hr; obtain ⟨_, _, _, _, _, q9, _⟩ := (HR0.out.below hb).fields; have f9 := (HR0.out.below hb).frozen 3; clear hb hr))
                    refine bodyPost_ret (v := ansV (true, 0)) (by simp [results, Try.results91, go_sem, ansV]) rfl (HFIN.out _ ((HM0.out.trans (Moved.of_below HB.out)).set _ HFP.out.1 _) ?_)
                    exact (HR0.out.below HB.out).setWas (Kd.R_lower (Kd.R_mono (Kd.R_bound HRW.out.1) (fun k hk => .inr (Nat.le_trans HM0.out.size hk.2.1))) (Nat.le_trans HBASE.out HM0.out.size))
theorem sameB_iff (a b : List Int) : sameB a b = true ↔ (strOfNums a).toList = (strOfNums b).toList := by unfold sameB; simp
theorem sameB_self (a : List Int) : sameB a a = true := (sameB_iff a a).2 rfl
theorem sameB_left {a b : List Int} (h : sameB a b = true) (x : List Int) : sameB a x = sameB b x := by
  unfold sameB
  rw [(sameB_iff a b).1 h]
/-- the document's learner is as the program's -/
structure Like (L R : Lr) : Prop where
  n : L.nodes = R.nodes
  o : L.of = R.of
  d : L.dec = R.dec
  s : sameB (if L.dec then L.data else []) R.data = true
theorem Like.hear {L R : Lr} (h : Like L R) (k n d : Int) (x : List Int) : (hearI L k n d x).1 = (hearI R k n d x).1 ∧ Like (hearI L k n d x).2 (hearI R k n d x).2 := by
  obtain ⟨n0, o0, d0, x0⟩ := L
  obtain ⟨n1, o1, d1, x1⟩ := R
  obtain ⟨h1, h2, h3, h4⟩ := h
  simp only at h1 h2 h3 h4
  subst h1 h2 h3
  have eb : badI ⟨n0, o0, d0, x0⟩ n d x = badI ⟨n0, o0, d0, x1⟩ n d x := rfl
  have es : ∀ y, goodI (Lr.set ⟨n0, o0, d0, y⟩ k.toNat ⟨n, d, x⟩) n d = goodI (Lr.set ⟨n0, o0, d0, x1⟩ k.toNat ⟨n, d, x⟩) n d := fun _ => rfl
  have lk : ∀ o', Like ⟨n0, o', d0, x0⟩ ⟨n0, o', d0, x1⟩ := fun o' => ⟨rfl, rfl, rfl, h4⟩
  unfold hearI
  rw [eb, es x0]
  simp only
  by_cases c1 : k < 1 ∨ (n0 : Int) < k ∨ checkB n d = false ∨ 4000 < x.length
  · rw [if_pos c1, if_pos c1]; exact ⟨rfl, lk _⟩
  · rw [if_neg c1, if_neg c1]
    by_cases c2 : 0 < countN (badI ⟨n0, o0, d0, x1⟩ n d x) n0
    · rw [if_pos c2, if_pos c2]; exact ⟨rfl, lk _⟩
    · rw [if_neg c2, if_neg c2]
      by_cases c3 : lessB (o0 k.toNat).n (o0 k.toNat).d n d = false
      · rw [if_pos c3, if_pos c3]; exact ⟨rfl, lk _⟩
      · rw [if_neg c3, if_neg c3]
        by_cases c4 : countN (goodI (Lr.set ⟨n0, o0, d0, x1⟩ k.toNat ⟨n, d, x⟩) n d) n0 < n0 / 2 + 1
        · rw [if_pos c4, if_pos c4]; exact ⟨rfl, lk _⟩
        · rw [if_neg c4, if_neg c4]
          cases d0 with
          | true => exact ⟨rfl, lk _⟩
          | false => exact ⟨rfl, rfl, rfl, rfl, sameB_self _⟩
theorem Like.told {L R : Lr} (h : Like L R) (x : List Int) : (toldI L x).1 = (toldR R x).1 ∧ Like (toldI L x).2 (toldR R x).2 := by
  obtain ⟨n0, o0, d0, x0⟩ := L
  obtain ⟨n1, o1, d1, x1⟩ := R
  have hh := h
  obtain ⟨h1, h2, h3, h4⟩ := h
  simp only at h1 h2 h3 h4
  subst h1 h2 h3
  unfold toldI toldR
  simp only
  by_cases c1 : 4000 < x.length
  · rw [if_pos c1, if_pos c1]; exact ⟨rfl, hh⟩
  · rw [if_neg c1, if_neg c1]
    cases d0 with
    | false =>
      rw [if_neg (by simp), if_neg (by simp)]
      exact ⟨rfl, rfl, rfl, rfl, sameB_self _⟩
    | true =>
      simp only [if_true] at h4
      rw [sameB_left h4]
      by_cases c2 : sameB x1 x = false
      · rw [if_pos ⟨rfl, c2⟩, if_pos ⟨rfl, c2⟩]; exact ⟨rfl, hh⟩
      · rw [if_neg (fun e => c2 e.2), if_neg (fun e => c2 e.2)]
        refine ⟨rfl, rfl, rfl, rfl, ?_⟩
        show sameB x0 x = true
        rw [sameB_left h4]
        simpa using c2
theorem toldR_nodes (L : Lr) (x : List Int) : (toldR L x).2.nodes = L.nodes := by
  unfold toldR
  split
  · rfl
  · split <;> rfl
theorem rhear_any {w : World} {base : Nat} {F : Nat → Prop} {p t d ct cd : Nat} {L : Lr} {A : Option Addr} {c : Nat} {x : List Int} {k n dd : Int} (h : RL w base F p t d ct cd L) (hbase : base ≤ w.heap.size) (hg : Given w A c x) (hn : L.nodes ≤ 64) :
    Calls Try.prog 91 #[.pointer (some ⟨p, 0, none⟩), .int .i64 k, .agg #[.int .i64 n, .int .i64 dd], .slice A x.length c] w (RAns w base F p t d ct cd (hearI L k n dd x).2 (ansV (hearI L k n dd x).1)) := by
  by_cases hbad : k < 1 ∨ (L.nodes : Int) < k ∨ checkB n dd = false ∨ 4000 < x.length
  · have e : hearI L k n dd x = ((false, 2), L) := by unfold hearI; rw [if_pos hbad]
    rw [e]
    exact rhear_stop h hg.1.1.2.1 hbad
  · obtain ⟨i, rfl⟩ := Int.eq_ofNat_of_zero_le (show 0 ≤ k by omega)
    have hc : checkB n dd = true := by
      cases hc : checkB n dd with
      | true => rfl
      | false => exact absurd (.inr (.inr (.inl hc))) hbad
    exact rhear_rest h hbase hg hn (by omega) (by omega) hc (by omega)
/-- make of elements of several cells -/
theorem run_make_rowN {P : Program} (t e : TypeId) (z : Value) (s bytes : Nat) (ht : P.underlying t = some (.slice e)) (hinfo : (P.info? e).map (fun i => (i.zero, i.size, i.bytes)) = some (some z, s, bytes))
    (n : Nat) (hb : bytes * n ≤ 281474976710656) (h63 : n ≤ 9223372036854775807) (w : World) :
    (Instr.makeSlice t (.int .i64 (n : Int)) (.int .i64 (n : Int))).run P w = .ok (.slice (some ⟨w.heap.size, 0, none⟩) n n) (w.alloc (.cells (madeCells z.cells (n * s)) e)) := by
  obtain ⟨i, hi, hz⟩ := Option.map_eq_some_iff.1 hinfo
  simp only [Prod.mk.injEq] at hz
  obtain ⟨hz0, hz1, hz2⟩ := hz
  subst hz1
  have hb' : (i.bytes : Int) * (n : Int) ≤ 281474976710656 := by
    have h : ((i.bytes * n : Nat) : Int) ≤ 281474976710656 := by rw [hz2]; omega
    rwa [Int.natCast_mul] at h
  have hr := run_make (P := P) w t e i z ht hi hz0 .i64 .i64 n n (by omega) (by omega) hb' (by omega)
  simp only [Int.toNat_natCast] at hr
  exact hr
theorem made_get (z : Array Value) (n k : Nat) (h : k < n) (hz : 0 < z.size) : (madeCells z n)[k]? = z[k % z.size]? := by
  have hlt : k % z.size < z.size := Nat.mod_lt _ hz
  simp [madeCells, h, hlt]
theorem RL.fresh {w W : World} {p t d n : Nat} (hp : W.heap[p]? = some (.cells #[.slice (some ⟨t, 0, none⟩) n n, .slice (some ⟨d, 0, none⟩) n n, .bool false, .slice none 0 0] 125 (0, 0)))
    (ht : W.heap[t]? = some (.cells (madeCells #[.int .i64 0, .int .i64 0] (n * 2)) 23 (0, 0))) (hd : W.heap[d]? = some (.cells (madeCells #[.slice none 0 0] (n * 1)) 69 (0, 0))) (h1 : w.heap.size ≤ p) (h2 : w.heap.size ≤ t) (h3 : w.heap.size ≤ d) :
    RL W w.heap.size (fun k => w.heap.size ≤ k) p t d n n ⟨n, fun _ => hd0, false, []⟩ := by
  refine ⟨⟨.slice none 0 0, hp, Kd.R_nil _ _ _ _ _⟩, ⟨_, ht, fun i hi => ?_⟩, ⟨_, hd, fun i hi => ⟨.slice none 0 0, ?_, Kd.R_nil _ _ _ _ _⟩⟩, ⟨h1, h1⟩, ⟨h2, h2⟩, ⟨h3, h3⟩⟩
  · have hi' : i < n := hi
    rw [made_get _ _ _ (by omega) (by decide), made_get _ _ _ (by omega) (by decide)]
    have e1 : i * 2 % 2 = 0 := by omega
    have e2 : (i * 2 + 1) % 2 = 1 := by omega
    constructor
    · show (#[Value.int .i64 0, .int .i64 0])[i * 2 % 2]? = _; rw [e1]; rfl
    · show (#[Value.int .i64 0, .int .i64 0])[(i * 2 + 1) % 2]? = _; rw [e2]; rfl
  · have hi' : i < n := hi
    rw [made_get _ _ _ (by omega) (by decide)]
    have e1 : i % 1 = 0 := Nat.mod_one i
    show (#[Value.slice none 0 0])[i % 1]? = _
    rw [e1]; rfl
/-- what the document's New answers -/
def RNAns (n : Nat) (w : World) (e : Ending) (w' : World) : Prop := ∃ p t d, e = .returned (.tuple #[.pointer (some ⟨p, 0, none⟩), .int .i64 0]) ∧ Below w.heap.size w w' ∧ RL w' w.heap.size (fun k => w.heap.size ≤ k) p t d n n ⟨n, fun _ => hd0, false, []⟩
theorem heap3 (w : World) (a b c : Obj) : (((w.alloc a).alloc b).alloc c).heap[w.heap.size]? = some a ∧ (((w.alloc a).alloc b).alloc c).heap[w.heap.size + 1]? = some b ∧ (((w.alloc a).alloc b).alloc c).heap[w.heap.size + 2]? = some c := by
  have n1 := heap_alloc_new w a
  have n2 := heap_alloc_new (w.alloc a) b
  have n3 := heap_alloc_new ((w.alloc a).alloc b) c
  simp only [World.size_alloc] at n2 n3
  refine ⟨?_, ?_, n3⟩
  · rw [Below.heap_alloc _ _ _ (by simp; omega), Below.heap_alloc _ _ _ (by simp)]; exact n1
  · rw [Below.heap_alloc _ _ _ (by simp)]; exact n2
theorem below3 (w : World) (a b c : Obj) : Below w.heap.size w (((w.alloc a).alloc b).alloc c).drew := ((((Below.refl _ _).alloc (Nat.le_refl _) _).alloc (by simp) _).alloc (by simp; omega) _).drew
set_option maxHeartbeats 1600000 in
set_option maxRecDepth 100000 in
theorem rnewl_good (n : Nat) (set : Int) (w : World) (h1 : 1 ≤ n ∧ n ≤ 64) (h2 : 1 ≤ set ∧ set ≤ 2147483647) :
    Calls Try.prog 56 #[.int .i64 n, .int .i64 set] w (RNAns n w) := by
  obtain ⟨h1, h1'⟩ := h1
  obtain ⟨h2, h2'⟩ := h2
  have hmk1 := run_make_rowN (P := Try.prog) 33 23 (.agg #[.int .i64 0, .int .i64 0]) 2 16 Try.underlying33 (by kernel_rfl) n (by omega) (by omega)
  have hmk2 := run_make_rowN (P := Try.prog) 123 69 (.slice none 0 0) 1 24 Try.underlying123 (by kernel_rfl) n (by omega) (by omega)
  obtain ⟨mt, hmt⟩ : ∃ mt, madeCells (Value.agg #[.int .i64 0, .int .i64 0]).cells (n * 2) = mt := ⟨_, rfl⟩
  obtain ⟨md, hmd⟩ : ∃ md, madeCells (Value.slice none 0 0).cells (n * 1) = md := ⟨_, rfl⟩
  rw [hmt] at hmk1
  rw [hmd] at hmk2
  have HMT : Aside0 (madeCells #[Value.int .i64 0, .int .i64 0] (n * 2) = mt) := ⟨hmt⟩
  have HMD : Aside0 (madeCells #[Value.slice none 0 0] (n * 1) = md) := ⟨hmd⟩
  clear hmt hmd
  go_enter Try.func56, Try.ntmps56
  go_wp2_with fail
  go_region_with (fail)
  · go_wp2_with fail
    refine bodyPost_ret (v := .tuple #[.pointer (some ⟨w.heap.size + 2, 0, none⟩), .int .i64 0]) (by simp [results, Try.results56, go_sem]) rfl ?_
    obtain ⟨k1, k2, k3⟩ := heap3 w (.cells mt 23) (.cells md 69) (.cells #[.slice (some ⟨w.heap.size, 0, none⟩) n n, .slice (some ⟨w.heap.size + 1, 0, none⟩) n n, .bool false, .slice none 0 0] 125)
    exact ⟨_, _, _, rfl, below3 _ _ _ _, RL.fresh k3 (by rw [HMT.out]; exact k1) (by rw [HMD.out]; exact k2) (by omega) (by omega) (by omega)⟩
  · go_wp2_with fail
    refine bodyPost_ret (v := .tuple #[.pointer (some ⟨w.heap.size + 2, 0, none⟩), .int .i64 0]) (by simp [results, Try.results56, go_sem]) rfl ?_
    obtain ⟨k1, k2, k3⟩ := heap3 w (.cells md 69) (.cells mt 23) (.cells #[.slice (some ⟨w.heap.size + 1, 0, none⟩) n n, .slice (some ⟨w.heap.size, 0, none⟩) n n, .bool false, .slice none 0 0] 125)
    exact ⟨_, _, _, rfl, below3 _ _ _ _, RL.fresh k3 (by rw [HMT.out]; exact k2) (by rw [HMD.out]; exact k1) (by omega) (by omega) (by omega)⟩
theorem rnewl_bad (n : Int) (set : Int) (w : World) (h : n < 1 ∨ 64 < n ∨ set < 1 ∨ 2147483647 < set) :
    Calls Try.prog 56 #[.int .i64 n, .int .i64 set] w fun e w' => e = .returned (.tuple #[.pointer none, .int .i64 2]) ∧ Below w.heap.size w w' := by
  by_cases h1 : n < 1
  · clear h
    go_enter Try.func56, Try.ntmps56
    go_wp2
    exact bodyPost_ret (v := .tuple #[.pointer none, .int .i64 2]) (by simp [results, Try.results56, go_sem]) rfl ⟨rfl, Below.refl _ _⟩
  · by_cases h2 : 64 < n
    · clear h
      go_enter Try.func56, Try.ntmps56
      go_wp2
      exact bodyPost_ret (v := .tuple #[.pointer none, .int .i64 2]) (by simp [results, Try.results56, go_sem]) rfl ⟨rfl, Below.refl _ _⟩
    · have h1' : 1 ≤ n := by omega
      have h2' : n ≤ 64 := by omega
      by_cases h3 : set < 1
      · clear h
        go_enter Try.func56, Try.ntmps56
        go_wp2
        exact bodyPost_ret (v := .tuple #[.pointer none, .int .i64 2]) (by simp [results, Try.results56, go_sem]) rfl ⟨rfl, Below.refl _ _⟩
      · have h4 : 2147483647 < set := by omega
        clear h
        go_enter Try.func56, Try.ntmps56
        go_wp2
        exact bodyPost_ret (v := .tuple #[.pointer none, .int .i64 2]) (by simp [results, Try.results56, go_sem]) rfl ⟨rfl, Below.refl _ _⟩
theorem LAt.bound {w : World} {base : Nat} {F : Nat → Prop} {b : Nat} {L : Lr} (h : LAt w base F b L) : LAt w base (fun k => F k ∧ base ≤ k ∧ k < w.heap.size) b L := by
  obtain ⟨cs, vs, vd, h1, h2, h3, h4, h5, h6, h7, h8, h9⟩ := h
  have hb : ∀ {v xs}, kB.R 5 w base F v xs → kB.R 5 w base (fun k => F k ∧ base ≤ k ∧ k < w.heap.size) v xs := fun hR => Kd.R_mono (Kd.R_bound hR) fun k hk => ⟨hk.1, hk.2.1, hk.2.2.1⟩
  exact ⟨cs, vs, vd, ⟨h1, h2, (Array.getElem?_eq_some_iff.1 h3).1⟩, h2, h3, h4, fun i hi => ⟨(h5 i hi).1, (h5 i hi).2.1, (h5 i hi).2.2.1, hb (h5 i hi).2.2.2⟩, h6, h7, h8, hb h9⟩
/-- both learners, made since w; the blocks K are neither's: they are what they were at W1 -/
structure DB (w W1 u : World) (K : Nat → Prop) (b p t d ct cd : Nat) (L R : Lr) : Prop where
  ex : ∃ F1 F2, LAt u w.heap.size F1 b L ∧ RL u w.heap.size F2 p t d ct cd R ∧ (∀ k, F1 k → w.heap.size ≤ k ∧ k < u.heap.size ∧ ¬ K k ∧ ¬ F2 k) ∧ (∀ k, F2 k → w.heap.size ≤ k ∧ k < u.heap.size ∧ ¬ K k)
  hb : Below w.heap.size w u
  kb : ∀ k, K k → k < u.heap.size ∧ u.heap[k]? = W1.heap[k]?
  h1 : 1 ≤ L.nodes ∧ L.nodes ≤ 64
  h2 : R.nodes ≤ 64
  hx : L.data.length ≤ 4000
section
variable {w W1 u v : World} {K : Nat → Prop} {b p t d ct cd : Nat} {L R L' R' : Lr}
theorem DB.below (h : DB w W1 u K b p t d ct cd L R) (hb : Below u.heap.size u v) : DB w W1 v K b p t d ct cd L R := by
  obtain ⟨F1, F2, h1, h2, h3, h4⟩ := h.ex
  exact ⟨⟨F1, F2, h1.below hb, h2.below hb, fun k hk => ⟨(h3 k hk).1, Nat.lt_of_lt_of_le (h3 k hk).2.1 hb.size, (h3 k hk).2.2⟩, fun k hk => ⟨(h4 k hk).1, Nat.lt_of_lt_of_le (h4 k hk).2.1 hb.size, (h4 k hk).2.2⟩⟩, below_step h.hb hb,
    fun k hk => ⟨Nat.lt_of_lt_of_le (h.kb k hk).1 hb.size, (hb.block k (h.kb k hk).1).trans (h.kb k hk).2⟩, h.h1, h.h2, h.hx⟩
/-- the program's call -/
theorem DB.ansL (h : DB w W1 u K b p t d ct cd L R) {f : FuncId} {args : Array Value} {q : Bool × Int} (hn : L'.nodes = L.nodes) (hx : L'.data.length ≤ 4000)
    (hc : ∀ F, LAt u w.heap.size F b L → Calls Try.prog f args u (LAns u w.heap.size F b L' (ansV q))) : Calls Try.prog f args u fun e v => e = .returned (.tuple #[.bool q.1, .int .i64 q.2]) ∧ DB w W1 v K b p t d ct cd L' R := by
  obtain ⟨F1, F2, h1, h2, h3, h4⟩ := h.ex
  refine (hc F1 h1).mono fun e v ⟨e1, e2, e3⟩ => ⟨e1, ⟨fun k => (F1 k ∨ u.heap.size ≤ k) ∧ w.heap.size ≤ k ∧ k < v.heap.size, F2, e3.bound, h2.move fun k hk hlt => e2.block k hlt (fun hk1 => (h3 k hk1).2.2.2 hk), fun k hk => ⟨hk.2.1, hk.2.2, fun hK => ?_, fun hF => ?_⟩, fun k hk => ⟨(h4 k hk).1, Nat.lt_of_lt_of_le (h4 k hk).2.1 e2.size, (h4 k hk).2.2⟩⟩, ?_, fun k hk => ⟨Nat.lt_of_lt_of_le (h.kb k hk).1 e2.size, ?_⟩, by rw [hn]; exact h.h1, h.h2, hx⟩
  · rcases hk.1 with hk1 | hk1
    · exact (h3 k hk1).2.2.1 hK
    · have := (h.kb k hK).1; omega
  · rcases hk.1 with hk1 | hk1
    · exact (h3 k hk1).2.2.2 hF
    · have := (h4 k hF).2.1; omega
  · exact h.hb.trans (e2.below (fun k hk => (h3 k hk).1) h.hb.size)
  · exact (e2.block k (h.kb k hk).1 (fun hk1 => (h3 k hk1).2.2.1 hk)).trans (h.kb k hk).2
/-- the document's call -/
theorem DB.ansR (h : DB w W1 u K b p t d ct cd L R) {f : FuncId} {args : Array Value} {q : Bool × Int} (hn : R'.nodes ≤ 64)
    (hc : ∀ F, RL u w.heap.size F p t d ct cd R → Calls Try.prog f args u (RAns u w.heap.size F p t d ct cd R' (ansV q))) : Calls Try.prog f args u fun e v => e = .returned (.tuple #[.bool q.1, .int .i64 q.2]) ∧ DB w W1 v K b p t d ct cd L R' := by
  obtain ⟨F1, F2, h1, h2, h3, h4⟩ := h.ex
  refine (hc F2 h2).mono fun e v ⟨e1, e2, e3⟩ => ⟨e1, ⟨F1, fun k => (F2 k ∨ u.heap.size ≤ k) ∧ w.heap.size ≤ k ∧ k < v.heap.size, h1.move fun k hk hlt => e2.block k hlt (fun hk1 => (h3 k hk).2.2.2 hk1), e3.bound, fun k hk => ⟨(h3 k hk).1, Nat.lt_of_lt_of_le (h3 k hk).2.1 e2.size, (h3 k hk).2.2.1, fun hF => ?_⟩, fun k hk => ⟨hk.2.1, hk.2.2, fun hK => ?_⟩⟩, ?_, fun k hk => ⟨Nat.lt_of_lt_of_le (h.kb k hk).1 e2.size, ?_⟩, h.h1, hn, h.hx⟩
  · rcases hF.1 with hk1 | hk1
    · exact (h3 k hk).2.2.2 hk1
    · have := (h3 k hk).2.1; omega
  · rcases hk.1 with hk1 | hk1
    · exact (h4 k hk1).2.2 hK
    · have := (h.kb k hK).1; omega
  · exact h.hb.trans (e2.below (fun k hk => (h4 k hk).1) h.hb.size)
  · exact (e2.block k (h.kb k hk).1 (fun hk1 => (h4 k hk1).2.2 hk)).trans (h.kb k hk).2
/-- blocks made since are kept apart -/
theorem DB.box (h : DB w w u (fun _ => False) b p t d ct cd L R) (hb : Below u.heap.size u v) : DB w v v (fun k => u.heap.size ≤ k ∧ k < v.heap.size) b p t d ct cd L R := by
  obtain ⟨F1, F2, h1, h2, h3, h4⟩ := h.ex
  exact ⟨⟨F1, F2, h1.below hb, h2.below hb, fun k hk => ⟨(h3 k hk).1, Nat.lt_of_lt_of_le (h3 k hk).2.1 hb.size, by have := (h3 k hk).2.1; omega, (h3 k hk).2.2.2⟩, fun k hk => ⟨(h4 k hk).1, Nat.lt_of_lt_of_le (h4 k hk).2.1 hb.size, by have := (h4 k hk).2.1; omega⟩⟩, below_step h.hb hb, fun k hk => ⟨hk.2, rfl⟩, h.h1, h.h2, h.hx⟩
/-- what was kept apart is written over -/
theorem DB.over (h : DB w W1 u K b p t d ct cd L R) (hm : Moved K u v) (hK : ∀ k, K k → w.heap.size ≤ k) : DB w w v (fun _ => False) b p t d ct cd L R := by
  obtain ⟨F1, F2, h1, h2, h3, h4⟩ := h.ex
  exact ⟨⟨F1, F2, h1.move fun k hk hlt => hm.block k hlt (h3 k hk).2.2.1, h2.move fun k hk hlt => hm.block k hlt (h4 k hk).2.2, fun k hk => ⟨(h3 k hk).1, Nat.lt_of_lt_of_le (h3 k hk).2.1 hm.size, id, (h3 k hk).2.2.2⟩, fun k hk => ⟨(h4 k hk).1, Nat.lt_of_lt_of_le (h4 k hk).2.1 hm.size, id⟩⟩, h.hb.trans (hm.below hK h.hb.size), fun k hk => hk.elim, h.h1, h.h2, h.hx⟩
theorem DB.told (h : DB w W1 u K b p t d ct cd L R) {A : Option Addr} {c : Nat} {x : List Int} (hg : Given u A c x) {q : Bool × Int} (he : toldI L x = (q, L')) :
    Calls Try.prog 59 #[.pointer (some ⟨b, 0, none⟩), .slice A x.length c] u fun e v => e = .returned (.tuple #[.bool q.1, .int .i64 q.2]) ∧ DB w W1 v K b p t d ct cd L' R := by
  have e1 := toldI_nodes L x
  have e2 := toldI_len (L := L) (x := x) h.hx
  have e3 := fun F (hL : LAt u w.heap.size F b L) => told_any hL h.hb.size h.h1.1 hg
  rw [he] at e1 e2 e3
  exact h.ansL e1 e2 e3
theorem DB.hear (h : DB w W1 u K b p t d ct cd L R) {A : Option Addr} {c : Nat} {x : List Int} {k n dd : Int} (hg : Given u A c x) {q : Bool × Int} (he : hearI L k n dd x = (q, L')) :
    Calls Try.prog 51 #[.pointer (some ⟨b, 0, none⟩), .int .i64 k, .agg #[.int .i64 n, .int .i64 dd], .slice A x.length c] u fun e v => e = .returned (.tuple #[.bool q.1, .int .i64 q.2]) ∧ DB w W1 v K b p t d ct cd L' R := by
  have e1 := hearI_nodes L k n dd x
  have e2 := hearI_len (L := L) k n dd (x := x) h.hx
  have e3 := fun F (hL : LAt u w.heap.size F b L) => Hear_any (k := k) (n := n) (d := dd) hL h.hb.size h.h1 hg
  rw [he] at e1 e2 e3
  exact h.ansL e1 e2 e3
theorem DB.rtold (h : DB w W1 u K b p t d ct cd L R) {A : Option Addr} {c : Nat} {x : List Int} (hg : Given u A c x) {q : Bool × Int} (he : toldR R x = (q, R')) :
    Calls Try.prog 90 #[.pointer (some ⟨p, 0, none⟩), .slice A x.length c] u fun e v => e = .returned (.tuple #[.bool q.1, .int .i64 q.2]) ∧ DB w W1 v K b p t d ct cd L R' := by
  have e1 := toldR_nodes R x
  have e3 := fun F (hL : RL u w.heap.size F p t d ct cd R) => rtold_any hL h.hb.size hg
  rw [he] at e1 e3
  exact h.ansR (by rw [e1]; exact h.h2) e3
theorem DB.rhear (h : DB w W1 u K b p t d ct cd L R) {A : Option Addr} {c : Nat} {x : List Int} {k n dd : Int} (hg : Given u A c x) {q : Bool × Int} (he : hearI R k n dd x = (q, R')) :
    Calls Try.prog 91 #[.pointer (some ⟨p, 0, none⟩), .int .i64 k, .agg #[.int .i64 n, .int .i64 dd], .slice A x.length c] u fun e v => e = .returned (.tuple #[.bool q.1, .int .i64 q.2]) ∧ DB w W1 v K b p t d ct cd L R' := by
  have e1 := hearI_nodes R k n dd x
  have e3 := fun F (hL : RL u w.heap.size F p t d ct cd R) => rhear_any (k := k) (n := n) (dd := dd) hL h.hb.size hg h.h2
  rw [he] at e1 e3
  exact h.ansR (by rw [e1]; exact h.h2) e3
end
theorem RowB.keep {w u : World} {base : Nat} {v : Value} {xs : List Int} (h : RowB w base v xs) (hk : ∀ k, v.ownBlock = some k → u.heap[k]? = w.heap[k]?) : RowB u base v xs := by
  refine ⟨?_, h.2.keep hk⟩
  exact Kd.R_mono (Kd.R_step (Kd.R_tight rfl h.1) (fun k hk' _ => hk k hk'.symm)) (fun _ _ => trivial)
theorem RowB.base {w : World} {base : Nat} {v : Value} {xs : List Int} (h : RowB w base v xs) : ∀ k, v.ownBlock = some k → base ≤ k ∧ k < w.heap.size := fun k hk => by
  obtain ⟨inner, ho⟩ := Kd.R_own h.1
  exact ⟨own_base ho k hk, own_lt ho k hk⟩
theorem RowB.given {w : World} {base : Nat} {A : Option Addr} {c : Nat} {xs : List Int} (h : RowB w base (.slice A xs.length c) xs) : Given w A c xs := by
  obtain ⟨A1, c1, e, hg⟩ := given_of_R h.1
  injection e with e1 e2 e3
  subst e1
  subst e3
  exact hg
/-- the word heard by the one, by the other -/
def wordL (L : Lr) (q : Wd) : (Bool × Int) × Lr := if q.t then toldI L q.x else hearI L q.k q.n q.d q.x
def wordR (R : Lr) (q : Wd) : (Bool × Int) × Lr := if q.t then toldR R q.x else hearI R q.k q.n q.d q.x
theorem Like.word {L R : Lr} (h : Like L R) (q : Wd) : (wordL L q).1 = (wordR R q).1 ∧ Like (wordL L q).2 (wordR R q).2 := by
  unfold wordL wordR
  cases q.t with
  | true => exact h.told q.x
  | false => exact h.hear _ _ _ _
def HearsAns (w : World) (b p t d ct cd : Nat) (L R : Lr) (q : Wd) (e : Ending) (v : World) : Prop := e = .returned (.bool true) ∧ DB w w v (fun _ => False) b p t d ct cd (wordL L q).2 (wordR R q).2
theorem Moved.weaken {F F' : Nat → Prop} {w u : World} (h : Moved F w u) (hF : ∀ k, F k → F' k) : Moved F' w u := ⟨h.os, h.tape, h.output, h.size, fun k hk hn => h.block k hk (fun e => hn (hF k e))⟩
def BoxW (w : World) (g : Nat) (t : Bool) (k v d : Int) (A : Option Addr) (l c : Nat) : Prop := w.heap[g]? = some (.cells #[.bool t, .int .i64 k, .int .i64 v, .int .i64 d, .slice A l c] 86 (0, 0))
theorem BoxW.at {u : World} {g : Nat} {t : Bool} {k v d : Int} {A : Option Addr} {l c : Nat} (hx : BoxW u g t k v d A l c) :
    u.cell? ⟨g, 0, none⟩ = some (.bool t) ∧ u.cell? ⟨g, 1, none⟩ = some (.int .i64 k) ∧ u.cell? ⟨g, 2, none⟩ = some (.int .i64 v) ∧ u.cell? ⟨g, 3, none⟩ = some (.int .i64 d) ∧ u.cell? ⟨g, 4, none⟩ = some (.slice A l c) :=
  ⟨by rw [cell_of_row _ g 0 _ _ _ hx]; rfl, by rw [cell_of_row _ g 1 _ _ _ hx]; rfl, by rw [cell_of_row _ g 2 _ _ _ hx]; rfl, by rw [cell_of_row _ g 3 _ _ _ hx]; rfl, by rw [cell_of_row _ g 4 _ _ _ hx]; rfl⟩
theorem same_own {A1 A2 : Option Addr} {c1 c2 : Nat} {l : List Int} {w : World} (h1 : Given w A1 c1 l) (h2 : Given w A2 c2 l) : Calls Try.prog 54 #[.slice A1 l.length c1, .slice A2 l.length c2] w fun e w' => e = .returned (.bool true) ∧ Below w.heap.size w w' := by
  have := same_bytes h1.1 h2.1
  rwa [sameB_self] at this
set_option maxHeartbeats 3200000 in
set_option maxRecDepth 100000 in
theorem hears_any {w wr : World} {b p t d ct cd : Nat} {L R : Lr} (h : DB w w wr (fun _ => False) b p t d ct cd L R) (hl : Like L R) (q : Wd) (A : Option Addr) (c : Nat) (hG : ∀ u, Below w.heap.size w u → Given u A c q.x) (hx : q.x.length ≤ 4100) :
    Calls Try.prog 57 #[.pointer (some ⟨b, 0, none⟩), .pointer (some ⟨p, 0, none⟩), .agg #[.bool q.t, .int .i64 q.k, .int .i64 q.n, .int .i64 q.d, .slice A q.x.length c]] wr (HearsAns w b p t d ct cd L R q) := by
  have HW := Aside0.mk (hl.word q)
  obtain ⟨tt, k, n, dd, x⟩ := q
  simp only at hG hx
  show Calls Try.prog 57 #[.pointer (some ⟨b, 0, none⟩), .pointer (some ⟨p, 0, none⟩), .agg #[.bool tt, .int .i64 k, .int .i64 n, .int .i64 dd, .slice A x.length c]] wr _
  obtain ⟨W0, hW0⟩ : ∃ W0, wr.alloc (.cells #[.bool tt, .int .i64 k, .int .i64 n, .int .i64 dd, .slice A x.length c] 86) = W0 := ⟨_, rfl⟩
  have hb0 : Below wr.heap.size wr W0 := by rw [← hW0]; exact (Below.refl _ _).alloc (Nat.le_refl _) _
  have hB0 : BoxW W0 wr.heap.size tt k n dd A x.length c := by rw [← hW0]; exact heap_alloc_new _ _
  have hs0 : wr.heap.size < W0.heap.size := by rw [← hW0]; simp
  have HG := Aside0.mk hG
  have HB0 := Aside0.mk hb0
  have HX0 := Aside0.mk hB0
  have HS0 := Aside0.mk hs0
  have HD := Aside0.mk h
  obtain ⟨b0, b1, b2, b3, b4⟩ := hB0.at
  have HCP := Aside0.mk (CopyB_any (hG W0 (below_step h.hb hb0)) (by omega))
  clear hG hb0 hB0 hs0 h hl
  cases tt with
  | true =>
    obtain ⟨⟨⟨r, er⟩, L'⟩, he1⟩ : ∃ z, toldI L x = z := ⟨_, rfl⟩
    obtain ⟨⟨r2, R'⟩, he2⟩ : ∃ z, toldR R x = z := ⟨_, rfl⟩
    have hw := HW.out.1
    simp only [wordL, wordR, if_true, Bool.false_eq_true, if_false, he1, he2] at hw
    subst hw
    have HFIN : Aside0 (∀ u, DB w w u (fun _ => False) b p t d ct cd L' R' → HearsAns w b p t d ct cd L R ⟨true, k, n, dd, x⟩ (.returned (.bool true)) u) := ⟨fun u hd => ⟨rfl, by simp only [wordL, wordR, if_true, Bool.false_eq_true, if_false, he1, he2]; exact hd⟩⟩
    have HE1 := Aside0.mk he1
    have HE2 := Aside0.mk he2
    clear he1 he2
    go_enter Try.func57, Try.ntmps57
    go_wp2_with (go_at_call 89; (with_reducible refine HCP.out.mono ?_); rintro e W1 ⟨A1, c1, rfl, hb, hr⟩; have HR1 := Aside0.mk hr; have HB1 := Aside0.mk hb; have HBX := Aside0.mk ((hb.block _ HS0.out).trans HX0.out); have z0 := pw_cell_below hb b0; have z1 := pw_cell_below hb b1; have z2 := pw_cell_below hb b2; have z3 := pw_cell_below hb b3; have z4 := pw_cell_below hb b4; clear hr hb b0 b1 b2 b3 b4)
    have HDB := Aside0.mk (HD.out.box (below_step HB0.out HB1.out))
    have hs1 : wr.heap.size < W1.heap.size := Nat.lt_of_lt_of_le HS0.out HB1.out.size
    have hs2 : w.heap.size ≤ wr.heap.size := HD.out.hb.size
    have HBOX : Aside0 (∀ u L2 R2, DB w W1 u (fun k => wr.heap.size ≤ k ∧ k < W1.heap.size) b p t d ct cd L2 R2 → u.cell? ⟨wr.heap.size, 0, none⟩ = some (.bool true) ∧ u.cell? ⟨wr.heap.size, 1, none⟩ = some (.int .i64 k) ∧ u.cell? ⟨wr.heap.size, 2, none⟩ = some (.int .i64 n) ∧ u.cell? ⟨wr.heap.size, 3, none⟩ = some (.int .i64 dd) ∧ u.cell? ⟨wr.heap.size, 4, none⟩ = some (.slice A x.length c)) :=
      ⟨fun u L2 R2 hd => BoxW.at ((hd.kb _ ⟨Nat.le_refl _, hs1⟩).2.trans HBX.out)⟩
    have HIN : Aside0 (∀ u L2 R2, DB w W1 u (fun k => wr.heap.size ≤ k ∧ k < W1.heap.size) b p t d ct cd L2 R2 → RowB u W0.heap.size (.slice A1 x.length c1) x) :=
      ⟨fun u L2 R2 hd => HR1.out.keep fun k hk => (hd.kb k ⟨by have := (HR1.out.base k hk).1; have := HS0.out; omega, (HR1.out.base k hk).2⟩).2⟩
    have HOV : Aside0 (∀ u v L2 R2, DB w W1 u (fun k => wr.heap.size ≤ k ∧ k < W1.heap.size) b p t d ct cd L2 R2 → Moved (fun k => some k = (Value.slice A1 x.length c1).ownBlock) u v → DB w w v (fun _ => False) b p t d ct cd L2 R2) :=
      ⟨fun u v L2 R2 hd hm => hd.over (hm.weaken fun k hk => ⟨by have := (HR1.out.base k hk.symm).1; have := HS0.out; omega, (HR1.out.base k hk.symm).2⟩) fun k hk => Nat.le_trans hs2 hk.1⟩
    clear HR1 HBX HD HB0 HB1 HX0 HS0 HCP HW hs1 hs2
    obtain ⟨wb, hwb⟩ : ∃ wb, wr.heap.size = wb := ⟨_, rfl⟩
    rw [hwb] at z0 z1 z2 z3 z4 HDB HBOX HIN HOV ⊢
    obtain ⟨K, hK⟩ : ∃ K, (fun k => wb ≤ k ∧ k < W1.heap.size) = K := ⟨_, rfl⟩
    rw [hK] at HDB HBOX HIN HOV
    clear hK hwb
    go_wp2_with (first
      | (go_at_call 59; (with_reducible refine (HDB.out.told (HIN.out _ _ _ HDB.out).given HE1.out).mono ?_); rintro e u1 ⟨rfl, hd⟩; have HD1 := Aside0.mk hd; clear z0 z1 z2 z3 z4; obtain ⟨z0, z1, z2, z3, z4⟩ := HBOX.out _ _ _ hd; clear hd)
      | (go_at_call 90; (with_reducible refine (HD1.out.rtold (HG.out _ HD1.out.hb) HE2.out).mono ?_); rintro e u2 ⟨rfl, hd⟩; have HD2 := Aside0.mk hd; clear z0 z1 z2 z3 z4; obtain ⟨z0, z1, z2, z3, z4⟩ := HBOX.out _ _ _ hd; clear hd)
      | (go_at_call 54; (with_reducible refine (same_own (HIN.out _ _ _ HD2.out).given (HG.out _ HD2.out.hb)).mono ?_); rintro e u3 ⟨rfl, hb⟩; have HD3 := Aside0.mk (HD2.out.below hb); clear hb)
      | (go_at_call 92; (with_reducible refine (OverB_any (HIN.out _ _ _ HD3.out)).mono ?_); rintro e u4 ⟨rfl, hm⟩; have HD4 := Aside0.mk (HOV.out _ _ _ _ HD3.out hm); clear hm))
    go_ret
    exact HFIN.out _ HD4.out
  | false =>
    obtain ⟨⟨⟨r, er⟩, L'⟩, he1⟩ : ∃ z, hearI L k n dd x = z := ⟨_, rfl⟩
    obtain ⟨⟨r2, R'⟩, he2⟩ : ∃ z, hearI R k n dd x = z := ⟨_, rfl⟩
    have hw := HW.out.1
    simp only [wordL, wordR, if_true, Bool.false_eq_true, if_false, he1, he2] at hw
    subst hw
    have HFIN : Aside0 (∀ u, DB w w u (fun _ => False) b p t d ct cd L' R' → HearsAns w b p t d ct cd L R ⟨false, k, n, dd, x⟩ (.returned (.bool true)) u) := ⟨fun u hd => ⟨rfl, by simp only [wordL, wordR, if_true, Bool.false_eq_true, if_false, he1, he2]; exact hd⟩⟩
    have HE1 := Aside0.mk he1
    have HE2 := Aside0.mk he2
    clear he1 he2
    go_enter Try.func57, Try.ntmps57
    go_wp2_with (go_at_call 89; (with_reducible refine HCP.out.mono ?_); rintro e W1 ⟨A1, c1, rfl, hb, hr⟩; have HR1 := Aside0.mk hr; have HB1 := Aside0.mk hb; have HBX := Aside0.mk ((hb.block _ HS0.out).trans HX0.out); have z0 := pw_cell_below hb b0; have z1 := pw_cell_below hb b1; have z2 := pw_cell_below hb b2; have z3 := pw_cell_below hb b3; have z4 := pw_cell_below hb b4; clear hr hb b0 b1 b2 b3 b4)
    have HDB := Aside0.mk (HD.out.box (below_step HB0.out HB1.out))
    have hs1 : wr.heap.size < W1.heap.size := Nat.lt_of_lt_of_le HS0.out HB1.out.size
    have hs2 : w.heap.size ≤ wr.heap.size := HD.out.hb.size
    have HBOX : Aside0 (∀ u L2 R2, DB w W1 u (fun k => wr.heap.size ≤ k ∧ k < W1.heap.size) b p t d ct cd L2 R2 → u.cell? ⟨wr.heap.size, 0, none⟩ = some (.bool false) ∧ u.cell? ⟨wr.heap.size, 1, none⟩ = some (.int .i64 k) ∧ u.cell? ⟨wr.heap.size, 2, none⟩ = some (.int .i64 n) ∧ u.cell? ⟨wr.heap.size, 3, none⟩ = some (.int .i64 dd) ∧ u.cell? ⟨wr.heap.size, 4, none⟩ = some (.slice A x.length c)) :=
      ⟨fun u L2 R2 hd => BoxW.at ((hd.kb _ ⟨Nat.le_refl _, hs1⟩).2.trans HBX.out)⟩
    have HIN : Aside0 (∀ u L2 R2, DB w W1 u (fun k => wr.heap.size ≤ k ∧ k < W1.heap.size) b p t d ct cd L2 R2 → RowB u W0.heap.size (.slice A1 x.length c1) x) :=
      ⟨fun u L2 R2 hd => HR1.out.keep fun k hk => (hd.kb k ⟨by have := (HR1.out.base k hk).1; have := HS0.out; omega, (HR1.out.base k hk).2⟩).2⟩
    have HOV : Aside0 (∀ u v L2 R2, DB w W1 u (fun k => wr.heap.size ≤ k ∧ k < W1.heap.size) b p t d ct cd L2 R2 → Moved (fun k => some k = (Value.slice A1 x.length c1).ownBlock) u v → DB w w v (fun _ => False) b p t d ct cd L2 R2) :=
      ⟨fun u v L2 R2 hd hm => hd.over (hm.weaken fun k hk => ⟨by have := (HR1.out.base k hk.symm).1; have := HS0.out; omega, (HR1.out.base k hk.symm).2⟩) fun k hk => Nat.le_trans hs2 hk.1⟩
    clear HR1 HBX HD HB0 HB1 HX0 HS0 HCP HW hs1 hs2
    obtain ⟨wb, hwb⟩ : ∃ wb, wr.heap.size = wb := ⟨_, rfl⟩
    rw [hwb] at z0 z1 z2 z3 z4 HDB HBOX HIN HOV ⊢
    obtain ⟨K, hK⟩ : ∃ K, (fun k => wb ≤ k ∧ k < W1.heap.size) = K := ⟨_, rfl⟩
    rw [hK] at HDB HBOX HIN HOV
    clear hK hwb
    go_wp2_with (first
      | (go_at_call 51; (with_reducible refine (HDB.out.hear (HIN.out _ _ _ HDB.out).given HE1.out).mono ?_); rintro e u1 ⟨rfl, hd⟩; have HD1 := Aside0.mk hd; clear z0 z1 z2 z3 z4; obtain ⟨z0, z1, z2, z3, z4⟩ := HBOX.out _ _ _ hd; clear hd)
      | (go_at_call 91; (with_reducible refine (HD1.out.rhear (HG.out _ HD1.out.hb) HE2.out).mono ?_); rintro e u2 ⟨rfl, hd⟩; have HD2 := Aside0.mk hd; clear z0 z1 z2 z3 z4; obtain ⟨z0, z1, z2, z3, z4⟩ := HBOX.out _ _ _ hd; clear hd)
      | (go_at_call 54; (with_reducible refine (same_own (HIN.out _ _ _ HD2.out).given (HG.out _ HD2.out.hb)).mono ?_); rintro e u3 ⟨rfl, hb⟩; have HD3 := Aside0.mk (HD2.out.below hb); clear hb)
      | (go_at_call 92; (with_reducible refine (OverB_any (HIN.out _ _ _ HD3.out)).mono ?_); rintro e u4 ⟨rfl, hm⟩; have HD4 := Aside0.mk (HOV.out _ _ _ _ HD3.out hm); clear hm))
    go_ret
    exact HFIN.out _ HD4.out
theorem Like.heard {L R : Lr} (h : Like L R) (k : Int) : heardI L k = heardI R k := by
  unfold heardI
  rw [h.n, h.o]
set_option maxHeartbeats 3200000 in
set_option maxRecDepth 100000 in
theorem alikeL_any {w wr : World} {b p t d ct cd : Nat} {L R : Lr} (h : DB w w wr (fun _ => False) b p t d ct cd L R) (hl : Like L R) :
    Calls Try.prog 58 #[.pointer (some ⟨b, 0, none⟩), .pointer (some ⟨p, 0, none⟩)] wr fun e u => e = .returned (.bool true) ∧ Below wr.heap.size wr u := by
  obtain ⟨F1, F2, k1, k2, _, _⟩ := h.ex
  have HDC := Aside0.mk (decided_any k1 h.h1.1 (by have := h.hx; omega))
  have hN1 : 1 ≤ L.nodes := h.h1.1
  have hN2 : L.nodes ≤ 64 := h.h1.2
  have hRn : R.nodes = L.nodes := hl.n.symm
  have HH1 := Aside0.mk (fun u (hb : Below wr.heap.size wr u) (k : Int) => heard_any (k1.below hb) h.h1 k)
  have HH2 : Aside0 (∀ u, Below wr.heap.size wr u → ∀ k : Int, Calls Try.prog 93 #[.pointer (some ⟨p, 0, none⟩), .int .i64 k] u fun e w' => e = .returned (.agg #[.int .i64 (heardI L k).1, .int .i64 (heardI L k).2]) ∧ Below u.heap.size u w') := ⟨fun u hb k => by
    rw [hl.heard k]
    exact rheard_any (k2.below hb) (by rw [hRn]; exact h.h1) k⟩
  have HR2 : Aside0 (∀ u, Below wr.heap.size wr u → ∃ A c, u.cell? ⟨p, 0, none⟩ = some (.slice (some ⟨t, 0, none⟩) L.nodes ct) ∧ u.cell? ⟨p, 2, none⟩ = some (.bool L.dec) ∧ u.cell? ⟨p, 3, none⟩ = some (.slice A R.data.length c) ∧ Given u A c R.data) := ⟨fun u hb => by
    obtain ⟨A, c, q0, _, q2, q3, hg⟩ := (k2.below hb).fields
    rw [hRn] at q0
    rw [← hl.d] at q2
    exact ⟨A, c, q0, q2, q3, hg⟩⟩
  have HS := Aside0.mk hl.s
  obtain ⟨dc, hdc⟩ : ∃ dc, L.dec = dc := ⟨_, rfl⟩
  unfold DTold at HDC
  rw [hdc] at HDC HR2 HS
  obtain ⟨dat, hdat⟩ : ∃ dat, (if dc = true then L.data else []) = dat := ⟨_, rfl⟩
  rw [hdat] at HDC HS
  obtain ⟨N, hN⟩ : ∃ N, L.nodes = N := ⟨_, rfl⟩
  rw [hN] at HR2 hN1 hN2
  clear k1 k2 h hl hdc hdat hRn hN
  go_enter Try.func58, Try.ntmps58
  go_wp2_with (go_at_call 53; (with_reducible refine HDC.out.mono ?_); rintro e u1 ⟨A1, c1, l, rfl, hb, hr, hl⟩; subst hl; have HR1 := Aside0.mk hr; have HB1 := Aside0.mk hb; obtain ⟨A2, c2, q0, q2, q3, hg⟩ := HR2.out u1 hb; have HSM := Aside0.mk (same_bytes hr.given.1 hg.1); rw [HS.out] at HSM; clear hr hb hg)
  all_goals
    go_wp2_with (first
      | (go_at_call 54; (with_reducible refine HSM.out.mono ?_); rintro e u2 ⟨rfl, hb⟩; have HB2 := Aside0.mk hb; have HR3 := Aside0.mk (HR1.out.below hb); clear hb)
      | (go_at_call 92; (with_reducible refine (OverB_any HR3.out).mono ?_); rintro e u3 ⟨rfl, hm⟩; have HB3 := Aside0.mk (below_step (below_step HB1.out HB2.out) (Below.refl _ _)); have HB4 := Aside0.mk ((below_step HB1.out HB2.out).trans (hm.below (fun k hk => (HR1.out.base k hk.symm).1) (below_step HB1.out HB2.out).size)); clear hm))
    clear q0 q2 q3 HSM HS HDC HR1 HR3 HB1 HB2 HB3
    go_loopw [8] (fun i wz => ∃ k : Nat, k ≤ N + 2 ∧ i = .int .i64 k ∧ Aside0 (Below wr.heap.size wr wz)) (fun i _ => N + 2 - (intOf i).toNat)
    case atStart => exact ⟨0, by omega, rfl, HB4⟩
    case round =>
      clear HB4
      obtain ⟨k, hk, rfl, HB⟩ := hrel
      obtain ⟨A3, c3, q0, _, _, _⟩ := HR2.out _ HB.out
      by_cases hgo : k ≤ N + 1
      · have hg1 : (k : Int) ≤ (N : Int) + 1 := by omega
        obtain ⟨⟨a1, a2⟩, ha⟩ : ∃ z, heardI L (k : Int) = z := ⟨_, rfl⟩
        have HC1 := Aside0.mk (HH1.out _ HB.out (k : Int))
        have HC2 := Aside0.mk (fun u hb => HH2.out u hb (k : Int))
        rw [ha] at HC1 HC2
        clear ha
        go_wp2_with (first
          | (go_at_call 60; (with_reducible refine HC1.out.mono ?_); rintro e u5 ⟨rfl, hb⟩; have HB5 := Aside0.mk (below_step HB.out hb); clear hb)
          | (go_at_call 93; (with_reducible refine (HC2.out _ HB5.out).mono ?_); rintro e u6 ⟨rfl, hb⟩; have HB6 := Aside0.mk (below_step HB5.out hb); clear hb))
        go_roundw
        case rel => exact ⟨k + 1, by omega, by go_num, HB6⟩
        case measure => simp [intOf]; omega
      · obtain rfl : k = N + 2 := by omega
        have hg1 : (N : Int) + 1 < ((N + 2 : Nat) : Int) := by omega
        go_wp2
        go_ret
        exact ⟨rfl, HB.out⟩
theorem LAt.lower {w : World} {base base' : Nat} {F : Nat → Prop} {b : Nat} {L : Lr} (h : LAt w base F b L) (hle : base' ≤ base) : LAt w base' F b L := by
  obtain ⟨cs, vs, vd, k1, k2, k3, k4, k5, k6, k7, k8, k9⟩ := h
  exact ⟨cs, vs, vd, k1, Nat.le_trans hle k2, k3, k4, fun i hi => ⟨(k5 i hi).1, (k5 i hi).2.1, (k5 i hi).2.2.1, Kd.R_lower (k5 i hi).2.2.2 hle⟩, k6, k7, k8, Kd.R_lower k9 hle⟩
theorem RL.lower {w : World} {base base' : Nat} {F : Nat → Prop} {p t d ct cd : Nat} {L : Lr} (h : RL w base F p t d ct cd L) (hle : base' ≤ base) : RL w base' F p t d ct cd L := by
  obtain ⟨vd, h1, h2⟩ := h.hp
  obtain ⟨ds, h5, h6⟩ := h.hd
  exact ⟨⟨vd, h1, Kd.R_lower h2 hle⟩, h.ht, ⟨ds, h5, fun i hi => by obtain ⟨v, e1, e2⟩ := h6 i hi; exact ⟨v, e1, Kd.R_lower e2 hle⟩⟩, ⟨h.fp.1, Nat.le_trans hle h.fp.2⟩, ⟨h.ft.1, Nat.le_trans hle h.ft.2⟩, ⟨h.fd.1, Nat.le_trans hle h.fd.2⟩⟩
theorem db_start {w u0 u1 u2 : World} {b p t d n : Nat} (hn : 1 ≤ n ∧ n ≤ 64) (h0 : Below w.heap.size w u0) (h1 : Below u0.heap.size u0 u1) (hL : LAt u1 u0.heap.size (fun k => u0.heap.size ≤ k) b ⟨n, fun _ => hd0, false, []⟩) (h2 : Below u1.heap.size u1 u2)
    (hR : RL u2 u1.heap.size (fun k => u1.heap.size ≤ k) p t d n n ⟨n, fun _ => hd0, false, []⟩) : DB w w u2 (fun _ => False) b p t d n n ⟨n, fun _ => hd0, false, []⟩ ⟨n, fun _ => hd0, false, []⟩ := by
  have z0 := h0.size
  have z1 := h1.size
  have z2 := h2.size
  exact ⟨⟨_, _, (hL.bound.lower z0).below h2, hR.bound.lower (Nat.le_trans z0 z1), fun k hk => ⟨by omega, by omega, id, fun hF => by have := hF.2.1; have := hk.2.2; omega⟩, fun k hk => ⟨by have := hk.2.1; omega, hk.2.2, id⟩⟩, below_step (below_step h0 h1) h2, fun k hk => hk.elim, hn, hn.2, by simp⟩
theorem like_start (n : Nat) : Like ⟨n, fun _ => hd0, false, []⟩ ⟨n, fun _ => hd0, false, []⟩ := ⟨rfl, rfl, rfl, sameB_self _⟩
set_option maxHeartbeats 3200000 in
set_option maxRecDepth 100000 in
theorem learnScript_bad (nodes set : Int) (a : Option Addr) (c : Nat) (xs : List Wd) (w : World) (hW : IsWords w a xs.length c xs) (hbad : nodes < 1 ∨ 64 < nodes ∨ set < 1 ∨ 2147483647 < set) :
    Calls Try.prog 14 #[.int .i64 nodes, .int .i64 set, .slice a xs.length c] w fun e w' => e = .returned (.bool true) ∧ Below w.heap.size w w' := by
  have HLG := Aside0.mk (long_any hW)
  have HN1 := Aside0.mk (fun u => lnew_bad nodes set u hbad)
  have HN2 := Aside0.mk (fun u => rnewl_bad nodes set u hbad)
  have hl1 := hW.2.2.1
  clear hW hbad
  go_enter Try.func14, Try.ntmps14
  go_wp2_with (first
    | (go_at_call 55; (with_reducible refine HLG.out.mono ?_); rintro e u ⟨r, rfl, hb, _⟩; have HB := Aside0.mk hb; clear hb)
    | (go_at_call 50; (with_reducible refine (HN1.out _).mono ?_); rintro e u ⟨rfl, hb⟩; have h1 := Aside0.mk (below_step HB.out hb); clear HB hb; have HB := h1; clear h1)
    | (go_at_call 56; (with_reducible refine (HN2.out _).mono ?_); rintro e u ⟨rfl, hb⟩; have h1 := Aside0.mk (below_step HB.out hb); clear HB hb; have HB := h1; clear h1)
    | (go_at_call 49; (with_reducible refine (awake49 _).mono ?_); rintro e u ⟨rfl, hb⟩; have h1 := Aside0.mk (below_step HB.out hb); clear HB hb; have HB := h1; clear h1))
  all_goals
    go_ret
    exact ⟨rfl, HB.out⟩
set_option maxHeartbeats 3200000 in
set_option maxRecDepth 100000 in
theorem learnScript_good (n : Nat) (set : Int) (a : Option Addr) (c : Nat) (xs : List Wd) (w : World) (hW : IsWords w a xs.length c xs) (hn : 1 ≤ n ∧ n ≤ 64) (hs : 1 ≤ set ∧ set ≤ 2147483647) :
    Calls Try.prog 14 #[.int .i64 n, .int .i64 set, .slice a xs.length c] w fun e w' => e = .returned (.bool true) ∧ Below w.heap.size w w' := by
  have HLG := Aside0.mk (long_any hW)
  have HW := Aside0.mk hW
  have HN1 := Aside0.mk (fun u => lnew_good n set u hn hs)
  have HN2 := Aside0.mk (fun u => rnewl_good n set u hn hs)
  have HST := Aside0.mk (fun u0 u1 u2 b p t d => @db_start w u0 u1 u2 b p t d n hn)
  have hl1 := hW.2.2.1
  have HLK := Aside0.mk (like_start n)
  obtain ⟨L0, hL0⟩ : ∃ L0, (⟨n, fun _ => hd0, false, []⟩ : Lr) = L0 := ⟨_, rfl⟩
  rw [hL0] at HLK
  clear hW hn hs
  go_enter Try.func14, Try.ntmps14
  go_wp2_with (first
    | (go_at_call 55; (with_reducible refine HLG.out.mono ?_); rintro e u ⟨r, rfl, hb, hsh⟩; have HB := Aside0.mk hb; have HSH := Aside0.mk hsh; clear hb hsh)
    | (go_at_call 50; (with_reducible refine (HN1.out _).mono ?_); rintro e u1 ⟨b, rfl, hb, hl⟩; have HB1 := Aside0.mk hb; have HL := Aside0.mk hl; clear hb hl)
    | (go_at_call 56; (with_reducible refine (HN2.out _).mono ?_); rintro e u2 ⟨p, t, d, rfl, hb, hr⟩; have HD := Aside0.mk (HST.out _ _ _ _ _ _ _ HB.out HB1.out HL.out hb hr); rw [hL0] at HD; clear hb hr HL HB1)
    | (go_at_call 49; (with_reducible refine (awake49 _).mono ?_); rintro e u ⟨rfl, hb⟩; have h1 := Aside0.mk (below_step HB.out hb); clear HB hb; have HB := h1; clear h1))
  · go_ret
    exact ⟨rfl, HB.out⟩
  · have hr0 : r = false := by first | assumption | simp_all
    subst hr0
    have HSS := Aside0.mk (HSH.out rfl)
    clear HSH HST HN1 HN2 HLG HB hL0
    go_loopw [11] (fun i wr => ∃ (k : Nat) (L R : Lr), k ≤ xs.length ∧ i = .int .i64 k ∧ Aside0 (DB w w wr (fun _ => False) b p t d n n L R) ∧ Aside0 (Like L R)) (fun i _ => xs.length - (intOf i).toNat)
    case atStart => exact ⟨0, _, _, by omega, rfl, HD, HLK⟩
    case round =>
      clear HD HLK
      obtain ⟨k, L, R, hk, rfl, HD, HLK⟩ := hrel
      by_cases hgo : k < xs.length
      · obtain ⟨ad, A, cx, rfl, hc, hg⟩ := HW.out.2.2.2 k hgo
        rw [show (⟨false, 0, 0, 0, []⟩ : Wd) = zW from rfl] at hc hg
        have hxl := HSS.out.2 k hgo
        have q0 := hc 0 _ rfl
        have q1 := hc 1 _ rfl
        have q2 := hc 2 _ rfl
        have q3 := hc 3 _ rfl
        have q4 := hc 4 _ rfl
        have HH := hears_any HD.out HLK.out (xs.getD k zW) A cx (fun u hb => hg.below hb) hxl
        have HLW := Aside0.mk (HLK.out.word (xs.getD k zW)).2
        obtain ⟨q, hq⟩ : ∃ q, xs.getD k zW = q := ⟨_, rfl⟩
        rw [hq] at q0 q1 q2 q3 q4 HH HLW
        clear hc hq hg hxl
        obtain ⟨tt, kk, v, dd, x⟩ := q
        simp only [Nat.add_zero] at q0 q1 q2 q3 q4 HH HLW
        unfold HearsAns at HH
        have HH := Aside0.mk HH
        obtain ⟨ln, hln⟩ : ∃ ln, x.length = ln := ⟨_, rfl⟩
        rw [hln] at q4 HH
        clear hln
        rw [add_field _ _ 1 (by omega)] at q1
        rw [add_field _ _ 2 (by omega)] at q2
        rw [add_field _ _ 3 (by omega)] at q3
        rw [add_field _ _ 4 (by omega)] at q4
        have p0 := pw_cell_below HD.out.hb q0
        have p1 := pw_cell_below HD.out.hb q1
        have p2 := pw_cell_below HD.out.hb q2
        have p3 := pw_cell_below HD.out.hb q3
        have p4 := pw_cell_below HD.out.hb q4
        clear q0 q1 q2 q3 q4
        go_wp2_with (first
          | (go_at_call 57; (with_reducible refine HH.out.mono ?_); rintro e u5 ⟨rfl, hd⟩; have HD5 := Aside0.mk hd; have HAL := Aside0.mk (alikeL_any hd HLW.out); clear hd)
          | (go_at_call 58; (with_reducible refine HAL.out.mono ?_); rintro e u6 ⟨rfl, hb⟩; have HD6 := Aside0.mk (HD5.out.below hb); clear hb))
        go_roundw
        case rel => exact ⟨k + 1, _, _, by omega, by go_num, HD6, HLW⟩
        case measure => simp [intOf]; omega
      · obtain rfl : k = xs.length := by omega
        have HAL := Aside0.mk (alikeL_any HD.out HLK.out)
        go_wp2_with (first
          | (go_at_call 58; (with_reducible refine HAL.out.mono ?_); rintro e u6 ⟨rfl, hb⟩; have HB6 := Aside0.mk (below_step HD.out.hb hb); clear hb)
          | (go_at_call 49; (with_reducible refine (awake49 _).mono ?_); rintro e u7 ⟨rfl, hb⟩; have HB7 := Aside0.mk (below_step HB6.out hb); clear hb))
        go_ret
        exact ⟨rfl, HB7.out⟩
theorem learnScript_walk (nodes set : Int) (a : Option Addr) (len c : Nat) (xs : List Wd) (w : World) (_ : (Lit.int .i64 nodes).wf = true) (_ : (Lit.int .i64 set).wf = true) (hW : IsWords w a len c xs) :
    Calls Try.prog 14 #[.int .i64 nodes, .int .i64 set, .slice a len c] w fun e w' => e = .returned (.bool true) ∧ Below w.heap.size w w' := by
  obtain rfl := hW.1
  by_cases hbad : nodes < 1 ∨ 64 < nodes ∨ set < 1 ∨ 2147483647 < set
  · exact learnScript_bad nodes set a c xs w hW hbad
  · obtain ⟨n, rfl⟩ := Int.eq_ofNat_of_zero_le (show 0 ≤ nodes by omega)
    exact learnScript_good n set a c xs w hW (by omega) (by omega)
end Go.Proofs.Ytheafmjdncmpoaa
