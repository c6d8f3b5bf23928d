/-
  Reads: a hint to a home that lacks the bytes.
-/
import Derived.Test.YtaaepadhapfkoaaRdK
import Derived.Deep.RegionHeld
namespace Go.Proofs.Ytaaepadhapfkoaa
set_option linter.unusedSimpArgs false
set_option linter.unusedVariables false
open Go.RowKit

theorem hint_box (w : World) {R : Rdr} {t : Int} {A : Option Addr} {c B : Nat} (hl : (ntR R (true, t) (.slice A R.data.length c)).length = 48) (hg : Given w A c R.data) (ht : AtT w A 5) (hn : ∀ ad, A = some ad → B ≤ ad.block) (hB : B ≤ w.heap.size) :
    NotesAt (w.alloc (.cells (ntR R (true, t) (.slice A R.data.length c)).toArray 69)) B (.slice (some ⟨w.heap.size, 0, none⟩) 1 1) R [(true, t)] := by
  refine ⟨[((true, t), .slice A R.data.length c)], rfl, ?_, ?_⟩
  · have e : cellsN R [((true, t), .slice A R.data.length c)] = ntR R (true, t) (.slice A R.data.length c) := by simp [cellsN]
    rw [e]
    exact Go.Joins.ownsRow_le (owns_one w hl) hB
  · intro y hy
    obtain rfl := List.mem_singleton.1 hy
    have hb : Below w.heap.size w (w.alloc (.cells (ntR R (true, t) (.slice A R.data.length c)).toArray 69)) := (Below.refl _ _).alloc (Nat.le_refl _) _
    exact ⟨A, c, rfl, hg.below hb, ht.keep (fun ad ha => hb.block _ (ht.lt ha)), hn⟩
section
variable {w w' : World} {p : Nat} {R : Rdr} {a1 a2 a3 : Option Addr} {c1 c2 c3 : Nat}
/-- what a hint adds -/
def hintO (R : Rdr) (home : Int) : List (Bool × Int) := if R.kn.getD (placeI R.ord home).toNat 0 = 2 then [(true, home)] else []
/-- behind a hint -/
def HintAt (w0 : World) (p b2 base : Nat) (R : Rdr) (a1 : Option Addr) (c1 : Nat) (a2 : Option Addr) (c2 : Nat) (a3 : Option Addr) (c3 : Nat) (ns : List (Bool × Int)) (e : Ending) (w' : World) : Prop :=
  e = .returned (.tuple #[]) ∧ ∃ v', w'.heap[b2]? = some (.cells #[v'] 61 (0, 0)) ∧ NotesAt w' base v' R ns ∧ RAt w' p R a1 c1 a2 c2 a3 c3 ∧ Below b2 w0 w'
set_option maxHeartbeats 4000000 in
set_option maxRecDepth 100000 in
theorem hint_any (h : RAt w p R a1 c1 a2 c2 a3 c3) (ok : R.Ok) (home : Int) (hin : home ∈ R.ord) (b0 b2 base : Nat) (v : Value) (ns : List (Bool × Int)) (h0 : w.cell? ⟨b0, 0, none⟩ = some (.pointer (some ⟨p, 0, none⟩))) (h2 : w.heap[b2]? = some (.cells #[v] 61 (0, 0)))
    (hb0 : b0 < b2) (hb2 : b2 < base) (hbs : base ≤ w.heap.size) (hN : NotesAt w base v R ns) (hnl : ns.length ≤ 1000) (hne : p ≠ b2) :
    Calls Try.prog 86 #[.int .i64 home, .pointer (some ⟨b0, 0, none⟩), .pointer (some ⟨b2, 0, none⟩)] w (HintAt w p b2 base R a1 c1 a2 c2 a3 c3 (ns ++ hintO R home)) := by
  obtain ⟨j, hj, hjl, _⟩ : ∃ j : Nat, placeI R.ord home = j ∧ j < R.ord.length ∧ R.ord.getD j 0 = home := by
    rcases placeI_cases R.ord home with ⟨_, h2⟩ | h
    · exact absurd hin h2
    · exact h
  have hj64 : j < 64 := by have := ok.ordl; omega
  have hj64' : (j : Int) < 64 := by omega
  have hj0 : (0 : Int) ≤ (j : Int) := Int.natCast_nonneg j
  have HIX := Hf.mk (fun n => index2_any a1 R.ord c1 home (w.drewN n) (h.ord.below (below_drewN (Below.refl w.heap.size w) n)) (by have := ok.ordl; omega))
  rw [hj] at HIX
  have qo := h.cord
  have qk := h.cknown hj64
  obtain ⟨x, hx⟩ : ∃ x, R.kn.getD j 0 = x := ⟨_, rfl⟩
  rw [hx] at qk
  have HHO : Hf (hintO R home = if x = 2 then [(true, home)] else []) := ⟨by unfold hintO; rw [hj, Int.toNat_natCast, hx]⟩
  have HRR := Hf.mk h
  have HOK := Hf.mk ok
  have HO := Hf.mk h2
  have HNS := Hf.mk hN
  have HNL := Hf.mk hnl
  have HBS := Hf.mk hbs
  have HB2L := Hf.mk hb2
  have HL2 : Hf (b2 < w.heap.size) := ⟨(Array.getElem?_eq_some_iff.1 h2).1⟩
  have qv : w.cell? ⟨b2, 0, none⟩ = some v := by rw [Go.Joins.cell_of_block h2]; rfl
  have fv := Go.Joins.unfrozen_of_block h2 0
  have HPL := Hf.mk h.lt
  have HQ0 := Hf.mk h0
  clear h ok hj hx h2 hN hnl hbs hb2 hin
  by_cases hx2 : x = 2
  · subst hx2
    have HHP : Hf (hintO R home = [(true, home)]) := ⟨by rw [HHO.out, if_pos rfl]⟩
    have HBD := Hf.mk (fun A' c' => built_hint 16 R.me home R.cn R.cb R.cc R.set R.id HOK.out.idl A' R.data.length c')
    have HLN := Hf.mk (fun A' c' => ntR_len (R := R) HOK.out.idl (true, home) (.slice A' R.data.length c'))
    have HNT : Hf (∀ A' c', nt 16 R.me home R.cn R.cb R.cc R.set false R.id (.slice A' R.data.length c') = ntR R (true, home) (.slice A' R.data.length c')) := ⟨fun _ _ => rfl⟩
    have HB0L : Hf (b0 < w.heap.size) := ⟨Nat.lt_trans hb0 HL2.out⟩
    have HKS : Hf (∀ u, RAt u p R a1 c1 a2 c2 a3 c3 → u.cell? ⟨b0, 0, none⟩ = some (.pointer (some ⟨p, 0, none⟩)) → u.rangeAt p 1 (cellsOf R.id) ∧ u.cell? ⟨b0, 0, none⟩ = some (.pointer (some ⟨p, 0, none⟩)) ∧ u.cell? ⟨p, 33, none⟩ = some (.int .i64 R.me) ∧ u.cell? ⟨p, 35, none⟩ = some (.int .i64 R.cn) ∧ u.cell? ⟨p, 36, none⟩ = some (.int .i64 R.cb) ∧ u.cell? ⟨p, 37, none⟩ = some (.int .i64 R.cc) ∧ u.cell? ⟨p, 0, none⟩ = some (.int .i64 R.set) ∧ u.cell? ⟨p, 107, none⟩ = some (.slice a3 R.data.length c3)) := ⟨fun u hu hq => ⟨hu.cid HOK.out.idl, hq, hu.cme, hu.ccn, hu.ccb, hu.ccc, hu.cset, hu.cdat⟩⟩
    have HSZ : Hf ((Try.prog.info? 23).map (·.size) = some (cellsOf R.id).length) := ⟨by rw [cellsOf_length, HOK.out.idl]; exact size23⟩
    have HCL : Hf (∀ u, Below w.heap.size w u → Calls Try.prog 75 #[.slice a3 R.data.length c3] u fun e w' => ∃ A' c', e = .returned (.slice A' R.data.length c') ∧ Given w' A' c' R.data ∧ AtT w' A' 5 ∧ (∀ ad, A' = some ad → u.heap.size ≤ ad.block) ∧ Below u.heap.size u w') := ⟨fun u hu => clone_any a3 c3 R.data u (HRR.out.below hu).dat (by have := HOK.out.dat; omega)⟩
    generalize cellsOf R.id = cs at *
    go_enter Try.func86, Try.ntmps86
    go_wp2_with fail
    go_quiet ((go_at_call 85; exact Calls.quiet_of_same (HIX.out _)))
    go_wp2
    generalize hw : w.drewN _ = W
    have HBW : Hf (Below w.heap.size w W) := ⟨by rw [← hw]; exact below_drewN (Below.refl _ _) _⟩
    clear hw
    have HBW2 : Hf (Below w.heap.size w W.drew) := ⟨HBW.out.drew⟩
    refine wp_region_held_drew (S := fun u => u.rangeAt p 1 cs ∧ u.cell? ⟨b0, 0, none⟩ = some (.pointer (some ⟨p, 0, none⟩)) ∧ u.cell? ⟨p, 33, none⟩ = some (.int .i64 R.me) ∧ u.cell? ⟨p, 35, none⟩ = some (.int .i64 R.cn) ∧ u.cell? ⟨p, 36, none⟩ = some (.int .i64 R.cb) ∧ u.cell? ⟨p, 37, none⟩ = some (.int .i64 R.cc) ∧ u.cell? ⟨p, 0, none⟩ = some (.int .i64 R.set) ∧ u.cell? ⟨p, 107, none⟩ = some (.slice a3 R.data.length c3)) (by kernel_rfl) (HKS.out _ (HRR.out.below HBW2.out) ((HBW2.out.cell (p := ⟨b0, 0, none⟩) HB0L.out).trans HQ0.out)) (fun hHeld => ?_)
    change wpAnyH _ _ _ _ _ 27 (Array.replicate 27 false) _ _
    have HRW := Hf.mk (HRR.out.below HBW2.out)
    have HOW : Hf (W.drew.heap[b2]? = some (.cells #[v] 61 (0, 0))) := ⟨(HBW2.out.block _ HL2.out).trans HO.out⟩
    have HNW := Hf.mk (HNS.out.below HBW2.out)
    have HBSW := Hf.mk (Nat.le_trans HBS.out HBW2.out.size)
    have HL2W : Hf (b2 ≤ w.heap.size) := ⟨Nat.le_of_lt HL2.out⟩
    have HL2V := Hf.mk (Nat.lt_of_lt_of_le HL2.out HBW2.out.size)
    have HQ0W := Hf.mk ((HBW2.out.cell (p := ⟨b0, 0, none⟩) HB0L.out).trans HQ0.out)
    have HCLW := Hf.mk (HCL.out _ HBW2.out)
    clear HRR HO HNS HBS HL2 HQ0 HCL HBW qo qk qv fv h0
    generalize W.drew = W at *
    have HRR := HRW
    have HO := HOW
    have HNS := HNW
    have HBS := HBSW
    have HL2 := HL2V
    have HQ0 := HQ0W
    have HCL := HCLW
    have HBW := HBW2
    clear HRW HOW HNW HBSW HL2V HQ0W HCLW HBW2
    have HV2 : Hf (∀ u, Below W.heap.size W u → u.cell? ⟨b2, 0, none⟩ = some v) := ⟨fun u hu => by rw [Go.Joins.cell_of_block ((hu.block _ HL2.out).trans HO.out)]; rfl⟩
    have qv2 : W.cell? ⟨b2, 0, none⟩ = some v := HV2.out _ (Below.refl _ _)
    have HB0V : Hf (b0 < W.heap.size) := ⟨Nat.lt_trans hb0 HL2.out⟩
    have HKP : Hf (∀ u, Below W.heap.size W u → _) := ⟨fun u hu => HKS.out u (HRR.out.below hu) ((hu.cell (p := ⟨b0, 0, none⟩) HB0V.out).trans HQ0.out)⟩
    clear HB0L
    refine wpAnyH_take (i := 1) rfl (by kernel_rfl) (by kernel_rfl) (by kernel_rfl) (fun _ _ _ h => h) (Or.inl ⟨by rfl, (by intro u hSw; obtain ⟨s0, s1, s2, s3, s4, s5, s6, s7⟩ := hSw; go_simp; first | done | (with_reducible rfl))⟩) hHeld ?_
    (try simp only [List.getElem_toArray, List.getElem_cons_succ, List.getElem_cons_zero, Act.put, List.setIfInBounds_toArray, List.set_cons_zero, List.set_cons_succ])
    refine wpAnyH_take (i := 2) rfl (by kernel_rfl) (by kernel_rfl) (by kernel_rfl) (fun _ _ _ h => h) (Or.inl ⟨by rfl, (by intro u hSw; obtain ⟨s0, s1, s2, s3, s4, s5, s6, s7⟩ := hSw; go_simp; first | done | (with_reducible rfl))⟩) hHeld ?_
    (try simp only [List.getElem_toArray, List.getElem_cons_succ, List.getElem_cons_zero, Act.put, List.setIfInBounds_toArray, List.set_cons_zero, List.set_cons_succ])
    refine wpAnyH_take (i := 3) rfl (by kernel_rfl) (by kernel_rfl) (by kernel_rfl) (fun _ _ _ h => h) (Or.inl ⟨by rfl, (by intro u hSw; obtain ⟨s0, s1, s2, s3, s4, s5, s6, s7⟩ := hSw; go_simp; first | done | (with_reducible rfl))⟩) hHeld ?_
    (try simp only [List.getElem_toArray, List.getElem_cons_succ, List.getElem_cons_zero, Act.put, List.setIfInBounds_toArray, List.set_cons_zero, List.set_cons_succ])
    refine wpAnyH_take (i := 4) rfl (by kernel_rfl) (by kernel_rfl) (by kernel_rfl) (fun _ _ _ h => h) (Or.inl ⟨by rfl, (by intro u hSw; obtain ⟨s0, s1, s2, s3, s4, s5, s6, s7⟩ := hSw; go_simp; first | done | (with_reducible rfl))⟩) hHeld ?_
    (try simp only [List.getElem_toArray, List.getElem_cons_succ, List.getElem_cons_zero, Act.put, List.setIfInBounds_toArray, List.set_cons_zero, List.set_cons_succ])
    refine wpAnyH_take (i := 5) rfl (by kernel_rfl) (by kernel_rfl) (by kernel_rfl) (fun _ _ _ h => h) (Or.inl ⟨by rfl, (by intro u hSw; obtain ⟨s0, s1, s2, s3, s4, s5, s6, s7⟩ := hSw; go_simp; first | done | (with_reducible rfl))⟩) hHeld ?_
    (try simp only [List.getElem_toArray, List.getElem_cons_succ, List.getElem_cons_zero, Act.put, List.setIfInBounds_toArray, List.set_cons_zero, List.set_cons_succ])
    refine wpAnyH_take (i := 6) rfl (by kernel_rfl) (by kernel_rfl) (by kernel_rfl) (fun _ _ _ h => h) (Or.inl ⟨by rfl, (by intro u hSw; obtain ⟨s0, s1, s2, s3, s4, s5, s6, s7⟩ := hSw; go_simp; first | done | (with_reducible rfl))⟩) hHeld ?_
    (try simp only [List.getElem_toArray, List.getElem_cons_succ, List.getElem_cons_zero, Act.put, List.setIfInBounds_toArray, List.set_cons_zero, List.set_cons_succ])
    refine wpAnyH_take (i := 7) rfl (by kernel_rfl) (by kernel_rfl) (by kernel_rfl) (fun _ _ _ h => h) (Or.inl ⟨by rfl, (by intro u hSw; obtain ⟨s0, s1, s2, s3, s4, s5, s6, s7⟩ := hSw; go_simp; first | done | (with_reducible rfl))⟩) hHeld ?_
    (try simp only [List.getElem_toArray, List.getElem_cons_succ, List.getElem_cons_zero, Act.put, List.setIfInBounds_toArray, List.set_cons_zero, List.set_cons_succ])
    refine wpAnyH_take (i := 8) rfl (by kernel_rfl) (by kernel_rfl) (by kernel_rfl) (fun _ _ _ h => h) (Or.inl ⟨by rfl, (by intro u hSw; obtain ⟨s0, s1, s2, s3, s4, s5, s6, s7⟩ := hSw; go_simp; first | done | (with_reducible rfl))⟩) hHeld ?_
    (try simp only [List.getElem_toArray, List.getElem_cons_succ, List.getElem_cons_zero, Act.put, List.setIfInBounds_toArray, List.set_cons_zero, List.set_cons_succ])
    refine wpAnyH_take (i := 9) rfl (by kernel_rfl) (by kernel_rfl) (by kernel_rfl) (fun _ _ _ h => h) (Or.inl ⟨by rfl, (by intro u hSw; obtain ⟨s0, s1, s2, s3, s4, s5, s6, s7⟩ := hSw; go_simp; first | done | (with_reducible rfl))⟩) hHeld ?_
    (try simp only [List.getElem_toArray, List.getElem_cons_succ, List.getElem_cons_zero, Act.put, List.setIfInBounds_toArray, List.set_cons_zero, List.set_cons_succ])
    refine wpAnyH_take (i := 10) rfl (by kernel_rfl) (by kernel_rfl) (by kernel_rfl) (fun _ _ _ h => h) (Or.inl ⟨by rfl, (by intro u hSw; obtain ⟨s0, s1, s2, s3, s4, s5, s6, s7⟩ := hSw; go_simp; first | done | (with_reducible rfl))⟩) hHeld ?_
    (try simp only [List.getElem_toArray, List.getElem_cons_succ, List.getElem_cons_zero, Act.put, List.setIfInBounds_toArray, List.set_cons_zero, List.set_cons_succ])
    refine wpAnyH_take (i := 11) rfl (by kernel_rfl) (by kernel_rfl) (by kernel_rfl) (fun _ _ _ h => h) (Or.inl ⟨by rfl, (by intro u hSw; obtain ⟨s0, s1, s2, s3, s4, s5, s6, s7⟩ := hSw; go_simp; first | done | (with_reducible rfl))⟩) hHeld ?_
    (try simp only [List.getElem_toArray, List.getElem_cons_succ, List.getElem_cons_zero, Act.put, List.setIfInBounds_toArray, List.set_cons_zero, List.set_cons_succ])
    refine wpAnyH_take (i := 12) rfl (by kernel_rfl) (by kernel_rfl) (by kernel_rfl) (fun _ _ _ h => h) (Or.inl ⟨by rfl, (by intro u hSw; obtain ⟨s0, s1, s2, s3, s4, s5, s6, s7⟩ := hSw; go_simp; first | done | (with_reducible rfl))⟩) hHeld ?_
    (try simp only [List.getElem_toArray, List.getElem_cons_succ, List.getElem_cons_zero, Act.put, List.setIfInBounds_toArray, List.set_cons_zero, List.set_cons_succ])
    refine wpAnyH_take (i := 13) rfl (by kernel_rfl) (by kernel_rfl) (by kernel_rfl) (fun _ _ _ h => h) (Or.inl ⟨by rfl, (by intro u hSw; obtain ⟨s0, s1, s2, s3, s4, s5, s6, s7⟩ := hSw; go_simp; first | done | (with_reducible rfl))⟩) hHeld ?_
    (try simp only [List.getElem_toArray, List.getElem_cons_succ, List.getElem_cons_zero, Act.put, List.setIfInBounds_toArray, List.set_cons_zero, List.set_cons_succ])
    refine wpAnyH_take (i := 14) rfl (by kernel_rfl) (by kernel_rfl) (by kernel_rfl) (fun _ _ _ h => h) (Or.inl ⟨by rfl, (by intro u hSw; obtain ⟨s0, s1, s2, s3, s4, s5, s6, s7⟩ := hSw; go_simp; first | done | (with_reducible rfl))⟩) hHeld ?_
    (try simp only [List.getElem_toArray, List.getElem_cons_succ, List.getElem_cons_zero, Act.put, List.setIfInBounds_toArray, List.set_cons_zero, List.set_cons_succ])
    refine wpAnyH_take (i := 15) rfl (by kernel_rfl) (by kernel_rfl) (by kernel_rfl) (fun _ _ _ h => h) (Or.inl ⟨by rfl, (by intro u hSw; obtain ⟨s0, s1, s2, s3, s4, s5, s6, s7⟩ := hSw; go_simp; first | done | (with_reducible rfl))⟩) hHeld ?_
    (try simp only [List.getElem_toArray, List.getElem_cons_succ, List.getElem_cons_zero, Act.put, List.setIfInBounds_toArray, List.set_cons_zero, List.set_cons_succ])
    refine wpAnyH_take (i := 16) rfl (by kernel_rfl) (by kernel_rfl) (by kernel_rfl) (fun _ _ _ h => h) (Or.inl ⟨by rfl, (by intro u hSw; obtain ⟨s0, s1, s2, s3, s4, s5, s6, s7⟩ := hSw; go_simp; first | done | (with_reducible rfl))⟩) hHeld ?_
    (try simp only [List.getElem_toArray, List.getElem_cons_succ, List.getElem_cons_zero, Act.put, List.setIfInBounds_toArray, List.set_cons_zero, List.set_cons_succ])
    refine wpAnyH_take (i := 17) rfl (by kernel_rfl) (by kernel_rfl) (by kernel_rfl) (fun _ _ _ h => h) (yieldsIf_load_mid (by rfl) 23 (.tmp 32) (by rfl) p 1 (by rfl) cs _ (fun u hu => hu.1) Try.underlying23 rfl HSZ.out) hHeld ?_
    (try simp only [List.getElem_toArray, List.getElem_cons_succ, List.getElem_cons_zero, Act.put, List.setIfInBounds_toArray, List.set_cons_zero, List.set_cons_succ])
    refine wpAnyH_take (i := 18) rfl (by kernel_rfl) (by kernel_rfl) (by kernel_rfl) (fun _ _ _ h => h) (Or.inl ⟨by rfl, (by intro u hSw; obtain ⟨s0, s1, s2, s3, s4, s5, s6, s7⟩ := hSw; go_simp; first | done | (with_reducible rfl))⟩) hHeld ?_
    (try simp only [List.getElem_toArray, List.getElem_cons_succ, List.getElem_cons_zero, Act.put, List.setIfInBounds_toArray, List.set_cons_zero, List.set_cons_succ])
    refine wpAnyH_take (i := 19) rfl (by kernel_rfl) (by kernel_rfl) (by kernel_rfl) (fun _ _ _ h => h) (Or.inl ⟨by rfl, (by intro u hSw; obtain ⟨s0, s1, s2, s3, s4, s5, s6, s7⟩ := hSw; go_simp; first | done | (with_reducible rfl))⟩) hHeld ?_
    (try simp only [List.getElem_toArray, List.getElem_cons_succ, List.getElem_cons_zero, Act.put, List.setIfInBounds_toArray, List.set_cons_zero, List.set_cons_succ])
    refine wpAnyH_take (i := 20) rfl (by kernel_rfl) (by kernel_rfl) (by kernel_rfl) (fun _ _ _ h => h) (Or.inl ⟨by rfl, (by intro u hSw; obtain ⟨s0, s1, s2, s3, s4, s5, s6, s7⟩ := hSw; go_simp; first | done | (with_reducible rfl))⟩) hHeld ?_
    (try simp only [List.getElem_toArray, List.getElem_cons_succ, List.getElem_cons_zero, Act.put, List.setIfInBounds_toArray, List.set_cons_zero, List.set_cons_succ])
    refine wpAnyH_take (i := 21) rfl (by kernel_rfl) (by kernel_rfl) (by kernel_rfl) (fun _ _ _ h => h) (Or.inl ⟨by rfl, (by intro u hSw; obtain ⟨s0, s1, s2, s3, s4, s5, s6, s7⟩ := hSw; go_simp; first | done | (with_reducible rfl))⟩) hHeld ?_
    (try simp only [List.getElem_toArray, List.getElem_cons_succ, List.getElem_cons_zero, Act.put, List.setIfInBounds_toArray, List.set_cons_zero, List.set_cons_succ])
    refine wpAnyH_ready (rs := [0, 22]) (by kernel_rfl) (by simp) ?_
    refine AllReadyH.cons rfl (fun K hK => ?_) (AllReadyH.cons rfl (fun K hK => ?_) AllReadyH.nil)
    · have hl := qv2
      go_simp
      clear hl
      have hk := hHeld
      refine hK.out _ _ hk (fun hHeld => ?_)
      clear hK K hk
      (try simp only [List.getElem_toArray, List.getElem_cons_succ, List.getElem_cons_zero, Act.put, List.setIfInBounds_toArray, List.set_cons_zero, List.set_cons_succ])
      refine wpAnyH_ready (rs := [22]) (by kernel_rfl) (by simp) ?_
      refine AllReadyH.cons rfl (fun K hK => ?_) AllReadyH.nil
      go_simp
      go_at_call 75
      (with_reducible refine HCL.out.mono ?_)
      rintro e w2 ⟨A', c', rfl, hg2, ht2, hn2, hb2⟩
      have HG2 := Hf.mk hg2
      have HT2 := Hf.mk ht2
      have HN2 := Hf.mk hn2
      have HB2 := Hf.mk hb2
      have hk := HKP.out _ hb2
      have hq2 : w2.cell? ⟨b2, 0, none⟩ = some v := HV2.out _ hb2
      have HQ2 := Hf.mk hq2
      clear hg2 ht2 hn2 hb2 hHeld hq2
      refine hK.out _ _ hk (fun hHeld => ?_)
      clear hK K hk
      (try simp only [List.getElem_toArray, List.getElem_cons_succ, List.getElem_cons_zero, Act.put, List.setIfInBounds_toArray, List.set_cons_zero, List.set_cons_succ])
      refine wpAnyH_take (i := 23) rfl (by kernel_rfl) (by kernel_rfl) (by kernel_rfl) (fun _ _ _ h => h) (yieldsIf_build (by rfl) 69 _ rfl [(0, .int .i64 16), (1, .int .i64 R.me), (2, .int .i64 home), (3, .agg #[.int .i64 R.cn, .int .i64 R.cb, .int .i64 R.cc]), (4, .int .i64 R.set), (9, .agg cs.toArray), (10, .slice A' R.data.length c')] (by simp [Act.eval, Act.put]) _ (HBD.out A' c')) hHeld ?_
      (try simp only [List.getElem_toArray, List.getElem_cons_succ, List.getElem_cons_zero, Act.put, List.setIfInBounds_toArray, List.set_cons_zero, List.set_cons_succ])
      refine wpAnyH_ready (rs := [24]) (by kernel_rfl) (by simp) ?_
      refine AllReadyH.cons rfl (fun K hK => ?_) AllReadyH.nil
      refine wp_box (.tmp 39) rfl (ntR R (true, home) (.slice A' R.data.length c')) rfl (HLN.out A' c') ?_
      have HB3 := Hf.mk (below_step HB2.out ((Below.refl w2.heap.size w2).alloc (Nat.le_refl _) (.cells (ntR R (true, home) (.slice A' R.data.length c')).toArray 69)))
      have hk := HKP.out _ HB3.out
      have HX3 := Hf.mk (hint_box w2 (HLN.out A' c') HG2.out HT2.out HN2.out HB2.out.size)
      have HQ3 := Hf.mk (HV2.out _ HB3.out)
      generalize w2.alloc (.cells (ntR R (true, home) (.slice A' R.data.length c')).toArray 69) = w3 at *
      clear hHeld
      refine hK.out _ _ hk (fun hHeld => ?_)
      clear hK K hk
      (try simp only [List.getElem_toArray, List.getElem_cons_succ, List.getElem_cons_zero, Act.put, List.setIfInBounds_toArray, List.set_cons_zero, List.set_cons_succ])
      refine wpAnyH_ready (rs := [25]) (by kernel_rfl) (by simp) ?_
      refine AllReadyH.cons rfl (fun K hK => ?_) AllReadyH.nil
      refine wp_append_notes (.tmp 16) (.tmp 40) rfl base W.heap.size _ _ R ns _ rfl rfl (HNS.out.below HB3.out) HX3.out HBS.out (by have := HNL.out; simp; omega) (Nat.le_trans HBS.out HB3.out.size) ?_
      intro v4 w4 hn4 hg4 _
      obtain ⟨B4, k4, hv4, _⟩ := hn4.form
      generalize (ns ++ [(true, home)]).length = n4 at hv4
      subst hv4
      have HN5 := Hf.mk hn4
      have HR5 := Hf.mk ((HRR.out.below HB3.out).grown69 hg4 (fun k hk => ((HNS.out.below HB3.out).blk k hk).2))
      have HO5 : Hf (w4.heap[b2]? = some (.cells #[v] 61 (0, 0))) := ⟨(hg4.block b2 (Nat.lt_of_lt_of_le HL2.out HB3.out.size) (fun e => by have := ((HNS.out.below HB3.out).blk b2 e.symm).1; have := HB2L.out; omega)).trans ((HB3.out.block b2 HL2.out).trans HO.out)⟩
      have HBB : Hf (Below b2 W w4) := ⟨(HB3.out.mono (Nat.le_of_lt HL2.out)).grown hg4 (Nat.le_trans (Nat.le_of_lt HL2.out) HB3.out.size) (fun k hk => Nat.le_trans (Nat.le_of_lt HB2L.out) ((HNS.out.below HB3.out).blk k hk).1)⟩
      have hk := HKS.out _ HR5.out ((HBB.out.cell (p := ⟨b0, 0, none⟩) hb0).trans HQ0.out)
      clear hn4 hg4 hHeld
      refine hK.out _ _ hk (fun hHeld => ?_)
      clear hK K hk
      (try simp only [List.getElem_toArray, List.getElem_cons_succ, List.getElem_cons_zero, Act.put, List.setIfInBounds_toArray, List.set_cons_zero, List.set_cons_succ])
      refine wpAnyH_ready (rs := [26]) (by kernel_rfl) (by simp) ?_
      refine AllReadyH.cons rfl (fun K hK => ?_) AllReadyH.nil
      have hl : w4.cell? ⟨b2, 0, none⟩ = some v := by rw [Go.Joins.cell_of_block HO5.out]; rfl
      have hf := Go.Joins.unfrozen_of_block HO5.out 0
      go_simp
      clear hl hf
      have HR6 := Hf.mk (HR5.out.put61 HO5.out (by decide) (.slice B4 n4 k4))
      have HBC : Hf (Below b2 W (w4.setCell ⟨b2, 0, none⟩ (.slice B4 n4 k4))) := ⟨HBB.out.setCell (Nat.le_refl _) _⟩
      have hk := HKS.out _ HR6.out ((HBC.out.cell (p := ⟨b0, 0, none⟩) hb0).trans HQ0.out)
      clear hHeld
      refine hK.out _ _ hk (fun hHeld => ?_)
      clear hK K hk
      (try simp only [List.getElem_toArray, List.getElem_cons_succ, List.getElem_cons_zero, Act.put, List.setIfInBounds_toArray, List.set_cons_zero, List.set_cons_succ])
      refine wpAnyH_done (by kernel_rfl) ?_ _
      go_end0
      exact ⟨rfl, .slice B4 n4 k4, heap_set1 HO5.out, by rw [HHP.out]; exact HN5.out.put61 HB2L.out (.slice B4 n4 k4), HR6.out, (HBW.out.mono HL2W.out).trans HBC.out⟩
    · go_simp
      go_at_call 75
      (with_reducible refine HCL.out.mono ?_)
      rintro e w2 ⟨A', c', rfl, hg2, ht2, hn2, hb2⟩
      have HG2 := Hf.mk hg2
      have HT2 := Hf.mk ht2
      have HN2 := Hf.mk hn2
      have HB2 := Hf.mk hb2
      have hk := HKP.out _ hb2
      have hq2 : w2.cell? ⟨b2, 0, none⟩ = some v := HV2.out _ hb2
      have HQ2 := Hf.mk hq2
      clear hg2 ht2 hn2 hb2 hHeld hq2
      refine hK.out _ _ hk (fun hHeld => ?_)
      clear hK K hk
      (try simp only [List.getElem_toArray, List.getElem_cons_succ, List.getElem_cons_zero, Act.put, List.setIfInBounds_toArray, List.set_cons_zero, List.set_cons_succ])
      refine wpAnyH_take (i := 23) rfl (by kernel_rfl) (by kernel_rfl) (by kernel_rfl) (fun _ _ _ h => h) (yieldsIf_build (by rfl) 69 _ rfl [(0, .int .i64 16), (1, .int .i64 R.me), (2, .int .i64 home), (3, .agg #[.int .i64 R.cn, .int .i64 R.cb, .int .i64 R.cc]), (4, .int .i64 R.set), (9, .agg cs.toArray), (10, .slice A' R.data.length c')] (by simp [Act.eval, Act.put]) _ (HBD.out A' c')) hHeld ?_
      (try simp only [List.getElem_toArray, List.getElem_cons_succ, List.getElem_cons_zero, Act.put, List.setIfInBounds_toArray, List.set_cons_zero, List.set_cons_succ])
      refine wpAnyH_ready (rs := [0, 24]) (by kernel_rfl) (by simp) ?_
      refine AllReadyH.cons rfl (fun K hK => ?_) (AllReadyH.cons rfl (fun K hK => ?_) AllReadyH.nil)
      · have hl := HQ2.out
        go_simp
        clear hl
        have hk := hHeld
        refine hK.out _ _ hk (fun hHeld => ?_)
        clear hK K hk
        (try simp only [List.getElem_toArray, List.getElem_cons_succ, List.getElem_cons_zero, Act.put, List.setIfInBounds_toArray, List.set_cons_zero, List.set_cons_succ])
        refine wpAnyH_ready (rs := [24]) (by kernel_rfl) (by simp) ?_
        refine AllReadyH.cons rfl (fun K hK => ?_) AllReadyH.nil
        refine wp_box (.tmp 39) rfl (ntR R (true, home) (.slice A' R.data.length c')) rfl (HLN.out A' c') ?_
        have HB3 := Hf.mk (below_step HB2.out ((Below.refl w2.heap.size w2).alloc (Nat.le_refl _) (.cells (ntR R (true, home) (.slice A' R.data.length c')).toArray 69)))
        have hk := HKP.out _ HB3.out
        have HX3 := Hf.mk (hint_box w2 (HLN.out A' c') HG2.out HT2.out HN2.out HB2.out.size)
        have HQ3 := Hf.mk (HV2.out _ HB3.out)
        generalize w2.alloc (.cells (ntR R (true, home) (.slice A' R.data.length c')).toArray 69) = w3 at *
        clear hHeld
        refine hK.out _ _ hk (fun hHeld => ?_)
        clear hK K hk
        (try simp only [List.getElem_toArray, List.getElem_cons_succ, List.getElem_cons_zero, Act.put, List.setIfInBounds_toArray, List.set_cons_zero, List.set_cons_succ])
        refine wpAnyH_ready (rs := [25]) (by kernel_rfl) (by simp) ?_
        refine AllReadyH.cons rfl (fun K hK => ?_) AllReadyH.nil
        refine wp_append_notes (.tmp 16) (.tmp 40) rfl base W.heap.size _ _ R ns _ rfl rfl (HNS.out.below HB3.out) HX3.out HBS.out (by have := HNL.out; simp; omega) (Nat.le_trans HBS.out HB3.out.size) ?_
        intro v4 w4 hn4 hg4 _
        obtain ⟨B4, k4, hv4, _⟩ := hn4.form
        generalize (ns ++ [(true, home)]).length = n4 at hv4
        subst hv4
        have HN5 := Hf.mk hn4
        have HR5 := Hf.mk ((HRR.out.below HB3.out).grown69 hg4 (fun k hk => ((HNS.out.below HB3.out).blk k hk).2))
        have HO5 : Hf (w4.heap[b2]? = some (.cells #[v] 61 (0, 0))) := ⟨(hg4.block b2 (Nat.lt_of_lt_of_le HL2.out HB3.out.size) (fun e => by have := ((HNS.out.below HB3.out).blk b2 e.symm).1; have := HB2L.out; omega)).trans ((HB3.out.block b2 HL2.out).trans HO.out)⟩
        have HBB : Hf (Below b2 W w4) := ⟨(HB3.out.mono (Nat.le_of_lt HL2.out)).grown hg4 (Nat.le_trans (Nat.le_of_lt HL2.out) HB3.out.size) (fun k hk => Nat.le_trans (Nat.le_of_lt HB2L.out) ((HNS.out.below HB3.out).blk k hk).1)⟩
        have hk := HKS.out _ HR5.out ((HBB.out.cell (p := ⟨b0, 0, none⟩) hb0).trans HQ0.out)
        clear hn4 hg4 hHeld
        refine hK.out _ _ hk (fun hHeld => ?_)
        clear hK K hk
        (try simp only [List.getElem_toArray, List.getElem_cons_succ, List.getElem_cons_zero, Act.put, List.setIfInBounds_toArray, List.set_cons_zero, List.set_cons_succ])
        refine wpAnyH_ready (rs := [26]) (by kernel_rfl) (by simp) ?_
        refine AllReadyH.cons rfl (fun K hK => ?_) AllReadyH.nil
        have hl : w4.cell? ⟨b2, 0, none⟩ = some v := by rw [Go.Joins.cell_of_block HO5.out]; rfl
        have hf := Go.Joins.unfrozen_of_block HO5.out 0
        go_simp
        clear hl hf
        have HR6 := Hf.mk (HR5.out.put61 HO5.out (by decide) (.slice B4 n4 k4))
        have HBC : Hf (Below b2 W (w4.setCell ⟨b2, 0, none⟩ (.slice B4 n4 k4))) := ⟨HBB.out.setCell (Nat.le_refl _) _⟩
        have hk := HKS.out _ HR6.out ((HBC.out.cell (p := ⟨b0, 0, none⟩) hb0).trans HQ0.out)
        clear hHeld
        refine hK.out _ _ hk (fun hHeld => ?_)
        clear hK K hk
        (try simp only [List.getElem_toArray, List.getElem_cons_succ, List.getElem_cons_zero, Act.put, List.setIfInBounds_toArray, List.set_cons_zero, List.set_cons_succ])
        refine wpAnyH_done (by kernel_rfl) ?_ _
        go_end0
        exact ⟨rfl, .slice B4 n4 k4, heap_set1 HO5.out, by rw [HHP.out]; exact HN5.out.put61 HB2L.out (.slice B4 n4 k4), HR6.out, (HBW.out.mono HL2W.out).trans HBC.out⟩
      · refine wp_box (.tmp 39) rfl (ntR R (true, home) (.slice A' R.data.length c')) rfl (HLN.out A' c') ?_
        have HB3 := Hf.mk (below_step HB2.out ((Below.refl w2.heap.size w2).alloc (Nat.le_refl _) (.cells (ntR R (true, home) (.slice A' R.data.length c')).toArray 69)))
        have hk := HKP.out _ HB3.out
        have HX3 := Hf.mk (hint_box w2 (HLN.out A' c') HG2.out HT2.out HN2.out HB2.out.size)
        have HQ3 := Hf.mk (HV2.out _ HB3.out)
        generalize w2.alloc (.cells (ntR R (true, home) (.slice A' R.data.length c')).toArray 69) = w3 at *
        clear hHeld
        refine hK.out _ _ hk (fun hHeld => ?_)
        clear hK K hk
        (try simp only [List.getElem_toArray, List.getElem_cons_succ, List.getElem_cons_zero, Act.put, List.setIfInBounds_toArray, List.set_cons_zero, List.set_cons_succ])
        refine wpAnyH_ready (rs := [0]) (by kernel_rfl) (by simp) ?_
        refine AllReadyH.cons rfl (fun K hK => ?_) AllReadyH.nil
        have hl := HQ3.out
        go_simp
        clear hl
        have hk := hHeld
        refine hK.out _ _ hk (fun hHeld => ?_)
        clear hK K hk
        (try simp only [List.getElem_toArray, List.getElem_cons_succ, List.getElem_cons_zero, Act.put, List.setIfInBounds_toArray, List.set_cons_zero, List.set_cons_succ])
        refine wpAnyH_ready (rs := [25]) (by kernel_rfl) (by simp) ?_
        refine AllReadyH.cons rfl (fun K hK => ?_) AllReadyH.nil
        refine wp_append_notes (.tmp 16) (.tmp 40) rfl base W.heap.size _ _ R ns _ rfl rfl (HNS.out.below HB3.out) HX3.out HBS.out (by have := HNL.out; simp; omega) (Nat.le_trans HBS.out HB3.out.size) ?_
        intro v4 w4 hn4 hg4 _
        obtain ⟨B4, k4, hv4, _⟩ := hn4.form
        generalize (ns ++ [(true, home)]).length = n4 at hv4
        subst hv4
        have HN5 := Hf.mk hn4
        have HR5 := Hf.mk ((HRR.out.below HB3.out).grown69 hg4 (fun k hk => ((HNS.out.below HB3.out).blk k hk).2))
        have HO5 : Hf (w4.heap[b2]? = some (.cells #[v] 61 (0, 0))) := ⟨(hg4.block b2 (Nat.lt_of_lt_of_le HL2.out HB3.out.size) (fun e => by have := ((HNS.out.below HB3.out).blk b2 e.symm).1; have := HB2L.out; omega)).trans ((HB3.out.block b2 HL2.out).trans HO.out)⟩
        have HBB : Hf (Below b2 W w4) := ⟨(HB3.out.mono (Nat.le_of_lt HL2.out)).grown hg4 (Nat.le_trans (Nat.le_of_lt HL2.out) HB3.out.size) (fun k hk => Nat.le_trans (Nat.le_of_lt HB2L.out) ((HNS.out.below HB3.out).blk k hk).1)⟩
        have hk := HKS.out _ HR5.out ((HBB.out.cell (p := ⟨b0, 0, none⟩) hb0).trans HQ0.out)
        clear hn4 hg4 hHeld
        refine hK.out _ _ hk (fun hHeld => ?_)
        clear hK K hk
        (try simp only [List.getElem_toArray, List.getElem_cons_succ, List.getElem_cons_zero, Act.put, List.setIfInBounds_toArray, List.set_cons_zero, List.set_cons_succ])
        refine wpAnyH_ready (rs := [26]) (by kernel_rfl) (by simp) ?_
        refine AllReadyH.cons rfl (fun K hK => ?_) AllReadyH.nil
        have hl : w4.cell? ⟨b2, 0, none⟩ = some v := by rw [Go.Joins.cell_of_block HO5.out]; rfl
        have hf := Go.Joins.unfrozen_of_block HO5.out 0
        go_simp
        clear hl hf
        have HR6 := Hf.mk (HR5.out.put61 HO5.out (by decide) (.slice B4 n4 k4))
        have HBC : Hf (Below b2 W (w4.setCell ⟨b2, 0, none⟩ (.slice B4 n4 k4))) := ⟨HBB.out.setCell (Nat.le_refl _) _⟩
        have hk := HKS.out _ HR6.out ((HBC.out.cell (p := ⟨b0, 0, none⟩) hb0).trans HQ0.out)
        clear hHeld
        refine hK.out _ _ hk (fun hHeld => ?_)
        clear hK K hk
        (try simp only [List.getElem_toArray, List.getElem_cons_succ, List.getElem_cons_zero, Act.put, List.setIfInBounds_toArray, List.set_cons_zero, List.set_cons_succ])
        refine wpAnyH_done (by kernel_rfl) ?_ _
        go_end0
        exact ⟨rfl, .slice B4 n4 k4, heap_set1 HO5.out, by rw [HHP.out]; exact HN5.out.put61 HB2L.out (.slice B4 n4 k4), HR6.out, (HBW.out.mono HL2W.out).trans HBC.out⟩
  · have hx2' : ((x : Int) == 2) = false := beq_eq_false_iff_ne.2 (by omega)
    have HHP : Hf (hintO R home = []) := ⟨by rw [HHO.out, if_neg hx2]⟩
    clear hx2
    go_enter Try.func86, Try.ntmps86
    go_wp2_with fail
    go_quiet ((go_at_call 85; exact Calls.quiet_of_same (HIX.out _)))
    go_wp2
    go_end0
    refine ⟨rfl, v, HO.out, ?_, HRR.out.below (below_drewN (Below.refl w.heap.size w) _), below_drewN (Below.refl _ _) _⟩
    rw [HHP.out, List.append_nil]
    exact HNS.out.below (below_drewN (Below.refl w.heap.size w) _)
end
end Go.Proofs.Ytaaepadhapfkoaa
