/-
  Reads: the chapter's reads, step by step: a plain law.
-/
import Derived.Test.YtaaepadhapfkoaaRdT
import Derived.Test.YtaaepadhapfkoaaRkQ
namespace Go.Proofs.Ytaaepadhapfkoaa
set_option linter.unusedSimpArgs false
set_option linter.unusedVariables false
open Go.RowKit

theorem ok_made {set : Int} {id : List Nat} {me nodes copies cn cb cc retry pat : Int} (hl : id.length = 32) (hb : ∀ c ∈ id, c < 256) (ok : newOk set me nodes copies cn cb cc retry pat) : (madeR set id me nodes copies cn cb cc retry pat).Ok := by
  obtain ⟨⟨_, _, _, _, hp⟩, ⟨hn1, hn2⟩, hc1, hc2, hm1, hm2, hcm⟩ := ok
  have h1 : ((ordI id nodes.toNat).filter (fun x => !(x == me))).length ≤ 64 := Nat.le_trans (List.length_filter_le _ _) (by rw [ordI_len]; omega)
  have h2 : (((ordI id nodes.toNat).take copies.toNat).filter (fun x => !(x == me))).length ≤ 64 := Nat.le_trans (List.length_filter_le _ _) (by rw [List.length_take, ordI_len]; omega)
  exact { idl := hl, idb := hb, knl := rfl, knb := fun c hc => by have := List.eq_of_mem_replicate hc; omega, ordl := h1, homl := h2,
          hom := fun h hh => by
            have hh : h ∈ ((ordI id nodes.toNat).take copies.toNat).filter (fun x => !(x == me)) := hh
            show h ∈ (ordI id nodes.toNat).filter (fun x => !(x == me))
            rw [List.mem_filter] at hh ⊢
            exact ⟨List.mem_of_mem_take hh.1, hh.2⟩,
          me1 := hm1, cop := ⟨hc1, by show copies ≤ 64; omega⟩, st4 := (by decide : (0 : Nat) < 4), pat1 := hp.2, tk := ⟨Int.le_refl _, Int.le_refl _, (by decide : (0 : Int) ≤ 2147483648)⟩,
          run := fun h => absurd (show (0 : Nat) = 1 from h) (by decide), fin := fun h => absurd (show (0 : Nat) = 2 from h) (by decide), bad := fun h => absurd (show (0 : Nat) = 3 from h) (by decide), fine := fun _ => rfl, dat := (by decide : (0 : Nat) ≤ 100000), new := fun _ => by show (0 : Int) < pat; have := hp.1; omega }
theorem newOkC {n : Int} (h1 : 1 ≤ n) (h2 : n ≤ 64) : newOk 4 1 n 1 1 1 1 2 5 := ⟨⟨⟨by decide, by decide⟩, ⟨by decide, by decide⟩, ⟨by decide, by decide⟩, ⟨by decide, by decide⟩, ⟨by decide, by decide⟩⟩, ⟨h1, h2⟩, by omega, by omega, by omega, by omega, rfl⟩
theorem ok_C {n : Int} (h1 : 1 ≤ n) (h2 : n ≤ 64) : (rdC n).Ok := ok_made (Sha.sum_len _) (Sha.sum_lt _) (newOkC h1 h2)
/-- a read with one other node -/
def rdS (st k : Nat) (hs : List Int) (t a e : Int) : Rdr :=
  { set := 4, id := Sha.sum [1, 2], me := 1, copies := 1, cn := 1, cb := 1, cc := 1, retry := 2, pat := 5, st := st, ord := [2], homes := hs, kn := k :: List.replicate 63 0, data := [], err := e, ticks := t, all := a }
theorem rdC_two : ∃ hs, (hs = [] ∨ hs = [2]) ∧ rdC 2 = rdS 0 0 hs 0 0 0 := by
  have hp := ordI_perm (Sha.sum [1, 2]) 2
  have hp2 : (ordI (Sha.sum [1, 2]) 2).Perm [1, 2] := hp
  have hl := ordI_len (Sha.sum [1, 2]) 2
  have h : ordI (Sha.sum [1, 2]) 2 = [1, 2] ∨ ordI (Sha.sum [1, 2]) 2 = [2, 1] := by
    generalize ordI (Sha.sum [1, 2]) 2 = l at *
    match l, hl with
    | [x, y], _ =>
      have hx : x = 1 ∨ x = 2 := by have := hp2.mem_iff.1 (List.mem_cons_self (a := x) (l := [y])); simpa using this
      have hy : y = 1 ∨ y = 2 := by have := hp2.mem_iff.1 (show y ∈ [x, y] by simp); simpa using this
      have hn : ([x, y] : List Int).Nodup := hp2.nodup_iff.2 (by decide)
      simp at hn
      rcases hx with rfl | rfl <;> rcases hy with rfl | rfl <;> simp at hn ⊢
  unfold rdC madeR
  rcases h with h | h
  · refine ⟨[], .inl rfl, ?_⟩
    have e : ordI (Sha.sum [1, 2]) (2 : Int).toNat = [1, 2] := h
    rw [e]; rfl
  · refine ⟨[2], .inr rfl, ?_⟩
    have e : ordI (Sha.sum [1, 2]) (2 : Int).toNat = [2, 1] := h
    rw [e]; rfl
theorem rdC_one : (rdC 1).ord = [] ∧ (rdC 1).homes = [] ∧ (rdC 1).st = 0 := by
  have h : (ordI (Sha.sum [1, 2]) 1).Perm [1] := ordI_perm (Sha.sum [1, 2]) 1
  have e : ordI (Sha.sum [1, 2]) (1 : Int).toNat = [1] := List.perm_singleton.1 h
  unfold rdC madeR
  rw [e]
  exact ⟨rfl, rfl, rfl⟩
theorem sum_ne : ¬ Sha.sum [1, 3] = Sha.sum [1, 2] := by
  have h : decide (Sha.sum [1, 3] = Sha.sum [1, 2]) = false := by kernel_rfl
  exact of_decide_eq_false h
theorem start_two {hs : List Int} {l : List Nat} {has : Bool} (h : ¬ (has = true ∧ Sha.sum l = Sha.sum [1, 2])) : (rdS 0 0 hs 0 0 0).startO l has = [(false, 2)] ∧ (rdS 0 0 hs 0 0 0).startR l has = rdS 1 1 hs 0 0 0 := by
  obtain ⟨h1, h2⟩ := start_on (R := rdS 0 0 hs 0 0 0) (l := l) (has := has) rfl h
  rw [h1, h2]
  have e : Rdr.onNO (1 : Int).toNat { rdS 0 0 hs 0 0 0 with st := 1 } = [(false, 2)] := rfl
  refine ⟨e, ?_⟩
  show (if Rdr.onNO (1 : Int).toNat { rdS 0 0 hs 0 0 0 with st := 1 } = [] then _ else _) = _
  rw [e, if_neg (by simp)]
  rfl
theorem start_one {l : List Nat} {has : Bool} (h : ¬ (has = true ∧ Sha.sum l = Sha.sum [1, 2])) : (rdC 1).startO l has = [] ∧ ((rdC 1).startR l has).err = 6 ∧ ((rdC 1).startR l has).me = 1 := by
  obtain ⟨ho, hh, hst⟩ := rdC_one
  obtain ⟨h1, h2⟩ := start_on (R := rdC 1) (l := l) (has := has) hst h
  rw [h1, h2]
  have hc : (rdC 1).copies.toNat = 1 := rfl
  have e : Rdr.onNO 1 { rdC 1 with st := 1 } = [] := by
    show [] ++ Rdr.onO _ = []
    rw [List.nil_append]
    unfold Rdr.onO Rdr.onNR
    rw [if_neg (by show ¬ _ < (rdC 1).ord.length; rw [ho]; simp)]
  rw [hc, e, if_pos rfl]
  refine ⟨rfl, rfl, ?_⟩
  show (Rdr.onNR 1 { rdC 1 with st := 1 }).me = 1
  rw [(Kin.onNR _ 1).me]
  rfl
theorem tick_C {hs : List Int} : ((rdS 1 1 hs 0 0 0).tickO = [] ∧ (rdS 1 1 hs 0 0 0).tickR = rdS 1 1 hs 1 1 0) ∧ ((rdS 1 1 hs 1 1 0).tickO = [(false, 2)] ∧ (rdS 1 1 hs 1 1 0).tickR = rdS 1 1 hs 0 2 0) ∧ ((rdS 1 1 hs 0 2 0).tickO = [] ∧ (rdS 1 1 hs 0 2 0).tickR = rdS 1 1 hs 1 3 0) ∧ ((rdS 1 1 hs 1 3 0).tickO = [(false, 2)] ∧ (rdS 1 1 hs 1 3 0).tickR = rdS 1 1 hs 0 4 0) ∧ ((rdS 1 1 hs 0 4 0).tickO = [] ∧ (rdS 1 1 hs 0 4 0).tickR = rdS 3 1 hs 1 5 13) :=
  ⟨⟨rfl, rfl⟩, ⟨rfl, rfl⟩, ⟨rfl, rfl⟩, ⟨rfl, rfl⟩, ⟨rfl, rfl⟩⟩
theorem mine_C {hs : List Int} : (rdS 1 1 hs 0 0 0).mineB 8 2 1 1 1 1 (Sha.sum [1, 2]) = true := by
  unfold Rdr.mineB rdS
  simp
theorem takeC_yes {hs : List Int} (hh : hs = [] ∨ hs = [2]) : (rdS 1 1 hs 0 0 0).takeO true 2 true [1, 2] = [] ∧ (rdS 1 1 hs 0 0 0).takeR true 2 true [1, 2] = (rdS 1 1 hs 0 0 0).gets [1, 2] := by
  obtain ⟨h1, h2⟩ := take_gets (R := rdS 1 1 hs 0 0 0) (frm := 2) (yes := true) (d := [1, 2]) (j := 0) rfl rfl ⟨rfl, rfl⟩
  rw [h1, h2]
  refine ⟨?_, rfl⟩
  rcases hh with rfl | rfl <;> rfl
theorem takeC_no {hs : List Int} : (rdS 1 1 hs 0 0 0).takeO true 2 true [1, 3] = [] ∧ ((rdS 1 1 hs 0 0 0).takeR true 2 true [1, 3]).err = 6 ∧ ((rdS 1 1 hs 0 0 0).takeR true 2 true [1, 3]).me = 1 := by
  obtain ⟨h1, h2⟩ := take_lacks (R := rdS 1 1 hs 0 0 0) (frm := 2) (yes := true) (d := [1, 3]) (j := 0) rfl rfl (fun h => sum_ne h.2)
  rw [h1, h2]
  have e : ((rdS 1 1 hs 0 0 0).lackR 0).onR.allLack = true := rfl
  rw [if_pos e]
  exact ⟨rfl, rfl, rfl⟩
theorem ok_S {hs : List Int} (hh : hs = [] ∨ hs = [2]) {t a : Int} (ht : 0 ≤ t ∧ t ≤ a ∧ a < 5) : (rdS 1 1 hs t a 0).Ok :=
  { idl := Sha.sum_len _, idb := Sha.sum_lt _, knl := rfl, knb := fun c hc => by
      rcases List.mem_cons.1 hc with rfl | hc
      · decide
      · have := List.eq_of_mem_replicate hc; omega,
    ordl := (by decide : (1 : Nat) ≤ 64), homl := by rcases hh with rfl | rfl <;> simp [rdS], hom := fun h hm => by rcases hh with rfl | rfl <;> simp [rdS] at hm ⊢ <;> exact hm,
    me1 := Int.le_refl _, cop := ⟨(by decide : (1 : Int) ≤ 1), (by decide : (1 : Int) ≤ 64)⟩, st4 := (by decide : (1 : Nat) < 4), pat1 := (by decide : (5 : Int) ≤ 2147483647), tk := ⟨ht.1, ht.2.1, by show a ≤ 2147483648; omega⟩,
    run := fun _ => ht.2.2, fin := fun h => absurd (show (1 : Nat) = 2 from h) (by decide), bad := fun h => absurd (show (1 : Nat) = 3 from h) (by decide), fine := fun _ => rfl, dat := (by decide : (0 : Nat) ≤ 100000), new := fun _ => ht.2.2 }
end Go.Proofs.Ytaaepadhapfkoaa
