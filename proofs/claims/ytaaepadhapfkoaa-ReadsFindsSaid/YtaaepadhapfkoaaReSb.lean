/-
  Reads: what holds of a read holds behind every call: a plain law.
  Reads: what is known of the others where notes are answered in their order: a plain law.
  Reads: the notes of a read that are answered in their order: a plain law.
  Reads: the queue of notes, note by note: a plain law.
  Reads: a queue of notes: its end, and one of its notes.
  Rank: awake, and the chapter's examples.
  Rank: with one node more an order is the same but for that one.
  Reads: who has the bytes, by numbers; the read of ReadsFinds, how it begins: a plain law.
  Reads: the queue, the read, and who was asked, in memory.
  Reads: a note of the queue, in memory; what a note's answer does to the law's state.
-/
import Derived.Test.YtaaepadhapfkoaaRdU
import Derived.Test.YtaaepadhapfkoaaRdV
import Derived.Test.YtaaepadhapfkoaaRkK
import Derived.Test.YtaaepadhapfkoaaDgV
import Derived.Deep.RegionHeld3
import Derived.Deep.MidRow
namespace Go.Proofs.Ytaaepadhapfkoaa
set_option linter.unusedSimpArgs false
set_option linter.unusedVariables false

section
open Go.RowKit

theorem set_lt {l : List Nat} {i x : Nat} (h : ∀ c ∈ l, c < 256) (hx : x < 256) : ∀ c ∈ l.set i x, c < 256 := fun c hc => by
  rcases List.mem_or_eq_of_mem_set hc with h1 | h1
  · exact h c h1
  · rw [h1]; exact hx
theorem ok_kn {R : Rdr} (ok : R.Ok) (i x : Nat) (hx : x < 256) : ({ R with kn := R.kn.set i x } : Rdr).Ok :=
  { idl := ok.idl, idb := ok.idb, knl := by show (R.kn.set i x).length = 64; rw [List.length_set]; exact ok.knl, knb := set_lt ok.knb hx, ordl := ok.ordl, homl := ok.homl, hom := ok.hom, me1 := ok.me1, cop := ok.cop, st4 := ok.st4, pat1 := ok.pat1, tk := ok.tk, run := ok.run, fin := ok.fin, bad := ok.bad, fine := ok.fine, dat := ok.dat, new := ok.new }
theorem ok_onR {R : Rdr} (ok : R.Ok) : R.onR.Ok := by
  unfold Rdr.onR
  split
  · exact ok_kn ok _ 1 (by decide)
  · exact ok
theorem ok_onNR {R : Rdr} (ok : R.Ok) : ∀ k, (Rdr.onNR k R).Ok
  | 0 => ok
  | k + 1 => ok_onR (ok_onNR ok k)
theorem ok_fails {R : Rdr} (ok : R.Ok) {x : Int} (hx : x ≠ 0) : (R.fails x).Ok :=
  { idl := ok.idl, idb := ok.idb, knl := ok.knl, knb := ok.knb, ordl := ok.ordl, homl := ok.homl, hom := ok.hom, me1 := ok.me1, cop := ok.cop, st4 := (by decide : (3 : Nat) < 4), pat1 := ok.pat1, tk := ok.tk,
    run := fun h => absurd (show (3 : Nat) = 1 from h) (by decide), fin := fun h => absurd (show (3 : Nat) = 2 from h) (by decide), bad := fun _ => hx, fine := fun h => absurd (show (3 : Nat) < 2 from h) (by decide), dat := ok.dat, new := fun h => absurd (show (3 : Nat) = 0 from h) (by decide) }
theorem ok_getsN {R : Rdr} {d : List Nat} (ok : R.Ok) (hs : R.st < 2) (hd : Sha.sum d = R.id) (hl : d.length ≤ 5000) : (R.gets d).Ok :=
  { ok with st4 := (by decide : (2 : Nat) < 4), run := fun h => absurd (show (2 : Nat) = 1 from h) (by decide), fin := fun _ => ⟨hd, ok.fine hs⟩, bad := fun h => absurd (show (2 : Nat) = 3 from h) (by decide), fine := fun h => absurd (show (2 : Nat) < 2 from h) (by decide), dat := Nat.le_trans hl (by decide), new := fun h => absurd (show (2 : Nat) = 0 from h) (by decide) }
theorem ok_asks {R : Rdr} (ok : R.Ok) (hs : R.st = 0) : ({ R with st := 1 } : Rdr).Ok :=
  { idl := ok.idl, idb := ok.idb, knl := ok.knl, knb := ok.knb, ordl := ok.ordl, homl := ok.homl, hom := ok.hom, me1 := ok.me1, cop := ok.cop, st4 := (by decide : (1 : Nat) < 4), pat1 := ok.pat1, tk := ok.tk,
    run := fun _ => ok.new hs, fin := fun h => absurd (show (1 : Nat) = 2 from h) (by decide), bad := fun h => absurd (show (1 : Nat) = 3 from h) (by decide), fine := fun _ => ok.fine (by omega), dat := ok.dat, new := fun h => absurd (show (1 : Nat) = 0 from h) (by decide) }
theorem ok_startR {R : Rdr} (ok : R.Ok) {d : List Nat} {has : Bool} (hl : d.length ≤ 5000) : (R.startR d has).Ok := by
  unfold Rdr.startR
  split
  · exact ok
  · rename_i h0
    have h0 : R.st = 0 := by omega
    split
    · rename_i h; exact ok_getsN ok (by omega) h.2 hl
    · split
      · exact ok_fails (ok_onNR (ok_asks ok h0) _) (by decide)
      · exact ok_onNR (ok_asks ok h0) _
theorem ok_takeR {R : Rdr} (ok : R.Ok) {m : Bool} {frm : Int} {yes : Bool} {d : List Nat} (hm : m = true → R.st = 1) (hl : d.length ≤ 5000) : (R.takeR m frm yes d).Ok := by
  unfold Rdr.takeR
  split
  · exact ok
  · rename_i h0
    have hs : R.st = 1 := hm (by simpa using h0)
    split
    · exact ok
    · split
      · exact ok
      · split
        · rename_i h; exact ok_getsN ok (by omega) h.2 hl
        · have k : ((R.lackR (placeI R.ord frm).toNat).onR).Ok := ok_onR (ok_kn ok _ 2 (by decide))
          split
          · exact ok_fails k (by decide)
          · exact k
theorem ok_ticked {R : Rdr} (ok : R.Ok) (hs : R.st = 1) (h : ¬ R.all + 1 ≥ R.pat) (t : Int) (ht : 0 ≤ t ∧ t ≤ R.all + 1) : ({ R with ticks := t, all := R.all + 1 } : Rdr).Ok := by
  have hp := ok.pat1
  exact { idl := ok.idl, idb := ok.idb, knl := ok.knl, knb := ok.knb, ordl := ok.ordl, homl := ok.homl, hom := ok.hom, me1 := ok.me1, cop := ok.cop, st4 := ok.st4, pat1 := ok.pat1, tk := ⟨ht.1, ht.2, by show R.all + 1 ≤ 2147483648; omega⟩,
          run := fun _ => by show R.all + 1 < R.pat; omega, fin := ok.fin, bad := ok.bad, fine := ok.fine, dat := ok.dat, new := fun h => absurd (show R.st = 0 from h) (by omega) }
theorem ok_tickR {R : Rdr} (ok : R.Ok) : R.tickR.Ok := by
  have ht := ok.tk
  unfold Rdr.tickR
  split
  · exact ok
  · rename_i h0
    have hs : R.st = 1 := by omega
    split
    · have hr := ok.run hs
      have hp := ok.pat1
      exact { idl := ok.idl, idb := ok.idb, knl := ok.knl, knb := ok.knb, ordl := ok.ordl, homl := ok.homl, hom := ok.hom, me1 := ok.me1, cop := ok.cop, st4 := (by decide : (3 : Nat) < 4), pat1 := ok.pat1, tk := ⟨by show 0 ≤ R.ticks + 1; omega, by show R.ticks + 1 ≤ R.all + 1; omega, by show R.all + 1 ≤ 2147483648; omega⟩,
              run := fun h => absurd (show (3 : Nat) = 1 from h) (by decide), fin := fun h => absurd (show (3 : Nat) = 2 from h) (by decide), bad := fun _ => (by decide : (13 : Int) ≠ 0), fine := fun h => absurd (show (3 : Nat) < 2 from h) (by decide), dat := ok.dat, new := fun h => absurd (show (3 : Nat) = 0 from h) (by decide) }
    · rename_i h1
      split
      · exact ok_ticked ok hs h1 (R.ticks + 1) ⟨by omega, by omega⟩
      · exact ok_onR (ok_ticked ok hs h1 0 ⟨by omega, by omega⟩)
/-- one that is over stays so -/
theorem over_start {R : Rdr} (h : R.st ≠ 0) (d : List Nat) (has : Bool) : R.startO d has = [] ∧ R.startR d has = R := by
  unfold Rdr.startO Rdr.startR
  rw [if_pos h, if_pos h]
  exact ⟨rfl, rfl⟩
theorem over_tick {R : Rdr} (h : R.st ≠ 1) : R.tickO = [] ∧ R.tickR = R := by
  unfold Rdr.tickO Rdr.tickR
  rw [if_pos h, if_pos h]
  exact ⟨rfl, rfl⟩
theorem over_take {R : Rdr} (frm : Int) (yes : Bool) (d : List Nat) : R.takeO false frm yes d = [] ∧ R.takeR false frm yes d = R := by
  unfold Rdr.takeO Rdr.takeR
  rw [if_pos rfl, if_pos rfl]
  exact ⟨rfl, rfl⟩
theorem mine_st {R : Rdr} {kind frm who cn cb cc : Int} {id : List Nat} (h : R.mineB kind frm who cn cb cc id = true) : R.st = 1 := by
  unfold Rdr.mineB at h
  simp only [Bool.and_eq_true, beq_iff_eq] at h
  exact h.1.1.1.1.1.1
theorem onR_pat (R : Rdr) : R.onR.pat = R.pat ∧ R.onR.all = R.all ∧ R.onR.st = R.st := by unfold Rdr.onR; split <;> exact ⟨rfl, rfl, rfl⟩
/-- a tick more, or over -/
theorem tick_more {R : Rdr} {j : Int} (ok : R.Ok) (hs : R.st ≠ 0) (h : 2 ≤ R.st ∨ j ≤ R.all) : R.tickR.st ≠ 0 ∧ R.tickR.pat = R.pat ∧ (2 ≤ R.tickR.st ∨ (j + 1 ≤ R.tickR.all ∧ R.tickR.all < R.pat)) := by
  unfold Rdr.tickR
  split
  · rename_i h1
    have := ok.st4
    exact ⟨hs, rfl, .inl (by omega)⟩
  · rename_i h1
    have h1 : R.st = 1 := by omega
    have h : j ≤ R.all := by omega
    split
    · exact ⟨(by decide : (3 : Nat) ≠ 0), rfl, .inl (by decide : (2 : Nat) ≤ 3)⟩
    · split
      · exact ⟨hs, rfl, .inr ⟨by show j + 1 ≤ R.all + 1; omega, by show R.all + 1 < R.pat; omega⟩⟩
      · have k := onR_pat ({ R.ticked with ticks := 0 } : Rdr)
        refine ⟨by rw [k.2.2]; exact hs, k.1, .inr ⟨?_, ?_⟩⟩
        · rw [k.2.1]; show j + 1 ≤ R.all + 1; omega
        · rw [k.2.1]; show R.all + 1 < R.pat; omega
end
section
open Go.RowKit

/-- i lack it, up to m are asked, of 64 -/
def knS (i m : Nat) : List Nat := List.replicate i 2 ++ (List.replicate (m - i) 1 ++ List.replicate (64 - m) 0)
theorem knS_len {i m : Nat} (h : i ≤ m) (h2 : m ≤ 64) : (knS i m).length = 64 := by unfold knS; simp; omega
theorem knS_get {i m j : Nat} (h : i ≤ m) (h2 : m ≤ 64) : (knS i m)[j]? = if j < i then some 2 else if j < m then some 1 else if j < 64 then some 0 else none := by
  unfold knS
  rw [List.getElem?_append, List.length_replicate]
  by_cases h1 : j < i
  · rw [if_pos h1, if_pos h1, List.getElem?_replicate, if_pos h1]
  · rw [if_neg h1, if_neg h1, List.getElem?_append, List.length_replicate]
    by_cases h3 : j < m
    · rw [if_pos (by omega), if_pos h3, List.getElem?_replicate, if_pos (by omega)]
    · rw [if_neg (by omega), if_neg h3, List.getElem?_replicate]
      by_cases h4 : j < 64
      · rw [if_pos (by omega), if_pos h4]
      · rw [if_neg (by omega), if_neg h4]
theorem knS_ask {i m : Nat} (h : i ≤ m) (h2 : m < 64) : (knS i m).set m 1 = knS i (m + 1) := by
  refine List.ext_getElem? fun j => ?_
  rw [List.getElem?_set, knS_len h (by omega), knS_get h (by omega), knS_get (by omega) (by omega)]
  by_cases e : m = j
  · subst e; rw [if_pos rfl, if_pos h2, if_neg (by omega), if_pos (by omega)]
  · rw [if_neg e]
    by_cases h1 : j < i
    · rw [if_pos h1, if_pos h1]
    · rw [if_neg h1, if_neg h1]
      by_cases h3 : j < m
      · rw [if_pos h3, if_pos (by omega)]
      · rw [if_neg h3, if_neg (show ¬ j < m + 1 by omega)]
theorem knS_lack {i m : Nat} (h : i < m) (h2 : m ≤ 64) : (knS i m).set i 2 = knS (i + 1) m := by
  refine List.ext_getElem? fun j => ?_
  rw [List.getElem?_set, knS_len (by omega) h2, knS_get (by omega) h2, knS_get (by omega) h2]
  by_cases e : i = j
  · subst e; rw [if_pos rfl, if_pos (by omega), if_pos (by omega)]
  · rw [if_neg e]
    by_cases h1 : j < i
    · rw [if_pos h1, if_pos (show j < i + 1 by omega)]
    · rw [if_neg h1, if_neg (show ¬ j < i + 1 by omega)]
theorem knS_getD {i m j : Nat} (h : i ≤ m) (h2 : m ≤ 64) : (knS i m).getD j 0 = if j < i then 2 else if j < m then 1 else 0 := by
  rw [List.getD_eq_getElem?_getD, knS_get h h2]
  split
  · rfl
  · split
    · rfl
    · split <;> rfl
theorem knS_first {i m n : Nat} (h : i ≤ m) (hm : m ≤ n) (hn : n ≤ 64) : firstZ ((knS i m).take n) = m := by
  have hl : ((knS i m).take n).length = n := by rw [List.length_take, knS_len h (by omega)]; omega
  have hg : ∀ j, j < n → ((knS i m).take n).getD j 0 = if j < i then 2 else if j < m then 1 else 0 := fun j hj => by
    rw [← knS_getD h (by omega), List.getD_eq_getElem?_getD, List.getD_eq_getElem?_getD, List.getElem?_take, if_pos hj]
  have h1 := firstZ_le ((knS i m).take n)
  rw [hl] at h1
  by_cases hlt : firstZ ((knS i m).take n) < m
  · have := firstZ_get _ (by rw [hl]; omega)
    rw [hg _ (by omega)] at this
    by_cases h4 : firstZ ((knS i m).take n) < i
    · rw [if_pos h4] at this; omega
    · rw [if_neg h4, if_pos hlt] at this; omega
  · by_cases hgt : m < firstZ ((knS i m).take n)
    · have := firstZ_lt _ m hgt
      rw [hg _ (by omega), if_neg (by omega), if_neg (by omega)] at this
      exact absurd rfl this
    · omega
/-- it asks the next -/
theorem on_knS {R : Rdr} {i m : Nat} (hk : R.kn = knS i m) (h : i ≤ m) (hm : m ≤ R.ord.length) (hn : R.ord.length ≤ 64) :
    (m < R.ord.length → R.onO = [(false, R.ord.getD m 0)] ∧ R.onR = { R with kn := knS i (m + 1) }) ∧ (m = R.ord.length → R.onO = [] ∧ R.onR = R) := by
  have hf : R.first = m := by unfold Rdr.first; rw [hk]; exact knS_first h hm hn
  refine ⟨fun hl => ?_, fun he => ?_⟩
  · unfold Rdr.onO Rdr.onR
    rw [hf, if_pos hl, if_pos hl, hk, knS_ask h (by omega)]
    exact ⟨rfl, rfl⟩
  · unfold Rdr.onO Rdr.onR
    rw [hf, if_neg (by omega), if_neg (by omega)]
    exact ⟨rfl, rfl⟩
/-- do all lack it? -/
theorem allLack_knS {R : Rdr} {i m : Nat} (hk : R.kn = knS i m) (h : i ≤ m) (hm : m ≤ R.ord.length) (hn : R.ord.length ≤ 64) : R.allLack = decide (i = R.ord.length) := by
  have hl : ((knS i m).take R.ord.length).length = R.ord.length := by rw [List.length_take, knS_len h (by omega)]; omega
  unfold Rdr.allLack
  rw [hk]
  by_cases e : i = R.ord.length
  · rw [decide_eq_true e, List.all_eq_true]
    intro x hx
    obtain ⟨j, hj, rfl⟩ := List.mem_iff_getElem.1 hx
    rw [hl] at hj
    have : (knS i m)[j]? = some 2 := by rw [knS_get h (by omega), if_pos (by omega)]
    rw [List.getElem_take]
    rw [List.getElem?_eq_some_iff] at this
    obtain ⟨_, h2⟩ := this
    rw [h2]; rfl
  · rw [decide_eq_false e, List.all_eq_false]
    have hj : i < ((knS i m).take R.ord.length).length := by rw [hl]; omega
    refine ⟨_, List.getElem_mem hj, ?_⟩
    rw [List.getElem_take]
    have : (knS i m).getD i 0 ≠ 2 := by rw [knS_getD h (by omega), if_neg (by omega)]; split <;> decide
    rw [List.getD_eq_getElem?_getD, List.getElem?_eq_getElem (by rw [knS_len h (by omega)]; omega)] at this
    simpa using this
end
section
open Go.RowKit

/-- it asks: i lack it, m are asked -/
def askR (M : Rdr) (i m : Nat) : Rdr := { M with st := 1, kn := knS i m }
/-- Gets to the first m -/
def gets1 (M : Rdr) (m : Nat) : List (Bool × Int) := (M.ord.take m).map fun x => (false, x)
theorem gets1_succ {M : Rdr} {m : Nat} (h : m < M.ord.length) : gets1 M (m + 1) = gets1 M m ++ [(false, M.ord.getD m 0)] := by
  unfold gets1
  rw [take_snocI h, List.map_append]
  rfl
theorem gets1_len {M : Rdr} {m : Nat} (h : m ≤ M.ord.length) : (gets1 M m).length = m := by unfold gets1; rw [List.length_map, List.length_take]; omega
theorem on_more {M : Rdr} (hn : M.ord.length ≤ 64) : ∀ k, Rdr.onNO k (askR M 0 0) = gets1 M (min k M.ord.length) ∧ Rdr.onNR k (askR M 0 0) = askR M 0 (min k M.ord.length)
  | 0 => by rw [Nat.zero_min]; exact ⟨rfl, rfl⟩
  | k + 1 => by
    obtain ⟨h1, h2⟩ := on_more hn k
    obtain ⟨k1, k2⟩ := on_knS (R := askR M 0 (min k M.ord.length)) (i := 0) (m := min k M.ord.length) rfl (Nat.zero_le _) (Nat.min_le_right _ _) hn
    show Rdr.onNO k (askR M 0 0) ++ (Rdr.onNR k (askR M 0 0)).onO = _ ∧ (Rdr.onNR k (askR M 0 0)).onR = _
    rw [h1, h2]
    by_cases hk : k < M.ord.length
    · have e1 : min k M.ord.length = k := by omega
      have e2 : min (k + 1) M.ord.length = k + 1 := by omega
      rw [e1] at k1 ⊢
      obtain ⟨j1, j2⟩ := k1 hk
      rw [e2, j1, j2, gets1_succ hk]
      exact ⟨rfl, rfl⟩
    · have e1 : min k M.ord.length = M.ord.length := by omega
      have e2 : min (k + 1) M.ord.length = M.ord.length := by omega
      rw [e1] at k2 ⊢
      obtain ⟨j1, j2⟩ := k2 rfl
      rw [e2, j1, j2, List.append_nil]
      exact ⟨rfl, rfl⟩
/-- how it begins -/
theorem find_start {M : Rdr} {d : List Nat} {has : Bool} (hs : M.st = 0) (hk : M.kn = List.replicate 64 0) (hn : M.ord.length ≤ 64) (hc : 1 ≤ M.copies) (h : ¬ (has = true ∧ Sha.sum d = M.id)) :
    M.startO d has = gets1 M (min M.copies.toNat M.ord.length) ∧ (0 < M.ord.length → M.startR d has = askR M 0 (min M.copies.toNat M.ord.length)) ∧ (M.ord.length = 0 → M.startR d has = (askR M 0 0).fails 6) := by
  obtain ⟨h1, h2⟩ := start_on hs h
  have e : ({ M with st := 1 } : Rdr) = askR M 0 0 := by
    unfold askR
    have : knS 0 0 = M.kn := by rw [hk]; rfl
    rw [this]
  rw [e] at h1 h2
  obtain ⟨k1, k2⟩ := on_more hn M.copies.toNat
  rw [h1, h2, k1, k2]
  refine ⟨rfl, fun h0 => ?_, fun h0 => ?_⟩
  · rw [if_neg]
    intro hz
    have := congrArg List.length hz
    rw [gets1_len (Nat.min_le_right _ _), List.length_nil] at this
    omega
  · have e2 : min M.copies.toNat M.ord.length = 0 := by omega
    rw [e2, if_pos (show gets1 M 0 = [] from rfl)]
/-- the note that is answered is waited for -/
theorem find_mine (M : Rdr) (i m : Nat) (frm : Int) : (askR M i m).mineB 8 frm M.me M.cn M.cb M.cc M.id = true := by
  unfold Rdr.mineB askR
  simp
theorem place_nodup {l : List Int} (hd : l.Nodup) {i : Nat} (h : i < l.length) : placeI l (l.getD i 0) = i := by
  refine placeI_at l _ i h rfl fun j hj e => ?_
  have hj2 : j < l.length := by omega
  rw [List.getD_eq_getElem?_getD, List.getD_eq_getElem?_getD, List.getElem?_eq_getElem h, List.getElem?_eq_getElem hj2] at e
  exact List.pairwise_iff_getElem.1 hd j i hj2 h hj e
/-- one that has it answers -/
theorem find_yes {M : Rdr} {i m : Nat} {b : List Nat} (hd : M.ord.Nodup) (hi : i < m) (hm : m ≤ M.ord.length) (hn : M.ord.length ≤ 64) (hb : Sha.sum b = M.id) :
    (askR M i m).takeO true (M.ord.getD i 0) true b = (askR M i m).hints ∧ (askR M i m).takeR true (M.ord.getD i 0) true b = (askR M i m).gets b :=
  take_gets (j := i) (place_nodup hd (by omega)) (by show (knS i m).getD i 0 = 1; rw [knS_getD (by omega) (by omega), if_neg (by omega), if_pos hi]) ⟨rfl, hb⟩
/-- one that lacks it answers -/
theorem find_no {M : Rdr} {i m : Nat} (hd : M.ord.Nodup) (hi : i < m) (hm : m ≤ M.ord.length) (hn : M.ord.length ≤ 64) (d : List Nat) :
    (m < M.ord.length → (askR M i m).takeO true (M.ord.getD i 0) false d = [(false, M.ord.getD m 0)] ∧ (askR M i m).takeR true (M.ord.getD i 0) false d = askR M (i + 1) (m + 1)) ∧
    (m = M.ord.length → (askR M i m).takeO true (M.ord.getD i 0) false d = [] ∧ (askR M i m).takeR true (M.ord.getD i 0) false d = if i + 1 = M.ord.length then (askR M (i + 1) m).fails 6 else askR M (i + 1) m) := by
  obtain ⟨h1, h2⟩ := take_lacks (R := askR M i m) (frm := M.ord.getD i 0) (yes := false) (d := d) (j := i) (place_nodup hd (by omega)) (by show (knS i m).getD i 0 = 1; rw [knS_getD (by omega) (by omega), if_neg (by omega), if_pos hi]) (fun h => by cases h.1)
  have e : (askR M i m).lackR i = askR M (i + 1) m := by
    unfold Rdr.lackR askR
    rw [knS_lack hi (by omega)]
  rw [h1, h2, e]
  obtain ⟨k1, k2⟩ := on_knS (R := askR M (i + 1) m) (i := i + 1) (m := m) rfl (by omega) hm hn
  refine ⟨fun hl => ?_, fun he => ?_⟩
  · obtain ⟨j1, j2⟩ := k1 hl
    rw [j1, j2]
    refine ⟨rfl, ?_⟩
    rw [if_neg]
    · rfl
    · have := allLack_knS (R := ({ askR M (i + 1) m with kn := knS (i + 1) (m + 1) } : Rdr)) (i := i + 1) (m := m + 1) rfl (by omega) hl hn
      rw [this]
      intro h
      have h := of_decide_eq_true h
      have h : i + 1 = M.ord.length := h
      omega
  · obtain ⟨j1, j2⟩ := k2 he
    rw [j1, j2]
    refine ⟨rfl, ?_⟩
    have := allLack_knS (R := askR M (i + 1) m) (i := i + 1) (m := m) rfl (by omega) hm hn
    rw [this]
    by_cases e : i + 1 = M.ord.length
    · rw [if_pos e, if_pos (show decide (i + 1 = (askR M (i + 1) m).ord.length) = true from decide_eq_true e)]
    · rw [if_neg e, if_neg (by rw [decide_eq_false (show ¬ i + 1 = (askR M (i + 1) m).ord.length from e)]; decide)]
/-- hints go to homes that lack it -/
theorem find_hints {M : Rdr} {i m : Nat} (him : i ≤ m) (hm : m ≤ M.ord.length) (hn : M.ord.length ≤ 64) (hh : ∀ h ∈ M.homes, h ∈ M.ord) : ∀ x ∈ (askR M i m).hints, x.1 = true ∧ ∃ j, j < i ∧ x.2 = M.ord.getD j 0 := by
  intro x hx
  unfold Rdr.hints at hx
  obtain ⟨h, hm1, hm2⟩ := List.mem_filterMap.1 hx
  split at hm2
  · rename_i hk
    injection hm2 with hm2
    subst hm2
    rcases placeI_cases M.ord h with ⟨h1, h2⟩ | ⟨j, h1, h2, h3⟩
    · exact absurd (hh h hm1) h2
    · have hk : (knS i m).getD (placeI M.ord h).toNat 0 = 2 := hk
      rw [h1, Int.toNat_natCast, knS_getD him (by omega)] at hk
      refine ⟨rfl, j, ?_, h3.symm⟩
      by_cases hj : j < i
      · exact hj
      · rw [if_neg hj] at hk
        split at hk <;> cases hk
  · cases hm2
end
section
open Go.RowKit

/-- how far the queue is: R behind i notes of wait; m Gets, hs hints -/
structure FindSt (M : Rdr) (hv : Int → Bool) (b : List Nat) (R : Rdr) (m : Nat) (hs : List (Bool × Int)) (i : Nat) : Prop where
  mn : m ≤ M.ord.length
  ask : R.st = 1 → i < m ∧ R = askR M i m ∧ hs = [] ∧ ∀ j, j < i → hv (M.ord.getD j 0) = false
  over : R.st ≠ 1 → Kin M R ∧ R.st < 4 ∧ 2 ≤ R.st ∧ (∀ x ∈ hs, x.1 = true ∧ ∃ j, j < i ∧ j < m ∧ x.2 = M.ord.getD j 0 ∧ hv (M.ord.getD j 0) = false)
  yes : R.st = 2 → R.data = b ∧ R.err = 0 ∧ ∃ j, j < M.ord.length ∧ hv (M.ord.getD j 0) = true
  no : R.st = 3 → R.err = 6 ∧ ∀ j, j < M.ord.length → hv (M.ord.getD j 0) = false
  hint : hs ≠ [] → R.st = 2
  few : hs.length ≤ 64
theorem askR_st (M : Rdr) (i m : Nat) : (askR M i m).st = 1 := rfl
/-- a Get is answered -/
theorem find_get {M : Rdr} {hv : Int → Bool} {b : List Nat} {R : Rdr} {m i : Nat} {hs : List (Bool × Int)} (h : FindSt M hv b R m hs i) (hd : M.ord.Nodup) (hn : M.ord.length ≤ 64) (hh : ∀ h ∈ M.homes, h ∈ M.ord) (hb : Sha.sum b = M.id) (hhl : M.homes.length ≤ 64) (he : M.err = 0) (hi : i < m) (d : List Nat) (hdd : hv (M.ord.getD i 0) = true → d = b) :
    ∃ m' hs', gets1 M m ++ hs ++ R.takeO (R.mineB 8 (M.ord.getD i 0) M.me M.cn M.cb M.cc M.id) (M.ord.getD i 0) (hv (M.ord.getD i 0)) d = gets1 M m' ++ hs' ∧ m ≤ m' ∧ (R.st = 1 → hs = []) ∧ (hs' = [] ∨ m' = m) ∧
      FindSt M hv b (R.takeR (R.mineB 8 (M.ord.getD i 0) M.me M.cn M.cb M.cc M.id) (M.ord.getD i 0) (hv (M.ord.getD i 0)) d) m' hs' (i + 1) := by
  have hm := h.mn
  by_cases h1 : R.st = 1
  · obtain ⟨_, rfl, rfl, ha⟩ := h.ask h1
    rw [find_mine]
    cases hx : hv (M.ord.getD i 0) with
    | true =>
      have hdb := hdd hx
      subst hdb
      obtain ⟨t1, t2⟩ := find_yes hd hi hm hn hb
      rw [t1, t2]
      refine ⟨m, (askR M i m).hints, by rw [List.append_nil], Nat.le_refl _, fun _ => rfl, .inr rfl, ⟨hm, fun h => absurd (show (2 : Nat) = 1 from h) (by decide), fun _ => ⟨⟨rfl, rfl, rfl, rfl, rfl, rfl⟩, (by decide : (2 : Nat) < 4), (by decide : (2 : Nat) ≤ 2), fun x hx => ?_⟩, fun _ => ⟨rfl, he, i, by omega, hx⟩, fun h => absurd (show (2 : Nat) = 3 from h) (by decide), fun _ => rfl, Nat.le_trans (List.length_filterMap_le _ _) hhl⟩⟩
      obtain ⟨e1, j, hj, e2⟩ := find_hints (M := M) (i := i) (m := m) (by omega) hm hn hh x hx
      exact ⟨e1, j, by omega, by omega, e2, ha j hj⟩
    | false =>
      obtain ⟨n1, n2⟩ := find_no (d := d) hd hi hm hn
      have ha' : ∀ j, j < i + 1 → hv (M.ord.getD j 0) = false := fun j hj => by
        by_cases e : j = i
        · subst e; exact hx
        · exact ha j (by omega)
      by_cases hl : m < M.ord.length
      · obtain ⟨t1, t2⟩ := n1 hl
        rw [t1, t2]
        refine ⟨m + 1, [], by rw [List.append_nil, List.append_nil, gets1_succ hl], by omega, fun _ => rfl, .inl rfl, ⟨hl, fun _ => ⟨by omega, rfl, rfl, ha'⟩, fun h => absurd rfl h, fun h => absurd (show (1 : Nat) = 2 from h) (by decide), fun h => absurd (show (1 : Nat) = 3 from h) (by decide), fun h => absurd rfl h, Nat.zero_le _⟩⟩
      · have hl : m = M.ord.length := by omega
        obtain ⟨t1, t2⟩ := n2 hl
        rw [t1, t2]
        by_cases e : i + 1 = M.ord.length
        · rw [if_pos e]
          refine ⟨m, [], by simp, Nat.le_refl _, fun _ => rfl, .inl rfl, ⟨hm, fun h => absurd (show (3 : Nat) = 1 from h) (by decide), fun _ => ⟨⟨rfl, rfl, rfl, rfl, rfl, rfl⟩, (by decide : (3 : Nat) < 4), (by decide : (2 : Nat) ≤ 3), fun x hx => by cases hx⟩, fun h => absurd (show (3 : Nat) = 2 from h) (by decide), fun _ => ⟨rfl, fun j hj => ha' j (by omega)⟩, fun h => absurd rfl h, Nat.zero_le _⟩⟩
        · rw [if_neg e]
          refine ⟨m, [], by simp, Nat.le_refl _, fun _ => rfl, .inl rfl, ⟨hm, fun _ => ⟨by omega, rfl, rfl, ha'⟩, fun h => absurd rfl h, fun h => absurd (show (1 : Nat) = 2 from h) (by decide), fun h => absurd (show (1 : Nat) = 3 from h) (by decide), fun h => absurd rfl h, Nat.zero_le _⟩⟩
  · have hmf : R.mineB 8 (M.ord.getD i 0) M.me M.cn M.cb M.cc M.id = false := by
      unfold Rdr.mineB
      rw [beq_eq_false_iff_ne.2 h1]
      simp
    obtain ⟨t1, t2⟩ := over_take (R := R) (M.ord.getD i 0) (hv (M.ord.getD i 0)) d
    rw [hmf, t1, t2, List.append_nil]
    obtain ⟨k1, k2, k3, k4⟩ := h.over h1
    refine ⟨m, hs, rfl, Nat.le_refl _, fun h => absurd h h1, .inr rfl, ⟨hm, fun h => absurd h h1, fun _ => ⟨k1, k2, k3, fun x hx => ?_⟩, h.yes, h.no, h.hint, h.few⟩⟩
    obtain ⟨e1, j, hj, hj2, e2, e3⟩ := k4 x hx
    exact ⟨e1, j, by omega, hj2, e2, e3⟩
/-- a hint is passed over -/
theorem find_hint {M : Rdr} {hv : Int → Bool} {b : List Nat} {R : Rdr} {m i : Nat} {hs : List (Bool × Int)} (h : FindSt M hv b R m hs i) (hi : m ≤ i) : FindSt M hv b R m hs (i + 1) ∧ R.st ≠ 1 := by
  have h1 : R.st ≠ 1 := fun e => by have := (h.ask e).1; omega
  obtain ⟨k1, k2, k3, k4⟩ := h.over h1
  refine ⟨⟨h.mn, fun h => absurd h h1, fun _ => ⟨k1, k2, k3, fun x hx => ?_⟩, h.yes, h.no, h.hint, h.few⟩, h1⟩
  obtain ⟨e1, j, hj, hj2, e2, e3⟩ := k4 x hx
  exact ⟨e1, j, by omega, hj2, e2, e3⟩
end
section
open Go.RowKit

/-- the queue is worked off -/
theorem find_end {M : Rdr} {hv : Int → Bool} {b : List Nat} {R : Rdr} {m i : Nat} {hs : List (Bool × Int)} (h : FindSt M hv b R m hs i) (hi : m ≤ i) :
    (R.st = 2 ∧ R.data = b ∧ R.err = 0 ∧ ∃ j, j < M.ord.length ∧ hv (M.ord.getD j 0) = true) ∨ (R.st = 3 ∧ R.err = 6 ∧ ∀ j, j < M.ord.length → hv (M.ord.getD j 0) = false) := by
  have h1 := (find_hint h hi).2
  obtain ⟨_, k2, k3, _⟩ := h.over h1
  have : R.st = 2 ∨ R.st = 3 := by omega
  rcases this with e | e
  · exact .inl ⟨e, h.yes e⟩
  · exact .inr ⟨e, h.no e⟩
theorem cells_at (R : Rdr) (hl : R.id.length = 32) : ∀ (l : List ((Bool × Int) × Value)) (i : Nat) (hi : i < l.length) (j : Nat), j < 48 → (cellsN R l)[i * 48 + j]? = (ntR R l[i].1 l[i].2)[j]?
  | [], i, hi, j, hj => by simp at hi
  | y :: l, 0, hi, j, hj => by
    have : (ntR R y.1 y.2).length = 48 := ntR_len hl _ _
    show (ntR R y.1 y.2 ++ cellsN R l)[0 * 48 + j]? = _
    rw [Nat.zero_mul, Nat.zero_add, List.getElem?_append_left (by omega)]
    rfl
  | y :: l, i + 1, hi, j, hj => by
    have : (ntR R y.1 y.2).length = 48 := ntR_len hl _ _
    show (ntR R y.1 y.2 ++ cellsN R l)[(i + 1) * 48 + j]? = _
    rw [List.getElem?_append_right (by omega), this, show (i + 1) * 48 + j - 48 = i * 48 + j by omega, cells_at R hl l i (by simpa using hi) j hj]
    rfl
/-- a note of a queue in memory -/
theorem NotesAt.note {w : World} {base : Nat} {v : Value} {R : Rdr} {ns : List (Bool × Int)} (h : NotesAt w base v R ns) (hl : R.id.length = 32) {i : Nat} (hi : i < ns.length) :
    ∃ g c dv, v = .slice (some ⟨g, 0, none⟩) ns.length c ∧ base ≤ g ∧ g < w.heap.size ∧ w.rangeAt g (i * 48) (ntR R ns[i] dv) ∧ DatAt w base R ns[i] dv := by
  obtain ⟨l, h1, h2, h3⟩ := h
  have hll : l.length = ns.length := by rw [← h1, List.length_map]
  rcases h2.2 with ⟨_, h0⟩ | ⟨g, cap, cur, rfl, hg, hh, _⟩
  · omega
  · have hn : ns[i] = (l[i]'(by omega)).1 := by subst h1; simp
    refine ⟨g, cap, (l[i]'(by omega)).2, rfl, hg, (Array.getElem?_eq_some_iff.1 hh).1, fun j u hu => ?_, ?_⟩
    · rw [hn] at hu
      have hj : j < 48 := by have := (List.getElem?_eq_some_iff.1 hu).1; rw [ntR_len hl] at this; exact this
      have := h2.cells (g := g) rfl (i * 48 + j) u (by rw [cells_at R hl l i (by omega) j hj]; exact hu)
      rwa [Addr.add_lit, Nat.zero_add] at this
    · rw [hn]; exact h3 _ (List.getElem_mem _)
end
section
open Go.RowKit

/-- the id of zeros -/
def zid : List Nat := List.replicate 32 0
theorem zid_len : zid.length = 32 := rfl
theorem zid_lt : ∀ c ∈ zid, c < 256 := by
  intro c hc
  have := List.eq_of_mem_replicate hc
  omega
theorem ordI_one (id : List Nat) : ordI id 1 = [1] := by
  have h : (ordL id 1).Perm [1] := ordL_perm id 1
  unfold ordI
  rw [List.perm_singleton.1 h]
  rfl
theorem place_one (id : List Nat) : placeS id 1 1 [1] = [(1, 1)] := by
  unfold placeS
  rw [ordI_one]
  rfl
theorem place_none (id : List Nat) : placeS id 1 1 [] = [] := by
  unfold placeS
  rw [ordI_one]
  rfl
theorem rdI_one (w : World) (x : Int) : RdI (w.alloc (.cells #[.int .i64 x] 3)) (some ⟨w.heap.size, 0, none⟩) [x] := fun i hi => by
  have : i = 0 := by simpa using hi
  subst this
  exact ⟨_, _, rfl, by simp, by rw [Go.Joins.cell_of_block (heap_alloc_new _ _)]; rfl⟩
theorem rdS_one (w : World) (x y : Int) : RdS (w.alloc (.cells #[.int .i64 x, .int .i64 y] 52)) (some ⟨w.heap.size, 0, none⟩) [(x, y)] := fun i hi => by
  have : i = 0 := by simpa using hi
  subst this
  exact ⟨_, rfl, by simp, by rw [Go.Joins.cell_of_block (heap_alloc_new _ _)]; rfl, by rw [Go.Joins.cell_of_block (heap_alloc_new _ _)]; rfl⟩
theorem zid_cells : (#[Value.int IntKind.u8 0, Value.int IntKind.u8 0, Value.int IntKind.u8 0, Value.int IntKind.u8 0, Value.int IntKind.u8 0, Value.int IntKind.u8 0, Value.int IntKind.u8 0, Value.int IntKind.u8 0, Value.int IntKind.u8 0, Value.int IntKind.u8 0, Value.int IntKind.u8 0, Value.int IntKind.u8 0, Value.int IntKind.u8 0, Value.int IntKind.u8 0, Value.int IntKind.u8 0, Value.int IntKind.u8 0, Value.int IntKind.u8 0, Value.int IntKind.u8 0, Value.int IntKind.u8 0, Value.int IntKind.u8 0, Value.int IntKind.u8 0, Value.int IntKind.u8 0, Value.int IntKind.u8 0, Value.int IntKind.u8 0, Value.int IntKind.u8 0, Value.int IntKind.u8 0, Value.int IntKind.u8 0, Value.int IntKind.u8 0, Value.int IntKind.u8 0, Value.int IntKind.u8 0, Value.int IntKind.u8 0, Value.int IntKind.u8 0] : Array Value) = (cellsOf zid).toArray := rfl
theorem kept_heap {W W' : World} {g : Nat} {o : Obj} (h : W.heap[g]? = some o) (hb : Below W.heap.size W W') : W'.heap[g]? = some o :=
  (hb.block _ (Array.getElem?_eq_some_iff.1 h).1).trans h
set_option maxHeartbeats 2000000 in
set_option maxRecDepth 100000 in
theorem awake17 (w : World) : Calls Try.prog 22 #[] w fun e w' => e = .returned (.bool true) ∧ Below w.heap.size w w' := by
  have HPL : Hf (∀ (u : World) (A : Option Addr), RdI u A [1] → Calls Try.prog 26 #[.agg (cellsOf zid).toArray, .int .i64 1, .int .i64 1, .slice A 1 1] u fun e w' => ∃ A' c', e = .returned (.tuple #[.slice A' 1 c', .int .i64 0]) ∧ RdS w' A' [(1, 1)] ∧ Below u.heap.size u w') := ⟨fun u A h => by
    have h1 := place_any zid 1 1 [1] A 1 u zid_len zid_lt (by decide) (by decide) (by decide) (by decide) h (by decide)
    rw [place_one] at h1
    refine h1.mono fun e w' h2 => ?_
    obtain ⟨v, he, ho, hb⟩ := h2
    obtain ⟨A', c', rfl, hr, _⟩ := rdS_own rfl ho
    exact ⟨A', c', he, hr, hb⟩⟩
  have HLO : Hf (∀ u : World, Calls Try.prog 34 #[.agg (cellsOf zid).toArray, .int .i64 1] u fun e w' => ∃ g cap, e = .returned (.slice (some ⟨g, 0, none⟩) 1 cap) ∧ RdI w' (some ⟨g, 0, none⟩) [1] ∧ Below u.heap.size u w') := ⟨fun u => by
    have h1 := law_order zid 1 u zid_len zid_lt (by decide) (by decide)
    rw [ordI_one] at h1
    refine h1.mono fun e w' h2 => ?_
    obtain ⟨g, cap, he, hr, _, hb⟩ := h2
    exact ⟨g, cap, he, hr, hb⟩⟩
  have HBAD := Hf.mk (fun u => law_order_bad zid 65 u zid_len (by decide))
  have HSI : Hf (∀ (u : World) (a b : Option Addr) (c d : Nat), RdI u a [1] → RdI u b [1] → Calls Try.prog 28 #[.slice a 1 c, .slice b 1 d] u fun e w' => e = .returned (.bool true) ∧ Below u.heap.size u w') := ⟨fun u a b c d h1 h2 => same_ints a b c d [1] u h1 h2 (by decide)⟩
  have HSS : Hf (∀ (u : World) (a b : Option Addr) (c d : Nat), RdS u a [(1, 1)] → RdS u b [(1, 1)] → Calls Try.prog 29 #[.slice a 1 c, .slice b 1 d] u fun e w' => e = .returned (.bool true) ∧ Below u.heap.size u w') := ⟨fun u a b c d h1 h2 => same_spots a b c d [(1, 1)] u h1 h2 (by decide)⟩
  have hz : (cellsOf zid).toArray.size = 32 := rfl
  have h1 := heap_alloc_new w (.cells (cellsOf zid).toArray 23)
  have hb0 : Below w.heap.size w (w.alloc (.cells (cellsOf zid).toArray 23)) := (Below.refl _ _).alloc (Nat.le_refl _) _
  go_enter Try.func22, Try.ntmps22
  go_upto_region 2 with fail
  rw [zid_cells]
  generalize (cellsOf zid).toArray = za at *
  have H1 := Hf.mk h1
  have HZ := Hf.mk hz
  have HB0 := Hf.mk hb0
  clear h1 hz hb0
  generalize w.alloc (.cells za 23) = W at *
  have HR1 := Hf.mk (rdI_one W 1)
  go_upto_region 3 with (first
    | (refine wpList_load_rowW rfl 23 (.tmp 1) rfl _ rfl 23 za (0, 0) _ H1.out Try.underlying23 rfl (size23.trans (by rw [HZ.out])) ?_)
    | (go_at_call 26; (with_reducible refine (HPL.out _ _ HR1.out).mono ?_); rintro e w1 ⟨A1, c1, rfl, hr, hb1⟩; have HS1 := Hf.mk hr; have HB1 := Hf.mk (below_step ((Below.refl W.heap.size W).alloc (Nat.le_refl _) _) hb1); clear hr hb1))
  have H2 := Hf.mk (kept_heap H1.out HB1.out)
  have tok1 : True := trivial
  go_wp2_with (first
    | (refine wpList_load_rowW rfl 23 (.tmp 1) rfl _ rfl 23 za (0, 0) _ H2.out Try.underlying23 rfl (size23.trans (by rw [HZ.out])) ?_)
    | (go_at_call 34; have _t := tok1; (with_reducible refine (HLO.out _).mono ?_); rintro e w2 ⟨g, cap, rfl, hr, hb2⟩; have HI2 := Hf.mk (hr.below ((Below.refl _ _).alloc (Nat.le_refl _) (.cells #[Value.int .i64 1] 3))); have HR2 := Hf.mk (rdI_one w2 1); have HB2 := Hf.mk (below_step hb2 ((Below.refl _ _).alloc (Nat.le_refl _) (.cells #[Value.int .i64 1] 3))); clear hr hb2 tok1)
    | (go_at_call 28; (with_reducible refine (HSI.out _ _ _ _ _ HI2.out HR2.out).mono ?_); rintro e w3 ⟨rfl, hb3⟩; have HB3 := Hf.mk (below_step (below_step HB2.out hb3) ((Below.refl _ _).alloc (Nat.le_refl _) (.cells #[Value.int .i64 1, Value.int .i64 1] 52))); have HS3 := Hf.mk (HS1.out.below HB3.out); have HR3 := Hf.mk (rdS_one w3 1 1); clear hb3)
    | (go_at_call 29; (with_reducible refine (HSS.out _ _ _ _ _ HS3.out HR3.out).mono ?_); rintro e w4 ⟨rfl, hb4⟩; have HB4 := Hf.mk (below_step HB3.out hb4); have H4 := Hf.mk (kept_heap H2.out HB4.out); clear hb4)
    | (refine wpList_load_rowW rfl 23 (.tmp 1) rfl _ rfl 23 za (0, 0) _ H4.out Try.underlying23 rfl (size23.trans (by rw [HZ.out])) ?_)
    | (go_at_call 34; (with_reducible refine (HBAD.out _).mono ?_); rintro e w5 ⟨rfl, hb5⟩; have HB5 := Hf.mk (below_step HB4.out hb5); clear hb5))
  go_ret
  exact ⟨rfl, below_step HB0.out (below_step HB1.out HB5.out)⟩
set_option maxHeartbeats 2000000 in
set_option maxRecDepth 100000 in
theorem known17 (w : World) : Calls Try.prog 6 #[] w fun e w' => e = .returned (.bool true) ∧ Below w.heap.size w w' := by
  have HP1 : Hf (∀ u : World, Calls Try.prog 26 #[.agg (cellsOf zid).toArray, .int .i64 1, .int .i64 1, .slice none 0 0] u fun e w' => ∃ A' c', e = .returned (.tuple #[.slice A' 0 c', .int .i64 0]) ∧ Below u.heap.size u w') := ⟨fun u => by
    have h1 := place_any zid 1 1 [] none 0 u zid_len zid_lt (by decide) (by decide) (by decide) (by decide) (RdI.nil _ _) (by decide)
    rw [place_none] at h1
    refine h1.mono fun e w' h2 => ?_
    obtain ⟨v, he, ho, hb⟩ := h2
    obtain ⟨A', c', rfl, hr, _⟩ := rdS_own rfl ho
    exact ⟨A', c', he, hb⟩⟩
  have HP2 := Hf.mk (fun u => place_bad zid 3 4 none 0 0 u zid_len (by decide))
  have HO1 := Hf.mk (fun u => order_bad zid 0 u (by decide))
  have HO2 := Hf.mk (fun u => order_bad zid 65 u (by decide))
  have HHM := Hf.mk (fun u => home_bad zid 3 4 1 u zid_len (by decide))
  have HAW := Hf.mk awake17
  have hz : (cellsOf zid).toArray.size = 32 := rfl
  have h1 := heap_alloc_new w (.cells (cellsOf zid).toArray 23)
  have hb0 : Below w.heap.size w (w.alloc (.cells (cellsOf zid).toArray 23)) := (Below.refl _ _).alloc (Nat.le_refl _) _
  go_enter Try.func6, Try.ntmps6
  go_upto_region 2 with fail
  rw [zid_cells]
  generalize (cellsOf zid).toArray = za at *
  have H0 := Hf.mk h1
  have HZ := Hf.mk hz
  have HB0 := Hf.mk hb0
  clear h1 hz hb0
  generalize w.alloc (.cells za 23) = W at *
  have tok1 : True := trivial
  have tok2 : True := trivial
  go_upto_region 6 with (first
    | (refine wpList_load_rowW rfl 23 (.tmp 1) rfl _ rfl 23 za (0, 0) _ H0.out Try.underlying23 rfl (size23.trans (by rw [HZ.out])) ?_)
    | (go_at_call 24; have _t := tok1; (with_reducible refine (HO1.out _).mono ?_); rintro e w1 ⟨rfl, hb⟩; clear tok1; have HB1 := Hf.mk hb; have H1 := Hf.mk (kept_heap H0.out hb); clear hb)
    | (refine wpList_load_rowW rfl 23 (.tmp 1) rfl _ rfl 23 za (0, 0) _ H1.out Try.underlying23 rfl (size23.trans (by rw [HZ.out])) ?_)
    | (go_at_call 24; (with_reducible refine (HO2.out _).mono ?_); rintro e w2 ⟨rfl, hb⟩; have HB2 := Hf.mk hb; have H2 := Hf.mk (kept_heap H1.out hb); clear hb)
    | (refine wpList_load_rowW rfl 23 (.tmp 1) rfl _ rfl 23 za (0, 0) _ H2.out Try.underlying23 rfl (size23.trans (by rw [HZ.out])) ?_)
    | (go_at_call 26; have _t := tok2; (with_reducible refine (HP2.out _).mono ?_); rintro e w3 ⟨rfl, hb⟩; clear tok2; have HB3 := Hf.mk hb; have H3 := Hf.mk (kept_heap H2.out hb); clear hb)
    | (refine wpList_load_rowW rfl 23 (.tmp 1) rfl _ rfl 23 za (0, 0) _ H3.out Try.underlying23 rfl (size23.trans (by rw [HZ.out])) ?_)
    | (go_at_call 26; (with_reducible refine (HP1.out _).mono ?_); rintro e w4 ⟨A4, c4, rfl, hb⟩; have HB4 := Hf.mk hb; have H4 := Hf.mk (kept_heap H3.out hb); clear hb))
  have HB4' := Hf.mk (below_step (below_step (below_step (below_step HB0.out HB1.out) HB2.out) HB3.out) HB4.out)
  clear H0 H1 H2 H3 HO1 HO2 HP1 HP2
  go_wp2_with (first
    | (go_at_call 22; (with_reducible refine (HAW.out _).mono ?_); rintro e w5 ⟨rfl, hb⟩; have HB5 := Hf.mk hb; have H5 := Hf.mk (kept_heap H4.out hb); clear hb)
    | (refine wpList_load_rowW rfl 23 (.tmp 1) rfl _ rfl 23 za (0, 0) _ H5.out Try.underlying23 rfl (size23.trans (by rw [HZ.out])) ?_)
    | (go_at_call 30; (with_reducible refine (HHM.out _).mono ?_); rintro e w6 ⟨rfl, hb⟩; have HB6 := Hf.mk hb; have H6 := Hf.mk (kept_heap H5.out hb); clear hb))
  go_ret
  exact ⟨rfl, below_step (below_step HB4'.out HB5.out) HB6.out⟩
theorem rankKnown_walk (W : World) : Calls Try.prog 6 #[] W fun e w' => e = .returned (.bool true) ∧ Below W.heap.size W w' := known17 W
end
section
open Go.RowKit

theorem info4 : (Try.prog.info? 4).map (fun i => (i.zero, i.size, i.bytes)) = some (some (.bool false), 1, 1) := by kernel_rfl
theorem size23b : (Try.prog.info? 23).map (·.size) = some 32 := by kernel_rfl
theorem range_heap {w : World} {g : Nat} {cs : List Value} {t : TypeId} {fr : Nat × Nat} (h : w.heap[g]? = some (.cells cs.toArray t fr)) : w.rangeAt g 0 cs := fun j v hv => by
  rw [Go.Joins.cell_of_block h, Nat.zero_add]
  simpa using hv
/-- which numbers have been seen -/
def seenC (n : Nat) (l : List Nat) : Array Value := ((List.range n).map fun j => Value.bool (decide (j ∈ l))).toArray
theorem seenC_size (n : Nat) (l : List Nat) : (seenC n l).size = n := by simp [seenC]
theorem seenC_get (n : Nat) (l : List Nat) (j : Nat) (h : j < n) : (seenC n l)[j]? = some (.bool (decide (j ∈ l))) := by simp [seenC, h]
theorem seenC_set (n : Nat) (l : List Nat) (x : Nat) (h : x < n) : (seenC n l).setIfInBounds x (.bool true) = seenC n (l ++ [x]) := by
  apply Array.ext_getElem?
  intro j
  rw [Array.getElem?_setIfInBounds]
  by_cases hj : j < n
  · rw [seenC_get n l j hj, seenC_get n _ j hj, seenC_size]
    by_cases e : x = j
    · subst e; simp [h]
    · rw [if_neg e]
      congr 2
      apply decide_eq_decide.2
      simp [List.mem_append, Ne.symm e]
  · rw [Array.getElem?_eq_none (by rw [seenC_size]; omega), Array.getElem?_eq_none (by rw [seenC_size]; omega), seenC_size, if_neg (by omega)]
theorem make_bools (m : Nat) (h : m ≤ 1000) (W : World) : (Instr.makeSlice 48 (.int .i64 (m : Int)) (.int .i64 (m : Int))).run Try.prog W = .ok (.slice (some ⟨W.heap.size, 0, none⟩) m m) (W.alloc (.cells (seenC m []) 4)) := by
  have := run_make_rowN (P := Try.prog) 48 4 (.bool false) 1 1 Try.underlying48 info4 m (by omega) (by omega) W
  rw [Nat.mul_one] at this
  have e : seenC m [] = madeCells (Value.bool false).cells m := by
    apply Array.ext_getElem?
    intro j
    by_cases hj : j < m
    · rw [seenC_get m [] j hj]
      simp [madeCells, hj, Value.cells, Nat.mod_one]
    · rw [Array.getElem?_eq_none (by rw [seenC_size]; omega), Array.getElem?_eq_none (by simp [madeCells, Value.cells]; omega)]
  rw [e]
  exact this
theorem ordI_get {id : List Nat} {n k : Nat} (h : k < n) : (ordI id n).getD k 0 = (((ordL id n).getD k 0 : Nat) : Int) := by
  unfold ordI
  have : k < (ordL id n).length := by rw [ordL_len]; exact h
  simp [List.getD, this]
theorem ordL_at {id : List Nat} {n k : Nat} (h : k < n) : 1 ≤ (ordL id n).getD k 0 ∧ (ordL id n).getD k 0 ≤ n := by
  have hk : k < (ordL id n).length := by rw [ordL_len]; exact h
  apply ordL_mem.1
  rw [getD_get hk]
  exact List.getElem_mem hk
theorem ordL_new {id : List Nat} {n k : Nat} (h : k < n) : ¬ (ordL id n).getD k 0 ∈ (ordL id n).take k := by
  have hk : k < (ordL id n).length := by rw [ordL_len]; exact h
  rw [getD_get hk]
  intro hm
  obtain ⟨j, hj, e⟩ := List.getElem_of_mem hm
  rw [List.length_take] at hj
  rw [List.getElem_take] at e
  exact (List.pairwise_iff_getElem.1 (ordL_nodup id n)) j k (by omega) hk (by omega) e
theorem keep_next {w1 W W' : World} {g : Nat} {cs : List Value} (hg : g < w1.heap.size) (h : W.rangeAt g 0 cs ∧ Below w1.heap.size w1 W) (hb : Below W.heap.size W W') : W'.rangeAt g 0 cs ∧ Below w1.heap.size w1 W' :=
  ⟨fun j v hv => (hb.cell (p := ⟨g, 0 + j, none⟩) (Nat.lt_of_lt_of_le hg h.2.size)).trans (h.1 j v hv), below_step h.2 hb⟩
theorem rdI_ownN {w : World} {base : Nat} {v : Value} {id : List Nat} {k : Nat} (h : w.ownsRow base 3 1 v (ordL id k).length (intsN (ordL id k))) : ∃ A c, v = .slice A (ordL id k).length c ∧ RdI w A (ordI id k) ∧ (ordL id k).length ≤ c := by
  have e : intsN (ordL id k) = intsZ (ordI id k) := by unfold intsN intsZ ordI; rw [List.map_map]; rfl
  have e2 : (ordL id k).length = (ordI id k).length := by unfold ordI; rw [List.length_map]
  rw [e, e2] at h
  rw [e2]
  exact rdI_ownZ rfl h
theorem filter_snoc (l : List Nat) (k n : Nat) (hk : k < l.length) : (l.take (k + 1)).filter (fun x => decide (x ≠ n)) = (l.take k).filter (fun x => decide (x ≠ n)) ++ (if l.getD k 0 = n then [] else [l.getD k 0]) := by
  rw [take_snoc hk, List.filter_append]
  congr 1
  generalize l.getD k 0 = x
  by_cases e : x = n <;> simp [e]
set_option maxHeartbeats 400000 in
set_option maxRecDepth 100000 in
theorem whole17 (id : List Nat) (nodes : Int) (w : World) (hl : id.length = 32) (hb : ∀ c ∈ id, c < 256) :
    Calls Try.prog 7 #[.agg (cellsOf id).toArray, .int .i64 nodes] w fun e w' => e = .returned (.bool true) ∧ Below w.heap.size w w' := by
  obtain ⟨m, hm⟩ : ∃ m : Nat, nodes % 63 = m := ⟨(nodes % 63).toNat, by have := Int.emod_nonneg nodes (show (63 : Int) ≠ 0 by decide); omega⟩
  have hm2 : m < 63 := by have := Int.emod_lt_of_pos nodes (show (0 : Int) < 63 by decide); omega
  have HPK := Hf.mk (fun u => Pick_any nodes 63 u (by decide) (by decide))
  rw [hm] at HPK
  have HK := Hf.mk known17
  have HLA := Hf.mk (fun u => law_order id (m + 1) u hl hb (by omega) (by omega))
  have HLB := Hf.mk (fun u => law_order id (m + 1 + 1) u hl hb (by omega) (by omega))
  have h1 := range_heap (heap_alloc_new w (.cells (cellsOf id).toArray 23))
  have hb0 : Below w.heap.size w (w.alloc (.cells (cellsOf id).toArray 23)) := (Below.refl _ _).alloc (Nat.le_refl _) _
  have hsz : (w.alloc (.cells (cellsOf id).toArray 23)).heap.size = w.heap.size + 1 := by simp
  have hcl : (Try.prog.info? 23).map (·.size) = some (cellsOf id).length := by rw [cellsOf_length, hl]; exact size23b
  have hu23 := Try.underlying23
  clear hm hl hb
  generalize cellsOf id = cs at *
  go_enter Try.func7, Try.ntmps7
  go_upto_region 1 with fail
  generalize w.alloc (.cells cs.toArray 23) = W at *
  have HB0 := Hf.mk hb0
  clear hb0
  go_upto_region 3 with (first
    | (go_at_call 6; (with_reducible refine (HK.out _).mono ?_); rintro e w1 ⟨rfl, hb1⟩; have HB1 := Hf.mk hb1; clear hb1)
    | (go_at_call 33; (with_reducible refine (HPK.out _).mono ?_); rintro e w' ⟨rfl, hw'⟩; subst hw'))
  have e1 : (1 : Int) + (m : Int) = ((m + 1 : Nat) : Int) := by omega
  rw [e1]
  have hr1 : w1.rangeAt w.heap.size 0 cs := fun j v hv => (HB1.out.cell (p := ⟨w.heap.size, 0 + j, none⟩) (by show w.heap.size < W.heap.size; omega)).trans (h1 j v hv)
  obtain ⟨n, hn⟩ : ∃ n, m + 1 = n := ⟨_, rfl⟩
  rw [hn] at HLA HLB ⊢
  have hcast : ((n + 1 : Nat) : Int) = (n : Int) + 1 := by omega
  rw [hcast] at HLB
  have hn1 : 1 ≤ n := by omega
  have hn63 : n ≤ 63 := by omega
  clear hn e1 hm2
  have hn1' : (1 : Int) ≤ (n : Int) := by omega
  have hn63' : (n : Int) ≤ 63 := by omega
  have hwr : IntKind.i64.wrap ((n : Int) + 1) = (n : Int) + 1 := IntWalk.i64_in _ (by omega)
  have hlt1 : w.heap.size < w1.heap.size := by have := HB1.out.size; omega
  refine wp_region_held_drew (S := fun w' => w'.rangeAt w.heap.size 0 cs ∧ Below w1.heap.size w1 w') (by kernel_rfl) ⟨hr1, (Below.refl _ _).drew⟩ (fun hHeld => ?_)
  refine wpAnyH_take (i := 0) rfl (by kernel_rfl) (by kernel_rfl) (by kernel_rfl) (fun _ _ _ h => h) (yieldsIf_load_mid (by rfl) _ _ rfl _ _ rfl cs _ (fun u hu => hu.1) hu23 rfl hcl) hHeld ?_
  (try simp only [Act.put, List.setIfInBounds_toArray, List.set_cons_zero, List.set_cons_succ])
  refine wpAnyH_take (i := 3) rfl (by kernel_rfl) (by kernel_rfl) (by kernel_rfl) (fun _ _ _ h => h) (yieldsIf_load_mid (by rfl) _ _ rfl _ _ rfl cs _ (fun u hu => hu.1) hu23 rfl hcl) hHeld ?_
  (try simp only [Act.put, List.setIfInBounds_toArray, List.set_cons_zero, List.set_cons_succ])
  refine wpAnyH_take (i := 1) rfl (by kernel_rfl) (by kernel_rfl) (by kernel_rfl) (fun _ _ _ h => h) (Or.inl ⟨by rfl, (by intro u hSw; go_simp; first | done | (with_reducible rfl))⟩) hHeld ?_
  (try simp only [Act.put, List.setIfInBounds_toArray, List.set_cons_zero, List.set_cons_succ])
  refine wpAnyH_take (i := 4) rfl (by kernel_rfl) (by kernel_rfl) (by kernel_rfl) (fun _ _ _ h => h) (Or.inl ⟨by rfl, (by intro u hSw; go_simp; first | done | (with_reducible rfl))⟩) hHeld ?_
  (try simp only [Act.put, List.setIfInBounds_toArray, List.set_cons_zero, List.set_cons_succ])
  refine wpAnyH_take (i := 5) rfl (by kernel_rfl) (by kernel_rfl) (by kernel_rfl) (fun _ _ _ h => h) (Or.inl ⟨by rfl, (by intro u hSw; go_simp; first | done | (with_reducible rfl))⟩) hHeld ?_
  (try simp only [Act.put, List.setIfInBounds_toArray, List.set_cons_zero, List.set_cons_succ])
  refine wpAnyH_ready (rs := [2]) (by kernel_rfl) (by simp) ?_
  refine AllReadyH.cons rfl (fun K hK => ?_) AllReadyH.nil
  go_simp
  go_at_call 34
  (with_reducible refine (HLA.out _).mono ?_)
  rintro e w2 ⟨g1, c1, rfl, hr, hc, hb2⟩
  have HI1 := Hf.mk hr
  have hk2 := keep_next hlt1 hHeld hb2
  have hBd := hHeld.2
  clear hr hb2 hHeld
  refine hK.out _ _ hk2 (fun hHeld => ?_)
  clear hK K
  (try simp only [Act.put, List.setIfInBounds_toArray, List.set_cons_zero, List.set_cons_succ])
  refine wpAnyH_ready (rs := [6]) (by kernel_rfl) (by simp) ?_
  refine AllReadyH.cons rfl (fun K hK => ?_) AllReadyH.nil
  go_simp
  go_at_call 34
  (with_reducible refine (HLB.out _).mono ?_)
  rintro e w3 ⟨g2, c2, rfl, hr, hc', hb3⟩
  have HI2 := Hf.mk hr
  have HI1' := Hf.mk (HI1.out.below hb3)
  have hk3 := keep_next hlt1 hHeld hb3
  clear hr hb3 hHeld
  refine hK.out _ _ hk3 (fun hHeld => ?_)
  clear hK K
  (try simp only [Act.put, List.setIfInBounds_toArray, List.set_cons_zero, List.set_cons_succ])
  refine wpAnyH_take (i := 7) rfl (by kernel_rfl) (by kernel_rfl) (by kernel_rfl) (fun _ _ _ h => h) (Or.inl ⟨by rfl, (by intro u hSw; go_simp; first | done | (with_reducible rfl))⟩) hHeld ?_
  (try simp only [Act.put, List.setIfInBounds_toArray, List.set_cons_zero, List.set_cons_succ])
  refine wpAnyH_take (i := 8) rfl (by kernel_rfl) (by kernel_rfl) (by kernel_rfl) (fun _ _ _ h => h) (Or.inl ⟨by rfl, (by intro u hSw; go_simp; first | done | (with_reducible rfl))⟩) hHeld ?_
  (try simp only [Act.put, List.setIfInBounds_toArray, List.set_cons_zero, List.set_cons_succ])
  refine wpAnyH_done (by kernel_rfl) ?_ _
  have HB3 := Hf.mk hk3.2
  clear hk2 hk3 hHeld
  have hmk := fun V => make_bools (n + 1) (by omega) V
  rw [hcast] at hmk
  have HSI : Hf (∀ (u : World) (b : Option Addr) (c d : Nat), RdI u (some ⟨g1, 0, none⟩) (ordI id n) → RdI u b (ordI id n) → Calls Try.prog 28 #[.slice (some ⟨g1, 0, none⟩) n c, .slice b n d] u fun e w' => e = .returned (.bool true) ∧ Below u.heap.size u w') := ⟨fun u b c d h1 h2 => by
    have h3 := same_ints (some ⟨g1, 0, none⟩) b c d (ordI id n) u h1 h2 (by rw [ordI_len]; omega)
    rw [ordI_len] at h3
    exact h3⟩
  clear HLA HLB HPK HK hr1 h1 hcl hu23
  go_wp2
  have hs0 := heap_alloc_new w3 (.cells (seenC (n + 1) []) 4)
  have hsb : Below w3.heap.size w3 (w3.alloc (.cells (seenC (n + 1) []) 4)) := (Below.refl _ _).alloc (Nat.le_refl _) _
  have HS0 := Hf.mk hs0
  have HSB := Hf.mk hsb
  clear hs0 hsb hmk
  generalize w3.alloc (.cells (seenC (n + 1) []) 4) = w4 at HS0 HSB ⊢
  go_loopw [9] (fun i wr => ∃ k : Nat, k ≤ n ∧ i = .int .i64 k ∧ Hf (wr.heap[w3.heap.size]? = some (.cells (seenC (n + 1) ((ordL id n).take k)) 4)) ∧ Hf (Below w3.heap.size w3 wr)) (fun i _ => n - (intOf i).toNat)
  case atStart => exact ⟨0, by omega, rfl, HS0, HSB⟩
  case round =>
    obtain ⟨k, hk, rfl, HS, HB⟩ := hrel
    by_cases hgo : k < n
    · have hgo2 : (k : Int) < (n : Int) := by omega
      obtain ⟨_, _, q, _, hcell⟩ := (HI1'.out.below HB.out).form (by rw [ordI_len]; omega)
      cases q
      have q0 := hcell k (by rw [ordI_len]; exact hgo)
      rw [Nat.zero_add, ordI_get hgo] at q0
      have hx1 := ordL_at (id := id) hgo
      have hx2 := ordL_new (id := id) hgo
      have HTS := Hf.mk (take_snoc (l := ordL id n) (k := k) (by rw [ordL_len]; exact hgo))
      obtain ⟨x, hx⟩ : ∃ x, (ordL id n).getD k 0 = x := ⟨_, rfl⟩
      rw [hx] at q0 hx1 hx2 HTS
      have c0 := Go.Joins.cell_of_block HS.out x
      rw [seenC_get _ _ _ (by omega), decide_eq_false hx2] at c0
      have f0 := Go.Joins.unfrozen_of_block HS.out x
      have HST := Hf.mk (seenC_set (n + 1) ((ordL id n).take k) x (by omega))
      have i1 : ¬ (x : Int) < 1 := by omega
      have i2 : ¬ (n : Int) < (x : Int) := by omega
      have i3 : (x : Int) < (n : Int) + 1 := by omega
      clear hcell hx hx1 hx2
      go_wp2
      go_roundw
      case rel => exact ⟨k + 1, by omega, by go_num, ⟨by rw [HTS.out, ← HST.out]; exact Go.Joins.block_setCell HS.out _⟩, ⟨HB.out.setCell (Nat.le_refl _) _⟩⟩
      case measure => simp [intOf]; omega
    · obtain rfl : k = n := by omega
      clear HS HS0 HSB
      go_wp2
      generalize hw5 : wr = w5 at HB ⊢
      clear hw5
      have HI5 := Hf.mk (HI1'.out.below HB.out)
      have HJ5 := Hf.mk (HI2.out.below HB.out)
      go_loopw [10, 11] (fun v i wr => ∃ j : Nat, j ≤ k + 1 ∧ i = .int .i64 j ∧ Hf (wr.ownsRow w5.heap.size 3 1 v (((ordL id (k + 1)).take j).filter (fun x => decide (x ≠ k + 1))).length (intsN (((ordL id (k + 1)).take j).filter (fun x => decide (x ≠ k + 1))))) ∧ Hf (Below w5.heap.size w5 wr)) (fun _ i _ => k + 1 - (intOf i).toNat)
      case atStart => exact ⟨0, by omega, rfl, ⟨World.ownsRow_nil _ _ _ _⟩, ⟨Below.refl _ _⟩⟩
      case round =>
        obtain ⟨j, hj, rfl, HO, HB6⟩ := hrel
        by_cases hgo6 : j < k + 1
        · have hgo7 : (j : Int) < (k : Int) + 1 := by omega
          obtain ⟨_, _, q, _, hcell⟩ := (HJ5.out.below HB6.out).form (by rw [ordI_len]; omega)
          cases q
          have q0 := hcell j (by rw [ordI_len]; exact hgo6)
          rw [Nat.zero_add, ordI_get hgo6] at q0
          have HFS := Hf.mk (filter_snoc (ordL id (k + 1)) j (k + 1) (by rw [ordL_len]; exact hgo6))
          obtain ⟨x, hx⟩ : ∃ x, (ordL id (k + 1)).getD j 0 = x := ⟨_, rfl⟩
          rw [hx] at q0 HFS
          have hlen : (((ordL id (k + 1)).take j).filter (fun x => decide (x ≠ k + 1))).length ≤ j := Nat.le_trans (List.length_filter_le _ _) (by rw [List.length_take]; omega)
          generalize ((ordL id (k + 1)).take j).filter (fun x => decide (x ≠ k + 1)) = L at HO HFS hlen
          clear hcell hx
          by_cases hxe : x = k + 1
          · have hxe' : (x : Int) = (k : Int) + 1 := by omega
            rw [if_pos hxe, List.append_nil] at HFS
            clear hxe
            go_wp2
            go_roundw
            case rel => exact ⟨j + 1, by omega, by go_num, ⟨by rw [HFS.out]; exact HO.out⟩, HB6⟩
            case measure => simp [intOf]; omega
          · have hxe' : ¬ (x : Int) = (k : Int) + 1 := by omega
            rw [if_neg hxe] at HFS
            obtain ⟨i3, hi3, hz30, hz31, hz32⟩ := info_parts info3
            have HMX : Hf (L.length + 1 ≤ maxLen) := ⟨by unfold maxLen; omega⟩
            clear hxe
            go_wp2_with (at_builtin; refine wpList_append_own _ rfl (.tmp 83) (.tmp 88) 34 rfl w5.heap.size 3 i3 (.int .i64 0) 1 8 Try.underlying34 hi3 hz30 hz31 hz32 rfl (by decide) _ L.length (intsN L) rfl (HO.out.alloc _) ⟨wr.heap.size, 0, none⟩ 1 1 [.int .i64 (x : Nat)] rfl rfl (new_cells1 _ _ _) (by simp [Value.oneCell']) HMX.out (by omega) (by have := HB6.out.size; simp; omega) ?_; intro v4 w8 hown4 hgrow4 _; have HO7 := Hf.mk hown4; have HB7 := Hf.mk (below_own (HO.out.alloc _) (Below.refl _ _) hgrow4 HB6.out.size); clear hown4 hgrow4)
            go_roundw
            case rel => exact ⟨j + 1, by omega, by go_num, ⟨by rw [HFS.out, List.length_append, intsN_snoc]; exact HO7.out⟩, ⟨HB6.out.trans HB7.out⟩⟩
            case measure => simp [intOf]; omega
        · obtain rfl : j = k + 1 := by omega
          have e1 : (ordL id (k + 1)).take (k + 1) = ordL id (k + 1) := List.take_of_length_le (by rw [ordL_len]; exact Nat.le_refl _)
          have e2 := ordL_less id k
          rw [e1, e2] at HO
          obtain ⟨A', c', rfl, hrd, _⟩ := rdI_ownN HO.out
          have hsi := HSI.out wr A' c1 c' (HI5.out.below HB6.out) hrd
          have HSJ := Hf.mk hsi
          have hlk : (ordL id k).length = k := ordL_len id k
          rw [hlk]
          clear hsi hrd e1 e2 hlk
          go_wp2_with (go_at_call 28; (with_reducible refine HSJ.out.mono ?_); rintro e w9 ⟨rfl, hb9⟩; have HB9 := Hf.mk hb9; clear hb9)
          go_ret
          exact ⟨rfl, below_step (below_step (below_step (below_step (below_step HB0.out HB1.out) HB3.out) HB.out) HB6.out) HB9.out⟩
theorem rankWhole_walk (id : List Nat) (nodes : Int) (W : World) (hl : id.length = 32) (hb : ∀ c ∈ id, c < 256) (_h : (Lit.int .i64 nodes).wf = true) :
    Calls Try.prog 7 #[.agg (cellsOf id).toArray, .int .i64 nodes] W fun e w' => e = .returned (.bool true) ∧ Below W.heap.size W w' := whole17 id nodes W hl hb
end
section
open Go.RowKit

def pickN (n : Nat) (z : Int) : Nat := (1 + z % (n : Int)).toNat
theorem pickN_at {n : Nat} (hn : 1 ≤ n) (z : Int) : 1 ≤ pickN n z ∧ pickN n z ≤ n ∧ (1 + z % (n : Int)) = (pickN n z : Int) := by
  have h1 := Int.emod_nonneg z (show (n : Int) ≠ 0 by omega)
  have h2 := Int.emod_lt_of_pos z (show (0 : Int) < n by omega)
  unfold pickN
  omega
/-- the first k who have them -/
def picks (n : Nat) (l : List Int) (k : Nat) : List Nat := (l.take k).map (pickN n)
theorem picks_succ {n : Nat} {l : List Int} {k : Nat} (h : k < l.length) : picks n l (k + 1) = picks n l k ++ [pickN n (l.getD k 0)] := by
  unfold picks
  rw [take_snocI h, List.map_append]; rfl
/-- has one but me any? -/
def anyO (me : Int) (xs : List Nat) : Bool := xs.any fun x => (x : Int) != me
theorem anyO_snoc (me : Int) (xs : List Nat) (x : Nat) : anyO me (xs ++ [x]) = (anyO me xs || ((x : Int) != me)) := by
  unfold anyO
  rw [List.any_append]
  simp
/-- does a node have them? -/
def hasF (xs : List Nat) (x : Int) : Bool := decide (x.toNat ∈ xs)
/-- the read of ReadsFinds -/
def findR (id : List Nat) (me n c : Nat) : Rdr := madeR 3 id me n c me 1 1 1 1000
theorem find_ok {me n c : Nat} (hn : 1 ≤ n) (hn2 : n ≤ 64) (hc : 1 ≤ c) (hc2 : c ≤ n) (hm : 1 ≤ me) (hm2 : me ≤ n) : newOk 3 me n c me 1 1 1 1000 :=
  ⟨⟨⟨by decide, by decide⟩, ⟨by decide, by decide⟩, ⟨by decide, by decide⟩, ⟨by decide, by decide⟩, ⟨by decide, by decide⟩⟩, ⟨by omega, by omega⟩, by omega, by omega, by omega, by omega, rfl⟩
theorem findR_ord (id : List Nat) (me n c : Nat) : (findR id me n c).ord = (ordI id n).filter (fun x => !(x == (me : Int))) := rfl
theorem findR_mem {id : List Nat} {me n c : Nat} {x : Int} : x ∈ (findR id me n c).ord ↔ (1 ≤ x ∧ x ≤ n) ∧ x ≠ me := by
  rw [findR_ord, List.mem_filter, ordI_mem]
  simp
theorem findR_nodup (id : List Nat) (me n c : Nat) : (findR id me n c).ord.Nodup := by
  rw [findR_ord]
  exact (ordI_nodup id n).filter _
theorem findR_get {id : List Nat} {me n c j : Nat} (h : j < (findR id me n c).ord.length) : ∃ x : Nat, (findR id me n c).ord.getD j 0 = x ∧ 1 ≤ x ∧ x ≤ n ∧ x ≠ me := by
  have hm : (findR id me n c).ord.getD j 0 ∈ (findR id me n c).ord := by
    rw [List.getD_eq_getElem?_getD, List.getElem?_eq_getElem h]; exact List.getElem_mem h
  have := findR_mem.1 hm
  refine ⟨((findR id me n c).ord.getD j 0).toNat, ?_, ?_, ?_, ?_⟩ <;> omega
/-- the nodes that were asked -/
def askedN (M : Rdr) (k : Nat) : List Nat := (M.ord.take k).map Int.toNat
theorem askedN_succ {M : Rdr} {k : Nat} (h : k < M.ord.length) : askedN M (k + 1) = askedN M k ++ [(M.ord.getD k 0).toNat] := by
  unfold askedN
  rw [take_snocI h, List.map_append]; rfl
theorem askedN_new {id : List Nat} {me n c k x : Nat} (h : k < (findR id me n c).ord.length) (hx : (findR id me n c).ord.getD k 0 = x) : ¬ x ∈ askedN (findR id me n c) k := by
  intro hm
  unfold askedN at hm
  obtain ⟨y, hy, hyx⟩ := List.mem_map.1 hm
  have hy2 := findR_mem.1 (List.mem_of_mem_take hy)
  have e : y = x := by omega
  obtain ⟨j, hj, hjy⟩ := List.mem_iff_getElem.1 hy
  rw [List.getElem_take] at hjy
  rw [List.length_take] at hj
  have hd := findR_nodup id me n c
  rw [List.getD_eq_getElem?_getD, List.getElem?_eq_getElem h] at hx
  have hx : (findR id me n c).ord[k] = (x : Int) := hx
  exact List.pairwise_iff_getElem.1 hd j k (by omega) h (by omega) (by rw [hjy, hx, e])
theorem askedN_old {id : List Nat} {me n c k j x : Nat} (hj : j < k) (h : j < (findR id me n c).ord.length) (hx : (findR id me n c).ord.getD j 0 = x) : x ∈ askedN (findR id me n c) k := by
  unfold askedN
  refine List.mem_map.2 ⟨(x : Int), ?_, rfl⟩
  rw [List.getD_eq_getElem?_getD, List.getElem?_eq_getElem h] at hx
  have hx : (findR id me n c).ord[j] = (x : Int) := hx
  rw [← hx]
  refine List.mem_iff_getElem.2 ⟨j, by rw [List.length_take]; omega, by rw [List.getElem_take]⟩
/-- one that has them is asked, or none has -/
theorem any_yes {id : List Nat} {me n c : Nat} {xs : List Nat} (hx : ∀ x ∈ xs, 1 ≤ x ∧ x ≤ n) (h : ∃ j, j < (findR id me n c).ord.length ∧ hasF xs ((findR id me n c).ord.getD j 0) = true) : anyO me xs = true := by
  obtain ⟨j, hj, hh⟩ := h
  obtain ⟨x, e, h1, h2, h3⟩ := findR_get hj
  rw [e] at hh
  unfold hasF at hh
  have hm := of_decide_eq_true hh
  have hm : x ∈ xs := hm
  unfold anyO
  rw [List.any_eq_true]
  exact ⟨x, hm, by rw [bne_iff_ne]; omega⟩
theorem any_no {id : List Nat} {me n c : Nat} {xs : List Nat} (hx : ∀ x ∈ xs, 1 ≤ x ∧ x ≤ n) (h : ∀ j, j < (findR id me n c).ord.length → hasF xs ((findR id me n c).ord.getD j 0) = false) : anyO me xs = false := by
  unfold anyO
  rw [List.any_eq_false]
  intro x hm
  rw [bne_iff_ne]
  intro hne
  have hx' := hx x hm
  have hmem : (x : Int) ∈ (findR id me n c).ord := findR_mem.2 ⟨by omega, hne⟩
  obtain ⟨j, hj, hjx⟩ := List.mem_iff_getElem.1 hmem
  have := h j hj
  rw [List.getD_eq_getElem?_getD, List.getElem?_eq_getElem hj] at this
  have this : hasF xs ((findR id me n c).ord[j]) = false := this
  rw [hjx] at this
  unfold hasF at this
  exact of_decide_eq_false this hm
theorem picks_at {n : Nat} (hn : 1 ≤ n) (l : List Int) (k : Nat) : ∀ x ∈ picks n l k, 1 ≤ x ∧ x ≤ n := by
  intro x hx
  unfold picks at hx
  obtain ⟨z, _, rfl⟩ := List.mem_map.1 hx
  exact ⟨(pickN_at hn z).1, (pickN_at hn z).2.1⟩
/-- how it begins -/
theorem find_begin {id : List Nat} {me n c : Nat} {hv : Int → Bool} {b : List Nat} (hn2 : n ≤ 64) (hc : 1 ≤ c) :
    ∃ m, (findR id me n c).startO [] false = gets1 (findR id me n c) m ∧ FindSt (findR id me n c) hv b ((findR id me n c).startR [] false) m [] 0 := by
  have hl : (findR id me n c).ord.length ≤ 64 := by rw [findR_ord]; exact Nat.le_trans (List.length_filter_le _ _) (by rw [ordI_len]; omega)
  obtain ⟨h1, h2, h3⟩ := find_start (M := findR id me n c) (d := []) (has := false) rfl rfl hl (show (1 : Int) ≤ (c : Int) by omega) (fun h => by cases h.1)
  have hc0 : (findR id me n c).copies.toNat = c := by show ((c : Int)).toNat = c; omega
  rw [hc0] at h1 h2
  refine ⟨min c (findR id me n c).ord.length, h1, ?_⟩
  by_cases h0 : 0 < (findR id me n c).ord.length
  · rw [h2 h0]
    exact ⟨Nat.min_le_right _ _, fun _ => ⟨by omega, rfl, rfl, fun j hj => absurd hj (Nat.not_lt_zero j)⟩, fun h => absurd rfl h, fun h => absurd (show (1 : Nat) = 2 from h) (by decide), fun h => absurd (show (1 : Nat) = 3 from h) (by decide), fun h => absurd rfl h, Nat.zero_le _⟩
  · have h0 : (findR id me n c).ord.length = 0 := by omega
    rw [h3 h0]
    exact ⟨Nat.min_le_right _ _, fun h => absurd (show (3 : Nat) = 1 from h) (by decide), fun _ => ⟨⟨rfl, rfl, rfl, rfl, rfl, rfl⟩, (by decide : (3 : Nat) < 4), (by decide : (2 : Nat) ≤ 3), fun x hx => by cases hx⟩, fun h => absurd (show (3 : Nat) = 2 from h) (by decide), fun _ => ⟨rfl, fun j hj => by omega⟩, fun h => absurd rfl h, Nat.zero_le _⟩
end
section
open Go.RowKit

theorem nt_set45 (kind me who cn cb cc : Int) (yes : Bool) (id : List Nat) (u v : Value) (h : id.length = 32) : (nt kind me who cn cb cc 0 yes id u).toArray.setIfInBounds 45 v = (nt kind me who cn cb cc 0 yes id v).toArray := by
  apply Array.ext'
  rw [Array.toList_setIfInBounds]
  show List.set _ _ _ = _
  unfold nt
  rw [List.append_assoc, List.append_assoc, List.set_append_right _ _ (show 13 ≤ 45 by decide), List.set_append_right _ _ (by rw [cellsOf_length, h]; show 32 ≤ 45 - 13; decide), cellsOf_length, h]
  rfl
theorem keptB {W W' : World} {g : Nat} {o : Obj} (h : W.heap[g]? = some o) (hb : Below W.heap.size W W') : W'.heap[g]? = some o :=
  (hb.block g (Array.getElem?_eq_some_iff.1 h).1).trans h
theorem block_ne {W : World} {b q : Nat} {cs ds : Array Value} {t s : TypeId} (h : W.heap[b]? = some (.cells cs t (0, 0))) (k : W.heap[q]? = some (.cells ds s (0, 0))) (ht : t ≠ s) : b ≠ q := fun e => by
  subst e
  rw [h] at k
  injection k with k
  injection k with _ k _
  exact ht k
/-- the law's state -/
structure FW (w W : World) (n p gC gH gS base me : Nat) (a1 : Option Addr) (c1 : Nat) (a2 : Option Addr) (c2 : Nat) (HL SL : List Nat) (v : Value) (R : Rdr) (ns : List (Bool × Int)) : Prop where
  rat : ∃ a3 c3, RAt W p R a1 c1 a2 c2 a3 c3
  ok : R.Ok
  nts : NotesAt W base v R ns
  cal : W.heap[gC]? = some (.cells #[.int .i64 me, .int .i64 1, .int .i64 1] 56 (0, 0))
  hav : W.heap[gH]? = some (.cells (seenC (n + 1) HL) 4 (0, 0))
  see : W.heap[gS]? = some (.cells (seenC (n + 1) SL) 4 (0, 0))
  bel : Below w.heap.size w W
  lp : w.heap.size ≤ p
  ls : w.heap.size ≤ gS
  lb : w.heap.size ≤ base
  pb : p < base
  bl : base ≤ W.heap.size
  hs : gH ≠ gS
section
variable {w W W' : World} {n p gC gH gS base me : Nat} {a1 a2 : Option Addr} {c1 c2 : Nat} {HL SL : List Nat} {v v' v2 : Value} {R R' : Rdr} {ns ms : List (Bool × Int)}
theorem FW.below (h : FW w W n p gC gH gS base me a1 c1 a2 c2 HL SL v R ns) (hb : Below W.heap.size W W') : FW w W' n p gC gH gS base me a1 c1 a2 c2 HL SL v R ns := by
  obtain ⟨a3, c3, hr⟩ := h.rat
  exact ⟨⟨a3, c3, hr.below hb⟩, h.ok, h.nts.below hb, keptB h.cal hb, keptB h.hav hb, keptB h.see hb, below_step h.bel hb, h.lp, h.ls, h.lb, h.pb, Nat.le_trans h.bl hb.size, h.hs⟩
theorem FW.seen (h : FW w W n p gC gH gS base me a1 c1 a2 c2 HL SL v R ns) {x : Nat} (hx : x < n + 1) : FW w (W.setCell ⟨gS, x, none⟩ (.bool true)) n p gC gH gS base me a1 c1 a2 c2 HL (SL ++ [x]) v R ns := by
  obtain ⟨a3, c3, hr⟩ := h.rat
  have ho : ∀ k, k ≠ gS → (W.setCell ⟨gS, x, none⟩ (.bool true)).heap[k]? = W.heap[k]? := fun k hk => Below.heap_setCell _ ⟨gS, x, none⟩ _ k hk
  have hsz : W.heap.size ≤ (W.setCell ⟨gS, x, none⟩ (.bool true)).heap.size := by simp [World.setCell]
  refine ⟨⟨a3, c3, hr.keep hsz fun b t cs hb ht => ho b ?_⟩, h.ok, h.nts.keep (grownBy_set W gS x _) ?_ ?_, (ho gC (block_ne h.cal h.see (by decide))).trans h.cal, (ho gH h.hs).trans h.hav, ?_, h.bel.setCell h.ls _, h.lp, h.ls, h.lb, h.pb, Nat.le_trans h.bl hsz, h.hs⟩
  · rcases ht with rfl | rfl | rfl
    · obtain ⟨ds, hd, _⟩ := hr.blk
      exact block_ne hd h.see (by decide)
    · exact block_ne hb h.see (by decide)
    · exact block_ne hb h.see (by decide)
  · cases hv : v.ownBlock with
    | none => exact .inl rfl
    | some k =>
      obtain ⟨_, cs, hc⟩ := h.nts.blk k hv
      exact .inr (fun e => by injection e with e; exact block_ne hc h.see (by decide) e)
  · intro b cs _ hc e
    injection e with e
    exact block_ne hc h.see (by decide) e
  · have := Go.Joins.block_setCell (i := x) h.see (.bool true)
    rwa [seenC_set _ _ _ hx] at this
theorem FW.take (h : FW w W n p gC gH gS base me a1 c1 a2 c2 HL SL v R ns) (ok : R'.Ok) (hk : Kin R R') (hd : R'.data = R.data ∨ ∀ x ∈ ns, x.1 = false) (hr : ∃ b3 d3, RAt W' p R' a1 c1 a2 c2 b3 d3) (hg : W.grownBy W' (some p)) : FW w W' n p gC gH gS base me a1 c1 a2 c2 HL SL v R' ns := by
  obtain ⟨a3, c3, hr0⟩ := h.rat
  obtain ⟨ds, hd0, _⟩ := hr0.blk
  have ho : ∀ (k : Nat) (o : Obj), W.heap[k]? = some o → k ≠ p → W'.heap[k]? = some o := fun k o hk hne => (hg.block k (Array.getElem?_eq_some_iff.1 hk).1 (fun e => by injection e with e; exact hne e)).trans hk
  exact ⟨hr, ok, (h.nts.grown hg h.pb).kin hk hd, ho _ _ h.cal (block_ne h.cal hd0 (by decide)), ho _ _ h.hav (block_ne h.hav hd0 (by decide)), ho _ _ h.see (block_ne h.see hd0 (by decide)), h.bel.grown hg h.bel.size (fun k hk => by injection hk with hk; have := h.lp; omega), h.lp, h.ls, h.lb, h.pb, Nat.le_trans h.bl hg.size, h.hs⟩
theorem FW.put (h : FW w W n p gC gH gS base me a1 c1 a2 c2 HL SL v R ns) (hn : NotesAt W' base v' R (ns ++ ms)) (hg : W.grownBy W' v.ownBlock) : FW w W' n p gC gH gS base me a1 c1 a2 c2 HL SL v' R (ns ++ ms) := by
  obtain ⟨a3, c3, hr⟩ := h.rat
  have ho : ∀ (k : Nat) (cs : Array Value) (t : TypeId), W.heap[k]? = some (.cells cs t (0, 0)) → t ≠ 69 → W'.heap[k]? = some (.cells cs t (0, 0)) := fun k cs t hk ht => (hg.block k (Array.getElem?_eq_some_iff.1 hk).1 (fun e => by
    obtain ⟨_, ds, hd⟩ := h.nts.blk k e.symm
    exact block_ne hk hd ht rfl)).trans hk
  exact ⟨⟨a3, c3, hr.grown69 hg (fun k hk => (h.nts.blk k hk).2)⟩, h.ok, hn, ho _ _ _ h.cal (by decide), ho _ _ _ h.hav (by decide), ho _ _ _ h.see (by decide), h.bel.grown hg h.bel.size (fun k hk => Nat.le_trans h.lb (h.nts.blk k hk).1), h.lp, h.ls, h.lb, h.pb, Nat.le_trans h.bl hg.size, h.hs⟩
end
end
section
open Go.RowKit

theorem FindSt.kin {M : Rdr} {hv : Int → Bool} {b : List Nat} {R : Rdr} {m i : Nat} {hs : List (Bool × Int)} (h : FindSt M hv b R m hs i) : Kin M R := by
  by_cases h1 : R.st = 1
  · obtain ⟨_, e, _⟩ := h.ask h1
    rw [e]
    exact ⟨rfl, rfl, rfl, rfl, rfl, rfl⟩
  · exact (h.over h1).1
theorem Kin.back {M R R' : Rdr} (h : Kin M R) (k : Kin M R') : Kin R R' := ⟨k.me.trans h.me.symm, k.cn.trans h.cn.symm, k.cb.trans h.cb.symm, k.cc.trans h.cc.symm, k.set.trans h.set.symm, k.id.trans h.id.symm⟩
theorem gets1_flag {M : Rdr} {m : Nat} : ∀ x ∈ gets1 M m, x.1 = false := fun x hx => by
  unfold gets1 at hx
  obtain ⟨y, _, rfl⟩ := List.mem_map.1 hx
  rfl
theorem gets1_get {M : Rdr} {m i : Nat} (hm : m ≤ M.ord.length) (h : i < m) : (gets1 M m)[i]? = some (false, M.ord.getD i 0) := by
  unfold gets1
  rw [List.getElem?_map, List.getElem?_take, if_pos h, List.getElem?_eq_getElem (show i < M.ord.length by omega), List.getD_eq_getElem?_getD, List.getElem?_eq_getElem (show i < M.ord.length by omega)]
  rfl
section
variable {w W W' : World} {n p gC gH gS base q c : Nat} {a1 a2 : Option Addr} {c1 c2 : Nat} {HL SL : List Nat} {v v' v2 : Value} {R R' : Rdr} {id b : List Nat} {hv : Int → Bool} {m k : Nat} {hs : List (Bool × Int)}
theorem FW.len (h : FW w W n p gC gH gS base q a1 c1 a2 c2 HL SL v R (gets1 (findR id q n c) m ++ hs)) (hf : FindSt (findR id q n c) hv b R m hs k) : ∃ A cc, v = .slice A (m + hs.length) cc := by
  obtain ⟨A, cc, e, _⟩ := h.nts.form
  rw [List.length_append, gets1_len hf.mn] at e
  exact ⟨A, cc, e⟩
theorem FW.get (h : FW w W n p gC gH gS base q a1 c1 a2 c2 HL SL v R (gets1 (findR id q n c) m ++ hs)) (hf : FindSt (findR id q n c) hv b R m hs k) (hl : id.length = 32) (hk : k < m) :
    ∃ g cc x, v = .slice (some ⟨g, 0, none⟩) (m + hs.length) cc ∧ W.rangeAt g (k * 48) (nt 7 q (x : Nat) q 1 1 0 false id (.slice none 0 0)) ∧ (findR id q n c).ord.getD k 0 = (x : Nat) ∧ 1 ≤ x ∧ x ≤ n ∧ x ≠ q := by
  have hkin := hf.kin
  have hid : R.id = id := hkin.id
  have hme : R.me = (q : Int) := hkin.me
  have hcn : R.cn = (q : Int) := hkin.cn
  have hcb : R.cb = 1 := hkin.cb
  have hcc : R.cc = 1 := hkin.cc
  have hlen : (gets1 (findR id q n c) m ++ hs).length = m + hs.length := by rw [List.length_append, gets1_len hf.mn]
  have hi : k < (gets1 (findR id q n c) m ++ hs).length := by omega
  obtain ⟨g, cc, dv, e, _, _, hr, hd⟩ := h.nts.note (by rw [hid]; exact hl) hi
  have hn : (gets1 (findR id q n c) m ++ hs)[k] = (false, (findR id q n c).ord.getD k 0) := by
    have h1 : (gets1 (findR id q n c) m ++ hs)[k]? = some (false, (findR id q n c).ord.getD k 0) := by
      rw [List.getElem?_append_left (by rw [gets1_len hf.mn]; exact hk), gets1_get hf.mn hk]
    rw [List.getElem?_eq_getElem hi] at h1
    exact Option.some.inj h1
  obtain ⟨x, hx, x1, x2, x3⟩ := findR_get (id := id) (me := q) (n := n) (c := c) (j := k) (by have := hf.mn; omega)
  rw [hn, hx] at hr
  rw [hn] at hd
  have hdv : dv = .slice none 0 0 := hd
  rw [hdv] at hr
  refine ⟨g, cc, x, by rw [e, hlen], ?_, hx, x1, x2, x3⟩
  unfold ntR at hr
  rw [hme, hcn, hcb, hcc, hid] at hr
  exact hr
theorem FW.hnt {xs : List Nat} (h : FW w W n p gC gH gS base q a1 c1 a2 c2 HL SL v R (gets1 (findR id q n c) m ++ hs)) (hf : FindSt (findR id q n c) (hasF xs) b R m hs k) (hl : id.length = 32) (hk : m ≤ k) (hk2 : k < m + hs.length) :
    ∃ g cc x A' c', v = .slice (some ⟨g, 0, none⟩) (m + hs.length) cc ∧ W.rangeAt g (k * 48) (nt 16 q (x : Nat) q 1 1 3 false id (.slice A' b.length c')) ∧ Given W A' c' b ∧ 1 ≤ x ∧ x ≤ n ∧ x ∈ askedN (findR id q n c) m ∧ ¬ x ∈ xs := by
  have hkin := hf.kin
  have hid : R.id = id := hkin.id
  have hme : R.me = (q : Int) := hkin.me
  have hcn : R.cn = (q : Int) := hkin.cn
  have hcb : R.cb = 1 := hkin.cb
  have hcc : R.cc = 1 := hkin.cc
  have hse : R.set = 3 := hkin.set
  have hlen : (gets1 (findR id q n c) m ++ hs).length = m + hs.length := by rw [List.length_append, gets1_len hf.mn]
  have hi : k < (gets1 (findR id q n c) m ++ hs).length := by omega
  obtain ⟨g, cc, dv, e, _, _, hr, hd⟩ := h.nts.note (by rw [hid]; exact hl) hi
  have hmem : (gets1 (findR id q n c) m ++ hs)[k] ∈ hs := by
    rw [List.getElem_append_right (by rw [gets1_len hf.mn]; exact hk)]
    exact List.getElem_mem _
  have hne : hs ≠ [] := fun e => by rw [e] at hk2; simp at hk2; omega
  have hst : R.st = 2 := hf.hint hne
  have hdat : R.data = b := (hf.yes hst).1
  obtain ⟨h1, j, hjk, hjm, h2, h3⟩ := (hf.over (by omega)).2.2.2 _ hmem
  have hml := hf.mn
  obtain ⟨x, hx, x1, x2, x3⟩ := findR_get (id := id) (me := q) (n := n) (c := c) (j := j) (by omega)
  generalize (gets1 (findR id q n c) m ++ hs)[k] = y at *
  obtain ⟨y1, y2⟩ := y
  have h1 : y1 = true := h1
  have h2 : y2 = (findR id q n c).ord.getD j 0 := h2
  subst h1 h2
  unfold DatAt at hd
  rw [if_pos rfl] at hd
  obtain ⟨A', c', rfl, hg, _⟩ := hd
  unfold ntR at hr
  rw [hme, hcn, hcb, hcc, hid, hdat, hse] at hr
  rw [hdat] at hg
  refine ⟨g, cc, x, A', c', by rw [e, hlen], ?_, hg, x1, x2, askedN_old hjm (by omega) hx, ?_⟩
  · have : ((findR id q n c).ord.getD j 0) = (x : Int) := hx
    rw [this] at hr
    exact hr
  · rw [hx] at h3
    unfold hasF at h3
    exact of_decide_eq_false h3
/-- how it begins -/
theorem FW.begin {wr w8 : World} {xs : List Nat} {R0 : Rdr} {m0 gH : Nat} (hb7 : Below w.heap.size w wr) (hp : w.heap.size ≤ p) (hpb : p < wr.heap.size) (hf : FindSt (findR id q n c) hv b R0 m0 [] 0) (ok : R0.Ok)
    (hC : wr.heap[gC]? = some (.cells #[.int .i64 q, .int .i64 1, .int .i64 1] 56 (0, 0))) (hH : wr.heap[gH]? = some (.cells (seenC (n + 1) xs) 4 (0, 0))) (hR : RAt wr p (findR id q n c) a1 c1 a2 c2 none 0)
    (hn : NotesAt w8 wr.heap.size v (findR id q n c) (gets1 (findR id q n c) m0)) (hr : ∃ b3 d3, RAt w8 p R0 a1 c1 a2 c2 b3 d3) (hg : wr.grownBy w8 (some p)) :
    FW w (w8.alloc (.cells (seenC (n + 1) []) 4)) n p gC gH w8.heap.size wr.heap.size q a1 c1 a2 c2 xs (askedN (findR id q n c) (min 0 m0)) v R0 (gets1 (findR id q n c) m0 ++ []) := by
  have hal : Below w8.heap.size w8 (w8.alloc (.cells (seenC (n + 1) []) 4)) := (Below.refl _ _).alloc (Nat.le_refl _) _
  obtain ⟨b3, d3, hr⟩ := hr
  obtain ⟨ds, hd0, _⟩ := hR.blk
  have ho : ∀ (k : Nat) (o : Obj), wr.heap[k]? = some o → k ≠ p → w8.heap[k]? = some o := fun k o hk hne => (hg.block k (Array.getElem?_eq_some_iff.1 hk).1 (fun e => by injection e with e; exact hne e)).trans hk
  have h8 : Below w.heap.size w w8 := hb7.grown hg hb7.size (fun k hk => by injection hk with hk; omega)
  refine ⟨⟨b3, d3, hr.below hal⟩, ok, ?_, keptB (ho _ _ hC (block_ne hC hd0 (by decide))) hal, keptB (ho _ _ hH (block_ne hH hd0 (by decide))) hal, ?_, below_step h8 hal, hp, h8.size, hb7.size, hpb, Nat.le_trans hg.size hal.size, ?_⟩
  · rw [List.append_nil]
    exact (hn.kin hf.kin (.inr gets1_flag)).below hal
  · have := heap_alloc_new w8 (.cells (seenC (n + 1) []) 4)
    rw [Nat.zero_min]
    exact this
  · have := (Array.getElem?_eq_some_iff.1 hH).1
    have := hg.size
    omega
/-- a Get is answered: the read, and the queue with what it sends behind -/
theorem FW.ans {xs : List Nat} (h : FW w W n p gC gH gS base q a1 c1 a2 c2 HL SL v R (gets1 (findR id q n c) m ++ hs)) (hf : FindSt (findR id q n c) (hasF xs) b R m hs k) (hM : (findR id q n c).Ok) (hb : Sha.sum b = id) (hbl : b.length ≤ 5000) {x : Nat} (hx : (findR id q n c).ord.getD k 0 = (x : Nat)) (hk : k < m) (d : List Nat) (hd : hasF xs x = true → d = b) (hdl : d.length ≤ 5000) :
    ∃ m' hs', gets1 (findR id q n c) m ++ hs ++ R.takeO (R.mineB 8 x q q 1 1 id) x (hasF xs x) d = gets1 (findR id q n c) m' ++ hs' ∧ m ≤ m' ∧ FindSt (findR id q n c) (hasF xs) b (R.takeR (R.mineB 8 x q q 1 1 id) x (hasF xs x) d) m' hs' (k + 1) ∧
      ∀ W', (∃ b3 d3, RAt W' p (R.takeR (R.mineB 8 x q q 1 1 id) x (hasF xs x) d) a1 c1 a2 c2 b3 d3) → W.grownBy W' (some p) → FW w W' n p gC gH gS base q a1 c1 a2 c2 HL SL v (R.takeR (R.mineB 8 x q q 1 1 id) x (hasF xs x) d) (gets1 (findR id q n c) m ++ hs) := by
  have hfg := find_get hf (findR_nodup id q n c) hM.ordl hM.hom hb hM.homl rfl hk d (by rw [hx]; exact hd)
  rw [hx] at hfg
  obtain ⟨m', hs', e1, e2, e3, _, e5⟩ := hfg
  refine ⟨m', hs', e1, e2, e5, fun W' hr hg => ?_⟩
  refine h.take (ok_takeR h.ok (fun hm => mine_st hm) hdl) (hf.kin.back e5.kin) ?_ hr hg
  by_cases h1 : R.st = 1
  · refine .inr fun y hy => ?_
    rw [e3 h1, List.append_nil] at hy
    exact gets1_flag y hy
  · refine .inl ?_
    have hmf : R.mineB 8 x q q 1 1 id = false := by
      cases hx : R.mineB 8 x q q 1 1 id with
      | false => rfl
      | true => exact absurd (mine_st hx) h1
    rw [hmf, (over_take _ _ _).2]
end
end
end Go.Proofs.Ytaaepadhapfkoaa
