/-
  Bytes compared, copied, lent, kept.
-/
import Derived.Test.YtofdbghklpeamaaAwake
import Derived.Laws.BytesArg
import Derived.WalkSpells
import Derived.Deep.AppendLies
import Derived.WalkLawsBesides
namespace Go.Proofs.Ytofdbghklpeamaa
open Go.RowKit

/-- numbers as a string's bytes -/
def str (l : List Nat) : ByteArray := ⟨(l.map UInt8.ofNat).toArray⟩
theorem str_eq (l : List Nat) : strOfNums (l.map fun n : Nat => (n : Int)) = str l := by
  simp [strOfNums, str, Function.comp_def]
theorem str_inj {l m : List Nat} (hl : ∀ c ∈ l, c < 256) (hm : ∀ c ∈ m, c < 256) (h : str l = str m) : l = m := by
  have h2 : l.map UInt8.ofNat = m.map UInt8.ofNat := by simpa [str] using h
  have back : ∀ k : List Nat, (∀ c ∈ k, c < 256) → (k.map UInt8.ofNat).map UInt8.toNat = k := by
    intro k hk
    rw [List.map_map]
    conv => rhs; rw [← List.map_id k]
    apply List.map_congr_left
    intro c hc
    have := hk c hc
    simp [UInt8.toNat_ofNat']
    omega
  rw [← back l hl, ← back m hm, h2]
theorem str_beq {l m : List Nat} (hl : ∀ c ∈ l, c < 256) (hm : ∀ c ∈ m, c < 256) : ((str l).toList == (str m).toList) = decide (l = m) := by
  have e : ∀ k : List Nat, (str k).toList = k.map UInt8.ofNat := fun k => by rw [ByteArray.toList_eq]; simp [str]
  rw [e, e]
  by_cases h : l = m
  · subst h; simp
  · have h2 : ¬ l.map UInt8.ofNat = m.map UInt8.ofNat := fun h3 => h (str_inj hl hm (by simp [str, h3]))
    simp [h, h2]
theorem conv_any (w : World) (a : Option Addr) (l : List Nat) (cap : Nat) (hr : Reads w a l) : (convert 23 9 (.slice a l.length cap)).run Try.prog w = .ok (.string (str l)) w := by
  by_cases h0 : 0 < l.length
  · obtain ⟨b, off, rfl, _, hc⟩ := hr.some h0
    rw [← str_eq]
    exact run_convert_bytes_arg w 23 5 Try.underlying23 Try.underlying5 b off l.length cap _ (by simp) (fun i hi => by
      rw [hc i hi]; simp [List.getD, hi]) 9 Try.underlying9
  · have hl : l = [] := by cases l with | nil => rfl | cons x r => simp at h0
    subst hl
    cases a with
    | none => exact run_convert_bytes_nil w 23 5 Try.underlying23 Try.underlying5 _ _ 9 Try.underlying9
    | some ad =>
      rw [run_convert_bytes_string w 23 9 5 _ _ cap Try.underlying23 Try.underlying5 Try.underlying9, show (Value.slice (some ad) [].length cap) = .slice (some ad) 0 cap from rfl, run_bytesToString w ad 0 cap [] (by simp [loadCells, loadCellsFrom])]
      rfl
set_option maxHeartbeats 400000 in
theorem same_any (a b : Option Addr) (l m : List Nat) (c1 c2 : Nat) (w : World) (h1 : Reads w a l) (h2 : Reads w b m) :
    Calls Try.prog 21 #[.slice a l.length c1, .slice b m.length c2] w fun e w' => e = .returned (.bool (decide (l = m))) ∧ w = w' := by
  have k1 := conv_any w a l c1 h1
  have k2 := conv_any w b m c2 h2
  have H1 := Lib.hid h1
  have H2 := Lib.hid h2
  clear h1 h2
  go_enter Try.func21, Try.ntmps21
  go_wp2
  go_ret
  exact ⟨congrArg Ending.returned (congrArg Value.bool (str_beq H1.out.bytes H2.out.bytes)), rfl⟩
theorem info5 : (Try.prog.info? 5).map (fun i => (i.zero, i.size, i.bytes)) = some (some (.int .u8 0), 1, 1) := by kernel_rfl
/-- numbers as cells -/
def cellsOf (l : List Nat) : List Value := l.map fun c : Nat => .int .u8 c
theorem cellsOf_length (l : List Nat) : (cellsOf l).length = l.length := by simp [cellsOf]
theorem cellsOf_one (l : List Nat) : ∀ u ∈ cellsOf l, u.oneCell' = true := by
  intro u hu
  obtain ⟨c, _, rfl⟩ := List.mem_map.1 hu
  rfl
theorem cellsOf_get {l : List Nat} {j : Nat} {u : Value} (h : (cellsOf l)[j]? = some u) : j < l.length ∧ u = .int .u8 (l.getD j 0 : Nat) := by
  simp only [cellsOf, List.getElem?_map, Option.map_eq_some_iff] at h
  obtain ⟨c, hc, rfl⟩ := h
  obtain ⟨hj, hc'⟩ := List.getElem?_eq_some_iff.1 hc
  exact ⟨hj, by simp [List.getD, hc]⟩
theorem owns_empty (w : World) : (w.alloc (.cells #[] 5)).ownsRow w.heap.size 5 1 (.slice (some ⟨w.heap.size, 0, none⟩) 0 0) 0 [] :=
  ⟨rfl, .inr ⟨w.heap.size, 0, #[], rfl, Nat.le_refl _, heap_alloc_new _ _, Nat.le_refl _, Nat.zero_le _, rfl, rfl⟩⟩
set_option maxHeartbeats 800000 in
theorem copy_any (a : Option Addr) (l : List Nat) (cap : Nat) (w : World) (hr : Reads w a l) (hlen : l.length ≤ 140737488351232) (hnil : a = none → cap = 0) :
    Calls Try.prog 20 #[.slice a l.length cap] w fun e w' => ∃ v, e = .returned v ∧ w'.ownsRow w.heap.size 5 1 v l.length (cellsOf l) ∧ Below w.heap.size w w' := by
  obtain ⟨i0, hi, hz0, hz1, hz2⟩ := info_parts info5
  have hown := owns_empty w
  have Hr := Lib.hid hr
  have Hown := Lib.hid hown
  clear hr hown
  cases a with
  | none =>
    have hl : l = [] := by
      cases l with
      | nil => rfl
      | cons x r => obtain ⟨b, off, e, _⟩ := Hr.out.2 0 (by simp); cases e
    subst hl
    obtain rfl := hnil rfl
    go_enter Try.func20, Try.ntmps20
    go_wp2_with (at_builtin; refine wpList_append_own_none rfl (.tmp 3) (.tmp 4) 23 rfl w.heap.size 5 i0 1 Try.underlying23 hi _ 0 [] rfl Hown.out rfl ?_)
    go_ret
    exact ⟨_, rfl, Hown.out, (Below.refl _ _).alloc (Nat.le_refl _) _⟩
  | some ad =>
    have hcells : ∀ j u, (cellsOf l)[j]? = some u → (w.alloc (.cells #[] 5)).cell? (ad.add j) = some u := by
      intro j u hu
      obtain ⟨hj, rfl⟩ := cellsOf_get hu
      obtain ⟨b, off, e, hb, hc⟩ := Hr.out.2 j hj
      simp only [Option.some.injEq] at e
      subst e
      have hadd : (⟨b, off, none⟩ : Addr).add j = ⟨b, off + j, none⟩ := by unfold Addr.add; split <;> simp_all
      rw [hadd, World.cell?_alloc_past _ _ _ hb]
      exact hc
    have Hcells := Lib.hid hcells
    clear hcells
    go_enter Try.func20, Try.ntmps20
    go_wp2_with (at_builtin; refine wpList_append_own _ rfl (.tmp 3) (.tmp 4) 23 rfl w.heap.size 5 i0 (.int .u8 0) 1 1 Try.underlying23 hi hz0 hz1 hz2 rfl (by decide) _ 0 [] rfl Hown.out ad l.length cap (cellsOf l) rfl (by rw [cellsOf_length]; omega) Hcells.out (cellsOf_one l) (by unfold maxLen; omega) (by omega) (by simp) ?_)
    intro v' w1 hown' hgrow _
    have hb : Below w.heap.size w w1 := ((Below.refl _ _).alloc (Nat.le_refl _) _).grown hgrow (by simp) (by intro k hk; simp [Value.ownBlock] at hk; omega)
    have Hown' := Lib.hid hown'
    have Hb := Lib.hid hb
    clear hown' hgrow hb
    go_wp2
    go_ret
    exact ⟨_, rfl, Hown'.out, Hb.out⟩
/-- what a call owns reads as its bytes -/
theorem owns_reads {w : World} {base : Nat} {v : Value} {l : List Nat} (hl : ∀ c ∈ l, c < 256) (h : w.ownsRow base 5 1 v l.length (cellsOf l)) :
    ∃ a cap, v = .slice a l.length cap ∧ Reads w a l ∧ l.length ≤ cap ∧ cap ≤ maxLen ∧ (a = none → cap = 0) := by
  obtain ⟨h1, h2⟩ := h
  rcases h2 with ⟨rfl, h0⟩ | ⟨g, cap, cur, rfl, hg, hh, hn, hm, hs, ht⟩
  · have hl0 : l = [] := List.length_eq_zero_iff.1 h0
    subst hl0
    exact ⟨none, 0, rfl, ⟨by simp, by simp⟩, Nat.le_refl _, Nat.zero_le _, fun _ => rfl⟩
  · refine ⟨some ⟨g, 0, none⟩, cap, rfl, ⟨hl, fun i hi => ⟨g, 0, rfl, (Array.getElem?_eq_some_iff.1 hh).1, ?_⟩⟩, hn, hm, fun e => by cases e⟩
    rw [cell_of_row _ g (0 + i) cur 5 _ hh, Nat.zero_add]
    have e1 : (cur.toList.take (l.length * 1))[i]? = (cellsOf l)[i]? := by rw [ht]
    rw [List.getElem?_take, if_pos (by omega)] at e1
    have e2 : cur[i]? = cur.toList[i]? := by simp
    rw [e2, e1]
    simp [cellsOf, List.getD, hi]
set_option maxHeartbeats 400000 in
theorem marks_any (w : World) : Calls Try.prog 22 #[] w fun e w' => e = .returned (.slice (some ⟨w.heap.size, 0, none⟩) 4 4) ∧ w' = w.alloc (.cells #[.int .u8 8, .int .u8 167, .int .u8 44, .int .u8 2] 5) := by
  go_enter Try.func22, Try.ntmps22
  go_wp2
  go_ret
  exact ⟨rfl, rfl⟩
def marksL : List Nat := [8, 167, 44, 2]
theorem marks_own (w : World) : (w.alloc (.cells #[.int .u8 8, .int .u8 167, .int .u8 44, .int .u8 2] 5)).heap[w.heap.size]? = some (.cells (cellsOf marksL).toArray 5 (0, 0)) := heap_alloc_new _ _
theorem owned_head {w : World} {base g n cap : Nat} {xs : List Value} (h : w.ownsRow base 5 1 (.slice (some ⟨g, 0, none⟩) n cap) n xs) :
    ∃ cur, w.heap[g]? = some (.cells cur 5 (0, 0)) ∧ base ≤ g ∧ n ≤ cap ∧ cap ≤ maxLen ∧ cur.size = cap ∧ cur.toList.take n = xs := by
  obtain ⟨_, h2⟩ := h
  rcases h2 with ⟨e, _⟩ | ⟨g', cap', cur, e, hg, hh, hn, hm, hs, ht⟩
  · cases e
  · simp only [Value.slice.injEq, Option.some.injEq, Addr.mk.injEq] at e
    obtain ⟨⟨rfl, _⟩, _, rfl⟩ := e
    exact ⟨cur, hh, hg, hn, hm, by simpa using hs, by simpa using ht⟩
theorem owned_own {w : World} {B base n : Nat} {v : Value} {xs : List Value} (h : w.ownsRow base 5 1 v n xs) (hB : B ≤ base := by simp) : ∀ k, v.ownBlock = some k → B ≤ k := by
  intro k hk
  obtain ⟨_, h2⟩ := h
  rcases h2 with ⟨rfl, _⟩ | ⟨g', cap', cur, rfl, hg, _⟩
  · simp [Value.ownBlock] at hk
  · simp [Value.ownBlock] at hk
    omega
theorem marks_news (w w2 : World) (hb : Below (w.alloc (.cells #[.int .u8 8, .int .u8 167, .int .u8 44, .int .u8 2] 5)).heap.size (w.alloc (.cells #[.int .u8 8, .int .u8 167, .int .u8 44, .int .u8 2] 5)) w2) :
    ∀ j u, (cellsOf marksL)[j]? = some u → w2.cell? ((⟨w.heap.size, 0, none⟩ : Addr).add j) = some u :=
  World.news_of_block (cs := (cellsOf marksL).toArray) (t := 5) (fr := (0, 0)) ((hb.block _ (by simp)).trans (marks_own w))
set_option maxHeartbeats 800000 in
/-- bytes lent: they stand in a row of the call's own, marks behind them -/
theorem lent_any (a : Option Addr) (l : List Nat) (cap : Nat) (w : World) (hr : Reads w a l) (hlen : l.length ≤ 4000) (hnil : a = none → cap = 0) :
    Calls Try.prog 10 #[.slice a l.length cap] w fun e w' => ∃ g cur, e = .returned (.slice (some ⟨g, 0, none⟩) l.length (l.length + 4)) ∧ w'.heap[g]? = some (.cells cur 5 (0, 0)) ∧
      cur.toList.take (l.length + 4) = cellsOf (l ++ marksL) ∧ w.heap.size ≤ g ∧ Below w.heap.size w w' := by
  obtain ⟨i0, hi, hz0, hz1, hz2⟩ := info_parts info5
  have Hr := Lib.hid hr
  have Hn := Lib.hid hnil
  clear hr hnil
  go_enter Try.func10, Try.ntmps10
  go_wp2_with (first
    | (go_at_call 22; (with_reducible refine (marks_any _).mono ?_); rintro e w1 ⟨rfl, rfl⟩)
    | (go_at_call 20; (with_reducible refine (copy_any a l cap _ (Hr.out.below ((Below.refl _ _).alloc (Nat.le_refl _) _)) (by omega) Hn.out).mono ?_); rintro e w2 ⟨v2, rfl, hown, hb2⟩; have hnews := marks_news _ _ hb2; have Hnews := Lib.hid hnews; have Hown := Lib.hid hown; have Hb2 := Lib.hid hb2; clear hown hb2 hnews)
    | (at_builtin; refine wpList_append_lies _ rfl (.tmp 7) (.tmp 8) 23 rfl _ 5 i0 (.int .u8 0) 1 1 Try.underlying23 hi hz0 hz1 hz2 rfl (by decide) v2 l.length (cellsOf l) rfl Hown.out ⟨w.heap.size, 0, none⟩ 4 4 (cellsOf marksL) rfl rfl Hnews.out (cellsOf_one _) (by omega) (by unfold maxLen; omega) (by omega) Hb2.out.size w2.heap.size rfl ?_; intro g cap2 w3 hown3 hgrow hat hlt; obtain ⟨cur, hh, hg, hn, hm, hs, ht⟩ := owned_head hown3; have hb3 : Below w.heap.size w w3 := ((((Below.refl _ _).alloc (Nat.le_refl _) _).trans (Hb2.out.mono (by simp))).grown hgrow (by have := Hb2.out.size; simp at this; omega) (owned_own Hown.out)); have Hh := Lib.hid hh; have Hg := Lib.hid hg; have Ht := Lib.hid ht; have Hb3 := Lib.hid hb3; clear hown3 hgrow hat hlt hh hg hs ht hb3))
  go_ret
  refine ⟨g, cur, rfl, Hh.out, by rw [Ht.out]; simp [cellsOf], ?_, Hb3.out⟩
  have := Hg.out
  simp at this
  omega
theorem reads_at {w : World} {g off : Nat} {cur : Array Value} {l : List Nat} (hl : ∀ c ∈ l, c < 256) (hh : w.heap[g]? = some (.cells cur 5 (0, 0)))
    (h : ∀ i, i < l.length → cur[off + i]? = some (.int .u8 (l.getD i 0 : Nat))) : Reads w (some ⟨g, off, none⟩) l :=
  ⟨hl, fun i hi => ⟨g, off, rfl, (Array.getElem?_eq_some_iff.1 hh).1, (cell_of_row _ g (off + i) cur 5 _ hh).trans (h i hi)⟩⟩
theorem row_at {cur : Array Value} {n : Nat} {l : List Nat} (ht : cur.toList.take n = cellsOf l) (i : Nat) (hi : i < l.length) : cur[i]? = some (.int .u8 (l.getD i 0 : Nat)) := by
  have hn : i < n := by
    have := congrArg List.length ht
    rw [cellsOf_length, List.length_take] at this
    omega
  have e1 : (cur.toList.take n)[i]? = (cellsOf l)[i]? := by rw [ht]
  rw [List.getElem?_take, if_pos hn] at e1
  have e2 : cur[i]? = cur.toList[i]? := by simp
  rw [e2, e1]
  simp [cellsOf, List.getD, hi]
theorem marks_lt : ∀ c ∈ marksL, c < 256 := by decide
theorem lent_front {w : World} {g n : Nat} {cur : Array Value} {l : List Nat} (hl : ∀ c ∈ l, c < 256) (hh : w.heap[g]? = some (.cells cur 5 (0, 0))) (ht : cur.toList.take n = cellsOf (l ++ marksL)) :
    Reads w (some ⟨g, 0, none⟩) l :=
  reads_at hl hh fun i hi => by
    rw [Nat.zero_add, row_at ht i (by simp; omega)]
    simp [List.getD, List.getElem?_append, hi]
theorem lent_back {w : World} {g n : Nat} {cur : Array Value} {l : List Nat} (hh : w.heap[g]? = some (.cells cur 5 (0, 0))) (ht : cur.toList.take n = cellsOf (l ++ marksL)) :
    Reads w (some ⟨g, l.length, none⟩) marksL :=
  reads_at marks_lt hh fun i hi => by
    have hn : ¬ l.length + i < l.length := by omega
    rw [row_at ht (l.length + i) (by simp; exact hi)]
    simp [List.getD, List.getElem?_append, hn]
theorem marks_read (w : World) : Reads (w.alloc (.cells #[.int .u8 8, .int .u8 167, .int .u8 44, .int .u8 2] 5)) (some ⟨w.heap.size, 0, none⟩) marksL := reads_row w _ 5 _ marksL marks_lt rfl
theorem same_marks (b : Nat) (off c1 c2 : Nat) (g : Nat) (w : World) (h1 : Reads w (some ⟨b, off, none⟩) marksL) (h2 : Reads w (some ⟨g, 0, none⟩) marksL) :
    Calls Try.prog 21 #[.slice (some ⟨b, off, none⟩) 4 c1, .slice (some ⟨g, 0, none⟩) 4 c2] w fun e w' => e = .returned (.bool true) ∧ w = w' :=
  (same_any _ _ marksL marksL c1 c2 w h1 h2).mono fun e w' ⟨he, hw⟩ => ⟨by rw [he]; simp, hw⟩
theorem same_self (a b : Option Addr) (l : List Nat) (c1 c2 : Nat) (w : World) (h1 : Reads w a l) (h2 : Reads w b l) :
    Calls Try.prog 21 #[.slice a l.length c1, .slice b l.length c2] w fun e w' => e = .returned (.bool true) ∧ w = w' :=
  (same_any _ _ l l c1 c2 w h1 h2).mono fun e w' ⟨he, hw⟩ => ⟨by rw [he]; simp, hw⟩
set_option maxHeartbeats 800000 in
theorem kept_any (g : Nat) (cur : Array Value) (a : Option Addr) (l : List Nat) (cap : Nat) (w : World) (hr : Reads w a l) (hlen : l.length ≤ 4000)
    (hh : w.heap[g]? = some (.cells cur 5 (0, 0))) (ht : cur.toList.take (l.length + 4) = cellsOf (l ++ marksL)) :
    Calls Try.prog 15 #[.slice (some ⟨g, 0, none⟩) l.length (l.length + 4), .slice a l.length cap] w fun e w' => e = .returned (.bool true) ∧ Below w.heap.size w w' := by
  have hb : Below w.heap.size w (w.alloc (.cells #[.int .u8 8, .int .u8 167, .int .u8 44, .int .u8 2] 5)) := (Below.refl _ _).alloc (Nat.le_refl _) _
  have hg := (Array.getElem?_eq_some_iff.1 hh).1
  have hh2 := (hb.block g hg).trans hh
  have k1 := same_self (some ⟨g, 0, none⟩) a l (l.length + 4) cap _ (lent_front hr.bytes hh2 ht) (hr.below hb)
  have k2 := same_marks g l.length 4 4 w.heap.size _ (lent_back hh2 ht) (marks_read w)
  have K1 := Lib.hid k1
  have K2 := Lib.hid k2
  have Hb := Lib.hid hb
  clear hr hh ht hh2 k1 k2 hb hg
  go_enter Try.func15, Try.ntmps15
  go_wp2_with (first
    | (go_at_call 22; (with_reducible refine (marks_any _).mono ?_); rintro e w1 ⟨rfl, rfl⟩)
    | (go_at_call 21; (with_reducible refine K1.out.mono ?_); rintro e w1 ⟨rfl, rfl⟩)
    | (go_at_call 21; (with_reducible refine K2.out.mono ?_); rintro e w1 ⟨rfl, rfl⟩))
  go_ret
  exact ⟨rfl, Hb.out⟩
end Go.Proofs.Ytofdbghklpeamaa
