/-
  Quorum: Add.
-/
import Derived.Test.YtheafmjdncmpoaaQuoX
namespace Go.Proofs.Ytheafmjdncmpoaa
set_option linter.unusedSimpArgs false
set_option linter.unusedVariables false
open Go.RowKit Go.Proofs.YtheafmjdncmpoaaW.PrintWords Go.Proofs.YtheafmjdncmpoaaW.PrintMore

theorem QV.mono {w : World} {base : Nat} {F F' : Nat → Prop} {b g c : Nat} {S : List Qs} {need : Int} (h : QV w base F b g c S need) (hF : ∀ k, F k → F' k) : QV w base F' b g c S need :=
  ⟨hF _ h.1, h.2.1, h.2.2.1, Kd.R_mono h.2.2.2 hF⟩
/-- a slot that somebody meets from now on -/
theorem QV.add {w : World} {base : Nat} {F : Nat → Prop} {b g c : Nat} {S : List Qs} {need : Int} (h : QV w base F b g c S need) (i : Nat) (hi : i < S.length) (x : Nat) (who : Int)
    (hx : w.heap[x]? = some (.cells #[.int .i64 who] 3 (0, 0))) (hFx : F x) (hbx : base ≤ x) :
    QV (w.setCell ⟨g, i * 3 + 2, none⟩ (.pointer (some ⟨x, 0, none⟩))) base F b g c (S.set i { S.getD i zQ with y := some who }) need := by
  obtain ⟨hne, hFg, hbg, cells, hcells⟩ := h.row_ne
  have hxg : x ≠ g := by
    rintro rfl
    rw [hx] at hcells
    simp at hcells
  obtain ⟨h1, h2, h3, h4⟩ := h
  obtain ⟨cs, hcl, hM, hcc⟩ := Go.Proofs.YtheafmjdncmpoaaW.PrintMore.Kd.R_get h4 zQ (i : Int) (by omega) (by omega)
  rw [Int.toNat_natCast] at hM hcc
  have hcc' : ∀ j u, cs[j]? = some u → w.cell? ⟨g, (i : Int).toNat * kQ.sz + j, none⟩ = some u := by
    intro j u hj
    have := hcc j u hj
    rw [add_plain] at this
    rwa [Int.toNat_natCast]
  have hM' : kQ.M w base (fun k => F k ∧ k ≠ g) { S.getD i zQ with y := some who } (cs.take 2 ++ [.pointer (some ⟨x, 0, none⟩)] ++ cs.drop (2 + 1)) := by
    obtain ⟨c0, c1, rfl, ⟨d0, d1, rfl, e0, e1⟩, e2⟩ := hM
    obtain rfl : d0 = [.int .i64 (S.getD i zQ).a] := e0
    obtain rfl : d1 = [.int .i64 (S.getD i zQ).b] := e1
    have hl1 : c1.length = 1 := kBox.K_len (kBox.K_of_M e2)
    obtain ⟨p, rfl⟩ : ∃ p, c1 = [p] := by
      match c1, hl1 with
      | [p], _ => exact ⟨p, rfl⟩
    exact ⟨[.int .i64 (S.getD i zQ).a, .int .i64 (S.getD i zQ).b], [.pointer (some ⟨x, 0, none⟩)], rfl, ⟨[.int .i64 (S.getD i zQ).a], [.int .i64 (S.getD i zQ).b], rfl, rfl, rfl⟩, .inr ⟨x, who, rfl, rfl, ⟨hFx, hxg⟩, hbx, hx⟩⟩
  obtain ⟨hrow, hgr⟩ := Kd.R_seg h4 (i : Int) (by omega) (by omega) hcl hcc' (by show 2 + 1 ≤ 3; omega) hM' (fun k hk => hk)
  rw [Int.toNat_natCast] at hrow
  have hset : w.setCells g (i * kQ.sz + 2) [.pointer (some ⟨x, 0, none⟩)] = w.setCell ⟨g, i * 3 + 2, none⟩ (.pointer (some ⟨x, 0, none⟩)) := rfl
  rw [hset] at hrow
  refine ⟨h1, h2, ?_, ?_⟩
  · rw [Below.heap_setCell w _ _ b hne, h3, List.length_set]
  · rw [List.length_set]; exact hrow
/-- what Add answers, and the slots behind it -/
def addI (S : List Qs) (n who : Int) : Int × List Qs :=
  if okNode who = false then (2, S) else
  match slotN S n with
  | none => (6, S)
  | some i => if (S.getD i zQ).b = 1 then (9, S) else if (S.getD i zQ).y.isSome = true ∨ (byN S who).isSome = true then (7, S) else (0, S.set i { S.getD i zQ with y := some who })
theorem h4_below {w w' : World} {b x : Nat} {v y z : Value} (h : Below w.heap.size w w' ∧ w'.cell? ⟨b, 0, none⟩ = some v ∧ w'.cell? ⟨b, 1, none⟩ = some y ∧ w'.cell? ⟨x, 0, none⟩ = some z) : Below w.heap.size w w' := h.1
theorem h4_next {w w' u : World} {b x : Nat} {v y z : Value} (h : Below w.heap.size w w' ∧ w'.cell? ⟨b, 0, none⟩ = some v ∧ w'.cell? ⟨b, 1, none⟩ = some y ∧ w'.cell? ⟨x, 0, none⟩ = some z) (hb : Below w'.heap.size w' u) :
    Below w.heap.size w u ∧ u.cell? ⟨b, 0, none⟩ = some v ∧ u.cell? ⟨b, 1, none⟩ = some y ∧ u.cell? ⟨x, 0, none⟩ = some z := ⟨below_step h.1 hb, pw_cell_below hb h.2.1, pw_cell_below hb h.2.2.1, pw_cell_below hb h.2.2.2⟩
/-- the world with who's box in it -/
def boxed (w : World) (who : Int) : World := w.alloc (.cells #[.int .i64 who] 3)
theorem met_true (b o g : Nat) (w : World) (h1 : w.cell? ⟨b, o + 2, none⟩ = some (.pointer (some ⟨g, 0, none⟩))) : Calls Try.prog 71 #[.pointer (some ⟨b, o, none⟩)] w fun e w' => e = .returned (.bool true) ∧ w' = w := met_any b o _ w h1
set_option maxHeartbeats 6400000 in
set_option maxRecDepth 100000 in
theorem Add_in (base : Nat) (F : Nat → Prop) (b : Nat) (S : List Qs) (need n who : Int) (w : World) (h : QAt w base F b S need) (hS : S.length ≤ 1000) (hpos : 0 < S.length) (hneed : need ≠ 0) (hbase : base ≤ w.heap.size) :
    Calls Try.prog 40 #[.pointer (some ⟨b, 0, none⟩), .int .i64 n, .int .i64 who] w fun e w' => e = .returned (.int .i64 (addI S n who).1) ∧ Moved F w w' ∧ QAt w' base (fun k => F k ∨ w.heap.size ≤ k) b (addI S n who).2 need := by
  obtain ⟨g, cap, hv⟩ := h.row hpos
  have hbw : b < w.heap.size := (Array.getElem?_eq_some_iff.1 hv.2.2.1).1
  obtain ⟨W, hW⟩ : ∃ W, W = w.alloc (.cells #[.int .i64 who] 3) := ⟨_, rfl⟩
  have hWB : Below w.heap.size w W := by rw [hW]; exact (Below.refl _ _).alloc (Nat.le_refl _) _
  have hx : W.heap[w.heap.size]? = some (.cells #[.int .i64 who] 3 (0, 0)) := by rw [hW]; exact heap_alloc_new _ _
  obtain ⟨X, hX⟩ : ∃ X, X = w.heap.size := ⟨_, rfl⟩
  have hV := hv.below hWB
  have hc0 := cell_of_row _ b 0 _ _ _ hV.2.2.1
  have hc1 := cell_of_row _ b 1 _ _ _ hV.2.2.1
  have hc2 := cell_of_row _ _ 0 _ _ _ hx
  simp at hc0 hc1 hc2
  have HN := Aside0.mk (none_false hc1 hneed)
  have HV := Aside0.mk hV
  have HWB := Aside0.mk hWB
  have HX := Aside0.mk hx
  have HBX : Aside0 (base ≤ w.heap.size) := ⟨hbase⟩
  have HF : Aside0 (∀ (w' : World) (c : Nat), Below W.heap.size W w' → w'.cell? ⟨c, 0, none⟩ = some (.int .i64 n) → Calls Try.prog 67 #[.slice (some ⟨g, 0, none⟩) S.length cap, .func (.func 96) #[] #[.pointer (some ⟨c, 0, none⟩)]] w' fun e u => e = .returned (.pointer ((slotN S n).map fun i => ⟨g, i * 3, none⟩)) ∧ Below w'.heap.size w' u) :=
    ⟨fun w' c hb hc => find_of g cap c S n w' hS (fun i hi => (hV.slots i hi).below hb) hc⟩
  have HG : Aside0 (∀ (w' : World) (c : Nat), Below W.heap.size W w' → w'.cell? ⟨c, 0, none⟩ = some (.int .i64 who) → Calls Try.prog 67 #[.slice (some ⟨g, 0, none⟩) S.length cap, .func (.func 97) #[] #[.pointer (some ⟨c, 0, none⟩)]] w' fun e u => e = .returned (.pointer ((byN S who).map fun i => ⟨g, i * 3, none⟩)) ∧ Below w'.heap.size w' u) :=
    ⟨fun w' c hb hc => find_by g cap c S who w' hS (fun i hi => (hV.slots i hi).below hb) hc⟩
  clear h hv hV hx hWB hbase
  unfold addI
  obtain ⟨ok, hok⟩ : ∃ ok, okNode who = ok := ⟨_, rfl⟩
  have HK := Aside0.mk (fun w' : World => node_any who w')
  rw [hok] at HK ⊢
  clear hok
  cases ok with
  | false =>
    rw [if_pos rfl]
    go_enter Try.func40, Try.ntmps40
    go_wp2_with (first | ((with_reducible refine gate_dst (N := 10) rfl ?_); rw [← hW]; clear hW; fail) | (go_at_call 70; rw [← hW]; clear hW; (with_reducible refine HN.out.mono ?_); rintro e w1 ⟨rfl, hw⟩; have hw := hw.symm; subst hw) | (go_at_call 66; (with_reducible refine (HK.out _).mono ?_); rintro e w1 ⟨rfl, hw⟩; have hw := hw.symm; subst hw))
    go_ret
    have HB : Aside0 (Below W.heap.size W W) := ⟨Below.refl _ _⟩
    exact ⟨rfl, Moved.of_below (below_step HWB.out HB.out), ((HV.out.below HB.out).mono (fun _ hk => Or.inl hk)).at⟩
  | true =>
    rw [if_neg (by simp)]
    obtain ⟨sl, hsl⟩ : ∃ sl, slotN S n = sl := ⟨_, rfl⟩
    rw [hsl] at HF ⊢
    have HSL := Aside0.mk hsl
    clear hsl
    cases sl with
    | none =>
      simp only [Option.map_none] at HF
      go_enter Try.func40, Try.ntmps40
      go_wp2_with (first | ((with_reducible refine gate_dst (N := 10) rfl ?_); rw [← hW]; clear hW; fail) | (go_at_call 70; rw [← hW]; clear hW; (with_reducible refine HN.out.mono ?_); rintro e w1 ⟨rfl, hw⟩; have hw := hw.symm; subst hw) | (go_at_call 66; (with_reducible refine (HK.out _).mono ?_); rintro e w1 ⟨rfl, hw⟩; have hw := hw.symm; subst hw))
      go_region_held3 (fun w' => Below W.heap.size W w' ∧ w'.cell? ⟨b, 0, none⟩ = some (.slice (some ⟨g, 0, none⟩) S.length cap) ∧ w'.cell? ⟨b, 1, none⟩ = some (.int .i64 need) ∧ w'.cell? ⟨w.heap.size, 0, none⟩ = some (.int .i64 who))
        (first | exact ⟨below_drew (Below.refl _ _), by simpa using hc0, by simpa using hc1, by simpa using hc2⟩ | assumption)
        (first | (go_at_call 68; refine (of_box _ _).mono ?_; rintro e u ⟨c, rfl, hb, hc⟩; have hk := h4_next ‹_› hb; clear hb) | (go_at_call 67; refine (HF.out _ _ (h4_below ‹_›) ‹_›).mono ?_; rintro e u ⟨rfl, hb⟩; have hk := h4_next ‹_› hb; clear hb))
      obtain ⟨hB, k0, k1, k2⟩ := ‹Below W.heap.size W _ ∧ _ ∧ _ ∧ _›
      have HB := Aside0.mk hB
      clear hB
      go_wp2
      go_ret
      exact ⟨rfl, Moved.of_below (below_step HWB.out HB.out), ((HV.out.below HB.out).mono (fun _ hk => Or.inl hk)).at⟩
    | some i =>
      have hi := (firstN_lt HSL.out).1
      simp only [Option.map_some] at HF ⊢
      have HI := Aside0.mk hi
      have hsa := HV.out.slots i hi
      obtain ⟨s, hs⟩ : ∃ s, S.getD i zQ = s := ⟨_, rfl⟩
      rw [hs] at hsa
      have HSA := Aside0.mk hsa
      have HS := Aside0.mk hs
      rw [hs]
      clear hsa hs hi
      by_cases hb1 : s.b = 1
      · rw [if_pos hb1]
        go_enter Try.func40, Try.ntmps40
        go_wp2_with (first | ((with_reducible refine gate_dst (N := 10) rfl ?_); rw [← hW]; clear hW; fail) | (go_at_call 70; rw [← hW]; clear hW; (with_reducible refine HN.out.mono ?_); rintro e w1 ⟨rfl, hw⟩; have hw := hw.symm; subst hw) | (go_at_call 66; (with_reducible refine (HK.out _).mono ?_); rintro e w1 ⟨rfl, hw⟩; have hw := hw.symm; subst hw))
        go_region_held3 (fun w' => Below W.heap.size W w' ∧ w'.cell? ⟨b, 0, none⟩ = some (.slice (some ⟨g, 0, none⟩) S.length cap) ∧ w'.cell? ⟨b, 1, none⟩ = some (.int .i64 need) ∧ w'.cell? ⟨w.heap.size, 0, none⟩ = some (.int .i64 who))
          (first | exact ⟨below_drew (Below.refl _ _), by simpa using hc0, by simpa using hc1, by simpa using hc2⟩ | assumption)
          (first | (go_at_call 68; refine (of_box _ _).mono ?_; rintro e u ⟨c, rfl, hb, hc⟩; have hk := h4_next ‹_› hb; clear hb) | (go_at_call 67; refine (HF.out _ _ (h4_below ‹_›) ‹_›).mono ?_; rintro e u ⟨rfl, hb⟩; have hk := h4_next ‹_› hb; clear hb))
        obtain ⟨hB, k0, k1, k2⟩ := ‹Below W.heap.size W _ ∧ _ ∧ _ ∧ _›
        have HB := Aside0.mk hB
        clear hB
        obtain ⟨s0, s1, _⟩ := HSA.out.below HB.out
        simp only at s1
        rw [hb1] at s1
        go_wp2
        go_ret
        exact ⟨rfl, Moved.of_below (below_step HWB.out HB.out), ((HV.out.below HB.out).mono (fun _ hk => Or.inl hk)).at⟩
      · rw [if_neg hb1]
        have hb1' : (s.b == 1) = false := by simpa using hb1
        obtain ⟨y, hy⟩ : ∃ y, s.y = y := ⟨_, rfl⟩
        have HM : Aside0 (∀ w', Below W.heap.size W w' → Calls Try.prog 71 (#[.pointer (some ⟨g, i * 3, none⟩)] ++ #[]) w' fun e u => e = .returned (.bool y.isSome) ∧ Below w'.heap.size w' u) := ⟨fun w' hb => by
          have := HSA.out.met hb
          rwa [hy] at this⟩
        cases y with
        | some v =>
          simp only [Option.isSome_some] at HM
          rw [if_pos (Or.inl (by rw [hy]; rfl))]
          go_enter Try.func40, Try.ntmps40
          go_wp2_with (first | ((with_reducible refine gate_dst (N := 10) rfl ?_); rw [← hW]; clear hW; fail) | (go_at_call 70; rw [← hW]; clear hW; (with_reducible refine HN.out.mono ?_); rintro e w1 ⟨rfl, hw⟩; have hw := hw.symm; subst hw) | (go_at_call 66; (with_reducible refine (HK.out _).mono ?_); rintro e w1 ⟨rfl, hw⟩; have hw := hw.symm; subst hw))
          go_region_held3 (fun w' => Below W.heap.size W w' ∧ w'.cell? ⟨b, 0, none⟩ = some (.slice (some ⟨g, 0, none⟩) S.length cap) ∧ w'.cell? ⟨b, 1, none⟩ = some (.int .i64 need) ∧ w'.cell? ⟨w.heap.size, 0, none⟩ = some (.int .i64 who))
            (first | exact ⟨below_drew (Below.refl _ _), by simpa using hc0, by simpa using hc1, by simpa using hc2⟩ | assumption)
            (first | (go_at_call 68; refine (of_box _ _).mono ?_; rintro e u ⟨c, rfl, hb, hc⟩; have hk := h4_next ‹_› hb; clear hb) | (go_at_call 67; refine (HF.out _ _ (h4_below ‹_›) ‹_›).mono ?_; rintro e u ⟨rfl, hb⟩; have hk := h4_next ‹_› hb; clear hb))
          obtain ⟨hB, k0, k1, k2⟩ := ‹Below W.heap.size W _ ∧ _ ∧ _ ∧ _›
          have HB := Aside0.mk hB
          clear hB
          have s1 := (HSA.out.below HB.out).2.1
          simp only at s1
          obtain ⟨g2, v2, _, s2, _⟩ : ∃ g2 v2, s.y = some v2 ∧ World.cell? _ _ = some (.pointer (some ⟨g2, 0, none⟩)) ∧ _ := by
            rcases (HSA.out.below HB.out).2.2 with ⟨h, _⟩ | h
            · rw [hy] at h; cases h
            · exact h
          simp only at s2
          clear hy
          go_wp2_with fail
          go_quiet ((go_at_call 71; exact Calls.quiet_of_same (met_true g (i * 3) g2 _ (by simpa using s2))))
          go_wp2
          go_ret
          exact ⟨rfl, Moved.of_below (below_step HWB.out (pw_below_drewN HB.out _)), ((HV.out.below (pw_below_drewN HB.out _)).mono (fun _ hk => Or.inl hk)).at⟩
        | none =>
          simp only [Option.isSome_none] at HM
          obtain ⟨by', hby⟩ : ∃ by', byN S who = by' := ⟨_, rfl⟩
          rw [hby] at HG ⊢
          clear hby
          cases by' with
          | some j =>
            simp only [Option.map_some] at HG
            rw [if_pos (show s.y.isSome = true ∨ (some j).isSome = true from Or.inr rfl)]
            clear hy
            go_enter Try.func40, Try.ntmps40
            go_wp2_with (first | ((with_reducible refine gate_dst (N := 10) rfl ?_); rw [← hW]; clear hW; fail) | (go_at_call 70; rw [← hW]; clear hW; (with_reducible refine HN.out.mono ?_); rintro e w1 ⟨rfl, hw⟩; have hw := hw.symm; subst hw) | (go_at_call 66; (with_reducible refine (HK.out _).mono ?_); rintro e w1 ⟨rfl, hw⟩; have hw := hw.symm; subst hw))
            go_region_held3 (fun w' => Below W.heap.size W w' ∧ w'.cell? ⟨b, 0, none⟩ = some (.slice (some ⟨g, 0, none⟩) S.length cap) ∧ w'.cell? ⟨b, 1, none⟩ = some (.int .i64 need) ∧ w'.cell? ⟨w.heap.size, 0, none⟩ = some (.int .i64 who))
              (first | exact ⟨below_drew (Below.refl _ _), by simpa using hc0, by simpa using hc1, by simpa using hc2⟩ | assumption)
              (first | (go_at_call 68; refine (of_box _ _).mono ?_; rintro e u ⟨c, rfl, hb, hc⟩; have hk := h4_next ‹_› hb; clear hb) | (go_at_call 67; refine (HF.out _ _ (h4_below ‹_›) ‹_›).mono ?_; rintro e u ⟨rfl, hb⟩; have hk := h4_next ‹_› hb; clear hb))
            obtain ⟨hB, k0, k1, k2⟩ := ‹Below W.heap.size W _ ∧ _ ∧ _ ∧ _›
            have HB := Aside0.mk hB
            clear hB
            have s1 := (HSA.out.below HB.out).2.1
            simp only at s1
            go_wp2_with fail
            go_region_held3 (fun w' => Below W.heap.size W w' ∧ w'.cell? ⟨b, 0, none⟩ = some (.slice (some ⟨g, 0, none⟩) S.length cap) ∧ w'.cell? ⟨b, 1, none⟩ = some (.int .i64 need) ∧ w'.cell? ⟨w.heap.size, 0, none⟩ = some (.int .i64 who))
              (first | exact ⟨below_drew HB.out, by simpa using k0, by simpa using k1, by simpa using k2⟩ | assumption)
              (first | (go_at_call 71; refine (HM.out _ (h4_below ‹_›)).mono ?_; rintro e u3 ⟨rfl, hb⟩; have hk := h4_next ‹_› hb; clear hb) | (go_at_call 73; refine (by_box _ _).mono ?_; rintro e u3 ⟨c, rfl, hb, hc⟩; have hk := h4_next ‹_› hb; clear hb) | (go_at_call 67; refine (HG.out _ _ (h4_below ‹_›) ‹_›).mono ?_; rintro e u3 ⟨rfl, hb⟩; have hk := h4_next ‹_› hb; clear hb))
            have hB3 := h4_below ‹_›
            have HB3 := Aside0.mk hB3
            clear hB3
            go_wp2
            go_ret
            exact ⟨rfl, Moved.of_below (below_step HWB.out HB3.out), ((HV.out.below HB3.out).mono (fun _ hk => Or.inl hk)).at⟩
          | none =>
            simp only [Option.map_none] at HG
            rw [if_neg (show ¬ (s.y.isSome = true ∨ (none : Option Nat).isSome = true) by rw [hy]; simp)]
            clear hy
            go_enter Try.func40, Try.ntmps40
            go_wp2_with (first | ((with_reducible refine gate_dst (N := 10) rfl ?_); rw [← hW]; clear hW; fail) | (go_at_call 70; rw [← hW]; clear hW; (with_reducible refine HN.out.mono ?_); rintro e w1 ⟨rfl, hw⟩; have hw := hw.symm; subst hw) | (go_at_call 66; (with_reducible refine (HK.out _).mono ?_); rintro e w1 ⟨rfl, hw⟩; have hw := hw.symm; subst hw))
            go_region_held3 (fun w' => Below W.heap.size W w' ∧ w'.cell? ⟨b, 0, none⟩ = some (.slice (some ⟨g, 0, none⟩) S.length cap) ∧ w'.cell? ⟨b, 1, none⟩ = some (.int .i64 need) ∧ w'.cell? ⟨w.heap.size, 0, none⟩ = some (.int .i64 who))
              (first | exact ⟨below_drew (Below.refl _ _), by simpa using hc0, by simpa using hc1, by simpa using hc2⟩ | assumption)
              (first | (go_at_call 68; refine (of_box _ _).mono ?_; rintro e u ⟨c, rfl, hb, hc⟩; have hk := h4_next ‹_› hb; clear hb) | (go_at_call 67; refine (HF.out _ _ (h4_below ‹_›) ‹_›).mono ?_; rintro e u ⟨rfl, hb⟩; have hk := h4_next ‹_› hb; clear hb))
            obtain ⟨hB, k0, k1, k2⟩ := ‹Below W.heap.size W _ ∧ _ ∧ _ ∧ _›
            have HB := Aside0.mk hB
            clear hB
            have s1 := (HSA.out.below HB.out).2.1
            simp only at s1
            go_wp2_with fail
            go_region_held3 (fun w' => Below W.heap.size W w' ∧ w'.cell? ⟨b, 0, none⟩ = some (.slice (some ⟨g, 0, none⟩) S.length cap) ∧ w'.cell? ⟨b, 1, none⟩ = some (.int .i64 need) ∧ w'.cell? ⟨w.heap.size, 0, none⟩ = some (.int .i64 who))
              (first | exact ⟨below_drew HB.out, by simpa using k0, by simpa using k1, by simpa using k2⟩ | assumption)
              (first | (go_at_call 71; refine (HM.out _ (h4_below ‹_›)).mono ?_; rintro e u3 ⟨rfl, hb⟩; have hk := h4_next ‹_› hb; clear hb) | (go_at_call 73; refine (by_box _ _).mono ?_; rintro e u3 ⟨c, rfl, hb, hc⟩; have hk := h4_next ‹_› hb; clear hb) | (go_at_call 67; refine (HG.out _ _ (h4_below ‹_›) ‹_›).mono ?_; rintro e u3 ⟨rfl, hb⟩; have hk := h4_next ‹_› hb; clear hb))
            have hB3 := h4_below ‹_›
            have HB3 := Aside0.mk hB3
            clear hB3
            have s3 := (HSA.out.below HB3.out).2.2
            obtain ⟨_, _, _, cells, hcl⟩ := (HV.out.below HB3.out).row_ne
            have hf3 := frozen_of_row _ g (i * 3 + 2) cells 110 hcl
            have HCL := Aside0.mk hcl
            clear hcl
            rcases s3 with ⟨_, s3⟩ | ⟨_, _, _, s3, _⟩
            all_goals
              simp only at s3
              go_wp2
              go_ret
              have hv3 := (HV.out.below HB3.out).mono (F' := fun k => F k ∨ w.heap.size ≤ k) (fun _ hk => Or.inl hk)
              have hl := hv3.add i HI.out w.heap.size who ((HB3.out.block _ (Array.getElem?_eq_some_iff.1 HX.out).1).trans HX.out) (Or.inr (Nat.le_refl _)) HBX.out
              rw [HS.out] at hl
              exact ⟨rfl, (Moved.of_below (below_step HWB.out HB3.out)).set _ (HV.out.below HB3.out).row_ne.2.1 _, hl.at⟩
end Go.Proofs.Ytheafmjdncmpoaa
