/-
  The walk of the law CrcChanged.
-/
import Derived.Test.YtofdbghklpeamaaPieces
namespace Go.Proofs.Ytofdbghklpeamaa
open Go.RowKit

/-- bytes turned from a place on: the first k of them -/
def chg (l : List Nat) (P B : Nat) : Nat → List Nat
  | 0 => l
  | k + 1 => (chg l P B k).set (P + k) ((chg l P B k).getD (P + k) 0 ^^^ (B / 2 ^ (8 * k) % 256))
theorem chg_length (l : List Nat) (P B k : Nat) : (chg l P B k).length = l.length := by
  induction k with
  | zero => rfl
  | succ k ih => simp [chg, ih]
theorem chg_lt (l : List Nat) (P B k : Nat) (hl : ∀ c ∈ l, c < 256) : ∀ c ∈ chg l P B k, c < 256 := by
  induction k with
  | zero => exact hl
  | succ k ih =>
    intro c hc
    rcases List.mem_or_eq_of_mem_set hc with h | rfl
    · exact ih c h
    · exact Nat.xor_lt_two_pow (n := 8) (getD_lt ih _) (by omega)
theorem chg_at (l : List Nat) (P B k i : Nat) (hi : i < P ∨ P + k ≤ i) : (chg l P B k)[i]? = l[i]? := by
  induction k with
  | zero => rfl
  | succ k ih => rw [chg, List.getElem?_set_ne (by omega), ih (by omega)]
theorem chg_take (l : List Nat) (P B k : Nat) : (chg l P B k).take P = l.take P := by
  apply List.ext_getElem?
  intro i
  rw [List.getElem?_take, List.getElem?_take]
  by_cases h : i < P
  · rw [if_pos h, if_pos h, chg_at _ _ _ _ _ (Or.inl h)]
  · rw [if_neg h, if_neg h]
theorem chg_drop (l : List Nat) (P B k : Nat) : (chg l P B k).drop (P + k) = l.drop (P + k) := by
  apply List.ext_getElem?
  intro i
  rw [List.getElem?_drop, List.getElem?_drop, chg_at _ _ _ _ _ (Or.inr (by omega))]
theorem parts (l : List Nat) (P k : Nat) : l = l.take P ++ ((l.drop P).take k ++ l.drop (P + k)) := by
  rw [← List.drop_drop, List.take_append_drop, List.take_append_drop]
/-- the law: what is turned is seen -/
theorem chg_seen (l : List Nat) (P B k : Nat) (hk : k ≤ 4) (hl : ∀ c ∈ l, c < 256) : Crc.crc 0 (chg l P B k) = Crc.crc 0 l ↔ chg l P B k = l := by
  constructor
  · intro h
    have hm := chg_lt l P B k hl
    have e1 := parts (chg l P B k) P k
    have e2 := parts l P k
    rw [chg_take, chg_drop] at e1
    have h1 : Crc.more (4294967295 ^^^ 0) (chg l P B k) = Crc.more (4294967295 ^^^ 0) l := by
      have := congrArg (fun z => 4294967295 ^^^ z) h
      simpa only [Crc.crc, Crc.inv_inv] using this
    rw [e1] at h1
    conv at h1 => rhs; rw [e2]
    have h2 := (Crc.changed (4294967295 ^^^ 0) (l.take P) (((chg l P B k).drop P).take k) ((l.drop P).take k) (l.drop (P + k)) (by decide)
      (by simp [chg_length]) (by rw [List.length_take]; omega) (take_lt hl P)
      (fun c hc => hm c (List.mem_of_mem_drop (List.mem_of_mem_take hc))) (fun c hc => hl c (List.mem_of_mem_drop (List.mem_of_mem_take hc)))).1 h1
    rw [e1, h2, ← e2]
  · intro h; rw [h]
theorem cellsOf_set (l : List Nat) (i c : Nat) : cellsOf (l.set i c) = (cellsOf l).set i (.int .u8 c) := by simp [cellsOf, List.map_set]
theorem row_set {cur : Array Value} {n i c : Nat} {m : List Nat} (ht : cur.toList.take n = cellsOf m) : (cur.setIfInBounds i (.int .u8 (c : Nat))).toList.take n = cellsOf (m.set i c) := by
  rw [cellsOf_set, ← ht]
  simp [List.take_set]
theorem copy_head (a : Option Addr) (l : List Nat) (cap : Nat) (w : World) (hr : Reads w a l) (h0 : ¬ l.length = 0) (hlen : l.length ≤ 140737488351232) (hnil : a = none → cap = 0) :
    Calls Try.prog 20 #[.slice a l.length cap] w fun e w' => ∃ g cap2 cur, e = .returned (.slice (some ⟨g, 0, none⟩) l.length cap2) ∧ w'.heap[g]? = some (.cells cur 5 (0, 0)) ∧
      cur.toList.take l.length = cellsOf l ∧ w.heap.size ≤ g ∧ Below w.heap.size w w' := by
  refine (copy_any a l cap w hr hlen hnil).mono fun e w' ⟨v, he, hown, hb⟩ => ?_
  subst he
  obtain ⟨h1, h2⟩ := hown
  rcases h2 with ⟨_, h3⟩ | ⟨g, cap', cur, rfl, hg, hh, hn, hm, hs, ht⟩
  · exact absurd h3 h0
  · exact ⟨g, cap', cur, rfl, hh, by simpa using ht, hg, hb⟩
theorem shr_byte (B j : Nat) : ((B : Int) / 2 ^ j % 256) = ((B / 2 ^ j % 256 : Nat) : Int) := by
  have e : ((2 : Int) ^ j) = ((2 ^ j : Nat) : Int) := by push_cast; rfl
  rw [e]
  generalize 2 ^ j = q
  omega
set_option maxHeartbeats 1600000 in
theorem crcChanged_walk (a : Option Addr) (len cap : Nat) (z : List Int) (place byI : Int) (w : World) (wz : IsRow .u8 w a len cap z) (_w1 : (Lit.int .i64 place).wf = true) (w2 : (Lit.int .u32 byI).wf = true) :
    Calls Try.prog 7 #[.slice a len cap, .int .i64 place, .int .u32 byI] w fun e w' => e = .returned (.bool true) ∧ Below w.heap.size w w' := by
  obtain ⟨B, rfl, hB⟩ := wf_u32 w2
  obtain ⟨l, rfl, hr, hcap, hnil⟩ := isRow_reads wz
  clear wz w2
  by_cases hlong : 3000 < l.length
  · clear hr hnil
    go_enter Try.func7, Try.ntmps7
    go_wp2_with (go_at_call 9; (with_reducible refine (awake_any _).mono ?_); rintro e w1 ⟨rfl, hb1⟩; have Hb1 := Lib.hid hb1; clear hb1)
    go_ret
    exact ⟨rfl, Hb1.out⟩
  · by_cases h0 : l.length = 0
    · clear hr hnil
      have h0' : ((l.length : Int) == 0) = true := by simp; exact List.length_eq_zero_iff.1 h0
      have H0 := Lib.hid h0
      clear h0
      go_enter Try.func7, Try.ntmps7
      go_wp2_with (go_at_call 9; (with_reducible refine (awake_any _).mono ?_); rintro e w1 ⟨rfl, hb1⟩; have Hb1 := Lib.hid hb1; clear hb1)
      go_ret
      exact ⟨rfl, Hb1.out⟩
    · have h0' : ((l.length : Int) == 0) = false := by
        have : ¬ (l.length : Int) = 0 := by omega
        simpa using this
      obtain ⟨P, eP⟩ : ∃ P : Nat, place % (l.length : Int) = P := Int.eq_ofNat_of_zero_le (Int.emod_nonneg _ (by omega))
      have hP : P < l.length := by have := Int.emod_lt_of_pos place (b := (l.length : Int)) (by omega); omega
      have p1 := pick_any place (l.length : Int) (by omega) (by omega)
      rw [eP] at p1
      have P1 := Lib.hid p1
      have Hr := Lib.hid hr
      have Hn := Lib.hid hnil
      have H0 := Lib.hid h0
      clear p1 eP hr hnil h0
      go_enter Try.func7, Try.ntmps7
      go_wp2_with (first
        | (go_at_call 9; (with_reducible refine (awake_any _).mono ?_); rintro e w1 ⟨rfl, hb1⟩; have Hb1 := Lib.hid hb1; have Hr1 := Lib.hid (Hr.out.below hb1); clear hb1)
        | (go_at_call 19; (with_reducible refine (P1.out _).mono ?_); rintro e w' ⟨rfl, rfl⟩)
        | (go_at_call 20; (with_reducible refine (copy_head a l cap _ Hr1.out H0.out (by omega) Hn.out).mono ?_); rintro e w2 ⟨g, cap2, cur0, rfl, hh0, ht0, hg0, hb2⟩; have Hh0 := Lib.hid hh0; have Ht0 := Lib.hid ht0; have Hg0 := Lib.hid (Nat.le_trans Hb1.out.size hg0); have Hb2 := Lib.hid (bnext Hb1.out hb2); clear hh0 ht0 hg0 hb2))
      go_loopw [9] (fun i wr => ∃ (k : Nat) (cur : Array Value), k ≤ 4 ∧ i = .int .i64 k ∧ wr.heap[g]? = some (.cells cur 5 (0, 0)) ∧ cur.toList.take l.length = cellsOf (chg l P B k) ∧ Below w.heap.size w wr) (fun i _ => 4 - (intOf i).toNat)
      case atStart => exact ⟨0, cur0, by omega, rfl, Hh0.out, Ht0.out, Hb2.out⟩
      case round =>
        obtain ⟨k, cur, hk, rfl, hh, ht, hb⟩ := hrel
        by_cases hgo : k < 4 ∧ P + k < l.length
        · obtain ⟨hk4, hpk⟩ := hgo
          have g1 : (P : Int) + k < (l.length : Int) := by omega
          have hcl := row_at ht (P + k) (by rw [chg_length]; exact hpk)
          have hcell := (cell_of_row _ g (P + k) cur 5 _ hh).trans hcl
          have hfr := frozen_of_row wr g (P + k) cur 5 hh
          have hcb := getD_lt (chg_lt l P B k Hr.out.bytes) (P + k)
          obtain ⟨c, hc⟩ : ∃ c, c = (chg l P B k).getD (P + k) 0 := ⟨_, rfl⟩
          rw [← hc] at hcell hcb
          have Hc := Lib.hid hc
          have Hh := Lib.hid hh
          have Ht := Lib.hid ht
          have Hb := Lib.hid hb
          clear hcl hc hh ht hb
          go_wp2
          go_roundw
          case rel =>
            have hbit : ((B : Int) / 2 ^ (8 * k) % 256) = ((B / 2 ^ (8 * k) % 256 : Nat) : Int) := shr_byte B (8 * k)
            have hx : bits BinOp.xor IntKind.u8 (c : Int) ((B : Int) / 2 ^ (8 * k) % 256) = ((c ^^^ (B / 2 ^ (8 * k) % 256) : Nat) : Int) := by
              rw [hbit]; exact u8_xor_nat c _ hcb (Nat.mod_lt _ (by omega))
            rw [hx]
            exact ⟨k + 1, _, by omega, by go_num, heap_setCell_same _ _ _ _ _ _ Hh.out, by rw [chg, ← Hc.out]; exact row_set Ht.out, Hb.out.setCell Hg0.out _⟩
          case measure => simp [intOf]; omega
        · have hseen := chg_seen l P B k hk Hr.out.bytes
          have hm := chg_lt l P B k Hr.out.bytes
          have hml := chg_length l P B k
          have hrm : Reads wr (some ⟨g, 0, none⟩) (chg l P B k) := reads_at hm hh fun i hi => by rw [Nat.zero_add]; exact row_at ht i hi
          have hrl : Reads wr a l := Hr.out.below hb
          generalize chg l P B k = m at *
          have c1 : ∀ w', Below wr.heap.size wr w' → Calls Try.prog 11 #[.slice (some ⟨g, 0, none⟩) l.length cap2] w' fun e u => e = .returned (.int .u32 (Crc.crc 0 m)) ∧ Below w'.heap.size w' u := fun w' h => sum_n _ m _ _ w' hml (hrm.below h) (by omega)
          have c2 : ∀ w', Below wr.heap.size wr w' → Calls Try.prog 11 #[.slice a l.length cap] w' fun e u => e = .returned (.int .u32 (Crc.crc 0 l)) ∧ Below w'.heap.size w' u := fun w' h => sum_any _ l _ w' (hrl.below h) (by omega)
          have c3 : ∀ w', Below wr.heap.size wr w' → Calls Try.prog 21 #[.slice (some ⟨g, 0, none⟩) l.length cap2, .slice a l.length cap] w' fun e u => e = .returned (.bool (decide (m = l))) ∧ w' = u :=
            fun w' h => by have := same_any (some ⟨g, 0, none⟩) a m l cap2 cap w' (hrm.below h) (hrl.below h); rw [hml] at this; exact this
          have HB := Lib.hid (Below.refl wr.heap.size wr)
          have Hb := Lib.hid hb
          obtain ⟨D, hD⟩ : ∃ D, D = decide (m = l) := ⟨_, rfl⟩
          rw [← hD] at c3
          have hXD : (((Crc.crc 0 m : Nat) : Int) == ((Crc.crc 0 l : Nat) : Int)) = D := by
            rw [hD]
            by_cases hml2 : m = l
            · simp [hml2]
            · have : ¬ Crc.crc 0 m = Crc.crc 0 l := fun h => hml2 (hseen.1 h)
              simp only [hml2, decide_false]
              rw [beq_eq_false_iff_ne]; omega
          generalize Crc.crc 0 m = X at *
          generalize Crc.crc 0 l = Y at *
          have C1 := Lib.hid c1
          have C2 := Lib.hid c2
          have C3 := Lib.hid c3
          clear c1 c2 c3 hseen hm hml hrm hrl hb hh ht hD
          by_cases hge : k < 4
          · have hge2 : ¬ (P : Int) + k < (l.length : Int) := by omega
            go_wp2_with (first
              | (go_at_call 11; (with_reducible refine (C1.out _ HB.out).mono ?_); rintro e w' ⟨rfl, hb⟩; have HC := Lib.hid (bstep HB.out hb); clear hb HB; have HB := HC; clear HC)
              | (go_at_call 11; (with_reducible refine (C2.out _ HB.out).mono ?_); rintro e w' ⟨rfl, hb⟩; have HC := Lib.hid (bstep HB.out hb); clear hb HB; have HB := HC; clear HC)
              | (go_at_call 21; (with_reducible refine (C3.out _ HB.out).mono ?_); rintro e w' ⟨rfl, rfl⟩))
            go_ret
            exact ⟨by simp, Hb.out.trans (HB.out.mono Hb.out.size)⟩
          · go_wp2_with (first
              | (go_at_call 11; (with_reducible refine (C1.out _ HB.out).mono ?_); rintro e w' ⟨rfl, hb⟩; have HC := Lib.hid (bstep HB.out hb); clear hb HB; have HB := HC; clear HC)
              | (go_at_call 11; (with_reducible refine (C2.out _ HB.out).mono ?_); rintro e w' ⟨rfl, hb⟩; have HC := Lib.hid (bstep HB.out hb); clear hb HB; have HB := HC; clear HC)
              | (go_at_call 21; (with_reducible refine (C3.out _ HB.out).mono ?_); rintro e w' ⟨rfl, rfl⟩))
            go_ret
            exact ⟨by simp, Hb.out.trans (HB.out.mono Hb.out.size)⟩
end Go.Proofs.Ytofdbghklpeamaa
