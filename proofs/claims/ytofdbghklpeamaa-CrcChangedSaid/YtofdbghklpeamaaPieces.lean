/-
  The walk of the law CrcPieces.
-/
import Derived.Test.YtofdbghklpeamaaSums
import Derived.Deep.QuietTactic
import Derived.BigQuiet
namespace Go.Proofs.Ytofdbghklpeamaa
open Go.RowKit

theorem sum_n (a : Option Addr) (l : List Nat) (n cap : Nat) (w : World) (hn : l.length = n) (hr : Reads w a l) (hlen : n ≤ 140737488351232) :
    Calls Try.prog 11 #[.slice a n cap] w fun e w' => e = .returned (.int .u32 (Crc.crc 0 l)) ∧ Below w.heap.size w w' := by
  subst hn; exact sum_any a l cap w hr hlen
theorem more_n (s : Int) (S : Nat) (h : s = S) (hs : S < 4294967296) (a : Option Addr) (l : List Nat) (n cap : Nat) (w : World) (hn : l.length = n) (hr : Reads w a l) (hlen : n ≤ 140737488351232) :
    Calls Try.prog 13 #[.int .u32 s, .slice a n cap] w fun e w' => e = .returned (.int .u32 (Crc.crc S l)) ∧ Below w.heap.size w w' := by
  subst hn; exact more_int s S h hs a l cap w hr hlen
theorem reads_take {w : World} {a : Option Addr} {l : List Nat} (h : Reads w a l) (i : Nat) : Reads w a (l.take i) := by
  refine ⟨fun c hc => h.1 c (List.mem_of_mem_take hc), fun j hj => ?_⟩
  have hj1 : j < l.length := by rw [List.length_take] at hj; omega
  have hj2 : j < i := by rw [List.length_take] at hj; omega
  obtain ⟨b, off, e, hb, hc⟩ := h.2 j hj1
  exact ⟨b, off, e, hb, by rw [hc]; simp [List.getD, hj2]⟩
theorem reads_drop {w : World} {b off : Nat} {l : List Nat} (h : Reads w (some ⟨b, off, none⟩) l) (i : Nat) : Reads w (some ⟨b, off + i, none⟩) (l.drop i) := by
  refine ⟨fun c hc => h.1 c (List.mem_of_mem_drop hc), fun j hj => ?_⟩
  have hj1 : i + j < l.length := by rw [List.length_drop] at hj; omega
  obtain ⟨b', off', e, hb, hc⟩ := h.2 (i + j) hj1
  simp only [Option.some.injEq, Addr.mk.injEq] at e
  obtain ⟨rfl, rfl, _⟩ := e
  exact ⟨b, off + i, rfl, hb, by rw [Nat.add_assoc, hc]; simp [List.getD]⟩
theorem reads_cut {w : World} {a : Option Addr} {l : List Nat} (h : Reads w a l) (i cap : Nat) (hcap : l.length ≤ cap) : Reads w (if cap = i then a else Option.map (fun x => x.add i) a) (l.drop i) := by
  by_cases hl : i < l.length
  · obtain ⟨b, off, rfl, _⟩ := h.some (by omega)
    rw [if_neg (by omega)]
    have hadd : (⟨b, off, none⟩ : Addr).add i = ⟨b, off + i, none⟩ := by unfold Addr.add; split <;> simp_all
    simp only [Option.map_some, hadd]
    exact reads_drop h i
  · rw [List.drop_eq_nil_of_le (by omega)]
    exact ⟨by simp, by simp⟩
theorem bstep {w w1 w2 : World} (h : Below w.heap.size w w1) (k : Below w1.heap.size w1 w2) : Below w.heap.size w w2 := h.trans (k.mono h.size)
theorem reads_none (w : World) (a : Option Addr) : Reads w a [] := ⟨by simp, by simp⟩
set_option maxHeartbeats 1600000 in
theorem crcPieces_walk (a : Option Addr) (len cap : Nat) (z : List Int) (first second : Int) (w : World) (wz : IsRow .u8 w a len cap z) (_w1 : (Lit.int .i64 first).wf = true) (_w2 : (Lit.int .i64 second).wf = true) :
    Calls Try.prog 6 #[.slice a len cap, .int .i64 first, .int .i64 second] w fun e w' => e = .returned (.bool true) ∧ Below w.heap.size w w' := by
  obtain ⟨l, rfl, hr, hcap, hnil⟩ := isRow_reads wz
  clear wz
  by_cases hlong : 3000 < l.length
  · clear hr hnil
    go_enter Try.func6, Try.ntmps6
    go_wp2_with (go_at_call 5; (with_reducible refine (crcKnown_walk _).mono ?_); rintro e w1 ⟨rfl, hb1⟩; have Hb1 := Lib.hid hb1; clear hb1)
    go_ret
    exact ⟨rfl, Hb1.out⟩
  · obtain ⟨I, eI⟩ : ∃ I : Nat, first % ((l.length : Int) + 1) = I := Int.eq_ofNat_of_zero_le (Int.emod_nonneg _ (by omega))
    have hI : I ≤ l.length := by have := Int.emod_lt_of_pos first (b := (l.length : Int) + 1) (by omega); omega
    obtain ⟨J, eJ⟩ : ∃ J : Nat, second % ((l.length : Int) - I + 1) = J := Int.eq_ofNat_of_zero_le (Int.emod_nonneg _ (by omega))
    have hJ : I + J ≤ l.length := by have := Int.emod_lt_of_pos second (b := (l.length : Int) - I + 1) (by omega); omega
    have p1 := pick_any first ((l.length : Int) + 1) (by omega) (by omega)
    have p2 := pick_any second ((l.length : Int) - I + 1) (by omega) (by omega)
    rw [eI] at p1
    rw [eJ] at p2
    have P1 := Lib.hid p1
    have P2 := Lib.hid p2
    have Hr := Lib.hid hr
    clear p1 p2 eI eJ hr
    have i0 : (0 : Int) ≤ (I : Int) := by omega
    have i1 : (I : Int) ≤ (cap : Int) := by omega
    have i2 : (I : Int) ≤ (I : Int) + J := by omega
    have i3 : (I : Int) + J ≤ (cap : Int) := by omega
    have i4 : (I : Int) + J ≤ (l.length : Int) := by omega
    go_enter Try.func6, Try.ntmps6
    go_wp2_with (first
      | (go_at_call 5; (with_reducible refine (crcKnown_walk _).mono ?_); rintro e w1 ⟨rfl, hb1⟩; have Hb1 := Lib.hid hb1; clear hb1)
      | (go_at_call 19; (with_reducible refine (P1.out _).mono ?_); rintro e w' ⟨rfl, rfl⟩)
      | (go_at_call 19; (with_reducible refine (P2.out _).mono ?_); rintro e w' ⟨rfl, rfl⟩))
    go_quiet (fail)
    rw [Nat.add_sub_cancel_left]
    have hq : Below w.heap.size w (w1.drewN nq) := Go.below_drewN Hb1.out nq
    have hrx := reads_take (Hr.out.below hq) I
    have hry := reads_take (reads_cut (Hr.out.below hq) I cap hcap) J
    have hrz := reads_cut (Hr.out.below hq) (I + J) cap hcap
    have hrk := reads_take (Hr.out.below hq) (I + J)
    have hr1 := Hr.out.below hq
    generalize w1.drewN nq = w2 at *
    generalize (if cap = I then a else Option.map (fun x => x.add I) a) = ay at *
    generalize (if cap = I + J then a else Option.map (fun x => x.add (I + J)) a) = az at *
    have nx : (l.take I).length = I := by rw [List.length_take]; omega
    have ny : ((l.drop I).take J).length = J := by rw [List.length_take, List.length_drop]; omega
    have nz : (l.drop (I + J)).length = l.length - (I + J) := List.length_drop ..
    have nk : (l.take (I + J)).length = I + J := by rw [List.length_take]; omega
    have exy : l.take (I + J) = l.take I ++ (l.drop I).take J := List.take_add ..
    have eall : l = l.take (I + J) ++ l.drop (I + J) := (List.take_append_drop _ _).symm
    have lx := Crc.crc_lt (s := 0) (by omega) hrx.bytes
    have ly := Crc.crc_lt (s := 0) (by omega) hry.bytes
    have lz := Crc.crc_lt (s := 0) (by omega) hrz.bytes
    have lk := Crc.crc_lt (s := 0) (by omega) hrk.bytes
    have j1 := Crc.join_crc (l.take I) ((l.drop I).take J)
    rw [ny, ← exy] at j1
    have j2 := Crc.join_crc (l.take (I + J)) (l.drop (I + J))
    rw [nz, ← eall] at j2
    have c1 := Crc.crc_append 0 (l.take I) ((l.drop I).take J)
    rw [← exy] at c1
    have c2 := Crc.crc_append 0 (l.take (I + J)) (l.drop (I + J))
    rw [← eall] at c2
    have s1 : ∀ w', Below w2.heap.size w2 w' → Calls Try.prog 11 #[.slice a l.length cap] w' fun e u => e = .returned (.int .u32 (Crc.crc 0 l)) ∧ Below w'.heap.size w' u := fun w' h => sum_any a l cap w' (hr1.below h) (by omega)
    have s2 : ∀ w', Below w2.heap.size w2 w' → Calls Try.prog 11 #[.slice a I cap] w' fun e u => e = .returned (.int .u32 (Crc.crc 0 (l.take I))) ∧ Below w'.heap.size w' u := fun w' h => sum_n a _ I cap w' nx (hrx.below h) (by omega)
    have s3 : ∀ w', Below w2.heap.size w2 w' → Calls Try.prog 11 #[.slice ay J (cap - I)] w' fun e u => e = .returned (.int .u32 (Crc.crc 0 ((l.drop I).take J))) ∧ Below w'.heap.size w' u := fun w' h => sum_n ay _ J _ w' ny (hry.below h) (by omega)
    have s8 : ∀ w', Below w2.heap.size w2 w' → Calls Try.prog 11 #[.slice a (I + J) cap] w' fun e u => e = .returned (.int .u32 (Crc.crc 0 (l.take (I + J)))) ∧ Below w'.heap.size w' u := fun w' h => sum_n a _ _ cap w' nk (hrk.below h) (by omega)
    have s9 : ∀ w', Below w2.heap.size w2 w' → Calls Try.prog 11 #[.slice az (l.length - (I + J)) (cap - (I + J))] w' fun e u => e = .returned (.int .u32 (Crc.crc 0 (l.drop (I + J)))) ∧ Below w'.heap.size w' u := fun w' h => sum_n az _ _ _ w' nz (hrz.below h) (by omega)
    have s4 : ∀ w', Below w2.heap.size w2 w' → Calls Try.prog 16 #[.int .u32 (Crc.crc 0 (l.take I) : Nat), .int .u32 (Crc.crc 0 ((l.drop I).take J) : Nat), .int .i64 J] w' fun e u => e = .returned (.tuple #[.int .u32 (Crc.crc 0 (l.take (I + J)) : Nat), .int .i64 0]) ∧ Below w'.heap.size w' u :=
      fun w' _ => by have := join_yes _ _ lx ly J (by omega) w'; rw [j1] at this; exact this
    have s5 : ∀ w', Below w2.heap.size w2 w' → Calls Try.prog 13 #[.int .u32 0, .slice a I cap] w' fun e u => e = .returned (.int .u32 (Crc.crc 0 (l.take I))) ∧ Below w'.heap.size w' u := fun w' h => more_n 0 0 rfl (by omega) a _ I cap w' nx (hrx.below h) (by omega)
    have s6 : ∀ w', Below w2.heap.size w2 w' → Calls Try.prog 13 #[.int .u32 (Crc.crc 0 (l.take I) : Nat), .slice ay J (cap - I)] w' fun e u => e = .returned (.int .u32 (Crc.crc 0 (l.take (I + J)))) ∧ Below w'.heap.size w' u :=
      fun w' h => by have := more_n _ _ rfl lx ay _ J (cap - I) w' ny (hry.below h) (by omega); rw [← c1] at this; exact this
    have s7 : ∀ w', Below w2.heap.size w2 w' → Calls Try.prog 13 #[.int .u32 (Crc.crc 0 (l.take (I + J)) : Nat), .slice az (l.length - (I + J)) (cap - (I + J))] w' fun e u => e = .returned (.int .u32 (Crc.crc 0 l)) ∧ Below w'.heap.size w' u :=
      fun w' h => by have := more_n _ _ rfl lk az _ _ (cap - (I + J)) w' nz (hrz.below h) (by omega); rw [← c2] at this; exact this
    have s10 : ∀ w', Below w2.heap.size w2 w' → Calls Try.prog 18 #[.int .u32 (Crc.crc 0 (l.take (I + J)) : Nat), .int .u32 (Crc.crc 0 (l.drop (I + J)) : Nat), .int .i64 ((l.length - (I + J) : Nat) : Int), .int .u32 (Crc.crc 0 l : Nat)] w' fun e u => e = .returned (.bool true) ∧ Below w'.heap.size w' u :=
      fun w' _ => joins_any _ _ _ _ lk lz (by omega) j2 w'
    generalize Crc.crc 0 l = A at *
    generalize Crc.crc 0 (l.take I) = X at *
    generalize Crc.crc 0 ((l.drop I).take J) = Y at *
    generalize Crc.crc 0 (l.take (I + J)) = XY at *
    generalize Crc.crc 0 (l.drop (I + J)) = Z at *
    have S1 := Lib.hid s1
    have S2 := Lib.hid s2
    have S3 := Lib.hid s3
    have S4 := Lib.hid s4
    have S5 := Lib.hid s5
    have S6 := Lib.hid s6
    have S7 := Lib.hid s7
    have S8 := Lib.hid s8
    have S9 := Lib.hid s9
    have S10 := Lib.hid s10
    have HB := Lib.hid (Below.refl w2.heap.size w2)
    have Hq := Lib.hid hq
    clear s1 s2 s3 s4 s5 s6 s7 s8 s9 s10 hq hrx hry hrz hrk hr1 nx ny nz nk exy eall lx ly lz lk j1 j2 c1 c2
    go_wp2_with (first | (go_at_call 11; (with_reducible refine (S1.out _ HB.out).mono ?_); rintro e w' ⟨rfl, hb⟩; have HC := Lib.hid (bstep HB.out hb); clear hb HB; have HB := HC; clear HC) | (go_at_call 11; (with_reducible refine (S2.out _ HB.out).mono ?_); rintro e w' ⟨rfl, hb⟩; have HC := Lib.hid (bstep HB.out hb); clear hb HB; have HB := HC; clear HC) | (go_at_call 11; (with_reducible refine (S3.out _ HB.out).mono ?_); rintro e w' ⟨rfl, hb⟩; have HC := Lib.hid (bstep HB.out hb); clear hb HB; have HB := HC; clear HC) | (go_at_call 11; (with_reducible refine (S8.out _ HB.out).mono ?_); rintro e w' ⟨rfl, hb⟩; have HC := Lib.hid (bstep HB.out hb); clear hb HB; have HB := HC; clear HC) | (go_at_call 11; (with_reducible refine (S9.out _ HB.out).mono ?_); rintro e w' ⟨rfl, hb⟩; have HC := Lib.hid (bstep HB.out hb); clear hb HB; have HB := HC; clear HC) | (go_at_call 16; (with_reducible refine (S4.out _ HB.out).mono ?_); rintro e w' ⟨rfl, hb⟩; have HC := Lib.hid (bstep HB.out hb); clear hb HB; have HB := HC; clear HC) | (go_at_call 13; (with_reducible refine (S5.out _ HB.out).mono ?_); rintro e w' ⟨rfl, hb⟩; have HC := Lib.hid (bstep HB.out hb); clear hb HB; have HB := HC; clear HC) | (go_at_call 13; (with_reducible refine (S6.out _ HB.out).mono ?_); rintro e w' ⟨rfl, hb⟩; have HC := Lib.hid (bstep HB.out hb); clear hb HB; have HB := HC; clear HC) | (go_at_call 13; (with_reducible refine (S7.out _ HB.out).mono ?_); rintro e w' ⟨rfl, hb⟩; have HC := Lib.hid (bstep HB.out hb); clear hb HB; have HB := HC; clear HC) | (go_at_call 18; (with_reducible refine (S10.out _ HB.out).mono ?_); rintro e w' ⟨rfl, hb⟩; have HC := Lib.hid (bstep HB.out hb); clear hb HB; have HB := HC; clear HC))
    go_ret
    exact ⟨by simp, Hq.out.trans (HB.out.mono Hq.out.size)⟩
end Go.Proofs.Ytofdbghklpeamaa
