/-
  Rank: the document's words of a block, its rounds, its filling: what was printed, said over Sha.
  Rank: the document's block of SHA-256, over Sha.
  Rank: the document's filling of a message of 33 bytes; the digest's bytes.
  Rank: the document's digest of a message of 33 bytes.
  Rank: the document's weight of a node.
-/
import Derived.Test.YtaaepadhapfkoaaPPlacex2
import Derived.Test.YtaaepadhapfkoaaDgS
import Derived.Test.YtaaepadhapfkoaaRpB
import Derived.Test.YtaaepadhapfkoaaDgM
import Derived.Lib.SmallJoins
import Derived.Test.YtaaepadhapfkoaaDgF
import Derived.Test.YtaaepadhapfkoaaRkO
namespace Go.Proofs.Ytaaepadhapfkoaa
set_option linter.unusedSimpArgs false
set_option linter.unusedVariables false

section
open Go.RowKit Go.Proofs.YtaaepadhapfkoaaW.PrintWords Go.Proofs.YtaaepadhapfkoaaW.PrintLast Go.Proofs.YtaaepadhapfkoaaW.PrintMore
open PPlace

/-- numbers as whole numbers -/
def zI (l : List Nat) : List Int := l.map fun n : Nat => (n : Int)
theorem zI_len (l : List Nat) : (zI l).length = l.length := by simp [zI]
theorem zI_snoc (l : List Nat) (x : Nat) : zI l ++ [(x : Int)] = zI (l ++ [x]) := by simp [zI]
theorem zI_append (l m : List Nat) : zI l ++ zI m = zI (l ++ m) := by simp [zI]
theorem rd_zI (l : List Nat) (i : Nat) : rd (zI l) (i : Int) = ((l.getD i 0 : Nat) : Int) := by
  unfold rd zI
  rw [Int.toNat_natCast, List.getD_eq_getElem?_getD, List.getElem?_map, List.getD_eq_getElem?_getD]
  cases l[i]? <;> rfl
theorem w64 {n : Int} (h0 : 0 ≤ n) (h1 : n < 9223372036854775808) : wrap64 n = n := by unfold wrap64; omega
theorem u64w {n : Int} (h0 : 0 ≤ n) (h1 : n < 18446744073709551616) : IntKind.u64.wrap n = n := by rw [wrapu64]; omega
theorem turned_f (x n : Nat) (hx : x < 4294967296) (h0 : 0 < n) (h1 : n < 32) : chartularyref01_turned.f (x : Int) (n : Int) = some ((Sha.rot x n : Nat) : Int) := by
  unfold chartularyref01_turned.f
  have e : IntKind.u64.wrap (32 - (n : Int)) = ((32 - n : Nat) : Int) := by rw [u64w (by omega) (by omega)]; omega
  rw [if_pos (by omega), e, if_pos (by omega)]
  congr 1
  have e1 : shr .u32 (x : Int) (n : Int) = ((x / 2 ^ n : Nat) : Int) := by
    unfold shr
    rw [Int.toNat_natCast, show min n IntKind.u32.bits = n from Nat.min_eq_left (by have : IntKind.u32.bits = 32 := rfl; omega)]
    simp
  have e2 : shl .u32 (x : Int) ((32 - n : Nat) : Int) = ((x * 2 ^ (32 - n) % 4294967296 : Nat) : Int) := by
    unfold shl
    rw [Int.toNat_natCast, show min (32 - n) IntKind.u32.bits = 32 - n from Nat.min_eq_left (by have : IntKind.u32.bits = 32 := rfl; omega)]
    have : ∀ a : Int, IntKind.u32.wrap a = a % 4294967296 := fun a => by
      simp only [IntKind.wrap, IntKind.bits, IntKind.signed]
      rfl
    rw [this]
    simp
  rw [e1, e2, u32_or_nat _ _ (Nat.lt_of_le_of_lt (Nat.div_le_self _ _) hx) (Nat.mod_lt _ (by omega)), Sha.rot, Nat.or_comm]
theorem lt_len {l : List Nat} {i : Nat} (h : i < l.length) : ((i : Nat) : Int) < ((zI l).length : Int) := by rw [zI_len]; omega
theorem w64n (i : Nat) (n : Int) (h : n = (i : Int)) (h1 : i < 9223372036854775808) : wrap64 n = (i : Int) := by subst h; exact w64 (by omega) (by omega)
theorem zI_eq {l m : List Nat} {x : Int} {y : Nat} (h : x = (y : Int)) (hm : m = l ++ [y]) : zI l ++ [x] = zI m := by subst h; subst hm; exact zI_snoc _ _
theorem sched_succ (b : List Nat) (t : Nat) : Sha.sched b (t + 1) = Sha.sched b t ++ [Sha.W b t] := by rw [Sha.sched, Sha.W_eq]
theorem lo_val (x0 x1 x2 x3 : Nat) (g0 : x0 < 256) (g1 : x1 < 256) (g2 : x2 < 256) (g3 : x3 < 256) : ((((((((x0 : Int) % 4294967296 * 16777216) % 4294967296) + (((x1 : Int) % 4294967296 * 65536) % 4294967296)) % 4294967296) + (((x2 : Int) % 4294967296 * 256) % 4294967296)) % 4294967296) + ((x3 : Int) % 4294967296)) % 4294967296 = ((((x0 * 256 + x1) * 256 + x2) * 256 + x3 : Nat) : Int) := by omega
theorem hi_val (a b c d : Int) : ((((a + b) % 4294967296 + c) % 4294967296) + d) % 4294967296 = (a + b + c + d) % 4294967296 := by omega
theorem pos_nat (i : Nat) : (0 : Int) ≤ (i : Int) := Int.natCast_nonneg i
/-- the later words -/
theorem words_hi (b : List Nat) (hb : ∀ c ∈ b, c < 256) : ∀ (j t k : Nat), t + j = 64 → 16 ≤ t → chartularyref01_words.l1 (k + j + 1) (zI (Sha.sched b t)) (t : Int) = some (zI (Sha.sched b 64)) := by
  intro j
  induction j with
  | zero =>
    intro t k h _
    obtain rfl : t = 64 := by omega
    rw [chartularyref01_words.l1]
    have h1 : ¬ (((64 : Nat) : Int) < 64) := by omega
    with_reducible rw [if_neg h1]
  | succ j IH =>
    intro t k h ht
    have hl := Sha.sched_len b t
    have g : ∀ i, i < t → rd (zI (Sha.sched b t)) (i : Int) = ((Sha.W b i : Nat) : Int) := fun i hi => by rw [rd_zI, Sha.sched_get b i t hi]
    have L : ∀ i : Nat, i < t → ((i : Nat) : Int) < ((zI (Sha.sched b t)).length : Int) := fun i hi => lt_len (by omega)
    have W := fun i => Sha.W_lt hb i
    have h1 : (t : Int) < 64 := by omega
    have hc : (zI (Sha.sched b t)).length < 35184372088832 := by rw [zI_len, hl]; omega
    have l15 : t - 15 < t := by omega
    have l2 : t - 2 < t := by omega
    have l16 : t - 16 < t := by omega
    have l7 : t - 7 < t := by omega
    have hk : k + (j + 1) + 1 = (k + j + 1) + 1 := by omega
    have ih := IH (t + 1) k (by omega) (by omega)
    have hw := Sha.W_hi b ht
    have T7 : chartularyref01_turned.f ((Sha.W b (t - 15) : Nat) : Int) 7 = _ := turned_f (Sha.W b (t - 15)) 7 (W _) (by omega) (by omega)
    have T18 : chartularyref01_turned.f ((Sha.W b (t - 15) : Nat) : Int) 18 = _ := turned_f (Sha.W b (t - 15)) 18 (W _) (by omega) (by omega)
    have T17 : chartularyref01_turned.f ((Sha.W b (t - 2) : Nat) : Int) 17 = _ := turned_f (Sha.W b (t - 2)) 17 (W _) (by omega) (by omega)
    have T19 : chartularyref01_turned.f ((Sha.W b (t - 2) : Nat) : Int) 19 = _ := turned_f (Sha.W b (t - 2)) 19 (W _) (by omega) (by omega)
    have e15 := w64n (t - 15) ((t : Int) - 15) (by omega) (by omega)
    have e2 := w64n (t - 2) ((t : Int) - 2) (by clear e15; omega) (by clear e15; omega)
    have e16 := w64n (t - 16) ((t : Int) - 16) (by clear e15 e2; omega) (by clear e15 e2; omega)
    have e7 := w64n (t - 7) ((t : Int) - 7) (by clear e15 e2 e16; omega) (by clear e15 e2 e16; omega)
    have e1 := w64n (t + 1) ((t : Int) + 1) (by clear e15 e2 e16 e7; omega) (by clear e15 e2 e16 e7; omega)
    rw [hk, chartularyref01_words.l1]
    with_reducible rw [if_pos h1, e15, e2, e16, e7, e1, if_pos (pos_nat _), if_pos (L _ l15), if_pos (pos_nat _), if_pos (L _ l2), g _ l15, g _ l2, g _ l16, g _ l7, T7, Option.bind_some, T18, Option.bind_some, T17, Option.bind_some, T19, Option.bind_some,
      if_pos (pos_nat _), if_pos (L _ l16), if_pos (pos_nat _), if_pos (L _ l7), if_pos hc]
    rw [← ih]
    congr 1
    refine zI_eq ?_ (sched_succ b t)
    rw [hw, ← sval (Sha.W b (t - 16)) (Sha.W b (t - 15)) (Sha.W b (t - 7)) (Sha.W b (t - 2)) (W _) (W _)]
    exact hi_val _ _ _ _
/-- the first words -/
theorem words_lo (b : List Nat) (hb : ∀ c ∈ b, c < 256) (hl : b.length = 64) : ∀ (j t k : Nat), t + j = 16 → chartularyref01_words.l0 (k + 49 + j + 1) (zI b) (zI (Sha.sched b t)) (t : Int) = some (zI (Sha.sched b 64)) := by
  intro j
  induction j with
  | zero =>
    intro t k h
    obtain rfl : t = 16 := by omega
    rw [chartularyref01_words.l0]
    have h1 : ¬ (((16 : Nat) : Int) < 16) := by omega
    with_reducible rw [if_neg h1]
    exact words_hi b hb 48 16 k rfl (by omega)
  | succ j IH =>
    intro t k h
    have hsl := Sha.sched_len b t
    have L : ∀ i : Nat, i < 64 → ((i : Nat) : Int) < ((zI b).length : Int) := fun i hi => lt_len (by omega)
    have G := fun i => Sha.get_lt (by omega) hb i
    have ih := IH (t + 1) k (by omega)
    have hw := Sha.W_lo b (t := t) (by omega)
    have h1 : (t : Int) < 16 := by omega
    have hc : (zI (Sha.sched b t)).length < 35184372088832 := by rw [zI_len, hsl]; omega
    have l0 : 4 * t < 64 := by omega
    have l1 : 4 * t + 1 < 64 := by omega
    have l2 : 4 * t + 2 < 64 := by omega
    have l3 : 4 * t + 3 < 64 := by omega
    have hk : k + 49 + (j + 1) + 1 = (k + 49 + j + 1) + 1 := by omega
    have e0 := w64n (4 * t) (4 * (t : Int)) (by omega) (by omega)
    have e1 := w64n (4 * t + 1) (((4 * t : Nat) : Int) + 1) (by clear e0; omega) (by clear e0; omega)
    have e2 := w64n (4 * t + 2) (((4 * t : Nat) : Int) + 2) (by clear e0 e1; omega) (by clear e0 e1; omega)
    have e3 := w64n (4 * t + 3) (((4 * t : Nat) : Int) + 3) (by clear e0 e1 e2; omega) (by clear e0 e1 e2; omega)
    have e4 := w64n (t + 1) ((t : Int) + 1) (by clear e0 e1 e2 e3; omega) (by clear e0 e1 e2 e3; omega)
    rw [hk, chartularyref01_words.l0]
    with_reducible rw [if_pos h1, e0, e1, e2, e3, e4, if_pos (pos_nat _), if_pos (L _ l0), if_pos (pos_nat _), if_pos (L _ l1), if_pos (pos_nat _), if_pos (L _ l2), if_pos (pos_nat _), if_pos (L _ l3), if_pos hc, rd_zI, rd_zI, rd_zI, rd_zI]
    rw [← ih]
    congr 1
    refine zI_eq ?_ (sched_succ b t)
    rw [hw, Sha.be4]
    exact lo_val _ _ _ _ (G _) (G _) (G _) (G _)
theorem words_f (b : List Nat) (hb : ∀ c ∈ b, c < 256) (hl : b.length = 64) (k : Nat) : chartularyref01_words.f (k + 66) (zI b) = some (zI (Sha.sched b 64)) := words_lo b hb hl 16 0 k rfl
end
section
open Go.RowKit Go.Proofs.YtaaepadhapfkoaaW.PrintWords Go.Proofs.YtaaepadhapfkoaaW.PrintLast Go.Proofs.YtaaepadhapfkoaaW.PrintMore
open PPlace

theorem St_len (s : Sha.St) : (zI s.l).length = 8 := rfl
theorem St_0 (s : Sha.St) : rd (zI s.l) 0 = (s.a : Int) := rfl
theorem St_1 (s : Sha.St) : rd (zI s.l) 1 = (s.b : Int) := rfl
theorem St_2 (s : Sha.St) : rd (zI s.l) 2 = (s.c : Int) := rfl
theorem St_3 (s : Sha.St) : rd (zI s.l) 3 = (s.d : Int) := rfl
theorem St_4 (s : Sha.St) : rd (zI s.l) 4 = (s.e : Int) := rfl
theorem St_5 (s : Sha.St) : rd (zI s.l) 5 = (s.f : Int) := rfl
theorem St_6 (s : Sha.St) : rd (zI s.l) 6 = (s.g : Int) := rfl
theorem St_7 (s : Sha.St) : rd (zI s.l) 7 = (s.h : Int) := rfl
theorem ch_val (e f g : Nat) (he : e < 4294967296) (hf : f < 4294967296) (hg : g < 4294967296) : bits .xor .u32 (bits .and .u32 (e : Int) (f : Int)) (bits .and .u32 ((4294967295 - (e : Int)) % 4294967296) (g : Int)) = ((Sha.ch e f g : Nat) : Int) := by
  have e1 : (4294967295 - (e : Int)) % 4294967296 = ((4294967295 - e : Nat) : Int) := by omega
  rw [e1, u32_and_nat _ _ he hf, u32_and_nat _ _ (by omega) hg, u32_xor_nat _ _ (Sha.and_lt he) (Sha.and_lt (by omega)), Sha.ch]
theorem maj_val (a b c : Nat) (ha : a < 4294967296) (hb : b < 4294967296) (hc : c < 4294967296) : bits .xor .u32 (bits .xor .u32 (bits .and .u32 (a : Int) (b : Int)) (bits .and .u32 (a : Int) (c : Int))) (bits .and .u32 (b : Int) (c : Int)) = ((Sha.maj a b c : Nat) : Int) := by
  rw [u32_and_nat _ _ ha hb, u32_and_nat _ _ ha hc, u32_and_nat _ _ hb hc, xor3 _ _ _ (Sha.and_lt ha) (Sha.and_lt ha) (Sha.and_lt hb), Sha.maj]
theorem one_val (a b c d e : Nat) : (((((a : Int) + (b : Int)) % 4294967296 + (c : Int)) % 4294967296 + (d : Int)) % 4294967296 + (e : Int)) % 4294967296 = (((a + b + c + d + e) % 4294967296 : Nat) : Int) := by omega
theorem two_val (o a b : Nat) : (((o : Int) + (a : Int)) % 4294967296 + (b : Int)) % 4294967296 = (((o + (a + b) % 4294967296) % 4294967296 : Nat) : Int) := by omega
theorem add_val (a b : Nat) : ((a : Int) + (b : Int)) % 4294967296 = (((a + b) % 4294967296 : Nat) : Int) := by omega
theorem lit8 {s : Sha.St} {x0 x4 : Int} {a b c d e f g h : Nat} (h0 : x0 = (a : Int)) (h4 : x4 = (e : Int)) (hs : s = ⟨a, b, c, d, e, f, g, h⟩) : [x0, (b : Int), (c : Int), (d : Int), x4, (f : Int), (g : Int), (h : Int)] = zI s.l := by subst h0; subst h4; subst hs; rfl
theorem block_end (s v : Sha.St) : ∀ (j t k : Nat), t + j = 8 → chartularyref01_block.l1 (k + j + 1) (zI s.l) (zI v.l) (zI ((s.add v).l.take t)) (t : Int) = some (zI (s.add v).l) := by
  intro j
  induction j with
  | zero =>
    intro t k h
    obtain rfl : t = 8 := by omega
    rw [chartularyref01_block.l1]
    have h1 : ¬ (((8 : Nat) : Int) < 8) := by omega
    with_reducible rw [if_neg h1]
    rfl
  | succ j IH =>
    intro t k h
    have hk : k + (j + 1) + 1 = (k + j + 1) + 1 := by omega
    have h1 : (t : Int) < 8 := by omega
    have ha : (t : Int) < ((zI s.l).length : Int) := by rw [St_len]; omega
    have hb : (t : Int) < ((zI v.l).length : Int) := by rw [St_len]; omega
    have hl : ((s.add v).l.take t).length = t := by rw [List.length_take]; show min t 8 = t; omega
    have hc : (zI ((s.add v).l.take t)).length < 35184372088832 := by rw [zI_len, hl]; omega
    have ht : t < 8 := by omega
    have ih := IH (t + 1) k (by omega)
    have e1 := w64n (t + 1) ((t : Int) + 1) (by omega) (by omega)
    rw [hk, chartularyref01_block.l1]
    with_reducible rw [if_pos h1, if_pos (pos_nat _), if_pos ha, if_pos hb, if_pos hc, e1, rd_zI, rd_zI]
    rw [← ih]
    congr 1
    refine zI_eq (y := (s.add v).l.getD t 0) ?_ ?_
    · rw [add_val]
      clear ih e1
      obtain rfl | rfl | rfl | rfl | rfl | rfl | rfl | rfl : t = 0 ∨ t = 1 ∨ t = 2 ∨ t = 3 ∨ t = 4 ∨ t = 5 ∨ t = 6 ∨ t = 7 := by omega
      all_goals
        congr 1
        simp only [Sha.St.add, Sha.St.l, List.getD_cons_zero, List.getD_cons_succ]
        rw [Nat.add_comm]
    · exact take_snoc (by show t < 8; omega)
set_option maxHeartbeats 1000000 in
theorem block_rounds (s : Sha.St) (b : List Nat) (hs : s.ok) (hb : ∀ c ∈ b, c < 256) : ∀ (j t k : Nat), t + j = 64 → chartularyref01_block.l0 (k + 9 + j + 1) (zI s.l) (zI Sha.K) (zI (Sha.sched b 64)) (zI (Sha.rounds b s t).l) (t : Int) = some (zI (Sha.block s b).l) := by
  intro j
  induction j with
  | zero =>
    intro t k h
    obtain rfl : t = 64 := by omega
    rw [chartularyref01_block.l0]
    have h1 : ¬ (((64 : Nat) : Int) < 64) := by omega
    with_reducible rw [if_neg h1]
    exact block_end s (Sha.rounds b s 64) 8 0 k rfl
  | succ j IH =>
    intro t k h
    have hk : k + 9 + (j + 1) + 1 = (k + 9 + j + 1) + 1 := by omega
    have h1 : (t : Int) < 64 := by omega
    have ht : t < 64 := by omega
    have hK : (t : Int) < ((zI Sha.K).length : Int) := by rw [zI_len, K_len]; omega
    have hW : (t : Int) < ((zI (Sha.sched b 64)).length : Int) := by rw [zI_len, Sha.sched_len]; omega
    have g := Sha.sched_get b t 64 ht
    have ih := IH (t + 1) k (by omega)
    obtain ⟨v, hv⟩ : ∃ v, Sha.rounds b s t = v := ⟨_, rfl⟩
    have hr : Sha.rounds b s (t + 1) = Sha.round v (Sha.K.getD t 0) (Sha.W b t) := by rw [← hv]; rfl
    have ok : v.ok := by rw [← hv]; exact Sha.rounds_ok b hs t
    obtain ⟨oa, ob, oc, od, oe, of, og, oh⟩ := ok
    rw [hv]
    have T6 : chartularyref01_turned.f (v.e : Int) 6 = _ := turned_f v.e 6 oe (by omega) (by omega)
    have T11 : chartularyref01_turned.f (v.e : Int) 11 = _ := turned_f v.e 11 oe (by omega) (by omega)
    have T25 : chartularyref01_turned.f (v.e : Int) 25 = _ := turned_f v.e 25 oe (by omega) (by omega)
    have T2 : chartularyref01_turned.f (v.a : Int) 2 = _ := turned_f v.a 2 oa (by omega) (by omega)
    have T13 : chartularyref01_turned.f (v.a : Int) 13 = _ := turned_f v.a 13 oa (by omega) (by omega)
    have T22 : chartularyref01_turned.f (v.a : Int) 22 = _ := turned_f v.a 22 oa (by omega) (by omega)
    have p : ∀ i : Int, i < 8 → i < ((zI v.l).length : Int) := fun i hi => hi
    have e1 := w64n (t + 1) ((t : Int) + 1) (by omega) (by omega)
    rw [hk, chartularyref01_block.l0]
    with_reducible rw [if_pos h1, e1, if_pos (p 4 (by decide)), St_4, T6, Option.bind_some, T11, Option.bind_some, T25, Option.bind_some, if_pos (p 5 (by decide)), if_pos (p 6 (by decide)), if_pos (p 7 (by decide)), if_pos (pos_nat _), if_pos hK, if_pos hW,
      if_pos (p 0 (by decide)), St_0, T2, Option.bind_some, T13, Option.bind_some, T22, Option.bind_some, if_pos (p 1 (by decide)), if_pos (p 2 (by decide)), if_pos (p 3 (by decide)), St_1, St_2, St_3, St_5, St_6, St_7, rd_zI, rd_zI, g]
    rw [hr] at ih
    refine Eq.trans ?_ ih
    clear ih e1 hv
    have q : ∀ l1 l2 : List Int, l1 = l2 → chartularyref01_block.l0 (k + 9 + j + 1) (zI s.l) (zI Sha.K) (zI (Sha.sched b 64)) l1 ((t + 1 : Nat) : Int) = chartularyref01_block.l0 (k + 9 + j + 1) (zI s.l) (zI Sha.K) (zI (Sha.sched b 64)) l2 ((t + 1 : Nat) : Int) := fun l1 l2 h => by rw [h]
    refine q _ _ ?_
    with_reducible rw [xor3 _ _ _ (Sha.rot_lt oe) (Sha.rot_lt oe) (Sha.rot_lt oe), xor3 _ _ _ (Sha.rot_lt oa) (Sha.rot_lt oa) (Sha.rot_lt oa), ch_val _ _ _ oe of og, maj_val _ _ _ oa ob oc, one_val, two_val, add_val]
    exact lit8 rfl rfl rfl
theorem block_f (s : Sha.St) (b : List Nat) (hs : s.ok) (hb : ∀ c ∈ b, c < 256) (hl : b.length = 64) (k : Nat) : chartularyref01_block.f (k + 74) (zI s.l) (zI Sha.K) (zI b) = some (zI (Sha.block s b).l) := by
  unfold chartularyref01_block.f
  have h1 := words_f b hb hl (k + 8)
  rw [show k + 8 + 66 = k + 74 by omega] at h1
  have h2 := block_rounds s b hs hb 64 0 k rfl
  have h3 : ([] : List Int).length + (zI s.l).length < 35184372088832 := by rw [St_len]; decide
  with_reducible rw [h1, Option.bind_some, Option.bind_some, if_pos h3]
  exact h2
end
section
open Go.RowKit Go.Proofs.YtaaepadhapfkoaaW.PrintWords Go.Proofs.YtaaepadhapfkoaaW.PrintLast Go.Proofs.YtaaepadhapfkoaaW.PrintMore
open PPlace

theorem fill_last (v : Int) (i : Int) (k : Nat) (l : List Nat) (y : Nat) (j : Int) (hi : i ≥ 0) (hp : 0 ≤ IntKind.u64.wrap (8 * IntKind.u64.wrap i)) (hl : l.length < 140737488355328) (hv : shr .u64 v (IntKind.u64.wrap (8 * IntKind.u64.wrap i)) % 256 = (y : Int)) (hj : wrap64 (i - 1) = j) :
    chartularyref01_filled.l1 (k + 1) (zI l) v i = chartularyref01_filled.l1 k (zI (l ++ [y])) v j := by
  rw [chartularyref01_filled.l1]
  have hl' : (zI l).length < 140737488355328 := by rw [zI_len]; exact hl
  with_reducible rw [if_pos hi, if_pos hp, if_pos hl', hv, hj, zI_snoc]
theorem fill_end (k : Nat) (l : List Nat) (hl : l.length < 1000) : chartularyref01_filled.l1 (k + 9) (zI l) 264 7 = some (zI (l ++ [0, 0, 0, 0, 0, 0, 1, 8])) := by
  rw [fill_last 264 7 (k + 8) l 0 6 (by decide) (by decide) (by omega) (by decide) (by unfold wrap64; decide),
    fill_last 264 6 (k + 7) _ 0 5 (by decide) (by decide) (by simp; omega) (by decide) (by unfold wrap64; decide),
    fill_last 264 5 (k + 6) _ 0 4 (by decide) (by decide) (by simp; omega) (by decide) (by unfold wrap64; decide),
    fill_last 264 4 (k + 5) _ 0 3 (by decide) (by decide) (by simp; omega) (by decide) (by unfold wrap64; decide),
    fill_last 264 3 (k + 4) _ 0 2 (by decide) (by decide) (by simp; omega) (by decide) (by unfold wrap64; decide),
    fill_last 264 2 (k + 3) _ 0 1 (by decide) (by decide) (by simp; omega) (by decide) (by unfold wrap64; decide),
    fill_last 264 1 (k + 2) _ 1 0 (by decide) (by decide) (by simp; omega) (by decide) (by unfold wrap64; decide),
    fill_last 264 0 (k + 1) _ 8 (-1) (by decide) (by decide) (by simp; omega) (by decide) (by unfold wrap64; decide)]
  rw [chartularyref01_filled.l1]
  have h : ¬ ((-1 : Int) ≥ 0) := by decide
  with_reducible rw [if_neg h]
  simp
theorem fill_zeros (m : List Nat) (hm : m.length = 33) : ∀ (j : Nat) (l : List Nat) (k : Nat), l.length + j = 56 → chartularyref01_filled.l0 (k + 9 + j + 1) (zI m) (zI l) = some (zI (l ++ List.replicate j 0 ++ [0, 0, 0, 0, 0, 0, 1, 8])) := by
  intro j
  induction j with
  | zero =>
    intro l k h
    have hc : ((zI l).length : Int) % 64 = 56 := by rw [zI_len]; omega
    have hz : IntKind.u64.wrap (IntKind.u64.wrap ((zI m).length : Int) * 8) = 264 := by rw [zI_len, hm]; decide
    rw [chartularyref01_filled.l0]
    with_reducible rw [if_pos hc, hz]
    rw [List.replicate_zero, List.append_nil]
    exact fill_end k l (by omega)
  | succ j IH =>
    intro l k h
    by_cases hc : ((zI l).length : Int) % 64 = 56
    · rw [zI_len] at hc; omega
    · have hl : (zI l).length < 140737488355328 := by rw [zI_len]; omega
      have ih := IH (l ++ [0]) k (by rw [List.length_append]; simp; omega)
      rw [show k + 9 + (j + 1) + 1 = (k + 9 + j + 1) + 1 by omega, chartularyref01_filled.l0]
      with_reducible rw [if_neg hc, if_pos hl]
      have e : zI l ++ [0] = zI (l ++ [0]) := zI_snoc l 0
      rw [e, ih, List.append_assoc l [0]]
      rfl
theorem filled_f (m : List Nat) (hm : m.length = 33) (k : Nat) : chartularyref01_filled.f (k + 32) (zI m) = some (zI (Sha.tail m)) := by
  unfold chartularyref01_filled.f
  have h1 : ([] : List Int).length + (zI m).length < 140737488355328 := by rw [zI_len, hm]; decide
  have h2 : ([] ++ zI m : List Int).length < 140737488355328 := by rw [List.nil_append, zI_len, hm]; decide
  have e : ([] ++ zI m : List Int) ++ [128] = zI (m ++ [128]) := zI_snoc m 128
  with_reducible rw [Option.bind_some, if_pos h1, Option.bind_some, if_pos h2, e]
  have h := fill_zeros m hm 22 (m ++ [128]) k (by rw [List.length_append, hm]; rfl)
  have et : Sha.tail m = m ++ [128] ++ List.replicate 22 0 ++ [0, 0, 0, 0, 0, 0, 1, 8] := by
    unfold Sha.tail
    rw [hm]
    rfl
  rw [et]
  exact h
theorem tail33 {m : List Nat} (hm : m.length = 33) : (Sha.tail m).length = 64 := by
  unfold Sha.tail
  rw [hm]
  simp only [List.length_append, List.length_drop, List.length_replicate, List.length_cons, List.length_nil, Sha.be_len]
  omega
/-- the digest of a message of 33 bytes: one block -/
theorem fin33 {m : List Nat} (hm : m.length = 33) : Sha.fin m = Sha.block Sha.H0 (Sha.tail m) := by
  have e : Sha.part (Sha.tail m) 0 = Sha.tail m := by
    unfold Sha.part
    rw [Nat.mul_zero, List.drop_zero, List.take_of_length_le (by rw [tail33 hm]; omega)]
  unfold Sha.fin
  rw [tail33 hm, hm]
  show Sha.after (Sha.tail m) (Sha.after m Sha.H0 0) 1 = _
  rw [Sha.after, Sha.after, Sha.after, e]
theorem flat_be : ∀ (l : List Nat) (q r : Nat), r < 4 → q < l.length → (l.flatMap fun x => Sha.be x 4).getD (4 * q + r) 0 = (Sha.be (l.getD q 0) 4).getD r 0
  | x :: l, 0, r, hr, _ => by
    rw [List.flatMap_cons, List.getD_eq_getElem?_getD, List.getElem?_append_left (by rw [Sha.be_len]; omega), Nat.mul_zero, Nat.zero_add]
    rfl
  | x :: l, q + 1, r, hr, hq => by
    rw [List.flatMap_cons, List.getD_eq_getElem?_getD, List.getElem?_append_right (by rw [Sha.be_len]; omega), Sha.be_len, show 4 * (q + 1) + r - 4 = 4 * q + r by omega, ← List.getD_eq_getElem?_getD, flat_be l q r hr (by simpa using hq)]
    rfl
theorem sum_get (m : List Nat) (q r : Nat) (hr : r < 4) (hq : q < 8) : (Sha.sum m).getD (4 * q + r) 0 = ((Sha.fin m).l.getD q 0) / 2 ^ (24 - 8 * r) % 256 := by
  unfold Sha.sum
  rw [flat_be _ q r hr (show q < (Sha.fin m).l.length from hq)]
  generalize (Sha.fin m).l.getD q 0 = x
  obtain rfl | rfl | rfl | rfl : r = 0 ∨ r = 1 ∨ r = 2 ∨ r = 3 := by omega
  · show x / 256 / 256 / 256 % 256 = _; omega
  · show x / 256 / 256 % 256 = _; omega
  · show x / 256 % 256 = _; omega
  · show x % 256 = _; omega
end
section
open Go.RowKit Go.Proofs.YtaaepadhapfkoaaW.PrintWords Go.Proofs.YtaaepadhapfkoaaW.PrintLast Go.Proofs.YtaaepadhapfkoaaW.PrintMore
open PPlace

/-- a row of its own, opened -/
theorem row_form {d : Kd Int} {e base : Nat} {w : World} {v : Value} {xs : List Int} {n : Nat} (h : d.R e w base (fun _ => True) v xs) (hn : xs.length = n) (h0 : 0 < n) : ∃ g c, v = .slice (some ⟨g, 0, none⟩) n c ∧ n ≤ c ∧ d.C w (some ⟨g, 0, none⟩) n xs := by
  subst hn
  obtain ⟨g, c, rfl, _⟩ := Kd.R_form h h0
  obtain ⟨_, h2, h3⟩ := Kd.R_reads' h
  exact ⟨g, c, rfl, h2, h3⟩
theorem first_c (u : World) : Calls Try.prog 120 #[] u fun e w' => ∃ g c, e = .returned (.slice (some ⟨g, 0, none⟩) 8 c) ∧ 8 ≤ c ∧ (Kd.int .u32).C w' (some ⟨g, 0, none⟩) 8 (zI Sha.H0.l) ∧ Below u.heap.size u w' :=
  (chartularyref01_first.calls (zI Sha.H0.l) u rfl).mono fun e w' h => by
    obtain ⟨v, rfl, hr, hb⟩ := h
    obtain ⟨g, c, rfl, h1, h2⟩ := row_form hr (St_len _) (by omega)
    exact ⟨g, c, rfl, h1, h2, hb⟩
theorem constants_c (u : World) : Calls Try.prog 121 #[] u fun e w' => ∃ g c, e = .returned (.slice (some ⟨g, 0, none⟩) 64 c) ∧ 64 ≤ c ∧ (Kd.int .u32).C w' (some ⟨g, 0, none⟩) 64 (zI Sha.K) ∧ Below u.heap.size u w' :=
  (chartularyref01_constants.calls (zI Sha.K) u rfl).mono fun e w' h => by
    obtain ⟨v, rfl, hr, hb⟩ := h
    obtain ⟨g, c, rfl, h1, h2⟩ := row_form hr (zI_len _) (by decide)
    exact ⟨g, c, rfl, h1, h2, hb⟩
theorem filled_c (A : Option Addr) (c0 : Nat) (m : List Nat) (u : World) (hm : m.length = 33) (hc : 33 ≤ c0) (hr : (Kd.int .u8).C u A 33 (zI m)) : Calls Try.prog 122 #[.slice A 33 c0] u fun e w' => ∃ g c, e = .returned (.slice (some ⟨g, 0, none⟩) 64 c) ∧ 64 ≤ c ∧ (Kd.int .u8).C w' (some ⟨g, 0, none⟩) 64 (zI (Sha.tail m)) ∧ Below u.heap.size u w' := by
  have e : (zI m).length = 33 := by rw [zI_len, hm]
  have h := chartularyref01_filled.calls 32 A c0 (zI m) (zI (Sha.tail m)) u (by rw [e]; exact hr) (by rw [e]; exact hc) (filled_f m hm 0)
  rw [e] at h
  refine h.mono fun e w' h => ?_
  obtain ⟨v, rfl, hr, hb⟩ := h
  obtain ⟨g, c, rfl, h1, h2⟩ := row_form hr (by rw [zI_len, tail33 hm]) (by omega)
  exact ⟨g, c, rfl, h1, h2, hb⟩
theorem block_c (s : Sha.St) (b : List Nat) (hs : s.ok) (hb : ∀ c ∈ b, c < 256) (hl : b.length = 64) (A0 A1 A2 : Option Addr) (c0 c1 c2 : Nat) (u : World) (h0 : 8 ≤ c0) (h1 : 64 ≤ c1) (h2 : 64 ≤ c2)
    (r0 : (Kd.int .u32).C u A0 8 (zI s.l)) (r1 : (Kd.int .u32).C u A1 64 (zI Sha.K)) (r2 : (Kd.int .u8).C u A2 64 (zI b)) :
    Calls Try.prog 123 #[.slice A0 8 c0, .slice A1 64 c1, .slice A2 64 c2] u fun e w' => ∃ g c, e = .returned (.slice (some ⟨g, 0, none⟩) 8 c) ∧ 8 ≤ c ∧ (Kd.int .u32).C w' (some ⟨g, 0, none⟩) 8 (zI (Sha.block s b).l) ∧ Below u.heap.size u w' := by
  have e1 : (zI Sha.K).length = 64 := zI_len _
  have e2 : (zI b).length = 64 := by rw [zI_len, hl]
  have h := chartularyref01_block.calls 74 A0 c0 (zI s.l) A1 c1 (zI Sha.K) A2 c2 (zI b) (zI (Sha.block s b).l) u r0 h0 (by rw [e1]; exact r1) (by rw [e1]; exact h1) (by rw [e2]; exact r2) (by rw [e2]; exact h2) (block_f s b hs hb hl 0)
  rw [e1, e2] at h
  refine h.mono fun e w' h => ?_
  obtain ⟨v, rfl, hr, hb⟩ := h
  obtain ⟨g, c, rfl, h1, h2⟩ := row_form hr (St_len _) (by omega)
  exact ⟨g, c, rfl, h1, h2, hb⟩
theorem c_cell {w : World} {g n q : Nat} {l : List Nat} (h : (Kd.int .u32).C w (some ⟨g, 0, none⟩) n (zI l)) (hq : q < n) : w.cell? ⟨g, q, none⟩ = some (.int .u32 ((l.getD q 0 : Nat) : Int)) := by
  obtain ⟨ad, he, hc⟩ := (Kd.reads_of_C (enc := Value.int .u32) (d := (0 : Int)) (h1 := fun _ => rfl) h).at_ (q : Int) (by omega) (by omega)
  cases he
  have e : (zI l).getD q 0 = ((l.getD q 0 : Nat) : Int) := rd_zI l q
  rw [← e]
  have := hc
  rw [Int.toNat_natCast, show (⟨g, 0, none⟩ : Addr).add q = ⟨g, q, none⟩ by unfold Addr.add; split <;> simp_all] at this
  exact this
theorem fin_lt' (m : List Nat) (q : Nat) : (Sha.fin m).l.getD q 0 < 4294967296 := Sha.get_lt (by omega) (Sha.fin_lt m) q
/-- what is written of the digest -/
def outS (m : List Nat) (k : Nat) : List Nat := (Sha.sum m).take k ++ List.replicate (32 - k) 0
theorem outS_len (m : List Nat) {k : Nat} (h : k ≤ 32) : (outS m k).length = 32 := by
  unfold outS
  rw [List.length_append, List.length_take, Sha.sum_len, List.length_replicate]; omega
theorem outS_all (m : List Nat) : outS m 32 = Sha.sum m := by
  unfold outS
  rw [List.take_of_length_le (by rw [Sha.sum_len]; omega)]
  exact List.append_nil _
theorem outS_set (m : List Nat) (k : Nat) (h : k < 32) : (cellsOf (outS m k)).toArray.setIfInBounds k (.int .u8 ((Sha.sum m).getD k 0 : Nat)) = (cellsOf (outS m (k + 1))).toArray := by
  have e : outS m (k + 1) = (outS m k).set k ((Sha.sum m).getD k 0) := by
    unfold outS
    have hs := Sha.sum_len m
    rw [take_snoc (by omega), List.set_append_right _ _ (by rw [List.length_take]; omega), List.length_take, show k - min k (Sha.sum m).length = 0 by omega, show 32 - k = (32 - (k + 1)) + 1 by omega, List.replicate_succ, List.set_cons_zero, List.append_assoc]
    rfl
  rw [e]
  simp only [cellsOf, List.map_set, List.setIfInBounds_toArray]
set_option maxHeartbeats 4000000 in
set_option maxRecDepth 100000 in
theorem sumR_any (A : Option Addr) (c0 : Nat) (m : List Nat) (w : World) (hm : m.length = 33) (hb : ∀ c ∈ m, c < 256) (hc : 33 ≤ c0) (hr : (Kd.int .u8).C w A 33 (zI m)) :
    Calls Try.prog 99 #[.slice A 33 c0] w fun e w' => e = .returned (.agg (cellsOf (Sha.sum m)).toArray) ∧ Below w.heap.size w w' := by
  have hz := zero23'
  have hz0 : (cellsOf (List.replicate 32 0)).toArray = (cellsOf (outS m 0)).toArray := rfl
  have hzs : (cellsOf (List.replicate 32 0)).toArray.size = 32 := rfl
  obtain ⟨z, hzz⟩ : ∃ z, (cellsOf (List.replicate 32 0)).toArray = z := ⟨_, rfl⟩
  rw [hzz] at hz hz0 hzs
  have HZ0 := Hf.mk hz0
  have HZS := Hf.mk hzs
  obtain ⟨W0, hW0⟩ : ∃ W0, w.alloc (.cells z 23) = W0 := ⟨_, rfl⟩
  have hb0 : Below w.heap.size w W0 := by rw [← hW0]; exact (Below.refl _ _).alloc (Nat.le_refl _) _
  have hi0 : W0.heap[w.heap.size]? = some (.cells z 23 (0, 0)) := by rw [← hW0]; exact heap_alloc_new _ _
  have HB0 := Hf.mk hb0
  have HI0 := Hf.mk hi0
  have HR0 := Hf.mk (Kd.C_below hr hb0)
  have HM := Hf.mk hm
  have HB := Hf.mk hb
  have HTL : Hf (∀ c ∈ Sha.tail m, c < 256) := ⟨Sha.tail_lt m hb⟩
  have HT6 := Hf.mk (tail33 hm)
  have HFIN := Hf.mk (fin33 hm)
  clear hb0 hi0 hzz hz0 hzs hm hb hr
  go_enter Try.func99, Try.ntmps99
  go_upto_region 1 with fail
  go_upto_region 4 with (first
      | (go_at_call 120; (with_reducible refine (first_c _).mono ?_); rintro e w1 ⟨g1, c1, rfl, h1, hc1, hb1⟩; have H1 := Hf.mk hc1; have HB1 := Hf.mk hb1; clear hc1 hb1)
      | (go_at_call 121; (with_reducible refine (constants_c _).mono ?_); rintro e w2 ⟨g2, c2, rfl, h2, hc2, hb2⟩; have H2 := Hf.mk hc2; have HB2 := Hf.mk hb2; clear hc2 hb2)
      | (go_at_call 122; (with_reducible refine (filled_c A c0 m _ HM.out hc (Kd.C_below (Kd.C_below HR0.out HB1.out) HB2.out)).mono ?_); rintro e w3 ⟨g3, c3, rfl, h3, hc3, hb3⟩; have H3 := Hf.mk hc3; have HB3 := Hf.mk hb3; clear hc3 hb3))
  have HA1 := Hf.mk (Kd.C_below (Kd.C_below H1.out HB2.out) HB3.out)
  have HA2 := Hf.mk (Kd.C_below H2.out HB3.out)
  have HBW := Hf.mk (below_step HB1.out (below_step HB2.out HB3.out))
  go_loopw [3, 6] (fun v3 v6 wr => ∃ (k : Nat) (g c : Nat), k ≤ 1 ∧ v6 = .int .i64 (64 * (k : Int)) ∧ v3 = .slice (some ⟨g, 0, none⟩) 8 c ∧ 8 ≤ c ∧ Hf ((Kd.int .u32).C wr (some ⟨g, 0, none⟩) 8 (zI (if k = 0 then Sha.H0 else Sha.fin m).l)) ∧ Hf (Below w3.heap.size w3 wr)) (fun _ i _ => 128 - (intOf i).toNat)
  case atStart => exact ⟨0, g1, c1, by omega, rfl, rfl, h1, HA1, ⟨Below.refl _ _⟩⟩
  case round =>
    obtain ⟨k, g, c, hk, rfl, rfl, hgc, HC, HBR⟩ := hrel
    by_cases hgo : k = 0
    · subst hgo
      have HBK := Hf.mk (block_c Sha.H0 (Sha.tail m) Sha.H0_ok HTL.out HT6.out (some ⟨g, 0, none⟩) (some ⟨g2, 0, none⟩) (some ⟨g3, 0, none⟩) c c2 c3 wr hgc h2 h3 HC.out (Kd.C_below HA2.out HBR.out) (Kd.C_below H3.out HBR.out))
      rw [← HFIN.out] at HBK
      go_wp2_with (go_at_call 123; (with_reducible refine HBK.out.mono ?_); rintro e w4 ⟨g4, c4, rfl, h4, hc4, hb4⟩; have H4 := Hf.mk hc4; have HB4 := Hf.mk hb4; clear hc4 hb4)
      go_roundw
      case rel => exact ⟨1, g4, c4, by omega, by go_num, rfl, h4, H4, ⟨below_step HBR.out HB4.out⟩⟩
      case measure => simp [intOf]
    · obtain rfl : k = 1 := by omega
      obtain ⟨wA, hwA⟩ : ∃ v, v = wr := ⟨_, rfl⟩
      subst hwA
      have HC1 : Hf ((Kd.int .u32).C wA (some ⟨g, 0, none⟩) 8 (zI (Sha.fin m).l)) := HC
      clear HC
      have HBX := Hf.mk (below_step HBW.out HBR.out)
      have HIX := Hf.mk ((HBX.out.block _ (Array.getElem?_eq_some_iff.1 HI0.out).1).trans HI0.out)
      have HBA := Hf.mk (below_step HB0.out HBX.out)
      have HSZ : Hf (w.heap.size < wA.heap.size) := ⟨(Array.getElem?_eq_some_iff.1 HIX.out).1⟩
      have HX : Hf ((wA.alloc (.cells z 23)).heap[wA.heap.size]? = some (.cells z 23 (0, 0))) := ⟨heap_alloc_new _ _⟩
      go_upto_region 8 with fail
      go_wp2
      go_loopw [8] (fun v8 wx => ∃ (k : Nat), k ≤ 32 ∧ v8 = .int .i64 (k : Int) ∧ Hf (wx.heap[wA.heap.size]? = some (.cells (cellsOf (outS m k)).toArray 23 (0, 0))) ∧ Hf (Below wA.heap.size wA wx)) (fun i _ => 32 - (intOf i).toNat)
      case atStart => exact ⟨0, by omega, rfl, ⟨by rw [← HZ0.out]; exact HX.out⟩, ⟨(Below.refl _ _).alloc (Nat.le_refl _) _⟩⟩
      case round =>
        obtain ⟨k, hk, rfl, HO, HBY⟩ := hrel
        by_cases hgo : k < 32
        · obtain ⟨q, r, hq, hr4, hkq⟩ : ∃ q r, q < 8 ∧ r < 4 ∧ 4 * q + r = k := ⟨k / 4, k % 4, by omega, by omega, by omega⟩
          have hgo2 : (k : Int) < 32 := by omega
          have hdiv : (k : Int) / 4 = (q : Int) := by omega
          have hget := sum_get m q r hr4 hq
          rw [hkq] at hget
          have hq2 : (q : Int) < 8 := by omega
          have q0 := c_cell (Kd.C_below HC1.out HBY.out) hq
          have hset := outS_set m k hgo
          rw [hget] at hset
          have c0 := Go.Joins.cell_of_block HO.out k
          rw [show (cellsOf (outS m k)).toArray[k]? = some (.int .u8 ((outS m k).getD k 0 : Nat)) by simpa using cellsOf_at (l := outS m k) (j := k) (by rw [outS_len m (by omega)]; exact hgo)] at c0
          have f0 := Go.Joins.unfrozen_of_block HO.out k
          generalize (outS m k).getD k 0 = c3 at c0
          have hx := fin_lt' m q
          obtain ⟨x, hxx⟩ : ∃ x, (Sha.fin m).l.getD q 0 = x := ⟨_, rfl⟩
          rw [hxx] at q0 hset hx
          have HSET := Hf.mk hset
          have hm4 : (k : Int) % 4 = (r : Int) := by clear hget hset hxx; omega
          clear hset hget hxx hkq
          obtain rfl | rfl | rfl | rfl : r = 0 ∨ r = 1 ∨ r = 2 ∨ r = 3 := by omega
          all_goals
            go_wp2
            go_roundw
            case rel =>
              refine ⟨k + 1, by omega, by go_num, ⟨?_⟩, ⟨HBY.out.setCell (Nat.le_refl _) _⟩⟩
              rw [← HSET.out]
              refine (Go.Joins.block_setCell HO.out _).trans ?_
              congr 4
              all_goals (simp only [Nat.mul_zero, Nat.sub_zero, Nat.reduceMul, Nat.reduceSub, Nat.reducePow]; omega)
            case measure => simp [intOf]; omega
        · obtain rfl : k = 32 := by omega
          have HO32 : Hf ((cellsOf (outS m 32)).toArray.size = 32) := ⟨by rw [List.size_toArray, cellsOf_length, outS_len m (Nat.le_refl _)]⟩
          have HOO : Hf ((cellsOf (outS m 32)).toArray.all (·.oneCell') = true) := ⟨by
            rw [Array.all_eq_true']
            intro v hv
            exact cellsOf_one _ v (by simpa using hv)⟩
          have HI2 : Hf (wr.heap[w.heap.size]? = some (.cells z 23 (0, 0))) := ⟨(HBY.out.block _ HSZ.out).trans HIX.out⟩
          have HRT : Hf ((cellsOf (Sha.sum m)).toArray = (cellsOf (outS m 32)).toArray) := ⟨by rw [outS_all]⟩
          have HBF := Hf.mk (below_step HBA.out HBY.out)
          generalize (cellsOf (outS m 32)).toArray = zs at *
          go_wp2_with (first
            | (with_reducible refine wpList_load_row rfl 23 _ rfl wA.heap.size rfl 23 zs (0, 0) _ HO.out Try.underlying23 rfl (size23.trans (by rw [HO32.out])) ?_)
            | (with_reducible refine wpList_store_row rfl 23 _ _ rfl w.heap.size zs rfl rfl 23 z HI2.out (size23.trans (by rw [HO32.out])) (by rw [HZS.out, HO32.out]) HOO.out ?_))
          (try simp only [Exit.inBlock, Exit.then])
          refine bodyPost_ret (results_cell_row rfl _ _ w.heap.size 23 zs (0, 0) _ rfl (setRow_heap _ _ z zs 23 (0, 0) HI2.out) Try.underlying23 rfl (size23.trans (by rw [HO32.out]))) rfl ?_
          exact ⟨by rw [HRT.out], HBF.out.trans ⟨rfl, rfl, rfl, by simp, fun i hi => setRow_other _ _ i _ (by omega)⟩⟩
end
section
open Go.RowKit Go.Proofs.YtaaepadhapfkoaaW.PrintWords Go.Proofs.YtaaepadhapfkoaaW.PrintLast Go.Proofs.YtaaepadhapfkoaaW.PrintMore

theorem encs_bytes (l : List Nat) : encs (Value.int .u8) (zI l) = cellsOf l := by
  unfold encs zI cellsOf
  rw [List.map_map]
  rfl
theorem own_C {w : World} {base n : Nat} {v : Value} {l : List Nat} (h : w.ownsRow base 5 1 v n (cellsOf l)) : ∃ A c, v = .slice A n c ∧ n ≤ c ∧ (Kd.int .u8).C w A n (zI l) := by
  rw [← encs_bytes] at h
  obtain ⟨A, c, hv, hc, hr⟩ := own_reads_of_le (d := (0 : Int)) h
  exact ⟨A, c, hv, hc, Kd.C_of_reads hr⟩
set_option maxHeartbeats 2000000 in
set_option maxRecDepth 100000 in
theorem weightR_any (id : List Nat) (n : Nat) (w : World) (hl : id.length = 32) (hb : ∀ c ∈ id, c < 256) (hn : n ≤ 64) :
    Calls Try.prog 62 #[.agg (cellsOf id).toArray, .int .i64 n] w fun e w' => e = .returned (.int .u64 (wOf id n)) ∧ Below w.heap.size w w' := by
  have HR := Hf.mk (reads_heap hb (heap_alloc_new w (.cells (cellsOf id).toArray 23)))
  have HBL : Hf (Below w.heap.size w (w.alloc (.cells (cellsOf id).toArray 23))) := ⟨(Below.refl _ _).alloc (Nat.le_refl _) _⟩
  have HL := Hf.mk hl
  have HB : Hf (∀ c ∈ id ++ [n], c < 256) := ⟨fun c hc => by
    rcases List.mem_append.1 hc with h | h
    · exact hb c h
    · have := List.mem_singleton.1 h; omega⟩
  have HLEN : Hf ((id ++ [n]).length = 33) := ⟨by rw [List.length_append, hl]; rfl⟩
  have HCE : Hf (cellsOf id ++ [Value.int .u8 (n : Int)] = cellsOf (id ++ [n])) := ⟨by simp [cellsOf]⟩
  have HSM := Hf.mk (fun (A : Option Addr) (c : Nat) (u : World) (hc : 33 ≤ c) (h : (Kd.int .u8).C u A 33 (zI (id ++ [n]))) => sumR_any A c (id ++ [n]) u HLEN.out HB.out hc h)
  have HWG := Hf.mk (fun u => weighR_any (Sha.sum (id ++ [n])) u (Sha.sum_len _) (Sha.sum_lt _))
  have HWO : Hf (wOf id n = num ((Sha.sum (id ++ [n])).take 8)) := ⟨rfl⟩
  generalize num ((Sha.sum (id ++ [n])).take 8) = wt at HWG HWO
  generalize (cellsOf (Sha.sum (id ++ [n]))).toArray = zd at HSM HWG
  clear hl hb
  generalize (cellsOf id).toArray = zs at *
  have hn' : (n : Int) ≤ 64 := by omega
  obtain ⟨i5, hi5, hz50, hz51, hz52⟩ := info_parts info5
  go_enter Try.func62, Try.ntmps62
  go_upto_region 1 with fail
  generalize w.alloc (.cells zs 23) = W at HR HBL ⊢
  go_wp2
  go_loopw [5, 6] (fun v i wr => ∃ k : Nat, k ≤ 32 ∧ i = .int .i64 k ∧ Hf (wr.ownsRow W.heap.size 5 1 v k (cellsOf (id.take k))) ∧ Hf (Below W.heap.size W wr)) (fun _ i _ => 32 - (intOf i).toNat)
  case atStart => exact ⟨0, by omega, rfl, ⟨World.ownsRow_nil _ _ _ _⟩, ⟨Below.refl _ _⟩⟩
  case round =>
    obtain ⟨k, hk, rfl, HO, HW⟩ := hrel
    have HGE : Hf (W.heap.size ≤ wr.heap.size) := ⟨HW.out.size⟩
    by_cases hgo : k < 32
    · have hgo2 : (k : Int) < 32 := by omega
      obtain ⟨_, _, q, hbb, hc⟩ := (HR.out.below HW.out).form (by rw [HL.out]; omega)
      cases q
      have q0 := hc k (by rw [HL.out]; exact hgo)
      rw [Nat.zero_add] at q0
      have HTK : Hf (cellsOf (id.take (k + 1)) = cellsOf (id.take k) ++ [.int .u8 (id.getD k 0 : Nat)]) := ⟨by rw [take_snoc (by rw [HL.out]; exact hgo)]; simp [cellsOf]⟩
      generalize id.getD k 0 = x at q0 HTK
      have HMX : Hf (k + 1 ≤ maxLen) := ⟨by unfold maxLen; omega⟩
      clear hc hbb
      go_wp2_with (at_builtin; refine wpList_append_own _ rfl (.tmp 11) (.tmp 15) 54 rfl W.heap.size 5 i5 (.int .u8 0) 1 1 Try.underlying54 hi5 hz50 hz51 hz52 rfl (by decide) _ k (cellsOf (id.take k)) rfl (HO.out.alloc _) ⟨wr.heap.size, 0, none⟩ 1 1 [.int .u8 (x : Nat)] rfl rfl (new_cells1 _ _ _) (by simp [Value.oneCell']) HMX.out (by omega) (by have := HGE.out; simp; omega) ?_; intro v4 w4 hown4 hgrow4 _; have HO4 := Hf.mk hown4; have HB4 := Hf.mk (below_own (HO.out.alloc _) (Below.refl wr.heap.size wr) hgrow4 HGE.out); clear hown4 hgrow4)
      go_roundw
      case rel => exact ⟨k + 1, by omega, by go_num, ⟨by rw [HTK.out]; exact HO4.out⟩, ⟨HW.out.trans HB4.out⟩⟩
      case measure => simp [intOf]; omega
    · obtain rfl : k = 32 := by omega
      have hid : id.take 32 = id := List.take_of_length_le (by rw [HL.out]; omega)
      rw [hid] at HO
      have HMX : Hf (32 + 1 ≤ maxLen) := ⟨by unfold maxLen; omega⟩
      have HBW := Hf.mk (below_step HBL.out HW.out)
      have HBA := Hf.mk HBL.out.size
      clear hid
      go_wp2_with (first
        | (at_builtin; refine wpList_append_own _ rfl (.tmp 17) (.tmp 20) 54 rfl W.heap.size 5 i5 (.int .u8 0) 1 1 Try.underlying54 hi5 hz50 hz51 hz52 rfl (by decide) _ 32 (cellsOf id) rfl (HO.out.alloc _) ⟨wr.heap.size, 0, none⟩ 1 1 [.int .u8 (n : Int)] rfl rfl (new_cells1 _ _ _) (by simp [Value.oneCell']) HMX.out (by omega) (by have := HGE.out; simp; omega) ?_; intro v4 w4 hown4 hgrow4 _; have HB4 := Hf.mk (below_own (HO.out.alloc _) (Below.refl wr.heap.size wr) hgrow4 HGE.out); rw [HCE.out] at hown4; obtain ⟨A, c, rfl, hcc, hC⟩ := own_C hown4; have HC4 := Hf.mk hC; clear hown4 hgrow4 hC)
        | (go_at_call 99; (with_reducible refine (HSM.out A c _ hcc HC4.out).mono ?_); rintro e w5 ⟨rfl, hb5⟩; have HB5 := Hf.mk hb5; clear hb5)
        | (go_at_call 21; (with_reducible refine (HWG.out _).mono ?_); rintro e w6 ⟨rfl, hb6⟩; have HB6 := Hf.mk hb6; clear hb6))
      go_ret
      exact ⟨by rw [HWO.out]; rfl, below_step HBL.out ((HW.out.trans HB4.out).trans ((below_step HB5.out HB6.out).mono (HW.out.trans HB4.out).size))⟩
end
end Go.Proofs.Ytaaepadhapfkoaa
