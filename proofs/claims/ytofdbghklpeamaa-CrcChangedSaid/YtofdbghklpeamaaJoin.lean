/-
  Two sums joined: the program's and the reference's functions.
-/
import Derived.Test.YtofdbghklpeamaaTimes
namespace Go.Proofs.Ytofdbghklpeamaa
open Go.RowKit

set_option maxHeartbeats 400000 in
theorem join_no (a b n : Int) (hn : n < 0 ∨ 2147483647 < n) (w : World) :
    Calls Try.prog 16 #[.int .u32 a, .int .u32 b, .int .i64 n] w fun e w' => e = .returned (.tuple #[.int .u32 0, .int .i64 2]) ∧ w = w' := by
  rcases hn with hn | hn
  · go_enter Try.func16, Try.ntmps16
    go_wp2
    go_ret2
    exact ⟨rfl, rfl⟩
  · have h0 : ¬ n < 0 := by omega
    go_enter Try.func16, Try.ntmps16
    go_wp2
    go_ret2
    exact ⟨rfl, rfl⟩
set_option maxHeartbeats 400000 in
theorem refjoin_no (a b n : Int) (hn : n < 0 ∨ 2147483647 < n) (w : World) :
    Calls Try.prog 17 #[.int .u32 a, .int .u32 b, .int .i64 n] w fun e w' => e = .returned (.tuple #[.int .u32 0, .int .i64 2]) ∧ w = w' := by
  rcases hn with hn | hn
  · go_enter Try.func17, Try.ntmps17
    go_wp2
    go_ret2
    exact ⟨rfl, rfl⟩
  · have h0 : ¬ n < 0 := by omega
    go_enter Try.func17, Try.ntmps17
    go_wp2
    go_ret2
    exact ⟨rfl, rfl⟩
set_option maxHeartbeats 400000 in
theorem refjoin_yes (a b : Nat) (ha : a < 4294967296) (hb : b < 4294967296) (n : Nat) (hn : n ≤ 2147483647) (w : World) :
    Calls Try.prog 17 #[.int .u32 a, .int .u32 b, .int .i64 n] w fun e w' => e = .returned (.tuple #[.int .u32 (Crc.join a b n), .int .i64 0]) ∧ w = w' := by
  have h0 : ¬ (n : Int) < 0 := by omega
  have h1 : ¬ 2147483647 < (n : Int) := by omega
  go_enter Try.func17, Try.ntmps17
  go_wp2
  go_loop [0, 8] (fun v i => ∃ k : Nat, k ≤ n ∧ i = .int .i64 k ∧ v = .int .u32 (Crc.on a (8 * k))) (fun _ i => n - (intOf i).toNat)
  case atStart => exact ⟨0, by omega, rfl, rfl⟩
  case round =>
    obtain ⟨k, hk, rfl, rfl⟩ := hrel
    have hy := Crc.on_lt (8 * k) ha
    have hst := Crc.on_add (8 * k) 8 a
    obtain ⟨y, hyy⟩ : ∃ y, y = Crc.on a (8 * k) := ⟨_, rfl⟩
    rw [← hyy] at hy hst ⊢
    have H := Lib.hid hyy
    have Hst := Lib.hid hst
    clear hyy hst
    by_cases hlt : k < n
    · go_wp2_with (go_at_call 24; (with_reducible refine (refon_any y hy 8 (by omega) (by omega) _).mono ?_); rintro e w' ⟨rfl, rfl⟩)
      go_round
      case rel => exact ⟨k + 1, by omega, by go_num, vint (by rw [show 8 * (k + 1) = 8 * k + 8 from by omega, Hst.out])⟩
      case measure => simp [intOf]; omega
    · have hk' : k = n := by omega
      have hx := u32xor y b y b rfl rfl hy hb
      have Hx := Lib.hid hx
      have Hk := Lib.hid hk'
      clear hx hk'
      go_wp2
      go_ret2
      exact ⟨by rw [Hx.out, H.out, Hk.out]; rfl, rfl⟩
theorem i64_and1 (q : Nat) (hq : q ≤ 2147483647) : bits BinOp.and IntKind.i64 (q : Int) 1 = ((q % 2 : Nat) : Int) := by
  show IntKind.i64.wrap ((BitVec.ofInt 64 (q : Int) &&& BitVec.ofInt 64 1).toNat : Int) = _
  have e : (BitVec.ofInt 64 (q : Int) &&& BitVec.ofInt 64 1).toNat = q % 2 := by
    rw [BitVec.toNat_and, BitVec.ofInt_natCast, BitVec.toNat_ofNat, Nat.mod_eq_of_lt (by omega)]
    exact Nat.and_one_is_mod q
  rw [e]
  exact IntWalk.i64_in _ (by omega)
theorem shl_one (k : Nat) (hk : k < 32) : (2 : Nat) ^ k < 4294967296 := Nat.pow_lt_pow_right (by omega) (n := 32) hk
theorem squared (p i : Nat) (hi : i < 32) : (rowTo 32 (fun i => Crc.timesTo (fun i => Crc.on (2 ^ i) p) (Crc.on (2 ^ i) p) 32) 32)[i]? = some (.int .u32 (Crc.on (2 ^ i) (2 * p) : Nat)) := by
  rw [rowTo_get 32 _ 32 i hi hi, Crc.times_on _ p _ (Crc.on_lt p (shl_one i hi)) (fun j _ => rfl), ← Crc.on_add, ← Nat.two_mul]
set_option maxHeartbeats 1600000 in
theorem join_yes (a b : Nat) (ha : a < 4294967296) (hb : b < 4294967296) (n : Nat) (hn : n ≤ 2147483647) (w : World) :
    Calls Try.prog 16 #[.int .u32 a, .int .u32 b, .int .i64 n] w fun e w' => e = .returned (.tuple #[.int .u32 (Crc.join a b n), .int .i64 0]) ∧ Below w.heap.size w w' := by
  have h0 : ¬ (n : Int) < 0 := by omega
  have h1 : ¬ 2147483647 < (n : Int) := by omega
  have hz := zero45
  obtain ⟨zs, hzs⟩ : ∃ zs, zs = zeros32 := ⟨_, rfl⟩
  have hz0 := zeros32_row (fun i => Crc.on (2 ^ i) 8)
  rw [← hzs] at hz hz0
  have Hz0 := Lib.hid hz0
  clear hzs hz0
  go_enter Try.func16, Try.ntmps16
  go_wp2
  go_loopw [9, 16] (fun _ i wr => ∃ k : Nat, k ≤ 32 ∧ i = .int .i64 k ∧ wr = w.alloc (.cells (rowTo 32 (fun i => Crc.on (2 ^ i) 8) k) 45)) (fun _ i _ => 32 - (intOf i).toNat)
  case atStart => exact ⟨0, by omega, rfl, by rw [← Hz0.out]⟩
  case round =>
    obtain ⟨k, hk, rfl, rfl⟩ := hrel
    by_cases hlt : k < 32
    · obtain ⟨cs, hcs⟩ : ∃ cs, cs = rowTo 32 (fun i => Crc.on (2 ^ i) 8) k := ⟨_, rfl⟩
      have hget : cs[k]? = some (.int .u32 0) := by rw [hcs, rowTo_at, if_pos hlt, if_neg (by omega)]
      have hset := rowTo_set 32 (fun i => Crc.on (2 ^ i) 8) k hlt
      rw [← hcs] at hset ⊢
      have hp2 := shl_one k hlt
      have hp : ((2 : Int) ^ k % 4294967296) = ((2 ^ k : Nat) : Int) := by
        have e : ((2 : Int) ^ k) = ((2 ^ k : Nat) : Int) := by push_cast; rfl
        rw [e]; generalize (2 : Nat) ^ k = g at hp2 ⊢; omega
      obtain ⟨p, hpp⟩ : ∃ p, p = 2 ^ k := ⟨_, rfl⟩
      simp only [← hpp] at hp hp2 hset
      have Hset := Lib.hid hset
      have Hcs := Lib.hid hcs
      clear hcs hz hset hpp
      go_wp2_with (go_at_call 25; (with_reducible refine (on_any p hp2 8 (by omega) (by omega) _).mono ?_); rintro e w' ⟨rfl, rfl⟩)
      go_roundw
      case rel => exact ⟨k + 1, by omega, by go_num, by rw [← Hset.out]⟩
      case measure => simp [intOf]; omega
    · have hk' : k = 32 := by omega
      obtain ⟨cs, hcs⟩ : ∃ cs, cs = rowTo 32 (fun i => Crc.on (2 ^ i) 8) k := ⟨_, rfl⟩
      rw [← hcs]
      have hcell : ∀ i, i < 32 → cs[i]? = some (.int .u32 (Crc.on (2 ^ i) 8 : Nat)) := fun i hi => by rw [hcs, hk', rowTo_get 32 _ 32 i hi hi]
      have hsz : cs.size = 32 := by rw [hcs]; exact rowTo_size _ _ _
      have Hcell := Lib.hid hcell
      have Hsz := Lib.hid hsz
      clear hcs hz hk' hcell hsz
      go_wp2
      go_loopw [0, 2] (fun v i wr => ∃ (p q y : Nat) (ms : Array Value), q ≤ 2147483647 ∧ y < 4294967296 ∧ i = .int .i64 q ∧ v = .int .u32 y ∧ Crc.on y (p * q) = Crc.on a (8 * n) ∧ ms.size = 32 ∧
        (∀ i, i < 32 → ms[i]? = some (.int .u32 (Crc.on (2 ^ i) p : Nat))) ∧ wr.heap[w.heap.size]? = some (.cells ms 45 (0, 0)) ∧ Below w.heap.size w wr) (fun _ i _ => (intOf i).toNat)
      case atStart => exact ⟨8, n, a, cs, hn, ha, rfl, rfl, rfl, Hsz.out, Hcell.out, heap_alloc_new _ _, (Below.refl _ _).alloc (Nat.le_refl _) _⟩
      case round =>
        obtain ⟨p, q, y, ms, hq, hy, rfl, rfl, hon, hms, hmc, hh, hb'⟩ := hrel
        by_cases hq0 : 0 < q
        · have hlt0 : w.heap.size < wr.heap.size := (Array.getElem?_eq_some_iff.1 hh).1
          have Hon := Lib.hid hon
          have Hms := Lib.hid hms
          have Hmc := Lib.hid hmc
          have Hh := Lib.hid hh
          have Hb' := Lib.hid hb'
          clear hon hms hmc hh hb'
          by_cases hodd : q % 2 = 1
          · have hand : (bits BinOp.and IntKind.i64 (q : Int) 1 == 1) = true := by rw [i64_and1 q hq, hodd]; rfl
            have Hodd := Lib.hid hodd
            clear hodd
            go_wp2_with (first
              | (with_reducible refine wpList_load_row rfl 45 _ rfl w.heap.size rfl 45 ms (0, 0) _ Hh.out Try.underlying45 rfl (size45.trans (by rw [Hms.out])) ?_)
              | (go_at_call 26; (with_reducible refine (times_any (fun i => Crc.on (2 ^ i) p) (fun i hi => Crc.on_lt p (shl_one i hi)) ms Hmc.out y hy _).mono ?_); rintro e w1 ⟨rfl, hb1⟩; have Hb1 := Lib.hid hb1; have h20 := (hb1.block _ hlt0).trans Hh.out; have H20 := Lib.hid h20; clear hb1 h20)
              | (with_reducible refine wpList_load_row rfl 45 _ rfl w.heap.size rfl 45 ms (0, 0) _ H20.out Try.underlying45 rfl (size45.trans (by rw [Hms.out])) ?_)
              | (go_at_call 27; (with_reducible refine (square_any (fun i => Crc.on (2 ^ i) p) (fun i hi => Crc.on_lt p (shl_one i hi)) ms Hms.out Hmc.out _).mono ?_); rintro e w2 ⟨rfl, hb2⟩; have Hb2 := Lib.hid hb2; have h21 := (hb2.block _ (Nat.lt_of_lt_of_le hlt0 Hb1.out.size)).trans H20.out; have H21 := Lib.hid h21; clear hb2 h21)
              | (with_reducible refine wpList_store_row rfl 45 _ _ rfl w.heap.size _ rfl rfl 45 ms H21.out (size45.trans (by rw [rowTo_size])) (Hms.out.trans (rowTo_size _ _ _).symm) (rowTo_one _ _ _) ?_))
            go_roundw
            case rel =>
              have hm := Crc.times_on (fun i => Crc.on (2 ^ i) p) p y hy (fun j _ => rfl)
              refine ⟨2 * p, q / 2, Crc.on y p, _, by omega, Crc.on_lt p hy, vint (by omega), by rw [hm], ?_, rowTo_size _ _ _, fun i hi => squared p i hi, setRow_heap _ _ _ _ _ _ H21.out, ?_⟩
              · rw [Crc.on_half _ _ _ Hodd.out]; exact Hon.out
              · exact Below.setRow' ((Hb'.out.trans (Hb1.out.mono (by omega))).trans (Hb2.out.mono (Nat.le_trans (Nat.le_of_lt hlt0) Hb1.out.size))) (Nat.le_refl _) _
            case measure => simp [intOf]; omega
          · have hev : q % 2 = 0 := by omega
            have hand : (bits BinOp.and IntKind.i64 (q : Int) 1 == 1) = false := by rw [i64_and1 q hq, hev]; rfl
            have Hodd := Lib.hid hev
            clear hodd hev
            go_wp2_with (first
              | (with_reducible refine wpList_load_row rfl 45 _ rfl w.heap.size rfl 45 ms (0, 0) _ Hh.out Try.underlying45 rfl (size45.trans (by rw [Hms.out])) ?_)
              | (go_at_call 27; (with_reducible refine (square_any (fun i => Crc.on (2 ^ i) p) (fun i hi => Crc.on_lt p (shl_one i hi)) ms Hms.out Hmc.out _).mono ?_); rintro e w2 ⟨rfl, hb2⟩; have Hb2 := Lib.hid hb2; have h21 := (hb2.block _ hlt0).trans Hh.out; have H21 := Lib.hid h21; clear hb2 h21)
              | (with_reducible refine wpList_store_row rfl 45 _ _ rfl w.heap.size _ rfl rfl 45 ms H21.out (size45.trans (by rw [rowTo_size])) (Hms.out.trans (rowTo_size _ _ _).symm) (rowTo_one _ _ _) ?_))
            go_roundw
            case rel =>
              refine ⟨2 * p, q / 2, y, _, by omega, hy, vint (by omega), rfl, ?_, rowTo_size _ _ _, fun i hi => squared p i hi, setRow_heap _ _ _ _ _ _ H21.out, ?_⟩
              · rw [Crc.on_even _ _ _ Hodd.out]; exact Hon.out
              · exact Below.setRow' (Hb'.out.trans (Hb2.out.mono (Nat.le_of_lt hlt0))) (Nat.le_refl _) _
            case measure => simp [intOf]; omega
        · have hq' : q = 0 := by omega
          rw [hq', Nat.mul_zero] at hon
          have hx := u32xor y b y b rfl rfl hy hb
          have Hx := Lib.hid hx
          have Hon := Lib.hid hon
          have Hb' := Lib.hid hb'
          clear hx hon hms hmc hh hb' hq'
          go_wp2
          go_ret2
          exact ⟨by rw [Hx.out]; have e := Hon.out; rw [Crc.on] at e; rw [e]; rfl, Hb'.out⟩
end Go.Proofs.Ytofdbghklpeamaa
