/-
  The sum of bytes behind others: the program's and the reference's functions.
-/
import Derived.Test.YtofdbghklpeamaaTab
namespace Go.Proofs.Ytofdbghklpeamaa
open Go.RowKit

/-- a slice's address leads to bytes -/
def Reads (w : World) (a : Option Addr) (l : List Nat) : Prop :=
  (∀ c ∈ l, c < 256) ∧ ∀ i, i < l.length → ∃ b off, a = some ⟨b, off, none⟩ ∧ b < w.heap.size ∧ w.cell? ⟨b, off + i, none⟩ = some (.int .u8 (l.getD i 0 : Nat))
theorem Reads.bytes {w : World} {a : Option Addr} {l : List Nat} (h : Reads w a l) : ∀ c ∈ l, c < 256 := h.1
theorem Reads.some {w : World} {a : Option Addr} {l : List Nat} (h : Reads w a l) (hl : 0 < l.length) :
    ∃ b off, a = some ⟨b, off, none⟩ ∧ b < w.heap.size ∧ ∀ i, i < l.length → w.cell? ⟨b, off + i, none⟩ = some (.int .u8 (l.getD i 0 : Nat)) := by
  obtain ⟨b, off, rfl, hb, _⟩ := h.2 0 hl
  refine ⟨b, off, rfl, hb, fun i hi => ?_⟩
  obtain ⟨b', off', e, _, hc⟩ := h.2 i hi
  simp only [Option.some.injEq, Addr.mk.injEq] at e
  obtain ⟨rfl, rfl, _⟩ := e
  exact hc
theorem Reads.below {w w' : World} {a : Option Addr} {l : List Nat} (h : Reads w a l) (hb : Below w.heap.size w w') : Reads w' a l := by
  refine ⟨h.1, fun i hi => ?_⟩
  obtain ⟨b, off, e, hlt, hc⟩ := h.2 i hi
  exact ⟨b, off, e, Nat.lt_of_lt_of_le hlt hb.size, (hb.cell (p := ⟨b, off + i, none⟩) hlt).trans hc⟩
theorem getD_get {l : List Nat} {i : Nat} (hi : i < l.length) : l.getD i 0 = l[i] := by simp [List.getD, hi]
theorem getD_lt {l : List Nat} (h : ∀ c ∈ l, c < 256) (i : Nat) : l.getD i 0 < 256 := by
  by_cases hi : i < l.length
  · rw [getD_get hi]; exact h _ (List.getElem_mem hi)
  · have : l[i]? = none := by simp; omega
    simp [List.getD, this]
theorem take_snoc {l : List Nat} {k : Nat} (hk : k < l.length) : l.take (k + 1) = l.take k ++ [l.getD k 0] := by
  rw [List.take_succ_eq_append_getElem hk, getD_get hk]
theorem setRow_alloc (w : World) (a c : Array Value) (t : TypeId) : (w.alloc (.cells a t)).setRow w.heap.size c = w.alloc (.cells c t) := by
  unfold World.setRow World.alloc
  congr 1
  apply Array.ext_getElem?
  intro k
  rw [Array.getElem?_modify]
  by_cases hk : w.heap.size = k
  · subst hk; simp
  · simp only [hk, if_false]
    rw [Array.getElem?_push, Array.getElem?_push, if_neg (fun e => hk e.symm), if_neg (fun e => hk e.symm)]

theorem refmore_step (s k : Nat) (l : List Nat) (hk : k < l.length) : Crc.more s (l.take (k + 1)) = Crc.on (Crc.more s (l.take k) ^^^ l.getD k 0) 8 := by
  rw [take_snoc hk, Crc.more_snoc]

theorem compl (s : Nat) (hs : s < 4294967296) : bits .xor .u32 IntKind.u32.max (s : Int) = ((4294967295 ^^^ s : Nat) : Int) := u32xor _ _ 4294967295 s rfl rfl (by omega) hs
theorem take_lt {l : List Nat} (h : ∀ c ∈ l, c < 256) (k : Nat) : ∀ c ∈ l.take k, c < 256 := fun c hc => h c (List.mem_of_mem_take hc)

set_option maxHeartbeats 400000 in
theorem refmore_any (s : Nat) (hs : s < 4294967296) (a : Option Addr) (l : List Nat) (cap : Nat) (w : World) (hr : Reads w a l) (hlen : l.length ≤ 140737488351232) :
    Calls Try.prog 14 #[.int .u32 s, .slice a l.length cap] w fun e w' => e = .returned (.int .u32 (Crc.crc s l)) ∧ w = w' := by
  have hc := compl s hs
  have hlt' := Crc.xor_lt (x := 4294967295) (by omega) hs
  obtain ⟨s', hs'⟩ : ∃ s', s' = 4294967295 ^^^ s := ⟨_, rfl⟩
  rw [← hs'] at hc hlt'
  have Hs' := Lib.hid hs'
  have hby := hr.bytes
  have Hr := Lib.hid hr
  have Hby := Lib.hid hby
  clear hs' hby hr
  go_enter Try.func14, Try.ntmps14
  go_wp2
  go_loop [5, 6] (fun v i => ∃ k : Nat, k ≤ l.length ∧ i = .int .i64 k ∧ v = .int .u32 (Crc.more s' (l.take k))) (fun _ i => l.length - (intOf i).toNat)
  case atStart => exact ⟨0, by omega, rfl, rfl⟩
  case round =>
    obtain ⟨k, hk, rfl, rfl⟩ := hrel
    have hy := Crc.more_lt (l.take k) hlt' (take_lt Hby.out k)
    by_cases hlt : k < l.length
    · obtain ⟨b, off, hab, hb, hcell⟩ := Hr.out.some (by omega)
      subst hab
      have hcl := hcell k hlt
      have hst := refmore_step s' k l hlt
      have hcb := getD_lt Hby.out k
      clear hcell
      obtain ⟨c, hcc⟩ : ∃ c, c = l.getD k 0 := ⟨_, rfl⟩
      obtain ⟨y, hyy⟩ : ∃ y, y = Crc.more s' (l.take k) := ⟨_, rfl⟩
      rw [← hyy] at hy hst ⊢
      rw [← hcc] at hst hcl hcb
      have hx := u32xor y c y c rfl rfl hy (by omega)
      have hz := Crc.xor_lt hy (y := c) (by omega)
      obtain ⟨z, hzz⟩ : ∃ z, z = y ^^^ c := ⟨_, rfl⟩
      rw [← hzz] at hx hst hz
      have Hst := Lib.hid hst
      clear hst hzz hyy hcc
      go_wp2_with (go_at_call 24; (with_reducible refine (refon_any z hz 8 (by omega) (by omega) _).mono ?_); rintro e w' ⟨rfl, rfl⟩)
      go_round
      case rel => exact ⟨k + 1, by omega, by go_num, by rw [Hst.out]⟩
      case measure => simp [intOf]; omega
    · obtain ⟨y, hyy⟩ : ∃ y, y = Crc.more s' (l.take k) := ⟨_, rfl⟩
      have hc2 := compl _ hy
      rw [← hyy] at hc2 ⊢
      have H := Lib.hid hyy
      clear hyy
      go_wp2
      go_ret
      refine ⟨retu32 ?_, rfl⟩
      rw [H.out, Hs'.out, List.take_of_length_le (by omega)]
      rfl

theorem more_step (s k : Nat) (l : List Nat) (hk : k < l.length) :
    Crc.more s (l.take (k + 1)) = Crc.more s (l.take k) / 256 ^^^ tab (Crc.more s (l.take k) % 256 ^^^ l.getD k 0) := by
  rw [refmore_step s k l hk, Crc.on_byte]; rfl
set_option maxHeartbeats 800000 in
theorem more_any (s : Nat) (hs : s < 4294967296) (a : Option Addr) (l : List Nat) (cap : Nat) (w : World) (hr : Reads w a l) (hlen : l.length ≤ 140737488351232) :
    Calls Try.prog 13 #[.int .u32 s, .slice a l.length cap] w fun e w' => e = .returned (.int .u32 (Crc.crc s l)) ∧ Below w.heap.size w w' := by
  have hz := zero41
  have hc := compl s hs
  have hlt' := Crc.xor_lt (x := 4294967295) (by omega) hs
  obtain ⟨s', hs'⟩ : ∃ s', s' = 4294967295 ^^^ s := ⟨_, rfl⟩
  rw [← hs'] at hc hlt'
  have Hs' := Lib.hid hs'
  have hby := hr.bytes
  have Hr := Lib.hid hr
  have Hby := Lib.hid hby
  obtain ⟨zs, hzs⟩ : ∃ zs, zs = zeros256 := ⟨_, rfl⟩
  have hzz : zs.size = 256 := by rw [hzs]; exact Array.size_replicate
  rw [← hzs] at hz
  obtain ⟨cs, hcs⟩ : ∃ cs, cs = rowTo 256 tab 256 := ⟨_, rfl⟩
  have hsz : cs.size = 256 := by rw [hcs]; exact rowTo_size _ _ _
  have hone : cs.all (·.oneCell') = true := by rw [hcs]; exact rowTo_one _ _ _
  have hget : ∀ j, j < 256 → cs[j]? = some (.int .u32 (tab j : Nat)) := fun j hj => by rw [hcs, rowTo_get 256 tab 256 j hj hj]
  have htb := table_any
  rw [← hcs] at htb
  have Htb := Lib.hid htb
  have Hzz := Lib.hid hzz
  have Hsz := Lib.hid hsz
  have Hone := Lib.hid hone
  have Hget := Lib.hid hget
  clear hs' hby hr hzs hcs htb hsz hone hget hzz
  go_enter Try.func13, Try.ntmps13
  go_wp2_with (first
    | (go_at_call 23; (with_reducible refine (Htb.out _).mono ?_); rintro e w1 ⟨rfl, hb1⟩; have Hb1 := Lib.hid hb1; clear hb1)
    | (with_reducible refine wpList_store_row rfl 41 _ _ rfl w1.heap.size cs rfl rfl 41 zs (heap_alloc_new _ _) (size41.trans (by rw [Hsz.out])) (Hzz.out.trans Hsz.out.symm) Hone.out ?_; rw [setRow_alloc]))
  go_loop [6, 14] (fun v i => ∃ k : Nat, k ≤ l.length ∧ i = .int .i64 k ∧ v = .int .u32 (Crc.more s' (l.take k))) (fun _ i => l.length - (intOf i).toNat)
  case atStart => exact ⟨0, by omega, rfl, rfl⟩
  case round =>
    obtain ⟨k, hk, rfl, rfl⟩ := hrel
    have hy := Crc.more_lt (l.take k) hlt' (take_lt Hby.out k)
    by_cases hlt : k < l.length
    · obtain ⟨b, off, hab, hb, hcell⟩ := (Hr.out.below Hb1.out).some (by omega)
      subst hab
      have hcl := hcell k hlt
      have hst := more_step s' k l hlt
      have hcb := getD_lt Hby.out k
      clear hcell
      obtain ⟨c, hcc⟩ : ∃ c, c = l.getD k 0 := ⟨_, rfl⟩
      obtain ⟨y, hyy⟩ : ∃ y, y = Crc.more s' (l.take k) := ⟨_, rfl⟩
      rw [← hyy] at hy hst ⊢
      rw [← hcc] at hst hcl hcb
      have hx : bits .xor .u8 ((y : Int) % 256) (c : Int) = ((y % 256 ^^^ c : Nat) : Int) := u8_xor_nat (y % 256) c (by omega) hcb
      have hj : y % 256 ^^^ c < 256 := Nat.xor_lt_two_pow (n := 8) (by omega) (by omega)
      obtain ⟨j, hjj⟩ : ∃ j, j = y % 256 ^^^ c := ⟨_, rfl⟩
      rw [← hjj] at hx hst hj
      have hg := Hget.out j hj
      have htl : tab j < 4294967296 := Crc.on_lt 8 (by omega)
      have hx2 := u32xor ((y : Int) / 256) (tab j : Nat) (y / 256) (tab j) (by omega) rfl (by omega) htl
      obtain ⟨t, htt⟩ : ∃ t, t = tab j := ⟨_, rfl⟩
      rw [← htt] at hx2 hg hst htl
      have Hst := Lib.hid hst
      have Hx2 := Lib.hid hx2
      clear hst hjj hyy hcc htt hx2
      go_wp2
      go_round
      case rel => exact ⟨k + 1, by omega, by go_num, vint (by rw [Hx2.out, Hst.out])⟩
      case measure => simp [intOf]; omega
    · obtain ⟨y, hyy⟩ : ∃ y, y = Crc.more s' (l.take k) := ⟨_, rfl⟩
      have hc2 := compl _ hy
      rw [← hyy] at hc2 ⊢
      have H := Lib.hid hyy
      clear hyy
      go_wp2
      go_ret
      refine ⟨retu32 ?_, Hb1.out.alloc Hb1.out.size _⟩
      rw [H.out, Hs'.out, List.take_of_length_le (by omega)]
      rfl
end Go.Proofs.Ytofdbghklpeamaa
