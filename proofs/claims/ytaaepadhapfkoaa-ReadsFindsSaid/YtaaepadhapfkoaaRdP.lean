/-
  Reads: bytes alike, notes alike; the chapter's id, reads and notes.
-/
import Derived.Test.YtaaepadhapfkoaaRdO
import Derived.Laws.BytesArg
import Derived.Lib.Bytes
namespace Go.Proofs.Ytaaepadhapfkoaa
set_option linter.unusedSimpArgs false
set_option linter.unusedVariables false
open Go.RowKit

def natsI (l : List Nat) : List Int := l.map fun x : Nat => (x : Int)
theorem conv_given {w : World} {A : Option Addr} {c : Nat} {l : List Nat} (h : Given w A c l) : (convert 54 9 (.slice A l.length c)).run Try.prog w = .ok (.string (strOfNums (natsI l))) w := by
  cases l with
  | nil =>
    rcases A with _ | ad
    · rw [run_convert_bytes_nil w 54 5 Try.underlying54 Try.underlying5 _ _ 9 Try.underlying9]; rfl
    · rw [run_convert_bytes_string w 54 9 5 _ _ c Try.underlying54 Try.underlying5 Try.underlying9, show ([] : List Nat).length = 0 from rfl, run_bytesToString w ad 0 c [] (by simpa using run_loadCells_list (P := Try.prog) w ad [] (fun j v h => by simp at h))]
      rfl
  | cons x l =>
    obtain ⟨b, off, rfl, _, _⟩ := h.1.2 0 (by simp)
    refine run_convert_bytes_arg w 54 5 Try.underlying54 Try.underlying5 b off _ c (natsI (x :: l)) (by unfold natsI; rw [List.length_map]) (fun i hi => ?_) 9 Try.underlying9
    obtain ⟨b', off', e, _, hc⟩ := h.1.2 i hi
    cases e
    rw [hc]
    unfold natsI
    rw [getD_mapI]
theorem str_nats (a b : List Nat) (ha : ∀ x ∈ a, x < 256) (hb : ∀ x ∈ b, x < 256) : (strOfNums (natsI a)).toList = (strOfNums (natsI b)).toList ↔ a = b := by
  constructor
  · intro h
    rw [Lib.strOfNums_toList, Lib.strOfNums_toList] at h
    have h2 : (a.map fun x => UInt8.ofNat x) = b.map fun x => UInt8.ofNat x := by
      simpa [Lib.bytesOf, natsI, Function.comp_def] using h
    have h3 := congrArg (List.map UInt8.toNat) h2
    rw [List.map_map, List.map_map] at h3
    have e : ∀ (l : List Nat), (∀ x ∈ l, x < 256) → l.map (UInt8.toNat ∘ fun x => UInt8.ofNat x) = l := fun l hl => by
      conv => rhs; rw [← List.map_id l]
      refine List.map_congr_left fun x hx => ?_
      have := hl x hx
      simp only [Function.comp_apply, UInt8.toNat_ofNat', id]
      omega
    rwa [e a ha, e b hb] at h3
  · rintro rfl; rfl
theorem sameBytes_any (A B : Option Addr) (c d : Nat) (l m : List Nat) (w : World) (ha : Given w A c l) (hb : Given w B d m) :
    Calls Try.prog 40 #[.slice A l.length c, .slice B m.length d] w fun e w' => e = .returned (.bool (decide (l = m))) ∧ w' = w := by
  have h1 := conv_given ha
  have h2 := conv_given hb
  have h3 := str_nats l m ha.1.1 hb.1.1
  generalize strOfNums (natsI l) = s at *
  generalize strOfNums (natsI m) = t at *
  clear ha hb
  go_enter Try.func40, Try.ntmps40
  go_wp2
  go_ret
  refine ⟨?_, rfl⟩
  show Ending.returned (.bool (s.toList == t.toList)) = _
  by_cases e : l = m
  · rw [decide_eq_true e, beq_iff_eq.2 (h3.2 e)]
  · rw [decide_eq_false e, beq_eq_false_iff_ne.2 (fun h => e (h3.1 h))]
theorem sameIDs_nil (w : World) : Calls Try.prog 125 #[.slice none 0 0, .slice none 0 0] w fun e w' => e = .returned (.bool true) ∧ w' = w := by
  go_enter Try.func125, Try.ntmps125
  go_wp2
  go_loopw [5, 6] (fun v i wr => v = .bool true ∧ i = .int .i64 0 ∧ wr = w) (fun _ _ _ => 0)
  case atStart => exact ⟨rfl, rfl, rfl⟩
  case round =>
    obtain ⟨rfl, rfl, rfl⟩ := hrel
    go_wp2
    go_ret
    exact ⟨rfl, rfl⟩
theorem sameMembers_nil (w : World) : Calls Try.prog 126 #[.slice none 0 0, .slice none 0 0] w fun e w' => e = .returned (.bool true) ∧ w' = w := by
  go_enter Try.func126, Try.ntmps126
  go_wp2
  go_loopw [5] (fun i wr => i = .int .i64 0 ∧ wr = w) (fun _ _ => 0)
  case atStart => exact ⟨rfl, rfl⟩
  case round =>
    obtain ⟨rfl, rfl⟩ := hrel
    go_wp2
    go_ret
    exact ⟨rfl, rfl⟩
end Go.Proofs.Ytaaepadhapfkoaa
