/-
  Reads: a note as it is built; an array of 32 in its midst.
-/
import Derived.Test.YtaaepadhapfkoaaRdC
import Derived.Laws.Tables
namespace Go.Proofs.Ytaaepadhapfkoaa
set_option linter.unusedSimpArgs false
set_option linter.unusedVariables false
open Go.RowKit

theorem list32 {α : Type} : ∀ (l : List α), l.length = 32 → ∃ x0 x1 x2 x3 x4 x5 x6 x7 x8 x9 x10 x11 x12 x13 x14 x15 x16 x17 x18 x19 x20 x21 x22 x23 x24 x25 x26 x27 x28 x29 x30 x31, l = [x0, x1, x2, x3, x4, x5, x6, x7, x8, x9, x10, x11, x12, x13, x14, x15, x16, x17, x18, x19, x20, x21, x22, x23, x24, x25, x26, x27, x28, x29, x30, x31]
  | [x0, x1, x2, x3, x4, x5, x6, x7, x8, x9, x10, x11, x12, x13, x14, x15, x16, x17, x18, x19, x20, x21, x22, x23, x24, x25, x26, x27, x28, x29, x30, x31], _ => ⟨x0, x1, x2, x3, x4, x5, x6, x7, x8, x9, x10, x11, x12, x13, x14, x15, x16, x17, x18, x19, x20, x21, x22, x23, x24, x25, x26, x27, x28, x29, x30, x31, rfl⟩
/-- a note's cells -/
def nt (kind me who cn cb cc set : Int) (yes : Bool) (id : List Nat) (dv : Value) : List Value :=
  [.int .i64 kind, .int .i64 me, .int .i64 who, .int .i64 cn, .int .i64 cb, .int .i64 cc, .int .i64 set, .int .i64 0, .int .i64 0, .int .i64 0, .int .i64 0, .int .i64 0, .bool yes] ++ cellsOf id ++ [dv, .slice none 0 0, .slice none 0 0]
theorem nt_len (kind me who cn cb cc set : Int) (yes : Bool) {id : List Nat} (h : id.length = 32) (dv : Value) : (nt kind me who cn cb cc set yes id dv).length = 48 := by
  unfold nt
  simp [cellsOf_length, h]
theorem built_get (kind me who cn cb cc : Int) (id : List Nat) (h : id.length = 32) :
    Try.prog.built 69 [(0, .int .i64 kind), (1, .int .i64 me), (2, .int .i64 who), (3, .agg #[.int .i64 cn, .int .i64 cb, .int .i64 cc]), (9, .agg (cellsOf id).toArray)] = some (nt kind me who cn cb cc 0 false id (.slice none 0 0)).toArray := by
  obtain ⟨x0, x1, x2, x3, x4, x5, x6, x7, x8, x9, x10, x11, x12, x13, x14, x15, x16, x17, x18, x19, x20, x21, x22, x23, x24, x25, x26, x27, x28, x29, x30, x31, rfl⟩ := list32 id h
  kernel_rfl
theorem built_hint (kind me who cn cb cc set : Int) (id : List Nat) (h : id.length = 32) (A : Option Addr) (n c : Nat) :
    Try.prog.built 69 [(0, .int .i64 kind), (1, .int .i64 me), (2, .int .i64 who), (3, .agg #[.int .i64 cn, .int .i64 cb, .int .i64 cc]), (4, .int .i64 set), (9, .agg (cellsOf id).toArray), (10, .slice A n c)] = some (nt kind me who cn cb cc set false id (.slice A n c)).toArray := by
  obtain ⟨x0, x1, x2, x3, x4, x5, x6, x7, x8, x9, x10, x11, x12, x13, x14, x15, x16, x17, x18, x19, x20, x21, x22, x23, x24, x25, x26, x27, x28, x29, x30, x31, rfl⟩ := list32 id h
  kernel_rfl
theorem built_got (kind me who cn cb cc : Int) (yes : Bool) (id : List Nat) (h : id.length = 32) :
    Try.prog.built 69 [(0, .int .i64 kind), (1, .int .i64 me), (2, .int .i64 who), (3, .agg #[.int .i64 cn, .int .i64 cb, .int .i64 cc]), (9, .agg (cellsOf id).toArray), (8, .bool yes)] = some (nt kind me who cn cb cc 0 yes id (.slice none 0 0)).toArray := by
  obtain ⟨x0, x1, x2, x3, x4, x5, x6, x7, x8, x9, x10, x11, x12, x13, x14, x15, x16, x17, x18, x19, x20, x21, x22, x23, x24, x25, x26, x27, x28, x29, x30, x31, rfl⟩ := list32 id h
  kernel_rfl
theorem built_gotd (kind me who cn cb cc : Int) (yes : Bool) (id : List Nat) (h : id.length = 32) (A : Option Addr) (n c : Nat) :
    Try.prog.built 69 [(0, .int .i64 kind), (1, .int .i64 me), (2, .int .i64 who), (3, .agg #[.int .i64 cn, .int .i64 cb, .int .i64 cc]), (9, .agg (cellsOf id).toArray), (8, .bool yes), (10, .slice A n c)] = some (nt kind me who cn cb cc 0 yes id (.slice A n c)).toArray := by
  obtain ⟨x0, x1, x2, x3, x4, x5, x6, x7, x8, x9, x10, x11, x12, x13, x14, x15, x16, x17, x18, x19, x20, x21, x22, x23, x24, x25, x26, x27, x28, x29, x30, x31, rfl⟩ := list32 id h
  kernel_rfl
theorem nt_one (kind me who cn cb cc set : Int) (yes : Bool) (id : List Nat) (A : Option Addr) (n c : Nat) : ∀ v ∈ nt kind me who cn cb cc set yes id (.slice A n c), v.oneCell' = true := by
  intro v hv
  unfold nt at hv
  rcases List.mem_append.1 hv with hv | hv
  · rcases List.mem_append.1 hv with hv | hv
    · simp only [List.mem_cons, List.not_mem_nil, or_false] at hv
      rcases hv with rfl | rfl | rfl | rfl | rfl | rfl | rfl | rfl | rfl | rfl | rfl | rfl | rfl <;> rfl
    · exact cellsOf_one id v hv
  · simp only [List.mem_cons, List.not_mem_nil, or_false] at hv
    rcases hv with rfl | rfl | rfl <;> rfl
theorem size69 : (Try.prog.info? 69).map (·.size) = some 48 := by kernel_rfl
theorem zero69 : (Try.prog.info? 69).bind (·.zero) = some (.agg (nt 0 0 0 0 0 0 0 false (List.replicate 32 0) (.slice none 0 0)).toArray) := by kernel_rfl
theorem size56 : (Try.prog.info? 56).map (·.size) = some 3 := by kernel_rfl
end Go.Proofs.Ytaaepadhapfkoaa
