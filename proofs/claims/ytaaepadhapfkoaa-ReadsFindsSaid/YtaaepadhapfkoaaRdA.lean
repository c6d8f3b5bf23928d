/-
  Reads: a read, in plain words.
-/
import Derived.Test.YtaaepadhapfkoaaSha
namespace Go.Proofs.Ytaaepadhapfkoaa
set_option linter.unusedSimpArgs false
set_option linter.unusedVariables false

/-- a read -/
structure Rdr where
  set : Int
  id : List Nat
  me : Int
  copies : Int
  cn : Int
  cb : Int
  cc : Int
  retry : Int
  pat : Int
  st : Nat
  ord : List Int
  homes : List Int
  kn : List Nat
  data : List Nat
  err : Int
  ticks : Int
  all : Int
/-- the first nought -/
def firstZ : List Nat → Nat
  | [] => 0
  | x :: l => if x = 0 then 0 else firstZ l + 1
theorem firstZ_at : ∀ (l : List Nat) (i : Nat), i < l.length → l.getD i 0 = 0 → (∀ j, j < i → l.getD j 0 ≠ 0) → firstZ l = i
  | [], i, h, _, _ => by simp at h
  | x :: l, 0, _, h0, _ => by
    have : x = 0 := h0
    rw [firstZ, if_pos this]
  | x :: l, i + 1, h, h0, h1 => by
    have hx : x ≠ 0 := h1 0 (by omega)
    rw [firstZ, if_neg hx, firstZ_at l i (by simpa using h) h0 (fun j hj => h1 (j + 1) (by omega))]
theorem firstZ_none : ∀ (l : List Nat), (∀ j, j < l.length → l.getD j 0 ≠ 0) → firstZ l = l.length
  | [], _ => rfl
  | x :: l, h => by
    have hx : x ≠ 0 := h 0 (by simp)
    rw [firstZ, if_neg hx, firstZ_none l (fun j hj => h (j + 1) (by simpa using hj)), List.length_cons]
theorem firstZ_le : ∀ (l : List Nat), firstZ l ≤ l.length
  | [] => Nat.le_refl _
  | x :: l => by
    rw [firstZ]
    split
    · simp
    · have := firstZ_le l; simp; omega
theorem firstZ_get : ∀ (l : List Nat), firstZ l < l.length → l.getD (firstZ l) 0 = 0
  | [], h => by simp at h
  | x :: l, h => by
    rw [firstZ] at h ⊢
    by_cases hx : x = 0
    · rw [if_pos hx]; simpa using hx
    · rw [if_neg hx] at h ⊢
      have := firstZ_get l (by simpa using h)
      simpa using this
theorem firstZ_lt : ∀ (l : List Nat) (j : Nat), j < firstZ l → l.getD j 0 ≠ 0
  | [], j, h => by simp [firstZ] at h
  | x :: l, j, h => by
    rw [firstZ] at h
    by_cases hx : x = 0
    · rw [if_pos hx] at h; omega
    · rw [if_neg hx] at h
      cases j with
      | zero => simpa using hx
      | succ j => simpa using firstZ_lt l j (by omega)
/-- the place of a number, or -1 -/
def placeI : List Int → Int → Int
  | [], _ => -1
  | y :: l, x => if y = x then 0 else if placeI l x < 0 then -1 else placeI l x + 1
theorem placeI_at : ∀ (l : List Int) (x : Int) (i : Nat), i < l.length → l.getD i 0 = x → (∀ j, j < i → l.getD j 0 ≠ x) → placeI l x = i
  | [], x, i, h, _, _ => by simp at h
  | y :: l, x, 0, _, h0, _ => by
    have : y = x := h0
    rw [placeI, if_pos this]; rfl
  | y :: l, x, i + 1, h, h0, h1 => by
    have hx : y ≠ x := h1 0 (by omega)
    have := placeI_at l x i (by simpa using h) h0 (fun j hj => h1 (j + 1) (by omega))
    rw [placeI, if_neg hx, this, if_neg (by omega)]
    omega
theorem placeI_none : ∀ (l : List Int) (x : Int), (∀ j, j < l.length → l.getD j 0 ≠ x) → placeI l x = -1
  | [], _, _ => rfl
  | y :: l, x, h => by
    have hx : y ≠ x := h 0 (by simp)
    rw [placeI, if_neg hx, placeI_none l x (fun j hj => h (j + 1) (by simpa using hj)), if_pos (by decide)]
theorem placeI_cases : ∀ (l : List Int) (x : Int), (placeI l x = -1 ∧ ¬ x ∈ l) ∨ ∃ i : Nat, placeI l x = i ∧ i < l.length ∧ l.getD i 0 = x
  | [], x => .inl ⟨rfl, by simp⟩
  | y :: l, x => by
    by_cases hx : y = x
    · exact .inr ⟨0, by rw [placeI, if_pos hx]; rfl, by simp, hx⟩
    · rcases placeI_cases l x with ⟨h1, h2⟩ | ⟨i, h1, h2, h3⟩
      · exact .inl ⟨by rw [placeI, if_neg hx, h1, if_pos (by decide)], by simp [h2, Ne.symm hx]⟩
      · exact .inr ⟨i + 1, by rw [placeI, if_neg hx, h1, if_neg (by omega)]; omega, by simpa using h2, by simpa using h3⟩
namespace Rdr
/-- the place of the first that is not asked -/
def first (R : Rdr) : Nat := firstZ (R.kn.take R.ord.length)
def onR (R : Rdr) : Rdr := if R.first < R.ord.length then { R with kn := R.kn.set R.first 1 } else R
/-- what it sends: is it a hint; to whom -/
def onO (R : Rdr) : List (Bool × Int) := if R.first < R.ord.length then [(false, R.ord.getD R.first 0)] else []
def fails (R : Rdr) (e : Int) : Rdr := { R with st := 3, err := e }
def gets (R : Rdr) (b : List Nat) : Rdr := { R with st := 2, data := b }
def onNR : Nat → Rdr → Rdr
  | 0, R => R
  | k + 1, R => (onNR k R).onR
def onNO : Nat → Rdr → List (Bool × Int)
  | 0, _ => []
  | k + 1, R => onNO k R ++ (onNR k R).onO
/-- Start -/
def startO (R : Rdr) (b : List Nat) (has : Bool) : List (Bool × Int) := if R.st ≠ 0 then [] else if has = true ∧ Sha.sum b = R.id then [] else onNO R.copies.toNat { R with st := 1 }
def startE (R : Rdr) : Int := if R.st ≠ 0 then 9 else 0
def startR (R : Rdr) (b : List Nat) (has : Bool) : Rdr := if R.st ≠ 0 then R else if has = true ∧ Sha.sum b = R.id then R.gets b else
  if onNO R.copies.toNat { R with st := 1 } = [] then (onNR R.copies.toNat { R with st := 1 }).fails 6 else onNR R.copies.toNat { R with st := 1 }
/-- is a note an answer that is waited for? -/
def mineB (R : Rdr) (kind frm to cn cb cc : Int) (id : List Nat) : Bool := R.st == 1 && kind == 8 && to == R.me && cn == R.cn && cb == R.cb && cc == R.cc && id == R.id
def hints (R : Rdr) : List (Bool × Int) := R.homes.filterMap fun h => if R.kn.getD (placeI R.ord h).toNat 0 = 2 then some (true, h) else none
def allLack (R : Rdr) : Bool := (R.kn.take R.ord.length).all (· == 2)
def lackR (R : Rdr) (i : Nat) : Rdr := { R with kn := R.kn.set i 2 }
/-- Take -/
def takeO (R : Rdr) (m : Bool) (frm : Int) (yes : Bool) (data : List Nat) : List (Bool × Int) :=
  if m = false then [] else if placeI R.ord frm < 0 then [] else if R.kn.getD (placeI R.ord frm).toNat 0 ≠ 1 then [] else
  if yes = true ∧ Sha.sum data = R.id then R.hints else (R.lackR (placeI R.ord frm).toNat).onO
def takeR (R : Rdr) (m : Bool) (frm : Int) (yes : Bool) (data : List Nat) : Rdr :=
  if m = false then R else if placeI R.ord frm < 0 then R else if R.kn.getD (placeI R.ord frm).toNat 0 ≠ 1 then R else
  if yes = true ∧ Sha.sum data = R.id then R.gets data else
  if (R.lackR (placeI R.ord frm).toNat).onR.allLack = true then (R.lackR (placeI R.ord frm).toNat).onR.fails 6 else (R.lackR (placeI R.ord frm).toNat).onR
/-- Tick -/
def ticked (R : Rdr) : Rdr := { R with ticks := R.ticks + 1, all := R.all + 1 }
def again (R : Rdr) : List (Bool × Int) := (List.range R.ord.length).filterMap fun i => if R.kn.getD i 0 = 1 then some (false, R.ord.getD i 0) else none
def tickO (R : Rdr) : List (Bool × Int) := if R.st ≠ 1 then [] else if R.all + 1 ≥ R.pat then [] else if R.ticks + 1 < R.retry then [] else R.again ++ R.onO
def tickR (R : Rdr) : Rdr := if R.st ≠ 1 then R else if R.all + 1 ≥ R.pat then R.ticked.fails 13 else if R.ticks + 1 < R.retry then R.ticked else ({ R.ticked with ticks := 0 } : Rdr).onR
/-- what holds of every read that was made -/
structure Ok (R : Rdr) : Prop where
  idl : R.id.length = 32
  idb : ∀ c ∈ R.id, c < 256
  knl : R.kn.length = 64
  knb : ∀ c ∈ R.kn, c < 256
  ordl : R.ord.length ≤ 64
  homl : R.homes.length ≤ 64
  hom : ∀ h ∈ R.homes, h ∈ R.ord
  me1 : 1 ≤ R.me
  cop : 1 ≤ R.copies ∧ R.copies ≤ 64
  st4 : R.st < 4
  pat1 : R.pat ≤ 2147483647
  tk : 0 ≤ R.ticks ∧ R.ticks ≤ R.all ∧ R.all ≤ 2147483648
  run : R.st = 1 → R.all < R.pat
  fin : R.st = 2 → Sha.sum R.data = R.id ∧ R.err = 0
  bad : R.st = 3 → R.err ≠ 0
  fine : R.st < 2 → R.err = 0
  dat : R.data.length ≤ 100000
  new : R.st = 0 → R.all < R.pat
end Rdr
end Go.Proofs.Ytaaepadhapfkoaa
