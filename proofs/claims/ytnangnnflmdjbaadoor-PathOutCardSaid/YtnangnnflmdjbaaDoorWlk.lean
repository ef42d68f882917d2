/- path.walk: from a slice of parts that the caller owns, and a text, to the parts that are left, or the error. -/
import Derived.Test.YtnangnnflmdjbaaDoorSeq
import Derived.Test.YtnangnnflmdjbaaDoorBx1
import Derived.Maps.AppendAt
import Derived.RangeFuncBox
import Derived.RangeFuncLeaves
namespace Go.Proofs.YtnangnnflmdjbaaDoor.Ext
open Go Go.RowKit Go.Lib Go.Shelf Go.Proofs.YtnangnnflmdjbaaDoor.Rng Go.Proofs.YtnangnnflmdjbaaDoorW.PrintWords Go.Proofs.YtnangnnflmdjbaaDoor.B
attribute [local go_sem] Oper.semAt_some
set_option linter.unusedVariables false
set_option linter.unusedSimpArgs false

/-- May a byte stand in a part? -/
def okByte (c : UInt8) : Bool := 32 < c && c < 127 && c != 34 && c != 92 && c != 42 && c != 63 && c != 58
/-- What is wrong with a part: its number. -/
def partI (x : ByteArray) : Int := if 32 < x.size then 50 else if x.data.toList.all okByte then 0 else 50

/-- One part, put behind those that stand; the first 'stay' ones stay. -/
def stepP (stay : Nat) (l : List ByteArray) (x : ByteArray) : Except Int (List ByteArray) :=
  if x.data.toList = [] ∨ x.data.toList = [46] then .ok l
  else if x.data.toList = [46, 46] then (if l.length = stay then .error 51 else .ok l.dropLast)
  else if partI x = 0 then .ok (l ++ [x]) else .error (partI x)
def stepsP (stay : Nat) : List ByteArray → List ByteArray → Except Int (List ByteArray)
  | l, [] => .ok l
  | l, x :: xs => match stepP stay l x with
    | .ok l' => stepsP stay l' xs
    | .error c => .error c
def walkP (l0 : List ByteArray) (s : ByteArray) : Except Int (List ByteArray) :=
  if s.data.toList.head? = some 47 then .error 51
  else match stepsP l0.length l0 (Pcs 47 s) with
    | .error c => .error c
    | .ok l => if 12 < l.length then .error 50 else .ok l

theorem stepsP_append (stay : Nat) : ∀ (xs ys l : List ByteArray), stepsP stay l (xs ++ ys) = match stepsP stay l xs with | .ok l' => stepsP stay l' ys | .error c => .error c
  | [], ys, l => rfl
  | x :: xs, ys, l => by
    simp only [List.cons_append, stepsP]
    cases stepP stay l x with
    | error c => rfl
    | ok l' => exact stepsP_append stay xs ys l'
theorem stepsP_snoc (stay : Nat) (xs : List ByteArray) (x : ByteArray) (l : List ByteArray) : stepsP stay l (xs ++ [x]) = match stepsP stay l xs with | .ok l' => stepP stay l' x | .error c => .error c := by
  rw [stepsP_append]
  cases stepsP stay l xs with
  | error c => rfl
  | ok l' => simp only [stepsP]; cases stepP stay l' x <;> rfl
theorem stepP_len {stay : Nat} {l l' : List ByteArray} {x : ByteArray} (h : stepP stay l x = .ok l') : l'.length ≤ l.length + 1 := by
  unfold stepP at h
  split at h
  · cases h; omega
  · split at h
    · split at h
      · cases h
      · cases h; simp; omega
    · split at h
      · cases h; simp
      · cases h
theorem stepsP_len (stay : Nat) : ∀ (xs l l' : List ByteArray), stepsP stay l xs = .ok l' → l'.length ≤ l.length + xs.length
  | [], l, l', h => by cases h; simp
  | x :: xs, l, l', h => by
    simp only [stepsP] at h
    cases hx : stepP stay l x with
    | error c => rw [hx] at h; cases h
    | ok l1 => rw [hx] at h; have := stepsP_len stay xs l1 l' h; have := stepP_len hx; simp; omega

set_option maxRecDepth 100000 in
theorem right_fin : ∀ n : Fin 256, path_right.f ((n.val : Nat) : Int) = some (okByte (UInt8.ofNat n.val)) := by decide +kernel
theorem right_byte (c : UInt8) : path_right.f (c.toNat : Int) = some (okByte c) := by
  have h := right_fin ⟨c.toNat, c.toNat_lt⟩
  simpa using h

theorem part_l0 (x : ByteArray) (hn : x.size ≤ 140737488355328) (d : Nat) : ∀ (k : Nat) (i : Nat), i ≤ x.size → x.size - i = d → d < k →
    path_part.l0 k x x.size i = some (if (x.data.toList.drop i).all okByte then 0 else 50) := by
  induction d with
  | zero =>
    intro k i h1 hd hk
    obtain ⟨k, rfl⟩ : ∃ m, k = m + 1 := ⟨k - 1, by omega⟩
    simp only [path_part.l0]
    rw [if_neg (by omega), List.drop_eq_nil_of_le (by have : x.data.toList.length = x.size := Array.length_toList; omega)]
    rfl
  | succ d ih =>
    intro k i h1 hd hk
    obtain ⟨k, rfl⟩ : ∃ m, k = m + 1 := ⟨k - 1, by omega⟩
    have hlt : i < x.size := by omega
    have hl : x.data.toList.length = x.size := by simp
    have hb : bt x i = ((x.data.toList[i]'(by omega)).toNat : Int) := by
      unfold bt
      rw [dif_pos (by simpa using hlt)]
      rfl
    have hdrop : x.data.toList.drop i = x.data.toList[i]'(by omega) :: x.data.toList.drop (i + 1) := List.drop_eq_getElem_cons (by omega)
    simp only [path_part.l0]
    rw [if_pos (by omega), if_pos (by omega), if_pos (by omega), hb, hdrop]
    generalize x.data.toList[i]'(by omega) = c
    rw [right_byte c]
    simp only [Option.bind_some]
    rcases Bool.eq_false_or_eq_true (okByte c) with hb | hb
    · have h2 := ih k (i + 1) (by omega) (by omega) (by omega)
      rw [show wrap64 ((i : Int) + 1) = ((i + 1 : Nat) : Int) by unfold wrap64; omega, h2]
      simp [hb]
    · simp [hb]

theorem part_calls (x : ByteArray) (hn : x.size ≤ 140737488355328) (w : World) :
    Calls Tryd.prog 36 #[.string x] w fun e w' => e = .returned (.int .i64 (partI x)) ∧ Drawn0 w w' := by
  refine path_part.calls (x.size + 1) x (partI x) w ?_
  unfold path_part.f partI
  by_cases h : 32 < x.size
  · rw [if_pos (by omega), if_pos h]
  · rw [if_neg (by omega), if_neg h]
    have := part_l0 x hn x.size (x.size + 1) 0 (by omega) (by omega) (by omega)
    rw [List.drop_zero] at this
    exact this
end Go.Proofs.YtnangnnflmdjbaaDoor.Ext
