/- The contracts of strings.Split (at a separator of one byte), Join, TrimLeft (at blanks and tabs), IndexFunc (with script.Words' own function), Repeat at this translation, in the form of the printed contracts. -/
import Derived.Test.YtkcemdfhhdjdaaaDoorShelf
import Derived.Shelf.Strings.SplitCore
import Derived.Lib.SplitLaws
import Derived.Lib.IndexBytes
import Derived.Shelf.Strings.SlTrimAscii
import Derived.WalkKit
import Derived.Lib.Hide
import Derived.Test.YtkcemdfhhdjdaaaDoorWWords
namespace Go.Proofs.YtkcemdfhhdjdaaaDoor.Ext
open Go Go.RowKit Go.Lib Go.Shelf Go.Proofs.YtkcemdfhhdjdaaaDoorW.PrintWords
set_option linter.unusedVariables false
set_option linter.unusedSimpArgs false

theorem one_byte {s : ByteArray} (h : s.size = 1) : ∃ c, s = ⟨#[c]⟩ := by
  obtain ⟨⟨l⟩⟩ := s
  match l, h with
  | [c], _ => exact ⟨c, rfl⟩

theorem indexB_one (x : ByteArray) (c : UInt8) : Lib.indexB x ⟨#[c]⟩ = Lib.indexByte x.data.toList c := by
  rw [Lib.indexB]
  exact Lib.index_one _ _

theorem countB_one (x : ByteArray) (c : UInt8) : Lib.countB x ⟨#[c]⟩ = Lib.countByte x.data.toList c := by
  rw [Lib.countB]
  exact Lib.count_one _ _

theorem heap_new' (w : World) (o : Obj) : (w.alloc o).heap[w.heap.size]? = some o := by
  show (w.heap.push o)[w.heap.size]? = _
  simp

theorem R_new_strings (w : World) (e : Nat) (xs : List ByteArray) (h0 : xs ≠ []) (hm : xs.length ≤ maxLen) :
    Kd.R Kd.string e (w.alloc (.cells (xs.map Value.string).toArray e)) w.heap.size (fun _ => True) (.slice (some ⟨w.heap.size, 0, none⟩) xs.length xs.length) xs := by
  refine Kd.R_of_own (enc := Value.string) (h1 := fun _ => rfl) ⟨by simp [encs], .inr ⟨w.heap.size, xs.length, (xs.map Value.string).toArray, rfl, Nat.le_refl _, heap_new' _ _, Nat.le_refl _, hm, by simp, ?_⟩⟩ (fun _ _ => trivial)
  rw [Nat.mul_one, List.take_of_length_le (by simp)]
  rfl

/-- A cut of a row has its block. -/
theorem own_len (A : Option Addr) (n m c : Nat) : (Value.slice A n c).ownBlock = (Value.slice A m c).ownBlock := by cases A <;> rfl

theorem emp_true {l : List UInt8} (h : (l == []) = true) : l.isEmpty = true := by rw [beq_iff_eq.mp h]; rfl
theorem emp_false {l : List UInt8} (h : (l == []) = false) : l.isEmpty = false := by
  cases l with
  | nil => cases h
  | cons _ _ => rfl

theorem ext_self (b : ByteArray) : b.extract 0 b.size = b := by simp
theorem ext_end (b : ByteArray) : b.extract b.size b.size = ByteArray.empty := by simp
def strings_Split.f (a0 a1 : ByteArray) : Option (List ByteArray) :=
  if a0.size < 4294967281 ∧ a1.size = 1 then some (Lib.splitB a1 0 (Lib.countB a0 a1) a0) else none

set_option maxHeartbeats 1000000 in
theorem strings_Split.calls (a0 a1 : ByteArray) (r : List ByteArray) (w : World) (h : strings_Split.f a0 a1 = some r) :
    Calls Tryd.prog 22 #[.string a0, .string a1] w fun e w' => ∃ v0_ : Value, e = .returned (v0_) ∧ Kd.R Kd.string 9 w' w.heap.size (fun _ => True) v0_ r ∧ Below w.heap.size w w' := by
  unfold strings_Split.f at h
  split at h
  case isFalse => cases h
  case isTrue hc =>
    obtain ⟨hs, h1⟩ := hc
    cases h
    obtain ⟨c, rfl⟩ := one_byte h1
    have hle := Lib.countB_le ⟨#[c]⟩ (Nat.le_refl 1) a0.size a0 (Nat.le_refl _)
    have hlen := Lib.splitB_all ⟨#[c]⟩ (Nat.le_refl 1) 0 _ a0 rfl
    have hcs : Lib.cellsOf (Lib.splitB ⟨#[c]⟩ 0 (Lib.countB a0 ⟨#[c]⟩) a0) (Lib.countB a0 ⟨#[c]⟩ + 1) = ((Lib.splitB ⟨#[c]⟩ 0 (Lib.countB a0 ⟨#[c]⟩) a0).map Value.string).toArray := by rw [← hlen]; exact Lib.cellsOf_full _
    have hg : Calls Tryd.prog 34 #[.string a0, .string ⟨#[c]⟩, .int .i64 0, .int .i64 (-1)] w fun e w' =>
        e = .returned (.slice (some ⟨w.heap.size, 0, none⟩) (Lib.splitB ⟨#[c]⟩ 0 (Lib.countB a0 ⟨#[c]⟩) a0).length (Lib.countB a0 ⟨#[c]⟩ + 1)) ∧ w' = w.alloc (.cells (Lib.cellsOf (Lib.splitB ⟨#[c]⟩ 0 (Lib.countB a0 ⟨#[c]⟩) a0) (Lib.countB a0 ⟨#[c]⟩ + 1)) 9) := by
      refine Any.strings_genSplit_core Tryd.lays221 (by kernel_rfl) a0 ⟨#[c]⟩ 0 (-1) (Lib.countB a0 ⟨#[c]⟩ + 1) w hs (Nat.le_refl 1) (Nat.zero_le _) (fun x cs hx => ?_) ?_ (by decide) (by decide) ?_
      · rw [indexB_one]; exact Tryd.strings_Index_one x c _
      · rw [countB_one]; exact Tryd.strings_Count_one a0 c w
      · rw [if_pos (by decide)]; omega
    rw [hlen, hcs] at hg
    have HG := Lib.hid hg
    clear hg
    have HR := Lib.hid (R_new_strings w 9 (Lib.splitB ⟨#[c]⟩ 0 (Lib.countB a0 ⟨#[c]⟩) a0) (fun e => by rw [e] at hlen; cases hlen) (by rw [hlen]; unfold maxLen; omega))
    have HL := Lib.hid hlen
    clear hlen hcs hle h1
    go_enter Tryd.func22, Tryd.ntmps22
    go_wp2_with (go_at_call 34; refine HG.out.mono ?_; rintro e w' ⟨rfl, rfl⟩)
    go_ret
    refine ⟨_, rfl, ?_, (Below.refl _ _).alloc (Nat.le_refl _) _⟩
    have h2 := HR.out
    rw [HL.out] at h2
    exact h2

def strings_Join.f (l0 : List ByteArray) (a1 : ByteArray) : Option ByteArray :=
  if l0.length ≤ 140737488355328 ∧ (Lib.join (l0.map (·.data.toList)) a1.data.toList).length ≤ 140737488355328 then some ⟨(Lib.join (l0.map (·.data.toList)) a1.data.toList).toArray⟩ else none

theorem strings_Join.calls (A0 : Option Addr) (c0 : Nat) (l0 : List ByteArray) (a1 : ByteArray) (r : ByteArray) (w : World) (hr0 : Kd.C Kd.string w A0 l0.length l0) (hc0 : l0.length ≤ c0) (h : strings_Join.f l0 a1 = some r) :
    Calls Tryd.prog 55 #[.slice A0 l0.length c0, .string a1] w fun e w' => e = .returned (.string r) ∧ Below w.heap.size w w' := by
  unfold strings_Join.f at h
  split at h
  case isFalse => cases h
  case isTrue hc =>
    cases h
    cases l0 with
    | nil => exact (Tryd.strings_Join_none A0 c0 a1 w).mono fun e w' ⟨he, hw⟩ => ⟨he, hw ▸ Below.refl _ _⟩
    | cons x l =>
      obtain ⟨_, _, h3⟩ := hr0
      obtain ⟨ad, rfl, hcell⟩ := h3 (by simp)
      have hx : ∀ (j : Nat) y, (x :: l)[j]? = some y → w.cell? (ad.add j) = some (.string y) := fun j y hj => by
        obtain ⟨cs, _, hk, hu⟩ := hcell j y hj
        have hk' : cs = [Value.string y] := hk
        have h5 := hu 0 (.string y) (by rw [hk']; rfl)
        rw [show j * Kd.string.sz + 0 = j from Nat.mul_one j] at h5
        exact h5
      have h0 := hx 0 x rfl
      obtain ⟨b, o, sp⟩ := ad
      have hsp : sp = none := by
        cases sp with
        | none => rfl
        | some q =>
          have h6 : w.cell? ⟨b, o, some q⟩ = some (.string x) := h0
          unfold World.cell? at h6
          split at h6
          · simp at h6
          · cases h6
      subst hsp
      refine Tryd.strings_Join b o c0 (x :: l) a1 w (fun j y hj => ?_) ?_ hc.1 hc0 hc.2
      · have h7 := hx j y hj
        unfold Addr.add at h7
        split at h7
        · rename_i e; subst e; exact h7
        · exact h7
      · have h6 : w.cell? ⟨b, o, none⟩ = some (.string x) := h0
        unfold World.cell? at h6
        split at h6
        · rename_i hb; exact (Array.getElem?_eq_some_iff.1 hb).1
        · cases h6

def strings_TrimLeft.f (a0 a1 : ByteArray) : Option ByteArray :=
  if a1.data.toList = [32, 9] then some ⟨(Lib.trimLeftS a0.data.toList [32, 9]).toArray⟩ else none
theorem strings_TrimLeft.calls (a0 a1 r : ByteArray) (w : World) (h : strings_TrimLeft.f a0 a1 = some r) :
    Calls Tryd.prog 23 #[.string a0, .string a1] w fun e w' => e = .returned (.string r) ∧ Below w.heap.size w w' := by
  unfold strings_TrimLeft.f at h
  split at h
  case isFalse => cases h
  case isTrue hc =>
    cases h
    have e : a1 = ⟨#[32, 9]⟩ := by
      obtain ⟨⟨l⟩⟩ := a1
      have : l = [32, 9] := hc
      rw [this]
    subst e
    exact Any.strings_TrimLeft_laid Tryd.lays161 (by kernel_rfl) a0 ⟨#[32, 9]⟩ w (by decide) (ascii_of_all (by decide))

/-- Is a rune a blank or a tab? -/
def blankP (r : Nat) : Bool := r == 32 || r == 9
theorem blank_pred (w : World) : PredAt Tryd.prog 20 #[] encR blankP w := fun W r _ => by
  unfold FnGives
  by_cases h1 : r = 32
  · subst h1
    go_enter Tryd.func20, Tryd.ntmps20
    go_wp2
    go_ret
    exact ⟨rfl, 0, rfl⟩
  · by_cases h2 : r = 9
    · subst h2
      go_enter Tryd.func20, Tryd.ntmps20
      go_wp2
      go_ret
      exact ⟨rfl, 0, rfl⟩
    · have b1 : ((r : Int) == 32) = false := beq_eq_false_iff_ne.2 (by omega)
      have b2 : ((r : Int) == 9) = false := beq_eq_false_iff_ne.2 (by omega)
      have hb : blankP r = false := by simp [blankP, h1, h2]
      rw [hb]
      go_enter Tryd.func20, Tryd.ntmps20
      go_wp2
      go_ret
      exact ⟨rfl, 0, rfl⟩
def strings_IndexFunc.f (a0 : ByteArray) : Option Int := some (Lib.idxFunc blankP true a0)
theorem strings_IndexFunc.calls (a0 : ByteArray) (r : Int) (w : World) (h : strings_IndexFunc.f a0 = some r) :
    Calls Tryd.prog 19 #[.string a0, .func (.func 20) #[] #[]] w fun e w' => e = .returned (.int .i64 r) ∧ Below w.heap.size w w' := by
  cases h
  exact Tryd.strings_IndexFunc 20 #[] (enters_of Tryd.func20 (by kernel_rfl) rfl) blankP a0 w (blank_pred w)

def strings_Repeat.f (a0 : ByteArray) (a1 : Int) : Option ByteArray :=
  if 0 ≤ a1 ∧ a1 ≤ 9223372036854775807 ∧ a0.size * a1.toNat ≤ 140737488355328 then some ⟨(Lib.repeatL a0.data.toList a1.toNat).toArray⟩ else none
theorem strings_Repeat.calls (a0 : ByteArray) (a1 : Int) (r : ByteArray) (w : World) (h : strings_Repeat.f a0 a1 = some r) :
    Calls Tryd.prog 30 #[.string a0, .int .i64 a1] w fun e w' => e = .returned (.string r) ∧ Below w.heap.size w w' := by
  unfold strings_Repeat.f at h
  split at h
  case isFalse => cases h
  case isTrue hc =>
    cases h
    have := Tryd.strings_Repeat a0 a1.toNat w (by omega) hc.2.2
    rwa [show ((a1.toNat : Nat) : Int) = a1 by omega] at this
end Go.Proofs.YtkcemdfhhdjdaaaDoor.Ext
