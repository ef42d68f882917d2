/- Plain laws of the path functions, continued: bad, glue, clean, Clean, Join. -/
import Derived.Test.YtnangnnflmdjbaaDoorPure0
namespace Go.Proofs.YtnangnnflmdjbaaDoor.Pure
open Go Go.RowKit Go.Proofs.YtnangnnflmdjbaaDoor.P Go.Proofs.YtnangnnflmdjbaaDoor.Ext Go.Proofs.YtnangnnflmdjbaaDoorW.PrintWords

theorem app_data (a b : ByteArray) : (a ++ b).data.toList = a.data.toList ++ b.data.toList := by simp
theorem app_size (a b : ByteArray) : (a ++ b).size = a.size + b.size := by simp

theorem data_ext {a b : ByteArray} (h : a.data.toList = b.data.toList) : a = b := (mkB_of a).symm.trans ((congrArg mkB h).trans (mkB_of b))

set_option maxRecDepth 100000 in
theorem ok_fin : ∀ n : Fin 256, okByte (UInt8.ofNat n.val) = true ↔ (¬ ((n.val : Nat) : Int) < 33 ∧ ¬ ((n.val : Nat) : Int) > 126 ∧ ¬ ((n.val : Nat) : Int) = 34 ∧ ¬ ((n.val : Nat) : Int) = 92 ∧ ¬ ((n.val : Nat) : Int) = 42 ∧ ¬ ((n.val : Nat) : Int) = 63 ∧ ¬ ((n.val : Nat) : Int) = 58) := by decide +kernel
theorem ok_iff (c : UInt8) : okByte c = true ↔ (¬ (c.toNat : Int) < 33 ∧ ¬ (c.toNat : Int) > 126 ∧ ¬ (c.toNat : Int) = 34 ∧ ¬ (c.toNat : Int) = 92 ∧ ¬ (c.toNat : Int) = 42 ∧ ¬ (c.toNat : Int) = 63 ∧ ¬ (c.toNat : Int) = 58) := by
  have h := ok_fin ⟨c.toNat, c.toNat_lt⟩
  simpa using h

theorem bad_l0 (x : ByteArray) (hn : x.size ≤ 1000000) (d : Nat) : ∀ (k i : Nat), i ≤ x.size → x.size - i = d → d < k →
    haversackref7_bad.l0 k x i = some (!((x.data.toList.drop i).all okByte)) := by
  induction d with
  | zero =>
    intro k i h1 hd hk
    obtain ⟨k, rfl⟩ : ∃ m, k = m + 1 := ⟨k - 1, by omega⟩
    have hd0 : x.data.toList.drop i = [] := List.drop_eq_nil_of_le (by rw [size_list]; omega)
    rw [haversackref7_bad.l0, if_neg (by omega), hd0]
    rfl
  | succ d ih =>
    intro k i h1 hd hk
    obtain ⟨k, rfl⟩ : ∃ m, k = m + 1 := ⟨k - 1, by omega⟩
    have hlt : i < x.size := by omega
    have hl := size_list x
    have hdrop : x.data.toList.drop i = x.data.toList[i]'(by omega) :: x.data.toList.drop (i + 1) := List.drop_eq_getElem_cons (by omega)
    have h2 := ih k (i + 1) (by omega) (by omega) (by omega)
    rw [haversackref7_bad.l0, if_pos (by omega), if_pos (by omega), bt_get x i hlt, hdrop, w64 (by omega), h2]
    generalize x.data.toList[i]'(by omega) = c
    have hc := ok_iff c
    rw [List.all_cons]
    cases hb : okByte c with
    | true =>
      obtain ⟨a1, a2, a3, a4, a5, a6, a7⟩ := hc.1 hb
      rw [if_neg a1, if_neg a2, if_neg a3, if_neg a4, if_neg a5, if_neg a6, if_neg a7]
      simp
    | false =>
      rw [hb] at hc
      repeat' split
      all_goals first | rfl | (exfalso; have := hc.2 ⟨‹_›, ‹_›, ‹_›, ‹_›, ‹_›, ‹_›, ‹_›⟩; cases this)
theorem bad_f (x : ByteArray) (k : Nat) (hk : 33 < k) : haversackref7_bad.f k x = some (decide (partI x ≠ 0)) := by
  unfold haversackref7_bad.f partI
  by_cases h : 32 < x.size
  · rw [if_pos (by omega), if_pos h]; rfl
  · rw [if_neg (by omega), if_neg h]
    have := bad_l0 x (by omega) x.size k 0 (by omega) (by omega) (by omega)
    rw [List.drop_zero] at this
    rw [show ((0 : Int) = ((0 : Nat) : Int)) from rfl, this]
    cases hb : x.data.toList.all okByte <;> simp

/-- Parts, with / between. -/
def glueB (l : List ByteArray) : ByteArray := mkB (Lib.join (l.map (·.data.toList)) [47])
/-- How long it is, at most. -/
def sumB (l : List ByteArray) : Nat := (l.map (fun x => x.size + 1)).sum
theorem sumB_cons (x : ByteArray) (l : List ByteArray) : sumB (x :: l) = x.size + 1 + sumB l := by simp [sumB]
theorem tail_cons (x : ByteArray) (l : List ByteArray) : Lib.joinTail [47] ((x :: l).map (·.data.toList)) = 47 :: (x.data.toList ++ Lib.joinTail [47] (l.map (·.data.toList))) := by simp [Lib.joinTail]
theorem tail_len (l : List ByteArray) : (Lib.joinTail [47] (l.map (·.data.toList))).length = sumB l := by
  induction l with
  | nil => rfl
  | cons x l ih =>
    rw [tail_cons, List.length_cons, List.length_append, ih, size_list, sumB_cons]
    omega
theorem rdOf_get {α : Type} (d : α) (l : List α) (i : Nat) (h : i < l.length) : rdOf d l (i : Int) = l[i] := by
  unfold rdOf
  rw [Int.toNat_natCast, List.getD_eq_getElem?_getD, List.getElem?_eq_getElem h]
  rfl
theorem glue_l0 (l : List ByteArray) (hl : l.length ≤ 1000000) (d : Nat) : ∀ (k i : Nat) (acc : ByteArray), 1 ≤ i → i ≤ l.length → l.length - i = d → d < k → acc.size + sumB (l.drop i) ≤ 4611686018427387904 →
    haversackref7_glue.l0 k l acc i = some (acc ++ mkB (Lib.joinTail [47] ((l.drop i).map (·.data.toList)))) := by
  induction d with
  | zero =>
    intro k i acc h0 h1 hd hk hs
    obtain ⟨k, rfl⟩ : ∃ m, k = m + 1 := ⟨k - 1, by omega⟩
    rw [haversackref7_glue.l0, if_neg (by omega), List.drop_eq_nil_of_le (by omega)]
    congr 1
    exact data_ext (by rw [app_data]; simp [Lib.joinTail, mkB])
  | succ d ih =>
    intro k i acc h0 h1 hd hk hs
    obtain ⟨k, rfl⟩ : ∃ m, k = m + 1 := ⟨k - 1, by omega⟩
    have hlt : i < l.length := by omega
    have hdrop : l.drop i = l[i] :: l.drop (i + 1) := List.drop_eq_getElem_cons hlt
    have hrd : rdOf ByteArray.empty l (i : Int) = l[i] := rdOf_get _ _ _ hlt
    rw [hdrop] at hs
    rw [sumB_cons] at hs
    rw [haversackref7_glue.l0, if_pos (by omega), if_pos (by omega), if_pos (by omega), if_pos (by omega), hrd, if_pos (by rw [app_size]; show acc.size + 1 + _ ≤ _; omega), w64 (by omega),
      ih k (i + 1) _ (by omega) (by omega) (by omega) (by omega) (by rw [app_size, app_size]; show acc.size + 1 + _ + _ ≤ _; omega), hdrop]
    congr 1
    refine data_ext ?_
    rw [app_data, app_data, app_data, mkB_data, app_data, mkB_data, tail_cons]
    simp
theorem glue_f (l : List ByteArray) (hl : l.length ≤ 1000000) (k : Nat) (hk : l.length < k) (hs : sumB l ≤ 4611686018427387904) : haversackref7_glue.f k l = some (glueB l) := by
  unfold haversackref7_glue.f
  obtain ⟨k, rfl⟩ : ∃ m, k = m + 1 := ⟨k - 1, by omega⟩
  cases l with
  | nil => rw [haversackref7_glue.l0, if_neg (by simp)]; rfl
  | cons x r =>
    have hrd : rdOf ByteArray.empty (x :: r) 0 = x := rfl
    rw [sumB_cons] at hs
    rw [haversackref7_glue.l0, if_pos (by rw [List.length_cons]; omega), if_neg (by omega), if_pos (by omega), hrd, if_pos (by show 0 + _ ≤ _; omega), show wrap64 (0 + 1) = ((1 : Nat) : Int) by unfold wrap64; omega,
      glue_l0 (x :: r) hl r.length k 1 _ (by omega) (by simp) (by simp) (by simp at hk; omega) (by rw [app_size]; show 0 + x.size + sumB r ≤ _; omega)]
    congr 1
    refine data_ext ?_
    rw [app_data, app_data, mkB_data, glueB, mkB_data, List.map_cons, Lib.join_cons]
    simp
theorem join_f (l : List ByteArray) (hl : l.length ≤ 1000000) (hs : sumB l ≤ 1000000000) : strings_Join.f l ⟨#[47]⟩ = some (glueB l) := by
  unfold strings_Join.f
  have hlen : (Lib.join (l.map (·.data.toList)) [47]).length ≤ sumB l := by
    cases l with
    | nil => simp [Lib.join_nil]
    | cons x r =>
      rw [List.map_cons, Lib.join_cons, List.length_append, tail_len, size_list, sumB_cons]
      omega
  rw [if_pos ⟨by omega, by show (Lib.join (l.map (·.data.toList)) [47]).length ≤ _; omega⟩]
  rfl
end Go.Proofs.YtnangnnflmdjbaaDoor.Pure
