/- Plain laws of the path functions: what the printed functions come to, over lists of bytes. -/
import Derived.Test.YtnangnnflmdjbaaDoorPx5
namespace Go.Proofs.YtnangnnflmdjbaaDoor.Pure
open Go Go.RowKit Go.Proofs.YtnangnnflmdjbaaDoor.P Go.Proofs.YtnangnnflmdjbaaDoor.Ext Go.Proofs.YtnangnnflmdjbaaDoorW.PrintWords

def mkB (x : List UInt8) : ByteArray := ⟨x.toArray⟩
def toB (l : List (List UInt8)) : List ByteArray := l.map mkB
theorem mkB_data (x : List UInt8) : (mkB x).data.toList = x := rfl
theorem mkB_of (s : ByteArray) : mkB s.data.toList = s := bytes_ext rfl
theorem toB_of (l : List ByteArray) : toB (l.map (·.data.toList)) = l := by
  unfold toB
  rw [List.map_map]
  conv => rhs; rw [← List.map_id l]
  exact List.map_congr_left (fun x _ => mkB_of x)
theorem size_list (s : ByteArray) : s.data.toList.length = s.size := Array.length_toList
theorem bt_get (s : ByteArray) (i : Nat) (h : i < s.size) : bt s i = ((s.data.toList[i]'(by rw [size_list]; exact h)).toNat : Int) := by
  unfold bt
  rw [dif_pos (by simpa using h)]
  rfl
theorem byte_eq (c : UInt8) (n : Nat) (hn : n < 256) : ((c.toNat : Int) = (n : Int)) ↔ c = UInt8.ofNat n := by
  constructor
  · intro h
    have : c.toNat = n := by omega
    rw [← this]; simp
  · rintro rfl
    simp [Nat.mod_eq_of_lt hn]
theorem extract_mk (s : ByteArray) (a b : Nat) : s.extract a b = mkB ((s.data.toList.drop a).take (b - a)) := by
  exact bytes_ext (Lib.extract_data s a b)

/-- A text, cut at each c. -/
def spl (c : UInt8) : List UInt8 → List (List UInt8)
  | [] => [[]]
  | x :: xs => if x = c then [] :: spl c xs else match spl c xs with
    | [] => [[x]]
    | y :: ys => (x :: y) :: ys
theorem spl_ne (c : UInt8) : ∀ l, spl c l ≠ []
  | [] => by simp [spl]
  | x :: xs => by
    unfold spl
    split
    · simp
    · split <;> simp
def preL (p : List UInt8) : List (List UInt8) → List (List UInt8)
  | [] => [p]
  | y :: ys => (p ++ y) :: ys
theorem preL_nil {l : List (List UInt8)} (h : l ≠ []) : preL [] l = l := by
  cases l with
  | nil => exact absurd rfl h
  | cons y ys => rfl
theorem preL_cons (p : List UInt8) (c x : UInt8) (xs : List UInt8) (h : x ≠ c) : preL p (spl c (x :: xs)) = preL (p ++ [x]) (spl c xs) := by
  rw [spl, if_neg h]
  have := spl_ne c xs
  cases hs : spl c xs with
  | nil => exact absurd hs this
  | cons y ys => simp [preL]
theorem spl_miss (c : UInt8) : ∀ l : List UInt8, Lib.indexByte l c = -1 → spl c l = [l]
  | [], _ => rfl
  | x :: xs, h => by
    unfold Lib.indexByte at h
    split at h
    · cases h
    · rename_i hx
      split at h
      · rename_i h1
        have := spl_miss c xs (beq_iff_eq.1 h1)
        rw [spl, if_neg (fun e => hx (by rw [e]; simp)), this]
      · rename_i h1
        have := Lib.indexByte_ge xs c
        simp at h1
        omega
theorem spl_hit (c : UInt8) : ∀ (l : List UInt8) (i : Nat), Lib.indexByte l c = i → spl c l = l.take i :: spl c (l.drop (i + 1)) ∧ l.count c = (l.drop (i + 1)).count c + 1 ∧ i < l.length
  | [], i, h => by unfold Lib.indexByte at h; omega
  | x :: xs, i, h => by
    unfold Lib.indexByte at h
    split at h
    · rename_i hx
      have hx' : x = c := beq_iff_eq.1 hx
      have : i = 0 := by omega
      subst this
      subst hx'
      simp [spl]
    · rename_i hx
      have hne : ¬ x = c := fun e => hx (by rw [e]; simp)
      split at h
      · omega
      · obtain ⟨j, hj⟩ : ∃ j : Nat, Lib.indexByte xs c = j := ⟨(Lib.indexByte xs c).toNat, by
          have := Lib.indexByte_ge xs c
          rename_i h1
          simp at h1
          omega⟩
        have hi : i = j + 1 := by omega
        subst hi
        obtain ⟨h2, h3, h4⟩ := spl_hit c xs j hj
        refine ⟨?_, ?_, by simp; omega⟩
        · rw [spl, if_neg hne, h2]
          rfl
        · rw [List.count_cons, h3]
          simp [hne]
theorem splitK_spl (c : UInt8) : ∀ (k : Nat) (l : List UInt8), l.count c ≤ k → Lib.splitK [c] 0 k l = spl c l
  | k, l, h => by
    rcases Int.lt_or_le (Lib.indexByte l c) 0 with h0 | h0
    · have hm : Lib.indexByte l c = -1 := by have := Lib.indexByte_ge l c; omega
      rw [spl_miss c l hm]
      cases k with
      | zero => rfl
      | succ k =>
        unfold Lib.splitK
        rw [Lib.index_one, if_pos (by rw [hm]; rfl)]
    · obtain ⟨i, hi⟩ : ∃ i : Nat, Lib.indexByte l c = i := ⟨(Lib.indexByte l c).toNat, by omega⟩
      obtain ⟨h1, h2, h3⟩ := spl_hit c l i hi
      cases k with
      | zero => omega
      | succ k =>
        unfold Lib.splitK
        rw [Lib.index_one, hi, if_neg (fun e => by have := beq_iff_eq.1 e; omega), h1]
        have := splitK_spl c k (l.drop (i + 1)) (by omega)
        simpa using this
theorem splitB_spl (c : UInt8) (k : Nat) (s : ByteArray) (h : s.data.toList.count c ≤ k) : Lib.splitB ⟨#[c]⟩ 0 k s = toB (spl c s.data.toList) := by
  rw [← toB_of (Lib.splitB ⟨#[c]⟩ 0 k s), Lib.splitB_data]
  congr 1
  exact splitK_spl c k s.data.toList h
theorem pcs_spl (c : UInt8) (s : ByteArray) : Pcs c s = toB (spl c s.data.toList) :=
  splitB_spl c s.size s (by rw [← size_list]; exact List.count_le_length)
theorem partsP_spl (s : ByteArray) : partsP s = if s.data.toList = [] then [] else toB (spl 47 s.data.toList) := by
  unfold partsP
  split
  · rfl
  · refine splitB_spl 47 _ s ?_
    rw [countB_one]
    exact Nat.le_refl _

theorem w64 {i : Nat} (h : i < 4611686018427387904) : wrap64 ((i : Int) + 1) = ((i + 1 : Nat) : Int) := by unfold wrap64; omega

theorem split_l0 (s : ByteArray) (hn : s.size ≤ 1000000) (d : Nat) : ∀ (k : Nat) (out : List ByteArray) (a i : Nat), a ≤ i → i ≤ s.size → out.length ≤ i → s.size - i = d → d + 1 < k →
    haversackref7_Split.l0 k s out a i = some (out ++ toB (preL ((s.data.toList.drop a).take (i - a)) (spl 47 (s.data.toList.drop i)))) := by
  induction d with
  | zero =>
    intro k out a i h1 h2 h3 hd hk
    obtain ⟨k, rfl⟩ : ∃ m, k = m + 1 := ⟨k - 1, by omega⟩
    have hi : i = s.size := by omega
    subst hi
    rw [haversackref7_Split.l0, if_pos (by omega), if_pos rfl, if_pos (by omega), if_pos (by omega), if_pos (by omega), w64 (by omega)]
    obtain ⟨k, rfl⟩ : ∃ m, k = m + 1 := ⟨k - 1, by omega⟩
    rw [haversackref7_Split.l0, if_neg (by omega)]
    have hd0 : s.data.toList.drop s.size = [] := List.drop_eq_nil_of_le (by rw [size_list]; omega)
    rw [hd0, extract_mk]
    simp [spl, preL, toB]
  | succ d ih =>
    intro k out a i h1 h2 h3 hd hk
    obtain ⟨k, rfl⟩ : ∃ m, k = m + 1 := ⟨k - 1, by omega⟩
    have hlt : i < s.size := by omega
    have hl := size_list s
    have hdrop : s.data.toList.drop i = s.data.toList[i]'(by omega) :: s.data.toList.drop (i + 1) := List.drop_eq_getElem_cons (by omega)
    have htake : (s.data.toList.drop a).take (i + 1 - a) = (s.data.toList.drop a).take (i - a) ++ [s.data.toList[i]'(by omega)] := by
      rw [show i + 1 - a = (i - a) + 1 by omega, List.take_succ_eq_append_getElem (by rw [List.length_drop]; omega)]
      congr 2
      simp only [List.getElem_drop]
      congr 1
      omega
    simp only [haversackref7_Split.l0]
    rw [if_pos (by omega), if_neg (by omega), if_pos (by omega), if_pos (by omega), bt_get s i hlt, hdrop]
    generalize s.data.toList[i]'(by omega) = c at htake ⊢
    by_cases hc : c = 47
    · subst hc
      rw [if_pos (by decide), if_pos (by omega), if_pos (by omega), if_pos (by omega), w64 (by omega), ih k _ (i + 1) (i + 1) (by omega) (by omega) (by simp; omega) (by omega) (by omega)]
      rw [Nat.sub_self, List.take_zero, preL_nil (spl_ne _ _), extract_mk]
      simp [spl, preL, toB]
    · have hc' : ¬ ((c.toNat : Int) = 47) := fun e => hc ((byte_eq c 47 (by decide)).1 e)
      rw [if_neg hc', w64 (by omega), ih k _ a (i + 1) (by omega) (by omega) (by omega) (by omega) (by omega), htake, preL_cons _ _ _ _ hc]
theorem split_f (s : ByteArray) (hn : s.size ≤ 1000000) (k : Nat) (hk : s.size + 1 < k) : haversackref7_Split.f k s = some (Pcs 47 s) := by
  unfold haversackref7_Split.f
  have := split_l0 s hn s.size k [] 0 0 (Nat.le_refl _) (by omega) (Nat.le_refl _) (by omega) hk
  rw [List.drop_zero, Nat.sub_self, List.take_zero, preL_nil (spl_ne _ _), List.nil_append, ← pcs_spl] at this
  exact this
end Go.Proofs.YtnangnnflmdjbaaDoor.Pure
