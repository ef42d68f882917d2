/- Plain laws of clean paths: parts, parent, base, within; PathParts, PathJoins. -/
import Derived.Test.YtnangnnflmdjbaaDoorPure3
namespace Go.Proofs.YtnangnnflmdjbaaDoor.Pure
open Go Go.RowKit Go.Proofs.YtnangnnflmdjbaaDoor.P Go.Proofs.YtnangnnflmdjbaaDoor.Ext Go.Proofs.YtnangnnflmdjbaaDoorW.PrintWords

theorem spl_pre (c : UInt8) (p l : List UInt8) (h : c ∉ p) : spl c (p ++ l) = preL p (spl c l) := by
  induction p with
  | nil => rw [List.nil_append, preL_nil (spl_ne _ _)]
  | cons x p ih =>
    have hx : x ≠ c := fun e => h (by rw [e]; simp)
    have ih := ih (fun e => h (by simp [e]))
    rw [List.cons_append, spl, if_neg hx, ih]
    cases hs : spl c l with
    | nil => exact absurd hs (spl_ne _ _)
    | cons y ys => rfl
theorem spl_one (c : UInt8) (p : List UInt8) (h : c ∉ p) : spl c p = [p] := by
  have := spl_pre c p [] h
  rw [List.append_nil] at this
  rw [this]
  simp [spl, preL]
theorem spl_cut (c : UInt8) (p l : List UInt8) (h : c ∉ p) : spl c (p ++ c :: l) = p :: spl c l := by
  rw [spl_pre c p _ h, spl, if_pos rfl]
  simp [preL]
theorem spl_mem (c : UInt8) : ∀ (l : List UInt8) (y : List UInt8), y ∈ spl c l → c ∉ y
  | [], y, h => by simp [spl] at h; rw [h]; simp
  | x :: xs, y, h => by
    rw [spl] at h
    split at h
    · rcases List.mem_cons.1 h with rfl | h
      · simp
      · exact spl_mem c xs y h
    · rename_i hx
      split at h
      · rename_i hn
        exact absurd hn (spl_ne _ _)
      · rename_i z zs hz
        rcases List.mem_cons.1 h with rfl | h
        · have := spl_mem c xs z (by rw [hz]; simp)
          intro e
          rcases List.mem_cons.1 e with e | e
          · exact hx e.symm
          · exact this e
        · exact spl_mem c xs y (by rw [hz]; simp [h])
/-- One more text behind a cut. -/
theorem spl_snoc (c : UInt8) : ∀ (l m : List UInt8), spl c (l ++ c :: m) = spl c l ++ spl c m
  | [], m => by simp [spl]
  | x :: xs, m => by
    rw [List.cons_append, spl, spl, spl_snoc c xs m]
    split
    · rfl
    · cases hs : spl c xs with
      | nil => exact absurd hs (spl_ne _ _)
      | cons y ys => rfl

/-- A part of a clean path. -/
def Good (y : ByteArray) : Prop := partI y = 0 ∧ y.data.toList ≠ [] ∧ y.data.toList ≠ [46] ∧ y.data.toList ≠ [46, 46] ∧ (47 : UInt8) ∉ y.data.toList
theorem spl_tail : ∀ (r : List ByteArray), (∀ y ∈ r, Good y) → ∀ (x : List UInt8), (47 : UInt8) ∉ x → spl 47 (x ++ Lib.joinTail [47] (r.map (·.data.toList))) = x :: r.map (·.data.toList)
  | [], _, x, hx => by rw [show Lib.joinTail [47] (([] : List ByteArray).map (·.data.toList)) = [] from rfl, List.append_nil]; exact spl_one 47 x hx
  | y :: r, h, x, hx => by
    rw [tail_cons, spl_cut 47 x _ hx, spl_tail r (fun z hz => h z (by simp [hz])) _ (h y (by simp)).2.2.2.2]
    rfl
theorem spl_glue (x : ByteArray) (r : List ByteArray) (h : ∀ y ∈ x :: r, Good y) : spl 47 (glueB (x :: r)).data.toList = (x :: r).map (·.data.toList) := by
  unfold glueB
  rw [mkB_data, List.map_cons, Lib.join_cons]
  exact spl_tail r (fun y hy => h y (by simp [hy])) _ (h x (by simp)).2.2.2.2
theorem glue_nil : glueB [] = ⟨#[]⟩ := rfl
theorem glue_ne (x : ByteArray) (r : List ByteArray) (h : ∀ y ∈ x :: r, Good y) : ¬ (glueB (x :: r)).data.toList = [] := by
  unfold glueB
  rw [mkB_data, List.map_cons, Lib.join_cons]
  intro e
  exact (h x (by simp)).2.1 (List.append_eq_nil_iff.1 e).1
theorem parts_glue (r : List ByteArray) (h : ∀ y ∈ r, Good y) : partsP (glueB r) = r := by
  rw [partsP_spl]
  cases r with
  | nil => rfl
  | cons x r =>
    rw [if_neg (glue_ne x r h), spl_glue x r h]
    exact toB_of _
theorem steps_good (stay : Nat) : ∀ (r l : List ByteArray), (∀ y ∈ r, Good y) → stepsP stay l r = .ok (l ++ r)
  | [], l, _ => by simp [stepsP]
  | y :: r, l, h => by
    have hy := h y (by simp)
    have : stepP stay l y = .ok (l ++ [y]) := by
      unfold stepP
      rw [if_neg (by simp [hy.2.1, hy.2.2.1]), if_neg hy.2.2.2.1, if_pos hy.1]
    rw [stepsP, this]
    simp only
    rw [steps_good stay r _ (fun z hz => h z (by simp [hz]))]
    simp
theorem head_glue (x : ByteArray) (r : List ByteArray) (h : ∀ y ∈ x :: r, Good y) : ¬ (glueB (x :: r)).data.toList.head? = some 47 := by
  unfold glueB
  rw [mkB_data, List.map_cons, Lib.join_cons]
  have hx := h x (by simp)
  cases hd : x.data.toList with
  | nil => exact absurd hd hx.2.1
  | cons c cs =>
    intro e
    have e' : c = 47 := by simpa using e
    exact hx.2.2.2.2 (by rw [hd, e']; simp)
theorem walk_glue (r : List ByteArray) (h : ∀ y ∈ r, Good y) (hl : r.length ≤ 12) : walkP [] (glueB r) = .ok r := by
  rw [walkP_eq]
  cases r with
  | nil => rfl
  | cons x r =>
    rw [if_neg (head_glue x r h), pcs_spl, spl_glue x r h, toB_of, List.length_nil, steps_good 0 _ _ h, List.nil_append]
    unfold lastP
    simp only
    rw [if_neg (by omega)]

/-- What a walk from the root leaves is good, and no longer than what it walked over. -/
theorem walk_good {s : ByteArray} {r : List ByteArray} (h : walkP [] s = .ok r) : r.length ≤ 12 ∧ ∀ y ∈ r, Good y := by
  obtain ⟨h1, h2⟩ := walkP_ok h
  refine ⟨h1, fun y hy => ?_⟩
  rcases h2 y hy with h3 | ⟨h3, h4, h5, h6, h7⟩
  · cases h3
  · refine ⟨h4, h5, h6, h7, ?_⟩
    rw [pcs_spl] at h3
    obtain ⟨z, hz, rfl⟩ := List.mem_map.1 h3
    exact spl_mem 47 _ z hz
theorem stepP_sub {stay : Nat} {l l' : List ByteArray} {x : ByteArray} (h : stepP stay l x = .ok l') : List.Sublist l' (l ++ [x]) := by
  unfold stepP at h
  split at h
  · cases h; exact List.sublist_append_left _ _
  · split at h
    · split at h
      · cases h
      · cases h; exact (List.dropLast_sublist l).trans (List.sublist_append_left _ _)
    · split at h
      · cases h; exact List.Sublist.refl _
      · cases h
theorem stepsP_sub (stay : Nat) : ∀ (xs l l' : List ByteArray), stepsP stay l xs = .ok l' → List.Sublist l' (l ++ xs)
  | [], l, l', h => by cases h; simp
  | x :: xs, l, l', h => by
    simp only [stepsP] at h
    cases hx : stepP stay l x with
    | error c => rw [hx] at h; cases h
    | ok l1 =>
      rw [hx] at h
      have h1 := stepsP_sub stay xs l1 l' h
      have h2 := (stepP_sub hx).append (List.Sublist.refl xs)
      rw [List.append_assoc, List.singleton_append] at h2
      exact h1.trans h2
theorem sumB_sub {l l' : List ByteArray} (h : List.Sublist l l') : sumB l ≤ sumB l' := by
  induction h with
  | slnil => exact Nat.le_refl _
  | cons a _ ih => rw [sumB_cons]; omega
  | cons_cons a _ ih => rw [sumB_cons, sumB_cons]; omega
theorem sumB_spl (c : UInt8) : ∀ l : List UInt8, sumB (toB (spl c l)) = l.length + 1
  | [] => rfl
  | x :: xs => by
    have ih := sumB_spl c xs
    rw [spl]
    split
    · show sumB (mkB [] :: toB (spl c xs)) = _
      rw [sumB_cons, ih]
      show 0 + 1 + _ = _
      simp; omega
    · cases hs : spl c xs with
      | nil => exact absurd hs (spl_ne _ _)
      | cons y ys =>
        rw [hs] at ih
        have e1 : sumB (toB (y :: ys)) = (mkB y).size + 1 + sumB (toB ys) := sumB_cons _ _
        have e2 : sumB (toB ((x :: y) :: ys)) = (mkB (x :: y)).size + 1 + sumB (toB ys) := sumB_cons _ _
        have e3 : (mkB (x :: y)).size = (mkB y).size + 1 := by rw [← size_list, ← size_list]; rfl
        simp only
        rw [e2, e3]
        rw [e1] at ih
        simp; omega
theorem glue_size (r : List ByteArray) : (glueB r).size ≤ sumB r - 1 := by
  cases r with
  | nil => exact Nat.le_refl _
  | cons x r =>
    rw [← size_list, glueB, mkB_data, List.map_cons, Lib.join_cons, List.length_append, tail_len, size_list, sumB_cons]
    omega
theorem walk_short {s : ByteArray} {r : List ByteArray} (h : walkP [] s = .ok r) : (glueB r).size ≤ s.size := by
  rw [walkP_eq] at h
  split at h
  · cases h
  · cases hst : stepsP ([] : List ByteArray).length [] (Pcs 47 s) with
    | error c => rw [hst] at h; cases h
    | ok l =>
      rw [hst] at h
      unfold lastP at h
      simp only at h
      split at h
      · cases h
      · cases h
        have h1 := sumB_sub (stepsP_sub _ _ _ _ hst)
        rw [List.nil_append, pcs_spl, sumB_spl, size_list] at h1
        have := glue_size r
        omega
/-- What Clean tells: an error, or a clean path: its good parts. -/
theorem clean_cases (s : ByteArray) (k : Nat) (hk : 30000 ≤ k) (hn : s.size ≤ 10000) : (∃ c, haversackref7_Clean.f k s = some (⟨#[]⟩, c) ∧ c ≠ 0) ∨ ∃ r, (∀ y ∈ r, Good y) ∧ r.length ≤ 12 ∧ (glueB r).size ≤ 200 ∧ haversackref7_Clean.f k s = some (glueB r, 0) := by
  rw [ref_Clean s hn k hk]
  by_cases h200 : 200 < s.size
  · rw [if_pos h200]; exact .inl ⟨50, rfl, by decide⟩
  · rw [if_neg h200]
    cases hw : walkP [] s with
    | error c => exact .inl ⟨c, rfl, walkP_err hw⟩
    | ok r =>
      obtain ⟨h1, h2⟩ := walk_good hw
      exact .inr ⟨r, h2, h1, by have := walk_short hw; omega, rfl⟩
end Go.Proofs.YtnangnnflmdjbaaDoor.Pure
