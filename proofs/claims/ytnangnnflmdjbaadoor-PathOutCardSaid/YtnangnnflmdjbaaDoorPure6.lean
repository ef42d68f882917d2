/- The plain statements of PathParts and PathJoins. -/
import Derived.Test.YtnangnnflmdjbaaDoorPure5
namespace Go.Proofs.YtnangnnflmdjbaaDoor.Pure
open Go Go.RowKit Go.Proofs.YtnangnnflmdjbaaDoor.P Go.Proofs.YtnangnnflmdjbaaDoor.Ext Go.Proofs.YtnangnnflmdjbaaDoorW.PrintWords

theorem within_nil (p : ByteArray) : withinP p ⟨#[]⟩ = true := rfl
theorem within_self (p : ByteArray) : withinP p p = true := by
  unfold withinP
  rw [beq_self_eq_true]
  simp
theorem within_head (x : ByteArray) (r : List ByteArray) (z : ByteArray) : withinP (headB (x :: r) ++ z) (glueB (x :: r)) = true := by
  unfold withinP
  have : (glueB (x :: r)).data.toList ++ [47] <+: (headB (x :: r) ++ z).data.toList := by
    rw [app_data, headB, app_data]
    exact ⟨z.data.toList, rfl⟩
  rw [List.isPrefixOf_iff_prefix.2 this]
  simp
theorem within_parent (r : List ByteArray) (y : ByteArray) : withinP (glueB (r ++ [y])) (glueB r) = true := by
  rw [glue_snoc]
  cases r with
  | nil => rfl
  | cons x r => exact within_head x r y
/-- Whatever is put behind a directory's parts is below it. -/
theorem within_more (r : List ByteArray) : ∀ (m : List ByteArray), withinP (glueB (r ++ m)) (glueB r) = true := by
  intro m
  cases r with
  | nil => rfl
  | cons x r =>
    cases m with
    | nil => rw [List.append_nil]; exact within_self _
    | cons y m =>
      have h : glueB ((x :: r) ++ (y :: m)) = headB (x :: r) ++ glueB (y :: m) := by
        refine data_ext ?_
        rw [app_data, headB, app_data, glueB, glueB, glueB, mkB_data, mkB_data, mkB_data, List.cons_append, List.map_cons, List.map_cons, List.map_cons, Lib.join_cons, Lib.join_cons, Lib.join_cons]
        simp [Lib.joinTail]
      rw [h]
      exact within_head x r _

theorem parts_j3 (r : List ByteArray) (hg : ∀ y ∈ r, Good y) (hsz : (glueB r).size ≤ 200) (d : ByteArray) (hd : d.size ≤ 200) (x12 : ByteArray) (hx : (r = [] ∧ x12 = ⟨#[]⟩) ∨ (∃ r' y, r = r' ++ [y] ∧ x12 = headB r')) (k : Nat) (hk : 30000 < k) :
    haversacklaw7_PathParts.j3 k (glueB r) d x12 = some true := by
  obtain ⟨k, rfl⟩ : ∃ m, k = m + 1 := ⟨k - 1, by omega⟩
  rw [haversacklaw7_PathParts.j3]
  rw [path_within (glueB r) d (by omega) (by omega), ref_within (glueB r) d (by omega) (by omega), path_within (glueB r) ⟨#[]⟩ (by omega) (by decide), within_nil]
  rcases hx with ⟨rfl, rfl⟩ | ⟨r', y, rfl, rfl⟩
  · rw [base_nil k (by omega), parent_nil k (by omega)]
    simp only [Option.bind_some, beq_self_eq_true, if_true]
    rw [if_pos (by decide), if_pos (by simp only [Lib.toList_data, app_data]; rfl), path_within (glueB []) ⟨#[]⟩ (by decide) (by decide)]
    rfl
  · have hy : Good y := hg y (by simp)
    have hle : (headB r').size + y.size ≤ 200 := by rw [glue_snoc, app_size] at hsz; exact hsz
    have hle2 : (glueB r').size ≤ 200 := by
      have := glue_parent r'
      have h2 : (glueB r').size ≤ (headB r').size := by rw [← this, ByteArray.size_extract]; omega
      omega
    rw [base_path r' y hy (by omega) k (by omega), parent_path r' y hy (by omega) k (by omega)]
    simp only [Option.bind_some, beq_self_eq_true, if_true]
    rw [if_pos (by omega), if_pos (by rw [glue_snoc]), path_within _ (glueB r') (by omega) (by omega), within_parent]
    rfl
theorem parts_j1 (r : List ByteArray) (hg : ∀ y ∈ r, Good y) (hl : r.length ≤ 12) (hsz : (glueB r).size ≤ 200) (d : ByteArray) (hd : d.size ≤ 200) (k : Nat) (hk : 30010 < k) : haversacklaw7_PathParts.j1 k (glueB r) d false = some true := by
  obtain ⟨k, rfl⟩ : ∃ m, k = m + 1 := ⟨k - 1, by omega⟩
  have hpar : ∃ t, path_Parent.f k (glueB r) = some t ∧ t = glueB r.dropLast := by
    rcases List.eq_nil_or_concat r with rfl | ⟨r', y, rfl⟩
    · exact ⟨_, parent_nil k (by omega), rfl⟩
    · rw [List.concat_eq_append] at hsz ⊢
      exact ⟨_, parent_path r' y (hg y (by simp)) (by omega) k (by omega), by simp⟩
  have hbase : path_Base.f k (glueB r) = some (r.getLast?.getD ⟨#[]⟩) := by
    rcases List.eq_nil_or_concat r with rfl | ⟨r', y, rfl⟩
    · exact base_nil k (by omega)
    · rw [List.concat_eq_append] at hsz ⊢
      rw [base_path r' y (hg y (by simp)) (by omega) k (by omega)]
      simp
  obtain ⟨t, ht1, ht2⟩ := hpar
  subst ht2
  rw [haversacklaw7_PathParts.j1, if_neg (by decide), path_Clean_eq _ (by omega), path_parts _ (by omega), if_neg (by omega), walk_glue r hg hl, parts_glue r hg]
  simp only [Option.bind_some, endP, if_true]
  rw [ref_parts _ (by omega) k (by omega), parts_glue r hg]
  simp only [Option.bind_some]
  rw [strings_same r (by omega) k (by omega)]
  simp only [Option.bind_some, if_true]
  rw [ht1, ref_parent r hg hl (by omega) k (by omega), hbase, ref_base r hg hl (by omega) k (by omega)]
  simp only [Option.bind_some, if_true]
  rw [bne_self_eq_false]
  obtain ⟨k, rfl⟩ : ∃ m, k = m + 1 := ⟨k - 1, by omega⟩
  rw [haversacklaw7_PathParts.j2, if_neg (by decide)]
  rcases List.eq_nil_or_concat r with rfl | ⟨r', y, rfl⟩
  · rw [parent_nil k (by omega)]
    simp only [Option.bind_some]
    rw [if_pos (by rw [Lib.toList_data])]
    exact parts_j3 [] hg hsz d hd _ (.inl ⟨rfl, rfl⟩) k (by omega)
  · rw [List.concat_eq_append] at hg hsz ⊢
    rw [parent_path r' y (hg y (by simp)) (by omega) k (by omega)]
    simp only [Option.bind_some]
    have hgr : ∀ z ∈ r', Good z := fun z hz => hg z (by simp [hz])
    have hle2 : (glueB r').size ≤ 200 := by
      have := glue_parent r'
      have h2 : (glueB r').size ≤ (headB r').size := by rw [← this, ByteArray.size_extract]; omega
      rw [glue_snoc, app_size] at hsz
      omega
    cases r' with
    | nil =>
      rw [if_pos (by rw [Lib.toList_data]; rfl)]
      exact parts_j3 _ hg hsz d hd _ (.inr ⟨[], y, rfl, rfl⟩) k (by omega)
    | cons x r' =>
      rw [Lib.toList_data, if_neg (glue_ne x r' hgr), if_pos (by omega)]
      exact parts_j3 _ hg hsz d hd _ (.inr ⟨x :: r', y, rfl, rfl⟩) k (by omega)

theorem PathParts : haversacklaw7_PathParts.Pure := by
  intro s t hs ht
  refine ⟨40000, ?_⟩
  unfold haversacklaw7_PathParts.f
  rw [known_k _ (by omega)]
  simp only [Option.bind_some, if_true]
  have hyes : ∀ k, haversacklaw7_PathParts.j0 (k + 1) s t true = some true := fun k => by rw [haversacklaw7_PathParts.j0, if_pos rfl]
  by_cases h1 : (s.size : Int) > 300
  · rw [if_pos h1]; exact hyes _
  · rw [if_neg h1]
    by_cases h2 : (t.size : Int) > 300
    · rw [decide_eq_true h2]; exact hyes _
    · rw [decide_eq_false h2, show (40000 : Nat) = 39999 + 1 from rfl, haversacklaw7_PathParts.j0, if_neg (by decide)]
      have hno : ∀ x y, haversacklaw7_PathParts.j1 39999 x y true = some true := fun x y => by rw [show (39999 : Nat) = 39998 + 1 from rfl, haversacklaw7_PathParts.j1, if_pos rfl]
      rcases clean_cases s 39999 (by omega) (by omega) with ⟨c, hc, hc0⟩ | ⟨r, hr, hrl, hrs, hc⟩
      · rw [hc]
        simp only [Option.bind_some]
        rcases clean_cases t 39999 (by omega) (by omega) with ⟨c', hc', _⟩ | ⟨r', _, _, _, hc'⟩
        · rw [hc']; simp only [Option.bind_some, hc0, if_false]; exact hno _ _
        · rw [hc']; simp only [Option.bind_some, hc0, if_false]; exact hno _ _
      · rw [hc]
        simp only [Option.bind_some, if_true]
        rcases clean_cases t 39999 (by omega) (by omega) with ⟨c', hc', hc0'⟩ | ⟨r', _, _, hrs', hc'⟩
        · rw [hc']
          simp only [Option.bind_some]
          rw [bne_iff_ne.2 hc0']
          exact hno _ _
        · rw [hc']
          simp only [Option.bind_some]
          rw [bne_self_eq_false]
          exact parts_j1 r hr hrl hrs _ hrs' 39999 (by omega)

/-- A walk from some parts keeps them. -/
theorem stepsP_keep (base : List ByteArray) : ∀ (xs l l' : List ByteArray), base <+: l → stepsP base.length l xs = .ok l' → base <+: l'
  | [], l, l', h0, h => by cases h; exact h0
  | x :: xs, l, l', h0, h => by
    simp only [stepsP] at h
    cases hx : stepP base.length l x with
    | error c => rw [hx] at h; cases h
    | ok l1 =>
      rw [hx] at h
      refine stepsP_keep base xs l1 l' ?_ h
      unfold stepP at hx
      split at hx
      · cases hx; exact h0
      · split at hx
        · split at hx
          · cases hx
          · rename_i hne
            cases hx
            obtain ⟨m, rfl⟩ := h0
            rcases List.eq_nil_or_concat m with rfl | ⟨m', y, rfl⟩
            · simp at hne
            · rw [List.concat_eq_append, ← List.append_assoc, List.dropLast_concat]
              exact List.prefix_append _ _
        · split at hx
          · cases hx; exact h0.trans (List.prefix_append _ _)
          · cases hx
theorem walkP_keep {base : List ByteArray} {s : ByteArray} {r : List ByteArray} (h : walkP base s = .ok r) : base <+: r := by
  rw [walkP_eq] at h
  split at h
  · cases h
  · cases hst : stepsP base.length base (Pcs 47 s) with
    | error c => rw [hst] at h; cases h
    | ok l =>
      rw [hst] at h
      unfold lastP at h
      simp only at h
      split at h
      · cases h
      · cases h
        exact stepsP_keep base _ _ _ (List.prefix_refl _) hst
theorem ref_join (d s : ByteArray) (hd : d.size ≤ 9000) (hs : s.size ≤ 10000) (k : Nat) (hk : 30001 ≤ k) : haversackref7_Join.f k d s = some (if 200 < longP d s then (⟨#[]⟩, 50) else endP (walkP (partsP d) s)) := by
  have hgo : ∀ k, 30000 ≤ k → haversackref7_Join.j0 (k + 1) d s false = some (if 200 < s.size then (⟨#[]⟩, 50) else endP (walkP (partsP d) s)) := by
    intro k hk
    have hpl := partsP_len d
    rw [haversackref7_Join.j0, if_neg (by decide), ref_parts d (by omega) k hk]
    simp only [Option.bind_some]
    rw [ref_clean s (partsP d) hs (by omega) (fun x hx => by
      unfold partsP at hx
      split at hx
      · cases hx
      · have := pcs_le _ _ _ _ hx; omega) k hk]
    rfl
  unfold haversackref7_Join.f
  rw [Lib.toList_data]
  obtain ⟨k, rfl⟩ : ∃ m, k = m + 1 := ⟨k - 1, by omega⟩
  by_cases h0 : d.data.toList = []
  · rw [if_pos h0, hgo k (by omega)]
    unfold longP
    rw [if_pos h0]
  · rw [if_neg h0]
    have hlong : longP d s = s.size + (d.size + 1) := by unfold longP; rw [if_neg h0]
    have hw : wrap64 (wrap64 ((d.size : Int) + 1) + (s.size : Int)) = (longP d s : Int) := by rw [hlong]; unfold wrap64; omega
    rw [hw]
    by_cases h2 : 200 < longP d s
    · rw [decide_eq_true (by omega), haversackref7_Join.j0, if_pos rfl, if_pos h2]
    · rw [decide_eq_false (by omega), hgo k (by omega), if_neg h2, if_neg (by omega)]

theorem PathJoins : haversacklaw7_PathJoins.Pure := by
  intro dir s hdir hs
  refine ⟨40000, ?_⟩
  unfold haversacklaw7_PathJoins.f
  rw [known_k _ (by omega)]
  simp only [Option.bind_some, if_true]
  have hyes : ∀ k, haversacklaw7_PathJoins.j0 (k + 1) dir s true = some true := fun k => by rw [haversacklaw7_PathJoins.j0, if_pos rfl]
  by_cases h1 : (dir.size : Int) > 300
  · rw [if_pos h1]; exact hyes _
  · rw [if_neg h1]
    by_cases h2 : (s.size : Int) > 300
    · rw [decide_eq_true h2]; exact hyes _
    · rw [decide_eq_false h2, show (40000 : Nat) = 39999 + 1 from rfl, haversacklaw7_PathJoins.j0, if_neg (by decide)]
      rcases clean_cases dir 39999 (by omega) (by omega) with ⟨c, hc, hc0⟩ | ⟨r, hr, hrl, hrs, hc⟩
      · rw [hc]
        simp only [Option.bind_some]
        rw [if_neg hc0]
      · rw [hc]
        simp only [Option.bind_some, if_true]
        rw [path_Join_eq _ s (by omega) (by omega), ref_join _ s (by omega) (by omega) 39999 (by omega), parts_glue r hr]
        simp only [Option.bind_some, if_true]
        by_cases hl : 200 < longP (glueB r) s
        · rw [if_pos hl]; rfl
        · rw [if_neg hl]
          cases hw : walkP r s with
          | error c =>
            have := walkP_err hw
            simp only [endP]
            exact if_neg this
          | ok q =>
            simp only [endP, if_true]
            obtain ⟨m, rfl⟩ := walkP_keep hw
            have hq : (glueB (r ++ m)).size ≤ 100000 := by
              have h3 := glue_size (r ++ m)
              have h4 := (walkP_ok hw)
              have h5 := sumB_le (r ++ m) 400 (fun y hy => by
                rcases h4.2 y hy with h | h
                · have := (hr y h).1
                  unfold partI at this
                  split at this
                  · cases this
                  · omega
                · have := pcs_le _ _ _ _ h.1; omega)
              have h6 : (r ++ m).length * (400 + 1) ≤ 12 * 401 := Nat.mul_le_mul_right _ h4.1
              omega
            rw [ref_within _ _ hq (by omega), within_more]
            rfl
end Go.Proofs.YtnangnnflmdjbaaDoor.Pure
