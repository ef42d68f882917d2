/- Plain laws of the path functions: the reference's clean is the program's walk; Clean and Join are the reference's. -/
import Derived.Test.YtnangnnflmdjbaaDoorPure1
namespace Go.Proofs.YtnangnnflmdjbaaDoor.Pure
open Go Go.RowKit Go.Proofs.YtnangnnflmdjbaaDoor.P Go.Proofs.YtnangnnflmdjbaaDoor.Ext Go.Proofs.YtnangnnflmdjbaaDoorW.PrintWords

/-- How a walk is told. -/
def endP : Except Int (List ByteArray) → ByteArray × Int
  | .error c => (⟨#[]⟩, c)
  | .ok r => (glueB r, 0)
/-- What is left, or too much of it. -/
def lastP : Except Int (List ByteArray) → Except Int (List ByteArray)
  | .error c => .error c
  | .ok l => if 12 < l.length then .error 50 else .ok l
theorem walkP_eq (l0 : List ByteArray) (s : ByteArray) : walkP l0 s = if s.data.toList.head? = some 47 then .error 51 else lastP (stepsP l0.length l0 (Pcs 47 s)) := by
  unfold walkP
  split
  · rfl
  · cases stepsP l0.length l0 (Pcs 47 s) <;> rfl

theorem sumB_le (l : List ByteArray) (b : Nat) (h : ∀ x ∈ l, x.size ≤ b) : sumB l ≤ l.length * (b + 1) := by
  induction l with
  | nil => simp [sumB]
  | cons x l ih =>
    rw [sumB_cons, List.length_cons, Nat.succ_mul]
    have h1 := h x (by simp)
    have h2 := ih (fun y hy => h y (by simp [hy]))
    omega

theorem stepP_mem {stay : Nat} {l l' : List ByteArray} {x : ByteArray} (h : stepP stay l x = .ok l') : ∀ y ∈ l', y ∈ l ∨ y = x := by
  unfold stepP at h
  split at h
  · cases h; exact fun y hy => .inl hy
  · split at h
    · split at h
      · cases h
      · cases h; exact fun y hy => .inl ((List.dropLast_sublist l).subset hy)
    · split at h
      · cases h
        intro y hy
        rcases List.mem_append.1 hy with hy | hy
        · exact .inl hy
        · exact .inr (List.mem_singleton.1 hy)
      · cases h
theorem stepP_ge {stay : Nat} {l l' : List ByteArray} {x : ByteArray} (h0 : stay ≤ l.length) (h : stepP stay l x = .ok l') : stay ≤ l'.length := by
  refine stepsP_ge stay [x] l l' h0 ?_
  simp [stepsP, h]

theorem clean_l0 (base ps : List ByteArray) (hp : ps.length ≤ 100000) (d : Nat) : ∀ (k i : Nat) (out : List ByteArray), i ≤ ps.length → ps.length - i = d → 2 * d + 50 < k → base.length ≤ out.length → out.length + d ≤ 1000000 →
    (∀ x ∈ out, x.size ≤ 10000) → (∀ x ∈ ps, x.size ≤ 10000) →
    haversackref7_clean.l0 k base out ps i = some (endP (lastP (stepsP base.length out (ps.drop i)))) := by
  induction d with
  | zero =>
    intro k i out h1 hd hk hb ho hs hps
    obtain ⟨k, rfl⟩ : ∃ m, k = m + 1 := ⟨k - 1, by omega⟩
    rw [haversackref7_clean.l0, if_neg (by omega), List.drop_eq_nil_of_le (by omega)]
    by_cases h12 : 12 < out.length
    · rw [if_pos (by omega)]
      simp [stepsP, lastP, h12, endP]
    · rw [if_neg (by omega), glue_f out (by omega) k (by omega) (by have := sumB_le out 10000 hs; omega)]
      simp [stepsP, lastP, h12, endP]
  | succ d ih =>
    intro k i out h1 hd hk hb ho hs hps
    obtain ⟨k, rfl⟩ : ∃ m, k = m + 1 := ⟨k - 1, by omega⟩
    have hlt : i < ps.length := by omega
    have hdrop : ps.drop i = ps[i] :: ps.drop (i + 1) := List.drop_eq_getElem_cons hlt
    have hrd := rdOf_get ByteArray.empty ps i hlt
    have hx : ps[i].size ≤ 10000 := hps _ (List.getElem_mem hlt)
    obtain ⟨x, hxe⟩ : ∃ x, ps[i] = x := ⟨_, rfl⟩
    rw [hxe] at hrd hx hdrop
    rw [haversackref7_clean.l0, if_pos (by omega), if_pos (by omega), hrd, hdrop, Lib.toList_data]
    have hnext := fun (out' : List ByteArray) (h1 : base.length ≤ out'.length) (h2 : out'.length + d ≤ 1000000) (h3 : ∀ y ∈ out', y.size ≤ 10000) => ih (k - 1) (i + 1) out' (by omega) (by omega) (by omega) h1 h2 h3 hps
    have hgo : ∀ out', stepP base.length out x = .ok out' → haversackref7_clean.l0 (k - 1) base out' ps ((i + 1 : Nat) : Int) = some (endP (lastP (stepsP base.length out (x :: ps.drop (i + 1))))) := by
      intro out' h
      have h1 : out'.length ≤ out.length + 1 := stepP_len h
      rw [hnext out' (stepP_ge hb h) (by omega) (fun y hy => by
        rcases stepP_mem h y hy with h2 | h2
        · exact hs y h2
        · rw [h2]; exact hx)]
      simp only [stepsP, h]
    have hstop : ∀ c, stepP base.length out x = .error c → endP (lastP (stepsP base.length out (x :: ps.drop (i + 1)))) = (⟨#[]⟩, c) := by
      intro c h
      simp only [stepsP, h]
      rfl
    obtain ⟨k, rfl⟩ : ∃ m, k = m + 1 := ⟨k - 1, by omega⟩
    rw [Nat.add_sub_cancel] at hgo
    clear hnext ih
    by_cases e0 : x.data.toList = []
    · rw [if_pos e0, haversackref7_clean.j2, if_pos rfl, w64 (by omega)]
      exact hgo out (by unfold stepP; rw [if_pos (.inl e0)])
    · rw [if_neg e0]
      by_cases e1 : x.data.toList = [46]
      · rw [beq_iff_eq.2 e1, haversackref7_clean.j2, if_pos rfl, w64 (by omega)]
        exact hgo out (by unfold stepP; rw [if_pos (.inr e1)])
      · rw [beq_eq_false_iff_ne.2 e1, haversackref7_clean.j2, if_neg (by decide), if_pos (by omega), if_pos (by omega), hrd, Lib.toList_data]
        by_cases e2 : x.data.toList = [46, 46]
        · rw [if_pos e2]
          by_cases hlen : out.length = base.length
          · rw [if_pos (by omega), hstop 51 (by unfold stepP; rw [if_neg (by simp [e0, e1]), if_pos e2, if_pos hlen])]
          · rw [if_neg (by omega), show wrap64 ((out.length : Int) - 1) = ((out.length - 1 : Nat) : Int) by unfold wrap64; omega, if_pos (by omega), if_pos (by omega), Int.toNat_natCast, w64 (by omega), ← List.dropLast_eq_take]
            exact hgo out.dropLast (by unfold stepP; rw [if_neg (by simp [e0, e1]), if_pos e2, if_neg hlen])
        · rw [if_neg e2, bad_f x k (by omega)]
          simp only [Option.bind_some, decide_eq_true_eq]
          by_cases hp0 : partI x = 0
          · rw [if_neg (by simp [hp0]), if_pos (by omega), w64 (by omega)]
            exact hgo (out ++ [x]) (by unfold stepP; rw [if_neg (by simp [e0, e1]), if_neg e2, if_pos hp0])
          · rw [if_pos hp0, hstop 50 (by
              unfold stepP
              rw [if_neg (by simp [e0, e1]), if_neg e2, if_neg hp0]
              rcases partI_cases x with h | h
              · exact absurd h hp0
              · rw [h])]

theorem ref_clean (s : ByteArray) (base : List ByteArray) (hn : s.size ≤ 10000) (hb : base.length ≤ 10000) (hs : ∀ x ∈ base, x.size ≤ 10000) (k : Nat) (hk : 30000 ≤ k) :
    haversackref7_clean.f k s base = some (if 200 < s.size then (⟨#[]⟩, 50) else endP (walkP base s)) := by
  unfold haversackref7_clean.f
  by_cases h200 : 200 < s.size
  · rw [if_pos (by omega), if_pos h200]
  · rw [if_neg (by omega), if_neg h200, walkP_eq]
    have hgo : haversackref7_clean.j0 k s base false = some (endP (lastP (stepsP base.length base (Pcs 47 s)))) := by
      obtain ⟨k, rfl⟩ : ∃ m, k = m + 1 := ⟨k - 1, by omega⟩
      have hpl : (Pcs 47 s).length ≤ s.size + 1 := Lib.splitB_length_le ⟨#[47]⟩ 0 s.size s
      rw [haversackref7_clean.j0, if_neg (by decide), if_pos (by simp; omega), split_f s (by omega) k (by omega)]
      simp only [Option.bind_some, List.nil_append]
      have := clean_l0 base (Pcs 47 s) (by omega) (Pcs 47 s).length k 0 base (by omega) (by omega) (by omega) (Nat.le_refl _) (by omega) hs (fun x hx => by
        have := pcs_le ⟨#[47]⟩ s.size s x hx
        omega)
      rw [List.drop_zero] at this
      exact this
    cases hd : s.data.toList with
    | nil =>
      have h0 : s.size = 0 := by rw [← size_list, hd]; rfl
      rw [if_neg (by omega), hgo]
      simp
    | cons c r =>
      have h0 : 0 < s.size := by rw [← size_list, hd]; simp
      have hbt := bt_get s 0 h0
      have hc : s.data.toList[0]'(by rw [size_list]; exact h0) = c := by simp [hd]
      rw [hc] at hbt
      rw [if_pos (by omega), if_pos (by omega), show ((0 : Int) = ((0 : Nat) : Int)) from rfl, hbt]
      by_cases e : c = 47
      · subst e
        obtain ⟨k, rfl⟩ : ∃ m, k = m + 1 := ⟨k - 1, by omega⟩
        rw [show (((47 : UInt8).toNat : Int) == 47) = true by decide, haversackref7_clean.j0, if_pos rfl]
        simp [endP]
      · have e' : ((c.toNat : Int) == 47) = false := beq_eq_false_iff_ne.2 (fun h => e ((byte_eq c 47 (by decide)).1 h))
        rw [e', hgo, if_neg (by simpa using e)]

theorem ref_Clean (s : ByteArray) (hn : s.size ≤ 10000) (k : Nat) (hk : 30000 ≤ k) : haversackref7_Clean.f k s = some (if 200 < s.size then (⟨#[]⟩, 50) else endP (walkP [] s)) := by
  unfold haversackref7_Clean.f
  rw [ref_clean s [] hn (by simp) (by simp) k hk]
  rfl
/-- What is left of a walk is no longer than what it walked over. -/
theorem walkP_ok {l0 : List ByteArray} {s : ByteArray} {r : List ByteArray} (h : walkP l0 s = .ok r) : r.length ≤ 12 ∧ ∀ y ∈ r, y ∈ l0 ∨ (y ∈ Pcs 47 s ∧ partI y = 0 ∧ y.data.toList ≠ [] ∧ y.data.toList ≠ [46] ∧ y.data.toList ≠ [46, 46]) := by
  rw [walkP_eq] at h
  split at h
  · cases h
  · have hmem : ∀ (xs l l' : List ByteArray), stepsP l0.length l xs = .ok l' → ∀ y ∈ l', y ∈ l ∨ (y ∈ xs ∧ partI y = 0 ∧ y.data.toList ≠ [] ∧ y.data.toList ≠ [46] ∧ y.data.toList ≠ [46, 46]) := by
      intro xs
      induction xs with
      | nil => intro l l' h; cases h; exact fun y hy => .inl hy
      | cons x xs ih =>
        intro l l' h y hy
        simp only [stepsP] at h
        cases hx : stepP l0.length l x with
        | error c => rw [hx] at h; cases h
        | ok l1 =>
          rw [hx] at h
          rcases ih l1 l' h y hy with h1 | h1
          · unfold stepP at hx
            split at hx
            · cases hx; exact .inl h1
            · rename_i e0
              split at hx
              · split at hx
                · cases hx
                · cases hx; exact .inl ((List.dropLast_sublist l).subset h1)
              · rename_i e2
                split at hx
                · rename_i hp
                  cases hx
                  rcases List.mem_append.1 h1 with h2 | h2
                  · exact .inl h2
                  · have := List.mem_singleton.1 h2
                    subst this
                    exact .inr ⟨by simp, hp, fun e => e0 (.inl e), fun e => e0 (.inr e), e2⟩
                · cases hx
          · exact .inr ⟨by simp [h1.1], h1.2⟩
    cases hst : stepsP l0.length l0 (Pcs 47 s) with
    | error c => rw [hst] at h; cases h
    | ok l =>
      rw [hst] at h
      unfold lastP at h
      simp only at h
      split at h
      · cases h
      · cases h
        exact ⟨by omega, hmem _ _ _ hst⟩
theorem path_Join_eq (a0 a1 : ByteArray) (h0 : a0.size ≤ 10000) (h1 : a1.size ≤ 10000) : path_Join.f a0 a1 = some (if 200 < longP a0 a1 then (⟨#[]⟩, 50) else endP (walkP (partsP a0) a1)) := by
  unfold path_Join.f
  rw [if_pos ⟨by omega, by omega⟩]
  by_cases hl : 200 < longP a0 a1
  · rw [if_pos hl, if_pos hl]
  · rw [if_neg hl, if_neg hl]
    cases hw : walkP (partsP a0) a1 with
    | error c => rfl
    | ok r =>
      obtain ⟨h2, h3⟩ := walkP_ok hw
      have hsz : ∀ y ∈ r, y.size ≤ 10000 := by
        intro y hy
        rcases h3 y hy with h | h
        · unfold partsP at h
          split at h
          · cases h
          · have := pcs_le _ _ _ _ h; omega
        · have := pcs_le _ _ _ _ h.1; omega
      have := sumB_le r 10000 hsz
      have hm : r.length * 10001 ≤ 12 * 10001 := Nat.mul_le_mul_right _ h2
      simp only
      rw [join_f r (by omega) (by omega)]
      rfl
theorem path_Clean_eq (s : ByteArray) (h1 : s.size ≤ 10000) : path_Clean.f s = some (if 200 < s.size then (⟨#[]⟩, 50) else endP (walkP [] s)) := by
  unfold path_Clean.f
  rw [path_Join_eq ⟨#[]⟩ s (by decide) h1]
  rfl
end Go.Proofs.YtnangnnflmdjbaaDoor.Pure
