/- The plain statement of PathOut, and its walk out of the row's slice of truths. -/
import Derived.Test.YtnangnnflmdjbaaDoorPure6
import Derived.Test.YtnangnnflmdjbaaDoorPx7
namespace Go.Proofs.YtnangnnflmdjbaaDoor.Pure
open Go Go.RowKit Go.Proofs.YtnangnnflmdjbaaDoor.P Go.Proofs.YtnangnnflmdjbaaDoor.Ext Go.Proofs.YtnangnnflmdjbaaDoorW.PrintWords

def flatB (Q : List (List UInt8)) : List UInt8 := (Q.map (· ++ [47])).flatten
theorem flat_snoc (Q : List (List UInt8)) (p : List UInt8) : flatB (Q ++ [p]) = flatB Q ++ (p ++ [47]) := by simp [flatB]
theorem spl_flat : ∀ (Q : List (List UInt8)), (∀ p ∈ Q, p = [97] ∨ p = [46, 46]) → spl 47 (flatB Q) = Q ++ [[]]
  | [], _ => rfl
  | p :: Q, h => by
    have hp : (47 : UInt8) ∉ p := by
      rcases h p (by simp) with e | e <;> rw [e] <;> decide
    have : flatB (p :: Q) = p ++ 47 :: flatB Q := by simp [flatB]
    rw [this, spl_cut 47 p _ hp, spl_flat Q (fun q hq => h q (by simp [hq]))]
    rfl
theorem head_flat (Q : List (List UInt8)) (h : ∀ p ∈ Q, p = [97] ∨ p = [46, 46]) : ¬ (flatB Q).head? = some 47 := by
  cases Q with
  | nil => decide
  | cons p Q => rcases h p (by simp) with e | e <;> subst e <;> simp [flatB]
theorem toB_snoc (Q : List (List UInt8)) (p : List UInt8) : toB (Q ++ [p]) = toB Q ++ [mkB p] := by simp [toB]
theorem good_a : partI (mkB [97]) = 0 := by unfold partI; decide +kernel
theorem step_a (l : List ByteArray) : stepP 0 l (mkB [97]) = .ok (l ++ [mkB [97]]) := by
  unfold stepP
  rw [mkB_data, if_neg (by decide), if_neg (by decide), if_pos good_a]
theorem step_dd (l : List ByteArray) : stepP 0 l (mkB [46, 46]) = if l.length = 0 then .error 51 else .ok l.dropLast := by
  unfold stepP
  rw [mkB_data, if_neg (by decide), if_pos rfl]

/-- What stands after i rounds: the pieces ahead of an empty last one. -/
def OutI (i : Nat) (x3 : ByteArray) (x4 : Int) (x5 : Bool) : Prop :=
  ∃ Q : List (List UInt8), (∀ p ∈ Q, p = [97] ∨ p = [46, 46]) ∧ x3.data.toList = flatB Q ∧ x3.size ≤ 3 * i ∧ - (i : Int) ≤ x4 ∧ x4 ≤ (i : Int) ∧
    if x5 = true then stepsP 0 [] (toB Q) = .error 51 else ∃ l, stepsP 0 [] (toB Q) = .ok l ∧ (l.length : Int) = x4
theorem out_a {i : Nat} {x3 : ByteArray} {x4 : Int} {x5 : Bool} (h : OutI i x3 x4 x5) : OutI (i + 1) (x3 ++ ⟨#[97, 47]⟩) (x4 + 1) (if x5 = true then true else decide (x4 + 1 < 0)) := by
  obtain ⟨Q, h1, h2, h3, h4, h5, h6⟩ := h
  refine ⟨Q ++ [[97]], fun p hp => ?_, ?_, ?_, by omega, by omega, ?_⟩
  · rcases List.mem_append.1 hp with h | h
    · exact h1 p h
    · exact .inl (by simpa using h)
  · rw [app_data, h2, flat_snoc]; rfl
  · rw [app_size]; have : (⟨#[97, 47]⟩ : ByteArray).size = 2 := rfl; omega
  · rw [toB_snoc, stepsP_snoc]
    cases x5 with
    | true =>
      rw [if_pos rfl] at h6
      rw [if_pos (by rfl), h6]
    | false =>
      rw [if_neg (by decide)] at h6
      obtain ⟨l, h7, h8⟩ := h6
      rw [h7]
      rw [if_neg (show ¬ ((if false = true then true else decide (x4 + 1 < 0)) = true) by rw [if_neg (by decide), decide_eq_true_iff]; omega)]
      exact ⟨_, step_a l, by rw [List.length_append]; simp; omega⟩
theorem out_u {i : Nat} {x3 : ByteArray} {x4 : Int} {x5 : Bool} (h : OutI i x3 x4 x5) : OutI (i + 1) (x3 ++ ⟨#[46, 46, 47]⟩) (x4 - 1) (if x5 = true then true else decide (x4 - 1 < 0)) := by
  obtain ⟨Q, h1, h2, h3, h4, h5, h6⟩ := h
  refine ⟨Q ++ [[46, 46]], fun p hp => ?_, ?_, ?_, by omega, by omega, ?_⟩
  · rcases List.mem_append.1 hp with h | h
    · exact h1 p h
    · exact .inr (by simpa using h)
  · rw [app_data, h2, flat_snoc]; rfl
  · rw [app_size]; have : (⟨#[46, 46, 47]⟩ : ByteArray).size = 3 := rfl; omega
  · rw [toB_snoc, stepsP_snoc]
    cases x5 with
    | true =>
      rw [if_pos rfl] at h6
      rw [if_pos (by rfl), h6]
    | false =>
      rw [if_neg (by decide)] at h6
      obtain ⟨l, h7, h8⟩ := h6
      rw [h7]
      rw [if_neg (show ¬ (false = true) by decide)]
      simp only [step_dd]
      by_cases h0 : l.length = 0
      · rw [decide_eq_true (show x4 - 1 < 0 by omega), if_pos rfl, if_pos h0]
      · rw [decide_eq_false (show ¬ x4 - 1 < 0 by omega), if_neg (by decide), if_neg h0]
        exact ⟨_, rfl, by rw [List.length_dropLast]; omega⟩
def outE (x4 : Int) (x5 : Bool) (bt : ByteArray × Int) : Option Bool :=
  if x5 = true then (if bt.2 = 51 then (some (bt.1.toList == ([] : List UInt8))) else (some false)) else (if ((bt.2 == 50) == (decide (x4 > 12))) = true then (if bt.2 = 0 then ((path_Parts.f bt.1).bind fun t => (some ((t.length : Int) == x4))) else (some true)) else (some false))
theorem out_end {i : Nat} {x3 : ByteArray} {x4 : Int} {x5 : Bool} (hi : i ≤ 30) (h : OutI i x3 x4 x5) : (path_Clean.f x3).bind (outE x4 x5) = some true := by
  obtain ⟨Q, h1, h2, h3, h4, h5, h6⟩ := h
  have hw : walkP [] x3 = lastP (stepsP 0 [] (toB Q)) := by
    rw [walkP_eq, h2, if_neg (head_flat Q h1), pcs_spl, h2, spl_flat Q h1, toB_snoc, stepsP_snoc]
    cases stepsP 0 [] (toB Q) <;> rfl
  have hcl : path_Clean.f x3 = some (endP (walkP [] x3)) := by rw [path_Clean_eq _ (by omega), if_neg (by omega)]
  rw [hcl, Option.bind_some]
  cases x5 with
  | true =>
    rw [if_pos rfl] at h6
    rw [hw, h6]
    unfold outE
    simp only [lastP, endP, if_true, Lib.toList_data]
    rfl
  | false =>
    rw [if_neg (by decide)] at h6
    obtain ⟨l, h7, h8⟩ := h6
    rw [h7] at hw
    unfold outE
    rw [if_neg (by decide)]
    by_cases h9 : 12 < l.length
    · rw [hw, lastP, if_pos h9, decide_eq_true (show x4 > 12 by omega)]
      rfl
    · rw [lastP, if_neg h9] at hw
      rw [hw, decide_eq_false (show ¬ x4 > 12 by omega)]
      have hg := walk_good hw
      have hsz := walk_short hw
      simp only [endP]
      rw [if_pos (by decide), if_pos trivial, path_parts _ (by omega), parts_glue l hg.2]
      simp only [Option.bind_some, h8, beq_self_eq_true]
theorem out_l0 (x0 : List Bool) (h0 : x0.length ≤ 30) (d : Nat) :
    ∀ (k i : Nat) (x3 : ByteArray) (x4 : Int) (x5 : Bool), i ≤ x0.length → x0.length - i = d → d < k → OutI i x3 x4 x5 → haversacklaw7_PathOut.l0 k x0 x3 x4 x5 (i : Int) = some true := by
  induction d with
  | zero =>
    intro k i x3 x4 x5 hi hd hk h
    obtain ⟨k, rfl⟩ : ∃ m, k = m + 1 := ⟨k - 1, by omega⟩
    rw [haversacklaw7_PathOut.l0, if_neg (by omega)]
    exact out_end (by omega) h
  | succ d ih =>
    intro k i x3 x4 x5 hi hd hk h
    obtain ⟨k, rfl⟩ : ∃ m, k = m + 1 := ⟨k - 1, by omega⟩
    have hb : x3.size ≤ 90 ∧ -30 ≤ x4 ∧ x4 ≤ 30 := by
      obtain ⟨Q, _, _, h3, h4, h5, _⟩ := h
      omega
    obtain ⟨b1, b2, b3⟩ := hb
    have w1 : wrap64 (x4 + 1) = x4 + 1 := by unfold wrap64; omega
    have w2 : wrap64 (x4 - 1) = x4 - 1 := by unfold wrap64; omega
    have w3 : wrap64 ((i : Int) + 1) = ((i + 1 : Nat) : Int) := by unfold wrap64; omega
    have ha := ih k (i + 1) _ _ _ (by omega) (by omega) (by omega) (out_a h)
    have hu := ih k (i + 1) _ _ _ (by omega) (by omega) (by omega) (out_u h)
    have c1 : (i : Int) < (x0.length : Int) := by omega
    have c2 : 0 ≤ (i : Int) := by omega
    have c3 : x3.size + 2 ≤ 9223372036854775807 := by omega
    have c4 : x3.size + 3 ≤ 9223372036854775807 := by omega
    rw [haversacklaw7_PathOut.l0, if_pos c1, if_pos c2, w1, w2, w3, if_pos c3, if_pos c4]
    by_cases hs : rdOf false x0 (i : Int) = true
    · rw [if_pos hs]
      by_cases h5 : x5 = true
      · rw [if_pos h5]; rw [if_pos h5] at ha; exact ha
      · rw [if_neg h5]; rw [if_neg h5] at ha; exact ha
    · rw [if_neg hs]
      by_cases h5 : x5 = true
      · rw [if_pos h5]; rw [if_pos h5] at hu; exact hu
      · rw [if_neg h5]; rw [if_neg h5] at hu; exact hu
theorem PathOutP (x0 : List Bool) : ∃ k, haversacklaw7_PathOut.f k x0 = some true := by
  refine ⟨40000, ?_⟩
  unfold haversacklaw7_PathOut.f
  rw [known_k _ (by omega)]
  simp only [Option.bind_some, if_true]
  by_cases h1 : (x0.length : Int) > 30
  · rw [if_pos h1]
  · rw [if_neg h1]
    exact out_l0 x0 (by omega) x0.length 40000 0 _ _ _ (by omega) (by omega) (by omega) ⟨[], fun p hp => (by cases hp), rfl, by decide, by decide, by decide, ⟨[], rfl, rfl⟩⟩
/-- A slice of truths, as a row gives it. -/
def IsRowB (w : World) (a : Option Addr) (len cap : Nat) (zs : List Bool) : Prop :=
  (a = none ∧ len = 0 ∧ cap = 0 ∧ zs = []) ∨
  ∃ x, a = some x ∧ len ≤ cap ∧ cap ≤ maxLen ∧ zs.length = cap ∧ ∀ i, i < zs.length → w.cell? (x.add i) = some (.bool (zs.getD i false))
theorem rowB {w : World} {a : Option Addr} {len cap : Nat} {zs : List Bool} (h : IsRowB w a len cap zs) : ∃ l : List Bool, len = l.length ∧ Kd.C Kd.bool w a l.length l ∧ l.length ≤ cap := by
  rcases h with ⟨rfl, rfl, rfl, rfl⟩ | ⟨x, rfl, hl, hm, hz, hc⟩
  · exact ⟨[], rfl, ⟨rfl, by decide, fun h => absurd h (by decide)⟩, Nat.le_refl _⟩
  · have hlen : (zs.take len).length = len := by rw [List.length_take]; omega
    refine ⟨zs.take len, hlen.symm, ⟨rfl, by rw [hlen]; unfold maxLen at hm; omega, fun _ => ⟨x, rfl, fun j p hj => ⟨[.bool p], rfl, rfl, fun i u hu => ?_⟩⟩⟩, by rw [hlen]; exact hl⟩
    obtain ⟨hj1, hj2⟩ := List.getElem?_eq_some_iff.1 hj
    rw [hlen] at hj1
    rw [List.getElem_take] at hj2
    cases i with
    | succ i => simp at hu
    | zero =>
      have hu2 : Value.bool p = u := by simpa using hu
      subst hu2
      have h3 := hc j (by omega)
      rw [List.getD_eq_getElem?_getD, List.getElem?_eq_getElem (by omega), Option.getD_some, hj2] at h3
      show w.cell? (x.add (j * 1 + 0)) = _
      rw [Nat.mul_one, Nat.add_zero]
      exact h3
theorem PathOut : ∀ (a0 : Option Addr) (len0 cap0 : Nat) (z0 : List Bool) (w : World), IsRowB w a0 len0 cap0 z0 →
    Calls Tryd.prog 8 #[.slice a0 len0 cap0] w fun e w' => e = .returned (.bool true) ∧ Below w.heap.size w w' := by
  intro a0 len0 cap0 z0 w h
  obtain ⟨l, rfl, hr, hc⟩ := rowB h
  obtain ⟨k, hk⟩ := PathOutP l
  exact haversacklaw7_PathOut.calls k _ _ l true w hr hc hk
end Go.Proofs.YtnangnnflmdjbaaDoor.Pure
