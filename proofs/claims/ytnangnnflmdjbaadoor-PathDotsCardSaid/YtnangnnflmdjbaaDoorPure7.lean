/- The plain statement of PathDots. -/
import Derived.Test.YtnangnnflmdjbaaDoorPure6
import Derived.Test.YtnangnnflmdjbaaDoorPx6
import Derived.Test.YtnangnnflmdjbaaDoorPx7
namespace Go.Proofs.YtnangnnflmdjbaaDoor.Pure
open Go Go.RowKit Go.Proofs.YtnangnnflmdjbaaDoor.P Go.Proofs.YtnangnnflmdjbaaDoor.Ext Go.Proofs.YtnangnnflmdjbaaDoorW.PrintWords

def letB (c : Nat) : ByteArray := (⟨#[97, 98, 99, 100, 101, 102, 103, 104]⟩ : ByteArray).extract c (c + 1)
def noiB (d : Nat) : ByteArray := rdOf ByteArray.empty ([(⟨#[]⟩ : ByteArray), (⟨#[46, 47]⟩ : ByteArray), (⟨#[47]⟩ : ByteArray), (⟨#[120, 47, 46, 46, 47]⟩ : ByteArray), (⟨#[121, 47, 122, 47, 46, 46, 47, 46, 46, 47]⟩ : ByteArray)] : List ByteArray) (d : Int)
theorem let_data : ∀ c : Fin 8, (letB c).data.toList = [UInt8.ofNat (97 + c)] := by decide +kernel
theorem noi_data : ∀ d : Fin 5, (noiB d).data.toList = ([[], [46, 47], [47], [120, 47, 46, 46, 47], [121, 47, 122, 47, 46, 46, 47, 46, 46, 47]] : List (List UInt8)).getD d [] := by decide +kernel
theorem mk_let (c : Fin 8) : letB c = mkB [UInt8.ofNat (97 + c)] := data_ext (let_data c)
theorem let_good : ∀ c : Fin 8, Good (letB c) := by
  intro c
  unfold Good partI
  rw [let_data, ← size_list, let_data]
  revert c
  decide +kernel
def DotP (c : Fin 8) (d : Fin 5) : Prop := ∀ l : List ByteArray, stepsP 0 l (toB (spl 47 ((noiB d).data.toList ++ (letB c).data.toList))) = .ok (l ++ [letB c])
theorem step_empty (l : List ByteArray) : stepP 0 l (mkB []) = .ok l := rfl
theorem step_dot (l : List ByteArray) : stepP 0 l (mkB [46]) = .ok l := rfl
theorem step_up (l : List ByteArray) (x : ByteArray) : stepP 0 (l ++ [x]) (mkB [46, 46]) = .ok l := by
  unfold stepP
  rw [mkB_data, if_neg (by decide), if_pos rfl, if_neg (by simp), List.dropLast_concat]
theorem good_one (y : ByteArray) (hy : Good y) (l : List ByteArray) : stepP 0 l y = .ok (l ++ [y]) := by
  unfold stepP
  rw [if_neg (by simp [hy.2.1, hy.2.2.1]), if_neg hy.2.2.2.1, if_pos hy.1]
theorem good_x : Good (mkB [120]) := by unfold Good partI; decide +kernel
theorem good_y : Good (mkB [121]) := by unfold Good partI; decide +kernel
theorem good_z : Good (mkB [122]) := by unfold Good partI; decide +kernel
theorem let_spl : ∀ (c : Fin 8) (d : Fin 5), spl 47 ((noiB d).data.toList ++ (letB c).data.toList) = ([[], [[46]], [[]], [[120], [46, 46]], [[121], [122], [46, 46], [46, 46]]] : List (List (List UInt8))).getD d [] ++ [(letB c).data.toList] := by
  decide +kernel
theorem dot_step (c : Fin 8) (d : Fin 5) : DotP c d := by
  intro l
  rw [let_spl]
  unfold toB
  rw [List.map_append, List.map_cons, List.map_nil, mkB_of, stepsP_snoc]
  have h : stepsP 0 l (List.map mkB (([[], [[46]], [[]], [[120], [46, 46]], [[121], [122], [46, 46], [46, 46]]] : List (List (List UInt8))).getD d [])) = .ok l := by
    match d with
    | ⟨0, _⟩ => rfl
    | ⟨1, _⟩ => rfl
    | ⟨2, _⟩ => rfl
    | ⟨3, _⟩ => show stepsP 0 l [mkB [120], mkB [46, 46]] = _; simp only [stepsP, good_one _ good_x, step_up]
    | ⟨4, _⟩ => show stepsP 0 l [mkB [121], mkB [122], mkB [46, 46], mkB [46, 46]] = _; simp only [stepsP, good_one _ good_y, good_one _ good_z, step_up]
  rw [h]
  exact good_one _ (let_good c) l

/-- What stands after i rounds. -/
def DotI (first : Fin 5) (i : Nat) (x5 x6 : ByteArray) : Prop :=
  ∃ ns : List ByteArray, ns.length = i ∧ (∀ y ∈ ns, ∃ c : Fin 8, y = letB c) ∧ x5 = glueB ns ∧ x6.size ≤ 12 * i ∧ (i = 0 → x6 = ⟨#[]⟩) ∧
    (0 < i → stepsP 0 [] (Pcs 47 x6) = .ok ns ∧ (x6.data.toList.head? = some 47 ↔ first.val = 2))
theorem head_dot : ∀ (c : Fin 8) (d : Fin 5), ((noiB d).data.toList ++ (letB c).data.toList).head? = some 47 ↔ d.val = 2 := by decide +kernel
theorem dot_size : ∀ (c : Fin 8) (d : Fin 5), ((noiB d).data.toList ++ (letB c).data.toList).length ≤ 11 := by decide +kernel
theorem let_size (c : Fin 8) : (letB c).size = 1 := by rw [← size_list, let_data]; rfl
theorem ns_good {ns : List ByteArray} (h : ∀ y ∈ ns, ∃ c : Fin 8, y = letB c) : ∀ y ∈ ns, Good y := fun y hy => by
  obtain ⟨c, rfl⟩ := h y hy
  exact let_good c
theorem ns_size {ns : List ByteArray} (h : ∀ y ∈ ns, ∃ c : Fin 8, y = letB c) : (glueB ns).size ≤ 2 * ns.length := by
  have h1 := glue_size ns
  have h2 := sumB_le ns 1 (fun y hy => by obtain ⟨c, rfl⟩ := h y hy; rw [let_size]; omega)
  omega
theorem glue_one (y : ByteArray) : glueB [y] = y := by
  refine data_ext ?_
  rw [glueB, mkB_data, List.map_cons, Lib.join_cons]
  simp [Lib.joinTail]
theorem dot_first (c : Fin 8) (d : Fin 5) : DotI d 1 ((⟨#[]⟩ : ByteArray) ++ letB c) (((⟨#[]⟩ : ByteArray) ++ noiB d) ++ letB c) := by
  have e : (((⟨#[]⟩ : ByteArray) ++ noiB d) ++ letB c).data.toList = (noiB d).data.toList ++ (letB c).data.toList := by
    rw [app_data, app_data]; rfl
  refine ⟨[letB c], rfl, fun y hy => ⟨c, by simpa using hy⟩, ?_, ?_, fun h => by omega, fun _ => ⟨?_, ?_⟩⟩
  · rw [glue_one]
    exact data_ext (by rw [app_data]; rfl)
  · rw [← size_list, e]
    have := dot_size c d
    omega
  · rw [pcs_spl, e]
    exact dot_step c d []
  · rw [e]
    exact head_dot c d
theorem dot_next (first : Fin 5) (c : Fin 8) (d : Fin 5) {i : Nat} {x5 x6 : ByteArray} (hi : 0 < i) (h : DotI first i x5 x6) :
    DotI first (i + 1) ((x5 ++ (⟨#[47]⟩ : ByteArray)) ++ letB c) (((x6 ++ (⟨#[47]⟩ : ByteArray)) ++ noiB d) ++ letB c) := by
  obtain ⟨ns, hl, hn, rfl, hs, _, h2⟩ := h
  obtain ⟨hst, hhd⟩ := h2 hi
  have e : (((x6 ++ (⟨#[47]⟩ : ByteArray)) ++ noiB d) ++ letB c).data.toList = x6.data.toList ++ 47 :: ((noiB d).data.toList ++ (letB c).data.toList) := by
    rw [app_data, app_data, app_data]; simp
  refine ⟨ns ++ [letB c], by simp [hl], fun y hy => ?_, ?_, ?_, fun h => by omega, fun _ => ⟨?_, ?_⟩⟩
  · rcases List.mem_append.1 hy with h | h
    · exact hn y h
    · exact ⟨c, by simpa using h⟩
  · rw [glue_snoc]
    cases ns with
    | nil => rw [← hl] at hi; exact absurd hi (by decide)
    | cons x r => rfl
  · rw [← size_list, e]
    have := dot_size c d
    rw [List.length_append, List.length_cons, size_list]
    omega
  · rw [pcs_spl, e, spl_snoc]
    unfold toB
    rw [List.map_append, stepsP_append]
    have h3 := hst
    rw [pcs_spl] at h3
    unfold toB at h3
    rw [h3]
    exact dot_step c d ns
  · rw [e]
    rw [← hhd]
    cases hx : x6.data.toList with
    | nil =>
      rw [pcs_spl, hx] at hst
      have : stepsP 0 [] (toB (spl 47 [])) = .ok [] := rfl
      rw [this] at hst
      cases hst
      exact absurd hl (by simp; omega)
    | cons a m => simp

theorem dots_j3 (ns : List ByteArray) (hg : ∀ y ∈ ns, Good y) (hl : ns.length ≤ 8) (hs : (glueB ns).size ≤ 16) (z : ByteArray) (hz : z = if (glueB ns).data.toList = [] then ⟨#[46, 47]⟩ else ⟨#[47]⟩) (k : Nat) (hk : 30010 < k) :
    haversacklaw7_PathDots.j3 k (glueB ns) (glueB ns) 0 z = some true := by
  obtain ⟨k, rfl⟩ : ∃ m, k = m + 1 := ⟨k - 1, by omega⟩
  have hzs : z.size ≤ 2 := by rw [hz]; split <;> decide
  have hw : walkP [] (glueB ns ++ z) = .ok ns := by
    cases ns with
    | nil => rw [hz]; rfl
    | cons x r =>
      rw [if_neg (glue_ne x r hg)] at hz
      subst hz
      have e : (glueB (x :: r) ++ (⟨#[47]⟩ : ByteArray)).data.toList = (glueB (x :: r)).data.toList ++ 47 :: [] := by rw [app_data]
      have hh : ¬ (glueB (x :: r) ++ (⟨#[47]⟩ : ByteArray)).data.toList.head? = some 47 := by
        have h1 := head_glue x r hg
        have h2 := glue_ne x r hg
        rw [e]
        cases hd : (glueB (x :: r)).data.toList with
        | nil => exact absurd hd h2
        | cons a m => rw [hd] at h1; simpa using h1
      rw [walkP_eq, if_neg hh, pcs_spl, e, spl_snoc, spl_glue x r hg]
      have : toB ((x :: r).map (·.data.toList) ++ spl 47 []) = (x :: r) ++ [mkB []] := by
        unfold toB
        rw [List.map_append]
        have := toB_of (x :: r)
        unfold toB at this
        rw [this]
        rfl
      rw [this, stepsP_snoc, List.length_nil, steps_good 0 _ _ hg, List.nil_append]
      simp only [step_empty, lastP]
      rw [if_neg (by omega)]
  rw [haversacklaw7_PathDots.j3, if_pos (by omega), path_Clean_eq _ (by rw [app_size]; omega), if_neg (by rw [app_size]; omega), hw]
  simp only [Option.bind_some, endP, if_true]
  rw [path_parts _ (by omega), parts_glue ns hg, ref_parts _ (by omega) k (by omega), parts_glue ns hg]
  simp only [Option.bind_some]
  rw [strings_same ns (by omega) k (by omega)]
  rfl
theorem dots_j2 (first : Fin 5) (i : Nat) (hi : i ≤ 8) (x5 x6 : ByteArray) (h : DotI first i x5 x6) (k : Nat) (hk : 30020 < k) (b : Bool) (hb : b = (decide (0 < i) && decide (first.val = 2))) :
    haversacklaw7_PathDots.j2 k x5 x6 b = some true := by
  obtain ⟨k, rfl⟩ : ∃ m, k = m + 1 := ⟨k - 1, by omega⟩
  obtain ⟨ns, hl, hn, rfl, hs, h1, h2⟩ := h
  have hg := ns_good hn
  have hsz := ns_size hn
  have hcl : path_Clean.f x6 = some (endP (walkP [] x6)) := by rw [path_Clean_eq _ (by omega), if_neg (by omega)]
  rw [haversacklaw7_PathDots.j2, hcl]
  have hend : walkP [] x6 = if b = true then .error 51 else .ok ns := by
    rw [walkP_eq]
    by_cases h0 : i = 0
    · have := h1 h0
      subst this
      rw [h0] at hl
      have : ns = [] := List.length_eq_zero_iff.1 hl
      subst this
      subst hb
      rw [if_neg (show ¬ (⟨#[]⟩ : ByteArray).data.toList.head? = some 47 by decide), if_neg (by simp [h0])]
      rfl
    · obtain ⟨h3, h4⟩ := h2 (by omega)
      subst hb
      by_cases h5 : first.val = 2
      · rw [if_pos (h4.2 h5), if_pos (by simp [h5]; omega)]
      · rw [if_neg (fun h => h5 (h4.1 h)), if_neg (by simp [h5]), List.length_nil, h3, lastP, if_neg (by omega)]
  rw [hend]
  cases b with
  | true => rfl
  | false =>
    rw [if_neg (by decide), if_neg (by decide)]
    simp only [Option.bind_some, endP]
    rw [Lib.toList_data]
    by_cases h6 : (glueB ns).data.toList = []
    · rw [if_pos h6]; exact dots_j3 ns hg (by omega) (by omega) _ (by rw [if_pos h6]) k (by omega)
    · rw [if_neg h6]; exact dots_j3 ns hg (by omega) (by omega) _ (by rw [if_neg h6]) k (by omega)
theorem let_eq (c : Nat) : (⟨#[97, 98, 99, 100, 101, 102, 103, 104]⟩ : ByteArray).extract ((c : Int)).toNat (((c + 1 : Nat) : Int)).toNat = letB c := rfl
theorem noi_eq (e : Nat) : rdOf ByteArray.empty ([(⟨#[]⟩ : ByteArray), (⟨#[46, 47]⟩ : ByteArray), (⟨#[47]⟩ : ByteArray), (⟨#[120, 47, 46, 46, 47]⟩ : ByteArray), (⟨#[121, 47, 122, 47, 46, 46, 47, 46, 46, 47]⟩ : ByteArray)] : List ByteArray) (e : Int) = noiB e := rfl
theorem noi_len : (([(⟨#[]⟩ : ByteArray), (⟨#[46, 47]⟩ : ByteArray), (⟨#[47]⟩ : ByteArray), (⟨#[120, 47, 46, 46, 47]⟩ : ByteArray), (⟨#[121, 47, 122, 47, 46, 46, 47, 46, 46, 47]⟩ : ByteArray)] : List ByteArray).length : Int) = 5 := rfl
theorem big_le {a b A B : Nat} (ha : a ≤ A) (hb : b ≤ B) (h : A + B ≤ 9223372036854775807) : a + b ≤ 9223372036854775807 := by omega
theorem app_le {a b : ByteArray} {A B : Nat} (ha : a.size ≤ A) (hb : b.size ≤ B) : (a ++ b).size ≤ A + B := by rw [app_size]; omega
theorem noi_size (e : Fin 5) : (noiB e).size ≤ 11 := by
  have := dot_size 0 e
  rw [List.length_append, size_list] at this
  omega
theorem fin_u (c : Fin 8) : ((c.val : Int) + 1) % 256 = ((c.val + 1 : Nat) : Int) ∧ 0 ≤ (c.val : Int) ∧ (c.val : Int) ≤ ((c.val + 1 : Nat) : Int) ∧ ((c.val + 1 : Nat) : Int) ≤ 8 := by
  have := c.isLt
  omega
theorem fin_h (e : Fin 5) : 0 ≤ (e.val : Int) ∧ (e.val : Int) < 5 := by
  have := e.isLt
  omega
theorem fin_eq {a b : Fin 5} (h : (a.val : Int) = (b.val : Int)) : a = b := Fin.ext (by omega)
theorem two_eq : ∀ first : Fin 5, ((first.val : Int) == 2) = decide (first.val = 2) := by decide
theorem tmod_fin (x : Int) (h0 : 0 ≤ x) (n : Nat) (hn : 0 < n) : ∃ c : Fin n, Int.tmod x (n : Int) = (c.val : Int) := by
  refine ⟨⟨(Int.tmod x n).toNat, ?_⟩, ?_⟩
  · have := Int.tmod_lt_of_pos x (show (0 : Int) < n by omega)
    have h2 := Int.tmod_nonneg (n : Int) h0
    omega
  · have h2 := Int.tmod_nonneg (n : Int) h0
    show _ = ((Int.tmod x n).toNat : Int)
    omega
theorem dots_l0 (x0 x1 : List Int) (h0 : x0.length ≤ 8) (h1 : x0.length ≤ x1.length) (hv0 : ∀ i : Nat, 0 ≤ rd x0 i) (hv1 : ∀ i : Nat, 0 ≤ rd x1 i) (first : Fin 5) (hf : 0 < x0.length → Int.tmod (rd x1 0) 5 = (first.val : Int)) (d : Nat) :
    ∀ (k i : Nat) (x5 x6 : ByteArray), i ≤ x0.length → x0.length - i = d → 30030 + d < k → DotI first i x5 x6 → haversacklaw7_PathDots.l0 k x0 x1 x5 x6 (i : Int) = some true := by
  induction d with
  | zero =>
    intro k i x5 x6 hi hd hk h
    obtain ⟨k, rfl⟩ : ∃ m, k = m + 1 := ⟨k - 1, by omega⟩
    rw [haversacklaw7_PathDots.l0, if_neg (by omega)]
    by_cases hp : 0 < x0.length
    · rw [if_pos (by omega), if_pos (by omega), hf hp]
      refine dots_j2 first i (by omega) x5 x6 h k (by omega) _ ?_
      rw [show decide (0 < i) = true from decide_eq_true (by omega), Bool.true_and]
      exact two_eq first
    · rw [if_neg (by omega)]
      refine dots_j2 first i (by omega) x5 x6 h k (by omega) _ ?_
      rw [show decide (0 < i) = false from decide_eq_false (by omega)]
      rfl
  | succ d ih =>
    intro k i x5 x6 hi hd hk h
    obtain ⟨k, rfl⟩ : ∃ m, k = m + 1 := ⟨k - 1, by omega⟩
    have hlt : (i : Int) < (x0.length : Int) := by omega
    have hlt1 : (i : Int) < (x1.length : Int) := by omega
    have h0i : 0 ≤ (i : Int) := by omega
    have hi1 : i + 1 ≤ x0.length := by omega
    have hd1 : x0.length - (i + 1) = d := by omega
    have hk1 : 30030 + d < k := by omega
    have hi8 : i ≤ 7 := by omega
    have hw : wrap64 ((i : Int) + 1) = ((i + 1 : Nat) : Int) := by unfold wrap64; omega
    have hns := h
    obtain ⟨ns, hl, hn, h5, hs, hz, _⟩ := hns
    have s5 : x5.size ≤ 20 := by
      have hsz := ns_size hn
      rw [← h5] at hsz
      omega
    have s6 : x6.size ≤ 100 := by omega
    have hpos : 0 < i ∨ i = 0 := by omega
    obtain ⟨c, hc⟩ := tmod_fin (rd x0 i) (hv0 i) 8 (by decide)
    obtain ⟨e, he⟩ := tmod_fin (rd x1 i) (hv1 i) 5 (by decide)
    simp only [Int.cast_ofNat_Int] at hc he
    obtain ⟨hm, c0, c1, c2⟩ := fin_u c
    obtain ⟨e0, e1⟩ := fin_h e
    have sl : (letB c.val).size ≤ 1 := by rw [let_size]; exact Nat.le_refl 1
    have sn := noi_size e
    have s1 : (⟨#[47]⟩ : ByteArray).size ≤ 1 := Nat.le_refl 1
    rw [haversacklaw7_PathDots.l0, if_pos hlt, if_pos h0i, hc, he, hm, let_eq, if_pos c0, if_pos c1, if_pos c2]
    rcases hpos with hp | hi0
    · rw [if_pos (show (i : Int) > 0 by omega), if_pos (big_le s5 (Nat.le_refl 1) (by decide)), if_pos (big_le s6 (Nat.le_refl 1) (by decide)), if_pos (big_le (app_le s5 s1) sl (by decide))]
      simp only [Option.bind_some]
      rw [noi_eq, noi_len, if_pos hlt1, if_pos e0, if_pos e1, if_pos (big_le (app_le s6 s1) sn (by decide)), if_pos (big_le (app_le (app_le s6 s1) sn) sl (by decide)), hw]
      exact ih k (i + 1) _ _ hi1 hd1 hk1 (dot_next first c e hp h)
    · subst hi0
      rw [if_neg (show ¬ (((0 : Nat) : Int) > 0) by decide), if_pos (big_le s5 sl (by decide))]
      simp only [Option.bind_some]
      rw [noi_eq, noi_len, if_pos hlt1, if_pos e0, if_pos e1, if_pos (big_le s6 sn (by decide)), if_pos (big_le (app_le s6 sn) sl (by decide)), hw]
      have hx6 := hz rfl
      have hx5 : x5 = ⟨#[]⟩ := by rw [h5, List.length_eq_zero_iff.1 hl]; rfl
      subst hx5 hx6
      have hfe : first = e := fin_eq ((hf hi1).symm.trans he)
      subst hfe
      exact ih k 1 _ _ hi1 hd1 hk1 (dot_first c first)
theorem rd_nonneg (xs : List Int) (h : ∀ x ∈ xs, (Lit.int .u8 x).wf = true) (i : Nat) : 0 ≤ rd xs (i : Int) := by
  unfold rd
  rw [Int.toNat_natCast, List.getD_eq_getElem?_getD]
  by_cases hi : i < xs.length
  · rw [List.getElem?_eq_getElem hi]
    exact (u8_bd (h _ (List.getElem_mem hi))).1
  · rw [List.getElem?_eq_none (by omega)]
    exact Int.le_refl _
theorem PathDots : haversacklaw7_PathDots.Pure := by
  intro x0 x1 _ _ w0 _ _ w1
  refine ⟨40000, ?_⟩
  unfold haversacklaw7_PathDots.f
  rw [known_k _ (by omega)]
  simp only [Option.bind_some, if_true]
  have hyes : ∀ k, haversacklaw7_PathDots.j0 (k + 1) x0 x1 true = some true := fun k => by rw [haversacklaw7_PathDots.j0, if_pos rfl]
  by_cases h1 : (x0.length : Int) > 8
  · rw [if_pos h1]; exact hyes _
  · rw [if_neg h1]
    by_cases h2 : (x1.length : Int) < (x0.length : Int)
    · rw [decide_eq_true h2]; exact hyes _
    · rw [decide_eq_false h2, show (40000 : Nat) = 39999 + 1 from rfl, haversacklaw7_PathDots.j0, if_neg (by decide)]
      obtain ⟨e, he⟩ := tmod_fin (rd x1 0) (rd_nonneg x1 w1 0) 5 (by decide)
      exact dots_l0 x0 x1 (by omega) (by omega) (rd_nonneg x0 w0) (rd_nonneg x1 w1) e (fun _ => he) x0.length 39999 0 _ _ (by omega) (by omega) (by omega)
        ⟨[], rfl, fun y hy => (by cases hy), rfl, by decide, fun _ => rfl, fun h => absurd h (by decide)⟩
end Go.Proofs.YtnangnnflmdjbaaDoor.Pure
