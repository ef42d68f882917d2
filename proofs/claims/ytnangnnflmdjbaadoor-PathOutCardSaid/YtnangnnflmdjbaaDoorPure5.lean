/- Plain laws: the last index, Parent, Base, Within; the plain statements of PathParts and PathJoins. -/
import Derived.Test.YtnangnnflmdjbaaDoorPure4
namespace Go.Proofs.YtnangnnflmdjbaaDoor.Pure
open Go Go.RowKit Go.Proofs.YtnangnnflmdjbaaDoor.P Go.Proofs.YtnangnnflmdjbaaDoor.Ext Go.Proofs.YtnangnnflmdjbaaDoorW.PrintWords

theorem last_l0 (s : ByteArray) (hn : s.size ≤ 100000) (t : Nat) (ht : t ≤ s.size) (hno : ∀ (i : Nat), i < s.size → t ≤ i → bt s i ≠ 47) (h0 : t = 0 ∨ (bt s ((t - 1 : Nat) : Int) = 47)) (d : Nat) :
    ∀ (k i : Nat), i ≤ s.size → t ≤ i → i - t = d → d + 1 < k → bytealg_LastIndexByteString.l0 k s 47 ((i : Int) - 1) = some ((t : Int) - 1) := by
  induction d with
  | zero =>
    intro k i h1 h2 hd hk
    obtain ⟨k, rfl⟩ : ∃ m, k = m + 1 := ⟨k - 1, by omega⟩
    have hi : i = t := by omega
    subst hi
    rw [bytealg_LastIndexByteString.l0]
    by_cases hz : i = 0
    · subst hz; rw [if_neg (by omega)]; rfl
    · rcases h0 with h0 | h0
      · exact absurd h0 hz
      · rw [if_pos (by omega), if_pos (by omega), if_pos (by omega), show ((i : Int) - 1) = ((i - 1 : Nat) : Int) by omega, if_pos h0]
  | succ d ih =>
    intro k i h1 h2 hd hk
    obtain ⟨k, rfl⟩ : ∃ m, k = m + 1 := ⟨k - 1, by omega⟩
    have hne := hno (i - 1) (by omega) (by omega)
    rw [bytealg_LastIndexByteString.l0, if_pos (by omega), if_pos (by omega), if_pos (by omega)]
    rw [show ((i : Int) - 1) = ((i - 1 : Nat) : Int) by omega, if_neg hne, show wrap64 (((i - 1 : Nat) : Int) - 1) = ((i - 1 : Nat) : Int) - 1 by unfold wrap64; omega]
    exact ih k (i - 1) (by omega) (by omega) (by omega) (by omega)
theorem last_f (s : ByteArray) (hn : s.size ≤ 100000) (t : Nat) (ht : t ≤ s.size) (hno : ∀ (i : Nat), i < s.size → t ≤ i → bt s i ≠ 47) (h0 : t = 0 ∨ (bt s ((t - 1 : Nat) : Int) = 47)) (k : Nat) (hk : s.size + 1 < k) :
    strings_LastIndexByte.f k s 47 = some ((t : Int) - 1) := by
  unfold strings_LastIndexByte.f bytealg_LastIndexByteString.f
  rw [show wrap64 ((s.size : Int) - 1) = (s.size : Int) - 1 by unfold wrap64; omega, last_l0 s hn t ht hno h0 (s.size - t) k s.size (Nat.le_refl _) ht rfl (by omega)]
  rfl
theorem bt_app_right (a b : ByteArray) (i : Nat) (h : i < b.size) : bt (a ++ b) ((a.size + i : Nat) : Int) = bt b (i : Int) := by
  rw [bt_get (a ++ b) (a.size + i) (by rw [app_size]; omega), bt_get b i h]
  congr 2
  simp only [app_data]
  rw [List.getElem_append_right (by rw [size_list]; omega)]
  congr 1
  rw [size_list]; omega
theorem bt_ne_of (b : ByteArray) (h : (47 : UInt8) ∉ b.data.toList) (i : Nat) (hi : i < b.size) : bt b (i : Int) ≠ 47 := by
  rw [bt_get b i hi]
  intro e
  have := (byte_eq _ 47 (by decide)).1 e
  exact h (by
    have h2 : b.data.toList[i]'(by rw [size_list]; exact hi) ∈ b.data.toList := List.getElem_mem _
    rw [this] at h2
    exact h2)
/-- A text 'a/y' or 'y', y without a cut: the last index. -/
theorem last_app (a y : ByteArray) (hs : (a ++ y).size ≤ 100000) (hy : (47 : UInt8) ∉ y.data.toList) (ha : a.size = 0 ∨ bt a ((a.size - 1 : Nat) : Int) = 47) (k : Nat) (hk : (a ++ y).size + 1 < k) :
    strings_LastIndexByte.f k (a ++ y) 47 = some ((a.size : Int) - 1) := by
  refine last_f (a ++ y) hs a.size (by rw [app_size]; omega) (fun i hi hai => ?_) ?_ k hk
  · rw [app_size] at hi
    rw [show i = a.size + (i - a.size) by omega, bt_app_right a y (i - a.size) (by omega)]
    exact bt_ne_of y hy _ (by omega)
  · rcases ha with h | h
    · exact .inl h
    · by_cases hz : a.size = 0
      · exact .inl hz
      · right
        rw [bt_get (a ++ y) (a.size - 1) (by rw [app_size]; omega)]
        rw [bt_get a (a.size - 1) (by omega)] at h
        rw [← h]
        congr 2
        simp only [app_data]
        rw [List.getElem_append_left]
theorem extract_left (a b : ByteArray) : (a ++ b).extract 0 a.size = a := by
  refine data_ext ?_
  rw [Lib.extract_data, app_data, List.drop_zero, Nat.sub_zero, ← size_list, List.take_left]
theorem extract_right (a b : ByteArray) : (a ++ b).extract a.size (a ++ b).size = b := by
  refine data_ext ?_
  rw [Lib.extract_data, app_data, ← size_list a, List.drop_left, app_size, ← size_list a, ← size_list b, show a.data.toList.length + b.data.toList.length - a.data.toList.length = b.data.toList.length by omega, List.take_length]

theorem tail_snoc (r : List ByteArray) (y : ByteArray) : Lib.joinTail [47] ((r ++ [y]).map (·.data.toList)) = Lib.joinTail [47] (r.map (·.data.toList)) ++ 47 :: y.data.toList := by
  simp [Lib.joinTail]
/-- What stands ahead of a clean path's last part. -/
def headB (r : List ByteArray) : ByteArray := match r with
  | [] => ⟨#[]⟩
  | x :: r => glueB (x :: r) ++ ⟨#[47]⟩
theorem glue_snoc (r : List ByteArray) (y : ByteArray) : glueB (r ++ [y]) = headB r ++ y := by
  refine data_ext ?_
  rw [app_data]
  cases r with
  | nil => simp [headB, glueB, mkB, Lib.join_one]
  | cons x r =>
    rw [headB, app_data, glueB, mkB_data, glueB, mkB_data, List.cons_append, List.map_cons, List.map_cons, Lib.join_cons, Lib.join_cons, tail_snoc]
    simp
theorem headB_last (r : List ByteArray) : (headB r).size = 0 ∨ bt (headB r) (((headB r).size - 1 : Nat) : Int) = 47 := by
  cases r with
  | nil => exact .inl rfl
  | cons x r =>
    right
    have h := bt_app_right (glueB (x :: r)) ⟨#[47]⟩ 0 (by decide)
    rw [headB, app_size]
    rw [show (glueB (x :: r)).size + (⟨#[47]⟩ : ByteArray).size - 1 = (glueB (x :: r)).size + 0 by show _ + 1 - 1 = _; omega, h]
    decide
theorem glue_last (r : List ByteArray) (y : ByteArray) (hy : Good y) (hs : (glueB (r ++ [y])).size ≤ 100000) (k : Nat) (hk : (glueB (r ++ [y])).size + 1 < k) :
    strings_LastIndexByte.f k (glueB (r ++ [y])) 47 = some (((headB r).size : Int) - 1) := by
  rw [glue_snoc] at hs hk ⊢
  exact last_app (headB r) y hs hy.2.2.2.2 (headB_last r) k hk
theorem glue_parent (r : List ByteArray) : (headB r).extract 0 ((headB r).size - 1) = glueB r := by
  cases r with
  | nil => rfl
  | cons x r =>
    have h := extract_left (glueB (x :: r)) ⟨#[47]⟩
    rw [headB, app_size]
    exact h
theorem parent_path (r : List ByteArray) (y : ByteArray) (hy : Good y) (hs : (glueB (r ++ [y])).size ≤ 100000) (k : Nat) (hk : (glueB (r ++ [y])).size + 1 < k) : path_Parent.f k (glueB (r ++ [y])) = some (glueB r) := by
  unfold path_Parent.f
  rw [glue_last r y hy hs k hk]
  simp only [Option.bind_some]
  have hmx : mx (((headB r).size : Int) - 1) 0 = (((headB r).size - 1 : Nat) : Int) := by unfold mx; split <;> omega
  have hle : (headB r).size ≤ (glueB (r ++ [y])).size := by rw [glue_snoc, app_size]; omega
  rw [hmx, if_pos (by omega), if_pos (by omega), Int.toNat_natCast]
  congr 1
  rw [← glue_parent r, glue_snoc]
  refine data_ext ?_
  rw [Lib.extract_data, Lib.extract_data, app_data, List.drop_zero, List.drop_zero, List.take_append_of_le_length (by rw [size_list]; omega)]
theorem base_path (r : List ByteArray) (y : ByteArray) (hy : Good y) (hs : (glueB (r ++ [y])).size ≤ 100000) (k : Nat) (hk : (glueB (r ++ [y])).size + 1 < k) : path_Base.f k (glueB (r ++ [y])) = some y := by
  unfold path_Base.f
  rw [glue_last r y hy hs k hk]
  simp only [Option.bind_some]
  have hle : (headB r).size ≤ (glueB (r ++ [y])).size := by rw [glue_snoc, app_size]; omega
  rw [show wrap64 (((headB r).size : Int) - 1 + 1) = ((headB r).size : Int) by unfold wrap64; omega, if_pos (by omega), if_pos (by omega), Int.toNat_natCast, glue_snoc, extract_right]
theorem parent_nil (k : Nat) (hk : 3 ≤ k) : path_Parent.f k (glueB []) = some ⟨#[]⟩ := by
  obtain ⟨k, rfl⟩ : ∃ m, k = m + 3 := ⟨k - 3, by omega⟩
  kernel_rfl
theorem base_nil (k : Nat) (hk : 3 ≤ k) : path_Base.f k (glueB []) = some ⟨#[]⟩ := by
  obtain ⟨k, rfl⟩ : ∃ m, k = m + 3 := ⟨k - 3, by omega⟩
  kernel_rfl

theorem ref_parts (s : ByteArray) (hn : s.size ≤ 10000) (k : Nat) (hk : 30000 ≤ k) : haversackref7_Parts.f k s = some (partsP s) := by
  unfold haversackref7_Parts.f
  rw [Lib.toList_data, partsP_spl]
  by_cases h : s.data.toList = []
  · rw [if_pos h, if_pos h]
  · rw [if_neg h, if_neg h, split_f s (by omega) k (by omega), pcs_spl]
    rfl
theorem ref_parent (r : List ByteArray) (h : ∀ y ∈ r, Good y) (hl : r.length ≤ 12) (hs : (glueB r).size ≤ 10000) (k : Nat) (hk : 30000 ≤ k) : haversackref7_Parent.f k (glueB r) = some (glueB r.dropLast) := by
  unfold haversackref7_Parent.f
  rw [ref_parts _ hs k hk, parts_glue r h]
  simp only [Option.bind_some]
  by_cases h0 : r.length = 0
  · have : r = [] := List.length_eq_zero_iff.1 h0
    subst this
    rfl
  · have hsz : ∀ y ∈ r.dropLast, y.size ≤ 10000 := by
      intro y hy
      have := (h y ((List.dropLast_sublist r).subset hy)).1
      unfold partI at this
      split at this
      · cases this
      · omega
    have := sumB_le r.dropLast 10000 hsz
    have hm : r.dropLast.length * 10001 ≤ 12 * 10001 := Nat.mul_le_mul_right _ (by rw [List.length_dropLast]; omega)
    rw [if_neg (by omega), show wrap64 ((r.length : Int) - 1) = ((r.length - 1 : Nat) : Int) by unfold wrap64; omega, if_pos (by omega), if_pos (by omega), Int.toNat_natCast, ← List.dropLast_eq_take,
      glue_f r.dropLast (by rw [List.length_dropLast]; omega) k (by rw [List.length_dropLast]; omega) (by omega)]
    rfl
theorem ref_base (r : List ByteArray) (h : ∀ y ∈ r, Good y) (hl : r.length ≤ 12) (hs : (glueB r).size ≤ 10000) (k : Nat) (hk : 30000 ≤ k) : haversackref7_Base.f k (glueB r) = some (r.getLast?.getD ⟨#[]⟩) := by
  unfold haversackref7_Base.f
  rw [ref_parts _ hs k hk, parts_glue r h]
  simp only [Option.bind_some]
  by_cases h0 : r.length = 0
  · have : r = [] := List.length_eq_zero_iff.1 h0
    subst this
    rfl
  · rw [if_neg (by omega), show wrap64 ((r.length : Int) - 1) = ((r.length - 1 : Nat) : Int) by unfold wrap64; omega, if_pos (by omega), if_pos (by omega), rdOf_get _ _ _ (by omega), List.getLast?_eq_getElem?, List.getElem?_eq_getElem (by omega)]
    rfl
theorem strings_same (l : List ByteArray) (hl : l.length ≤ 100000) (k : Nat) (hk : l.length < k) : haversackhelp_Strings.f k l l = some true := by
  unfold haversackhelp_Strings.f
  rw [if_pos rfl]
  have : ∀ (d k i : Nat), i ≤ l.length → l.length - i = d → d < k → haversackhelp_Strings.l0 k l l i = some true := by
    intro d
    induction d with
    | zero =>
      intro k i h1 hd hk
      obtain ⟨k, rfl⟩ : ∃ m, k = m + 1 := ⟨k - 1, by omega⟩
      rw [haversackhelp_Strings.l0, if_neg (by omega)]
    | succ d ih =>
      intro k i h1 hd hk
      obtain ⟨k, rfl⟩ : ∃ m, k = m + 1 := ⟨k - 1, by omega⟩
      rw [haversackhelp_Strings.l0, if_pos (by omega), if_pos (by omega), if_pos (by omega), if_pos rfl, w64 (by omega)]
      exact ih k (i + 1) (by omega) (by omega) (by omega)
  exact this l.length k 0 (by omega) (by omega) hk
theorem path_parts (s : ByteArray) (hn : s.size ≤ 10000) : path_Parts.f s = some (partsP s) := by
  unfold path_Parts.f partsP
  rw [Lib.toList_data]
  by_cases h : s.data.toList = []
  · rw [if_pos h, if_pos h]
  · rw [if_neg h, if_neg h]
    unfold strings_Split.f
    rw [if_pos ⟨by omega, rfl⟩]
    rfl

/-- Is a path a directory, or below it? -/
def withinP (p d : ByteArray) : Bool := d.data.toList.isEmpty || p.data.toList == d.data.toList || (d.data.toList ++ [47]).isPrefixOf p.data.toList
theorem path_within (p d : ByteArray) (_hp : p.size ≤ 100000) (hd : d.size ≤ 100000) : path_Within.f p d = some (withinP p d) := by
  unfold path_Within.f withinP
  rw [Lib.toList_data, Lib.toList_data]
  by_cases h0 : d.data.toList = []
  · rw [if_pos h0, h0]; rfl
  · rw [if_neg h0]
    have e0 : d.data.toList.isEmpty = false := by cases hx : d.data.toList with
      | nil => exact absurd hx h0
      | cons _ _ => rfl
    by_cases h1 : p.data.toList = d.data.toList
    · rw [if_pos h1, e0, beq_iff_eq.2 h1]; rfl
    · rw [if_neg h1, if_pos (by omega), e0, beq_eq_false_iff_ne.2 h1]
      unfold strings_HasPrefix.f stringslite_HasPrefix.f
      have hsz : (d ++ (⟨#[47]⟩ : ByteArray)).size = d.size + 1 := app_size _ _
      have hda : (d ++ (⟨#[47]⟩ : ByteArray)).data.toList = d.data.toList ++ [47] := app_data _ _
      by_cases h2 : d.size + 1 ≤ p.size
      · rw [if_pos (by omega), if_pos (by omega), if_pos (by omega)]
        simp only [Option.bind_some, Bool.false_or]
        congr 1
        rw [Lib.toList_data, Lib.toList_data, Lib.extract_data, hda, List.drop_zero, Bool.eq_iff_iff, beq_iff_eq, List.isPrefixOf_iff_prefix, List.prefix_iff_eq_take]
        rw [show ((d ++ (⟨#[47]⟩ : ByteArray)).size - 0) = (d.data.toList ++ [47]).length by rw [hsz, List.length_append, size_list]; rfl]
        exact eq_comm
      · rw [if_neg (by omega)]
        simp only [Option.bind_some, Bool.false_or]
        congr 1
        rw [eq_comm, Bool.eq_false_iff]
        intro e
        have := (List.isPrefixOf_iff_prefix.1 e).length_le
        rw [List.length_append, size_list, size_list] at this
        simp at this
        omega
theorem ref_within (p d : ByteArray) (_hp : p.size ≤ 100000) (hd : d.size ≤ 100000) : haversackref7_Within.f p d = some (withinP p d) := by
  unfold haversackref7_Within.f withinP
  rw [Lib.toList_data, Lib.toList_data]
  by_cases h0 : d.data.toList = []
  · rw [if_pos h0, h0]; rfl
  · rw [if_neg h0]
    have e0 : d.data.toList.isEmpty = false := by cases hx : d.data.toList with
      | nil => exact absurd hx h0
      | cons _ _ => rfl
    by_cases h1 : p.data.toList = d.data.toList
    · rw [if_pos h1, e0, beq_iff_eq.2 h1]; rfl
    · rw [if_neg h1, e0, beq_eq_false_iff_ne.2 h1]
      simp only [Bool.false_or]
      by_cases h2 : d.size < p.size
      · rw [if_pos (by omega), if_pos (by omega), if_pos (by omega), Lib.toList_data, Lib.extract_data, List.drop_zero, Nat.sub_zero]
        have hbt := bt_get p d.size h2
        have htk : p.data.toList.take (d.size + 1) = p.data.toList.take d.size ++ [p.data.toList[d.size]'(by rw [size_list]; exact h2)] := List.take_succ_eq_append_getElem (by rw [size_list]; exact h2)
        by_cases h3 : p.data.toList.take d.size = d.data.toList
        · rw [if_pos h3, if_pos (by omega), hbt]
          congr 1
          rw [Bool.eq_iff_iff, beq_iff_eq, List.isPrefixOf_iff_prefix, List.prefix_iff_eq_take]
          have hlen : (d.data.toList ++ [(47 : UInt8)]).length = d.size + 1 := by rw [List.length_append, size_list]; rfl
          rw [hlen, htk, h3]
          generalize p.data.toList[d.size]'(by rw [size_list]; exact h2) = c
          have := byte_eq c 47 (by decide)
          constructor
          · intro e; rw [this.1 e]; rfl
          · intro e
            have : (47 : UInt8) = c := by simpa using e
            rw [← this]; rfl
        · rw [if_neg h3]
          congr 1
          rw [eq_comm, Bool.eq_false_iff]
          intro e
          obtain ⟨z, hz⟩ := List.isPrefixOf_iff_prefix.1 e
          apply h3
          rw [← hz, List.append_assoc, ← size_list, List.take_left]
      · rw [if_neg (by omega)]
        congr 1
        rw [eq_comm, Bool.eq_false_iff]
        intro e
        have := (List.isPrefixOf_iff_prefix.1 e).length_le
        rw [List.length_append, size_list, size_list] at this
        simp at this
        omega
end Go.Proofs.YtnangnnflmdjbaaDoor.Pure
