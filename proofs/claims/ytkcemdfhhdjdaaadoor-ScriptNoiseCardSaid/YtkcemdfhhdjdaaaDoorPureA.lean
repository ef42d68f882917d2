/- Plain laws of bytes and lists that all laws of this seat use: cuts of texts, byte tests, fuel, strings.IndexFunc at blanks; a line's words, the program's and the reference's: they are one. -/
import Derived.Test.YtkcemdfhhdjdaaaDoorPx3
import Derived.Lib.Hide
import Derived.Test.YtkcemdfhhdjdaaaDoorPx5
namespace Go.Proofs.YtkcemdfhhdjdaaaDoor.Pure
open Go Go.RowKit Go.Lib Go.Proofs.YtkcemdfhhdjdaaaDoor.P Go.Proofs.YtkcemdfhhdjdaaaDoor.Ext Go.Proofs.YtkcemdfhhdjdaaaDoorW.PrintWords
set_option linter.unusedVariables false
set_option linter.unusedSimpArgs false

def mkB (x : List UInt8) : ByteArray := ⟨x.toArray⟩
def toB (l : List (List UInt8)) : List ByteArray := l.map mkB
theorem bytes_ext {a b : ByteArray} (h : a.data.toList = b.data.toList) : a = b := by
  obtain ⟨⟨x⟩⟩ := a
  obtain ⟨⟨y⟩⟩ := b
  simp at h
  rw [h]
theorem mkB_data (x : List UInt8) : (mkB x).data.toList = x := rfl
theorem mkB_toList (x : List UInt8) : (mkB x).toList = x := by rw [ByteArray.toList_eq]; rfl
theorem mkB_size (x : List UInt8) : (mkB x).size = x.length := rfl
theorem mkB_of (s : ByteArray) : mkB s.data.toList = s := bytes_ext rfl
theorem mkB_inj {x y : List UInt8} (h : mkB x = mkB y) : x = y := by
  have := congrArg (fun b : ByteArray => b.data.toList) h
  exact this
theorem mkB_append (x y : List UInt8) : mkB x ++ mkB y = mkB (x ++ y) := bytes_ext (by simp [mkB])
theorem toB_of (l : List ByteArray) : toB (l.map (·.data.toList)) = l := by
  unfold toB
  rw [List.map_map]
  conv => rhs; rw [← List.map_id l]
  exact List.map_congr_left (fun x _ => mkB_of x)
theorem size_list (s : ByteArray) : s.data.toList.length = s.size := Array.length_toList
theorem byte_eq (c : UInt8) (n : Nat) (hn : n < 256) : ((c.toNat : Int) = (n : Int)) ↔ c = UInt8.ofNat n := by
  constructor
  · intro h
    have : c.toNat = n := by omega
    rw [← this]; simp
  · rintro rfl
    simp [Nat.mod_eq_of_lt hn]
theorem extract_mk (s : ByteArray) (a b : Nat) : s.extract a b = mkB ((s.data.toList.drop a).take (b - a)) := bytes_ext (Lib.extract_data s a b)
theorem mk_drop (l : List UInt8) (a n : Nat) (hn : l.length ≤ n) : (mkB l).extract a n = mkB (l.drop a) := by
  rw [extract_mk, mkB_data, List.take_of_length_le (by rw [List.length_drop]; omega)]
theorem mk_take (l : List UInt8) (a b : Nat) : (mkB l).extract a b = mkB ((l.drop a).take (b - a)) := by rw [extract_mk, mkB_data]
/-- The byte at i of a text. -/
theorem bt_mk (l : List UInt8) (i : Nat) (c : UInt8) (h : l[i]? = some c) : bt (mkB l) (i : Int) = (c.toNat : Int) := by
  obtain ⟨hl, he⟩ := List.getElem?_eq_some_iff.1 h
  unfold bt
  rw [dif_pos (by rw [mkB_size]; simpa using hl)]
  have : (mkB l)[((i : Int)).toNat]'(by rw [mkB_size]; simpa using hl) = c := by
    rw [← he]; rfl
  rw [this]
theorem bt_cons (c : UInt8) (r : List UInt8) : bt (mkB (c :: r)) 0 = (c.toNat : Int) := bt_mk _ 0 c rfl
theorem bt_app (p : List UInt8) (c : UInt8) (r : List UInt8) (n : Int) (h : n = (p.length : Int)) : bt (mkB (p ++ c :: r)) n = (c.toNat : Int) := by
  rw [h]
  exact bt_mk _ _ c (by simp)
theorem b_of {c : UInt8} {n : Nat} (hn : n < 256) (h : c = UInt8.ofNat n) : (c.toNat : Int) = (n : Int) := (byte_eq c n hn).2 h
theorem b_ne {c : UInt8} {n : Nat} (hn : n < 256) (h : c ≠ UInt8.ofNat n) : ¬ ((c.toNat : Int) = (n : Int)) := fun e => h ((byte_eq c n hn).1 e)
theorem w64 {i : Nat} (h : i < 4611686018427387904) : wrap64 ((i : Int) + 1) = ((i + 1 : Nat) : Int) := by unfold wrap64; omega
theorem w64i {i : Int} (h0 : -4611686018427387904 < i) (h : i < 4611686018427387904) : wrap64 i = i := by unfold wrap64; omega

/-- Blank or tab. -/
def blk (c : UInt8) : Bool := c == 32 || c == 9
theorem blk_iff (c : UInt8) : blk c = true ↔ (c = 32 ∨ c = 9) := by simp [blk]
theorem blank_f (c : UInt8) : script_blank.f (c.toNat : Int) = some (blk c) := by
  unfold script_blank.f blk
  by_cases h : c = 32
  · subst h; rfl
  · rw [if_neg (show ¬ ((c.toNat : Int) = 32) from b_ne (n := 32) (by decide) h)]
    congr 1
    have h1 : (c == 32) = false := beq_eq_false_iff_ne.2 h
    rw [h1, Bool.false_or]
    by_cases h9 : c = 9
    · subst h9; rfl
    · rw [beq_eq_false_iff_ne.2 h9]
      exact beq_eq_false_iff_ne.2 (b_ne (n := 9) (by decide) h9)

/-! ### strings.IndexFunc at blanks: runes as bytes -/
theorem decodeN_hi (n b0 b1 b2 b3 : Nat) (h0 : 128 ≤ b0) : 128 ≤ (Lib.decodeN n b0 b1 b2 b3).1 ∧ 1 ≤ (Lib.decodeN n b0 b1 b2 b3).2 ∧ (2 ≤ (Lib.decodeN n b0 b1 b2 b3).2 → b1 / 64 = 2 ∧ 1 < n) ∧ (3 ≤ (Lib.decodeN n b0 b1 b2 b3).2 → b2 / 64 = 2 ∧ 2 < n) ∧ (4 ≤ (Lib.decodeN n b0 b1 b2 b3).2 → b3 / 64 = 2 ∧ 3 < n) ∧ (Lib.decodeN n b0 b1 b2 b3).2 ≤ 4 := by
  unfold Lib.decodeN
  rw [if_neg (by omega)]
  repeat' split
  all_goals (simp only; omega)
theorem decodeN_lo (n b0 b1 b2 b3 : Nat) (h0 : b0 < 128) : Lib.decodeN n b0 b1 b2 b3 = (b0, 1) := by
  unfold Lib.decodeN
  rw [if_pos h0]
theorem get_list (s : ByteArray) (i : Nat) (h : i < s.size) : s.get! i = s.data.toList[i]'(by rw [size_list]; exact h) := by
  show s.data[i]! = _
  rw [getElem!_pos s.data i h]
  rfl
def firstBlk (l : List UInt8) : Option Nat := l.findIdx? blk
theorem firstBlk_cons (c : UInt8) (r : List UInt8) : firstBlk (c :: r) = if blk c = true then some 0 else (firstBlk r).map (· + 1) := by
  unfold firstBlk
  rw [List.findIdx?_cons]
theorem firstBlk_skip (l : List UInt8) : ∀ k, k ≤ l.length → (∀ j (h : j < l.length), j < k → blk l[j] = false) → firstBlk l = (firstBlk (l.drop k)).map (· + k)
  | 0, _, _ => by simp
  | k + 1, hk, h => by
    rw [firstBlk_skip l k (by omega) (fun j hj hlt => h j hj (by omega))]
    have hlt : k < l.length := by omega
    rw [List.drop_eq_getElem_cons hlt, firstBlk_cons, h k hlt (by omega), if_neg (by simp), Option.map_map]
    congr 1
    funext x
    show x + 1 + k = x + (k + 1)
    omega
theorem blk_hi (c : UInt8) (h : c.toNat / 64 = 2) : blk c = false := by
  cases hb : blk c with
  | false => rfl
  | true =>
    rcases (blk_iff c).1 hb with rfl | rfl
    · exact absurd h (by decide)
    · exact absurd h (by decide)
theorem blankP_nat (c : UInt8) : blankP c.toNat = blk c := by
  unfold blankP blk
  congr 1
  · rw [Bool.eq_iff_iff, beq_iff_eq, beq_iff_eq]
    exact ⟨fun h => by rw [← UInt8.toNat_inj]; exact h, fun h => by rw [h]; rfl⟩
  · rw [Bool.eq_iff_iff, beq_iff_eq, beq_iff_eq]
    exact ⟨fun h => by rw [← UInt8.toNat_inj]; exact h, fun h => by rw [h]; rfl⟩
theorem idx_from (s : ByteArray) : ∀ (f pos : Nat), pos ≤ s.size → s.size - pos ≤ f → Lib.idxFuncFrom blankP true s f pos = match firstBlk (s.data.toList.drop pos) with | none => -1 | some j => ((pos + j : Nat) : Int)
  | 0, pos, h1, h2 => by
    rw [List.drop_eq_nil_of_le (by rw [size_list]; omega)]
    rfl
  | f + 1, pos, h1, h2 => by
    unfold Lib.idxFuncFrom
    by_cases hlt : pos < s.size
    · have hl := size_list s
      rw [if_pos hlt, Lib.decode_at, get_list s pos hlt, List.drop_eq_getElem_cons (by omega : pos < s.data.toList.length), firstBlk_cons]
      by_cases hc : (s.data.toList[pos]'(by omega)).toNat < 128
      · rw [decodeN_lo _ _ _ _ _ hc]
        simp only
        rw [blankP_nat]
        by_cases hb : blk (s.data.toList[pos]'(by omega)) = true
        · rw [if_pos hb, if_pos hb]
          simp
        · rw [if_neg hb, if_neg hb, idx_from s f (pos + 1) (by omega) (by omega)]
          cases firstBlk (List.drop (pos + 1) s.data.toList) with
          | none => rfl
          | some j => simp only [Option.map_some]; congr 1; omega
      · obtain ⟨d1, d2, d3, d4, d5, d6⟩ := decodeN_hi (s.size - pos) (s.data.toList[pos]'(by omega)).toNat (s.get! (pos + 1)).toNat (s.get! (pos + 2)).toNat (s.get! (pos + 3)).toNat (by omega)
        generalize Lib.decodeN (s.size - pos) (s.data.toList[pos]'(by omega)).toNat (s.get! (pos + 1)).toNat (s.get! (pos + 2)).toNat (s.get! (pos + 3)).toNat = rw_ at d1 d2 d3 d4 d5 d6 ⊢
        obtain ⟨R, W⟩ := rw_
        simp only at d1 d2 d3 d4 d5 d6 ⊢
        have hR : blankP R = false := by
          unfold blankP
          rw [beq_eq_false_iff_ne.2 (by omega), beq_eq_false_iff_ne.2 (by omega)]; rfl
        have hb0 : blk (s.data.toList[pos]'(by omega)) = false := by
          rw [← blankP_nat]
          unfold blankP
          rw [beq_eq_false_iff_ne.2 (by omega), beq_eq_false_iff_ne.2 (by omega)]; rfl
        have hfits : pos + W ≤ s.size := by
          rcases Nat.lt_or_ge W 2 with h | h
          · omega
          · rcases Nat.lt_or_ge W 3 with h' | h'
            · have := (d3 h).2; omega
            · rcases Nat.lt_or_ge W 4 with h'' | h''
              · have := (d4 h').2; omega
              · have := (d5 h'').2; omega
        rw [hR, if_neg (by simp), hb0, if_neg (by simp), idx_from s f (pos + W) hfits (by omega)]
        have hskip := firstBlk_skip (s.data.toList.drop (pos + 1)) (W - 1) (by rw [List.length_drop]; omega) (fun j hj hlt => by
          rw [List.getElem_drop]
          have hjs : pos + 1 + j < s.size := by omega
          have : s.data.toList[pos + 1 + j]'(by omega) = s.get! (pos + 1 + j) := (get_list s _ hjs).symm
          rw [this]
          apply blk_hi
          rcases (by omega : j = 0 ∨ j = 1 ∨ j = 2) with rfl | rfl | rfl
          · exact (d3 (by omega)).1
          · exact (d4 (by omega)).1
          · exact (d5 (by omega)).1)
        rw [hskip, List.drop_drop, show pos + 1 + (W - 1) = pos + W by omega]
        cases firstBlk (List.drop (pos + W) s.data.toList) with
        | none => rfl
        | some j => simp only [Option.map_some]; congr 1; omega
    · rw [if_neg hlt, List.drop_eq_nil_of_le (by rw [size_list]; omega)]
      rfl
theorem idx_blk (l : List UInt8) : Lib.idxFunc blankP true (mkB l) = match firstBlk l with | none => -1 | some j => (j : Int) := by
  unfold Lib.idxFunc
  rw [idx_from _ _ 0 (by omega) (by omega), mkB_data, List.drop_zero]
  cases firstBlk l with
  | none => rfl
  | some j => simp

def nb (l : List UInt8) : List Int := l.map fun c => (c.toNat : Int)
theorem nb_len (l : List UInt8) : (nb l).length = l.length := by simp [nb]
theorem nb_snoc (l : List UInt8) (c : UInt8) : nb l ++ [(c.toNat : Int)] = nb (l ++ [c]) := by simp [nb]
theorem str_nb (l : List UInt8) : strOfNums (nb l) = mkB l := by
  apply bytes_ext
  simp [strOfNums, nb, mkB, List.map_map, Function.comp_def]
/-- What stands in quotes, what stands behind. -/
def quo : List UInt8 → List UInt8 → Option (List UInt8 × List UInt8)
  | [], _ => none
  | c :: r, acc => if c = 34 then some (acc, r) else if c = 92 then (match r with
      | [] => none
      | d :: r' => if d = 34 ∨ d = 92 then quo r' (acc ++ [d]) else if d = 110 then quo r' (acc ++ [10]) else none) else quo r (acc ++ [c])
theorem quo_end (r acc : List UInt8) : quo (34 :: r) acc = some (acc, r) := by rw [quo.eq_def]; rfl
theorem quo_esc_end (acc : List UInt8) : quo [92] acc = none := by rw [quo.eq_def]; rfl
theorem quo_esc {d : UInt8} (r acc : List UInt8) (h : d = 34 ∨ d = 92) : quo (92 :: d :: r) acc = quo r (acc ++ [d]) := by
  rw [quo.eq_def]
  simp only
  rw [if_neg (by decide), if_pos trivial, if_pos h]
theorem quo_n (r acc : List UInt8) : quo (92 :: 110 :: r) acc = quo r (acc ++ [10]) := by rw [quo.eq_def]; rfl
theorem quo_bad {d : UInt8} (r acc : List UInt8) (h : ¬ (d = 34 ∨ d = 92)) (h2 : d ≠ 110) : quo (92 :: d :: r) acc = none := by
  rw [quo.eq_def]
  simp only
  rw [if_neg (by decide), if_pos trivial, if_neg h, if_neg h2]
theorem quo_any {c : UInt8} (r acc : List UInt8) (h : c ≠ 34) (h2 : c ≠ 92) : quo (c :: r) acc = quo r (acc ++ [c]) := by
  rw [quo.eq_def]
  simp only
  rw [if_neg h, if_neg h2]
def qres (l acc : List UInt8) : ByteArray × ByteArray × Bool := match quo l acc with
  | some (q, t) => (mkB q, mkB t, true)
  | none => (⟨#[]⟩, ⟨#[]⟩, false)
theorem quo_len : ∀ (n : Nat) (l acc q t : List UInt8), l.length ≤ n → quo l acc = some (q, t) → t.length < l.length ∧ q.length ≤ acc.length + l.length ∧ ∃ p, l = p ++ t
  | 0, l, acc, q, t, hn, h => by
    have : l = [] := List.length_eq_zero_iff.1 (by omega)
    subst this
    cases h
  | n + 1, [], acc, q, t, hn, h => by cases h
  | n + 1, c :: r, acc, q, t, hn, h => by
    simp only [List.length_cons] at hn
    by_cases h34 : c = 34
    · subst h34
      rw [quo_end] at h
      cases h
      exact ⟨by simp, by simp, [34], rfl⟩
    · by_cases h92 : c = 92
      · subst h92
        cases r with
        | nil => rw [quo_esc_end] at h; cases h
        | cons d r =>
          simp only [List.length_cons] at hn
          by_cases hd : d = 34 ∨ d = 92
          · rw [quo_esc _ _ hd] at h
            obtain ⟨h1, h2, p, h3⟩ := quo_len n r _ _ _ (by omega) h
            simp only [List.length_append, List.length_cons, List.length_nil] at h2 ⊢
            exact ⟨by omega, by omega, 92 :: d :: p, by rw [h3]; rfl⟩
          · by_cases hn' : d = 110
            · subst hn'
              rw [quo_n] at h
              obtain ⟨h1, h2, p, h3⟩ := quo_len n r _ _ _ (by omega) h
              simp only [List.length_append, List.length_cons, List.length_nil] at h2 ⊢
              exact ⟨by omega, by omega, 92 :: 110 :: p, by rw [h3]; rfl⟩
            · rw [quo_bad _ _ hd hn'] at h
              cases h
      · rw [quo_any _ _ h34 h92] at h
        obtain ⟨h1, h2, p, h3⟩ := quo_len n r _ _ _ (by omega) h
        simp only [List.length_append, List.length_cons, List.length_nil] at h2 ⊢
        exact ⟨by omega, by omega, c :: p, by rw [h3]; rfl⟩

/-! ### the program's -/
theorem app_one (p : List UInt8) (c : UInt8) (r : List UInt8) : p ++ c :: r = (p ++ [c]) ++ r := by simp
theorem cast_len (p : List UInt8) (c : UInt8) : ((p.length + 1 : Nat) : Int) = ((p ++ [c]).length : Int) := by simp
theorem quoted_ev : ∀ (n : Nat) (l p acc : List UInt8), l.length ≤ n → p.length + l.length ≤ 1000000 → acc.length + l.length ≤ 1000000 →
    Ev (fun k => script_quoted.l0 k (mkB (p ++ l)) (nb acc) (p.length : Int)) (qres l acc)
  | n, [], p, acc, hn, h1, h2 => by
    refine Ev.step (f := fun _ => some (qres [] acc)) (fun k => ?_) (Ev.now _)
    simp only [script_quoted.l0]
    rw [if_neg (by rw [mkB_size]; simp)]
    rfl
  | 0, c :: r, p, acc, hn, h1, h2 => by simp at hn
  | n + 1, c :: r, p, acc, hn, h1, h2 => by
    simp only [List.length_cons] at hn h1 h2
    have hsz : (mkB (p ++ c :: r)).size = p.length + r.length + 1 := by rw [mkB_size]; simp; omega
    have hb := Lib.hid (bt_app p c r (p.length : Int) rfl)
    have hw : wrap64 ((p.length : Int) + 1) = ((p.length + 1 : Nat) : Int) := w64 (by omega)
    by_cases h34 : c = 34
    · subst h34
      refine Ev.step (f := fun _ => some (qres (34 :: r) acc)) (fun k => ?_) (Ev.now _)
      simp only [script_quoted.l0]
      rw [if_pos (by omega), if_pos (by omega), hb.out, if_pos (by decide), hw, if_pos (by omega), if_pos (by omega), str_nb, Int.toNat_natCast, mk_drop _ _ _ (by rw [hsz]; simp; omega)]
      unfold qres
      rw [quo_end]
      simp
    · have n34 : ¬ ((c.toNat : Int) = 34) := b_ne (n := 34) (by decide) h34
      by_cases h92 : c = 92
      · subst h92
        cases r with
        | nil =>
          refine Ev.step (f := fun _ => some (qres [92] acc)) (fun k => ?_) (Ev.now _)
          simp only [script_quoted.l0]
          rw [if_pos (by omega), if_pos (by omega), hb.out, if_neg n34, if_pos (by decide), hw, if_pos (by rw [hsz]; simp)]
          rfl
        | cons d r =>
          simp only [List.length_cons] at hn h1 h2 hsz
          have hb2 : Hid (bt (mkB (p ++ 92 :: d :: r)) ((p.length + 1 : Nat) : Int) = (d.toNat : Int)) := Lib.hid (by
            rw [app_one]
            exact bt_app _ d r _ (by simp))
          have hw2 : wrap64 (((p.length + 1 : Nat) : Int) + 1) = ((p.length + 2 : Nat) : Int) := w64 (by omega)
          have happ : p ++ 92 :: d :: r = (p ++ [92, d]) ++ r := by simp
          have hcast : ((p.length + 2 : Nat) : Int) = ((p ++ [92, d]).length : Int) := by simp
          by_cases hd : d = 34 ∨ d = 92
          · have ih := quoted_ev n r (p ++ [92, d]) (acc ++ [d]) (by omega) (by simp; omega) (by simp; omega)
            have hq : qres (92 :: d :: r) acc = qres r (acc ++ [d]) := by unfold qres; rw [quo_esc _ _ hd]
            rw [hq]
            refine Ev.step (fun k => ?_) ih
            simp only [script_quoted.l0]
            rw [if_pos (by omega), if_pos (by omega), hb.out, if_neg n34, if_pos (by decide), hw, if_neg (by omega), if_pos (by omega), if_pos (by omega), hb2.out, hw2]
            have hlt : (nb acc).length < 140737488355328 := by rw [nb_len]; omega
            rw [nb_snoc, hcast, happ]
            rcases hd with rfl | rfl
            · rw [if_pos (by decide), if_pos hlt]
            · rw [if_neg (by decide), if_pos (by decide), if_pos hlt]
          · have d34 : ¬ ((d.toNat : Int) = 34) := b_ne (n := 34) (by decide) (fun e => hd (.inl e))
            have d92 : ¬ ((d.toNat : Int) = 92) := b_ne (n := 92) (by decide) (fun e => hd (.inr e))
            by_cases hn' : d = 110
            · subst hn'
              have ih := quoted_ev n r (p ++ [92, 110]) (acc ++ [10]) (by omega) (by simp; omega) (by simp; omega)
              have hq : qres (92 :: 110 :: r) acc = qres r (acc ++ [10]) := by unfold qres; rw [quo_n]
              rw [hq]
              refine Ev.step (fun k => ?_) ih
              simp only [script_quoted.l0]
              rw [if_pos (by omega), if_pos (by omega), hb.out, if_neg n34, if_pos (by decide), hw, if_neg (by omega), if_pos (by omega), if_pos (by omega), hb2.out, hw2, if_neg d34, if_neg d92, if_pos (by decide), if_pos (by rw [nb_len]; omega), hcast, happ]
              rw [show nb acc ++ [(10 : Int)] = nb (acc ++ [10]) from nb_snoc acc 10]
            · have hq : qres (92 :: d :: r) acc = (⟨#[]⟩, ⟨#[]⟩, false) := by unfold qres; rw [quo_bad _ _ hd hn']
              rw [hq]
              refine Ev.step (fun k => ?_) (Ev.now _)
              simp only [script_quoted.l0]
              rw [if_pos (by omega), if_pos (by omega), hb.out, if_neg n34, if_pos (by decide), hw, if_neg (by omega), if_pos (by omega), if_pos (by omega), hb2.out, if_neg d34, if_neg d92, if_neg (show ¬ ((d.toNat : Int) = 110) from b_ne (n := 110) (by decide) hn')]
      · have n92 : ¬ ((c.toNat : Int) = 92) := b_ne (n := 92) (by decide) h92
        have ih := quoted_ev n r (p ++ [c]) (acc ++ [c]) (by omega) (by simp; omega) (by simp; omega)
        have hq : qres (c :: r) acc = qres r (acc ++ [c]) := by unfold qres; rw [quo_any _ _ h34 h92]
        rw [hq]
        refine Ev.step (fun k => ?_) ih
        simp only [script_quoted.l0]
        rw [if_pos (by omega), if_pos (by omega), hb.out, if_neg n34, if_neg n92, if_pos (by rw [nb_len]; omega), hw, nb_snoc, cast_len p c, app_one p c r]

theorem mem_tw (p : UInt8 → Bool) : ∀ (l : List UInt8) (x : UInt8), x ∈ l.takeWhile p → p x = true
  | [], x, h => by cases h
  | c :: r, x, h => by
    rw [List.takeWhile_cons] at h
    split at h
    · rename_i hc
      rcases List.mem_cons.1 h with rfl | h
      · exact hc
      · exact mem_tw p r x h
    · cases h
/-- A line's words, told one behind the other. -/
inductive Wds : List UInt8 → List ByteArray → List ByteArray × Bool → Prop where
  | stop (acc) : Wds [] acc (acc, true)
  | blank (c r acc res) : blk c = true → Wds r acc res → Wds (c :: r) acc res
  | word (l w t acc res) : w ≠ [] → l = w ++ t → (∀ c ∈ w, blk c = false) → w.head? ≠ some 34 → (∀ c, t.head? = some c → blk c = true) → Wds t (acc ++ [mkB w]) res → Wds l acc res
  | open_ (r acc) : quo r [] = none → Wds (34 :: r) acc ([], false)
  | near (r q c t acc) : quo r [] = some (q, c :: t) → blk c = false → Wds (34 :: r) acc ([], false)
  | text (r q t acc res) : quo r [] = some (q, t) → (∀ c, t.head? = some c → blk c = true) → Wds t (acc ++ [mkB (34 :: q)]) res → Wds (34 :: r) acc res
theorem Wds.total : ∀ (n : Nat) (l : List UInt8) (acc : List ByteArray), l.length ≤ n → ∃ res, Wds l acc res
  | n, [], acc, hn => ⟨_, .stop acc⟩
  | 0, c :: r, acc, hn => by simp at hn
  | n + 1, c :: r, acc, hn => by
    simp only [List.length_cons] at hn
    by_cases hb : blk c = true
    · obtain ⟨res, h⟩ := Wds.total n r acc (by omega)
      exact ⟨res, .blank c r acc res hb h⟩
    · have hb' : blk c = false := by simpa using hb
      by_cases h34 : c = 34
      · subst h34
        cases hq : quo r [] with
        | none => exact ⟨_, .open_ r acc hq⟩
        | some qt =>
          obtain ⟨q, t⟩ := qt
          have hl := (quo_len _ r [] q t (Nat.le_refl _) hq).1
          cases t with
          | nil =>
            obtain ⟨res, h⟩ := Wds.total n [] (acc ++ [mkB (34 :: q)]) (by simp)
            exact ⟨res, .text r q [] acc res hq (fun c h => by cases h) h⟩
          | cons d t =>
            by_cases hd : blk d = true
            · obtain ⟨res, h⟩ := Wds.total n (d :: t) (acc ++ [mkB (34 :: q)]) (by omega)
              exact ⟨res, .text r q _ acc res hq (fun c h => by cases h; exact hd) h⟩
            · exact ⟨_, .near r q d t acc hq (by simpa using hd)⟩
      · have hsplit : c :: r = (c :: r).takeWhile (fun x => !blk x) ++ (c :: r).dropWhile (fun x => !blk x) := (List.takeWhile_append_dropWhile).symm
        have ht : (c :: r).takeWhile (fun x => !blk x) = c :: r.takeWhile (fun x => !blk x) := by rw [List.takeWhile_cons, hb']; rfl
        have hd : ((c :: r).dropWhile (fun x => !blk x)).length ≤ n := by
          rw [List.dropWhile_cons, hb']
          simp only [Bool.not_false, if_true]
          have := (List.dropWhile_sublist (fun x => !blk x) (l := r)).length_le
          omega
        obtain ⟨res, h⟩ := Wds.total n ((c :: r).dropWhile (fun x => !blk x)) (acc ++ [mkB ((c :: r).takeWhile (fun x => !blk x))]) hd
        refine ⟨res, .word _ _ _ acc res (by rw [ht]; simp) hsplit (fun x hx => ?_) (by rw [ht]; simpa using h34) (fun x hx => ?_) h⟩
        · have := mem_tw (fun x => !blk x) _ x hx
          simpa using this
        · have := List.head?_dropWhile_not (fun x => !blk x) (c :: r)
          rw [hx] at this
          simpa using this

theorem Wds.len {l : List UInt8} {acc : List ByteArray} {res : List ByteArray × Bool} (h : Wds l acc res) : res.1.length ≤ acc.length + l.length := by
  induction h with
  | stop acc => simp
  | blank c r acc res hb hr ih => simp only [List.length_cons]; omega
  | word l w t acc res hw0 hl hw h34 ht hr ih =>
    subst hl
    have := List.length_pos_iff.2 hw0
    simp only [List.length_append, List.length_cons, List.length_nil] at ih ⊢
    omega
  | open_ r acc hq => simp
  | near r q c t acc hq hc => simp
  | text r q t acc res hq ht hr ih =>
    have := (quo_len _ r [] q t (Nat.le_refl _) hq).1
    simp only [List.length_append, List.length_cons, List.length_nil] at ih ⊢
    omega
theorem mk_one (q : List UInt8) : (⟨#[34]⟩ : ByteArray) ++ mkB q = mkB (34 :: q) := bytes_ext (by simp [mkB])
theorem toList_nil (l : List UInt8) : ((mkB l).toList = ([] : List UInt8)) = (l = []) := by rw [mkB_toList]
theorem firstBlk_word (w t : List UInt8) (hw : ∀ c ∈ w, blk c = false) (ht : ∀ c, t.head? = some c → blk c = true) : firstBlk (w ++ t) = if t = [] then none else some w.length := by
  induction w with
  | nil =>
    cases t with
    | nil => rfl
    | cons c t => rw [List.nil_append, firstBlk_cons, if_pos (ht c rfl), if_neg (by simp)]; rfl
  | cons c w ih =>
    rw [List.cons_append, firstBlk_cons, hw c List.mem_cons_self, if_neg (by simp), ih (fun x hx => hw x (List.mem_cons_of_mem _ hx))]
    split
    · rfl
    · rfl
theorem quoted_f (r : List UInt8) (h : r.length ≤ 999999) : Ev (fun k => script_quoted.f k (mkB (34 :: r))) (qres r []) := quoted_ev r.length r [34] [] (Nat.le_refl _) (by simp; omega) (by simp; omega)
theorem words_ev {l : List UInt8} {acc : List ByteArray} {res : List ByteArray × Bool} (h : Wds l acc res) : l.length ≤ 1000 → acc.length + l.length ≤ 1000000 → Ev (fun k => script_Words.l0 k (mkB l) acc) res := by
  induction h with
  | stop acc =>
    intro h1 h2
    refine Ev.step (f := fun _ => some (acc, true)) (fun k => ?_) (Ev.now _)
    simp only [script_Words.l0]
    rw [if_pos (by rw [toList_nil])]
  | blank c r acc res hb hr ih =>
    intro h1 h2
    simp only [List.length_cons] at h1 h2
    refine Ev.step (fun k => ?_) (ih (by omega) (by omega))
    simp only [script_Words.l0]
    rw [if_neg (by rw [toList_nil]; simp), if_pos (by rw [mkB_size]; simp), bt_cons, blank_f, hb]
    simp only [Option.bind_some, if_true]
    rw [if_pos (by rw [mkB_size]; simp; omega), mk_drop _ _ _ (by rw [mkB_size]; exact Nat.le_refl _)]
    rfl
  | word l w t acc res hw0 hl hw h34 ht hr ih =>
    intro h1 h2
    subst hl
    cases w with
    | nil => exact absurd rfl hw0
    | cons c w =>
      have hlen : (c :: w ++ t).length = w.length + 1 + t.length := by simp; omega
      have hc34 : c ≠ 34 := fun e => h34 (by rw [e]; rfl)
      refine Ev.step (fun k => ?_) (ih (by omega) (by simp; omega))
      simp only [script_Words.l0]
      rw [if_neg (by rw [toList_nil]; simp), if_pos (by rw [mkB_size, hlen]; omega), List.cons_append, bt_cons, blank_f, hw c List.mem_cons_self]
      simp only [Option.bind_some, Bool.false_eq_true, if_false]
      rw [if_neg (show ¬ ((c.toNat : Int) = 34) from b_ne (n := 34) (by decide) hc34)]
      unfold strings_IndexFunc.f
      rw [Option.bind_some, idx_blk, ← List.cons_append, firstBlk_word _ t hw ht]
      by_cases ht0 : t = []
      · subst ht0
        rw [if_pos rfl]
        simp only [List.append_nil]
        rw [if_pos (by omega), if_pos (by omega), if_pos (by omega), if_pos (by omega), mk_drop _ _ _ (by rw [mkB_size]; exact Nat.le_refl _), mk_take, mkB_size]
        simp
      · rw [if_neg ht0]
        simp only
        rw [if_neg (by omega), if_pos (by omega), if_pos (by rw [mkB_size, hlen]; simp; omega), if_pos (by omega), Int.toNat_natCast, mk_drop _ _ _ (by rw [mkB_size]; exact Nat.le_refl _), mk_take]
        simp
  | open_ r acc hq =>
    intro h1 h2
    simp only [List.length_cons] at h1 h2
    have hqe := quoted_f r (by omega)
    rw [show qres r [] = ((⟨#[]⟩, ⟨#[]⟩, false) : ByteArray × ByteArray × Bool) by unfold qres; rw [hq]] at hqe
    refine Ev.step (fun k => ?hA) (Ev.bind (f := ?fA) hqe ?rA)
    case hA =>
      simp only [script_Words.l0]
      rw [if_neg (by rw [toList_nil]; simp), if_pos (by rw [mkB_size, List.length_cons]; omega), bt_cons, blank_f, show blk 34 = false from rfl]
      simp only [Option.bind_some, Bool.false_eq_true, if_false]
      rw [if_pos (by decide)]
    case rA =>
      simp only [Bool.false_eq_true, if_false]
      exact Ev.now _
  | near r q c t acc hq hc =>
    intro h1 h2
    simp only [List.length_cons] at h1 h2
    have hqe := quoted_f r (by omega)
    rw [show qres r [] = (mkB q, mkB (c :: t), true) by unfold qres; rw [hq]] at hqe
    refine Ev.step (fun k => ?hB) (Ev.bind (f := ?fB) hqe ?rB)
    case hB =>
      simp only [script_Words.l0]
      rw [if_neg (by rw [toList_nil]; simp), if_pos (by rw [mkB_size, List.length_cons]; omega), bt_cons, blank_f, show blk 34 = false from rfl]
      simp only [Option.bind_some, Bool.false_eq_true, if_false]
      rw [if_pos (by decide)]
    case rB =>
      refine Ev.congr (f := fun _ => some (([] : List ByteArray), false)) (fun n => ?_) (Ev.now _)
      simp only [if_true]
      rw [mkB_toList]
      simp only [reduceCtorEq, if_false]
      rw [if_pos (by rw [mkB_size, List.length_cons]; omega), bt_cons, blank_f, hc]
      simp only [Option.bind_some, Bool.false_eq_true, if_false]
  | text r q t acc res hq ht hr ih =>
    intro h1 h2
    simp only [List.length_cons] at h1 h2
    have hqe := quoted_f r (by omega)
    rw [show qres r [] = (mkB q, mkB t, true) by unfold qres; rw [hq]] at hqe
    refine Ev.step (fun k => ?hC) (Ev.bind (f := ?fC) hqe ?rC)
    case hC =>
      simp only [script_Words.l0]
      rw [if_neg (by rw [toList_nil]; simp), if_pos (by rw [mkB_size, List.length_cons]; omega), bt_cons, blank_f, show blk 34 = false from rfl]
      simp only [Option.bind_some, Bool.false_eq_true, if_false]
      rw [if_pos (by decide)]
    case rC =>
      obtain ⟨q1, q2, _⟩ := quo_len _ r [] q t (Nat.le_refl _) hq
      simp only [List.length_nil, Nat.zero_add] at q2
      refine Ev.congr (fun n => ?_) (ih (by omega) (by simp; omega))
      simp only [if_true, mk_one]
      rw [mkB_toList]
      cases t with
      | nil => rw [if_pos rfl, if_pos (by rw [mkB_size]; omega), if_pos (by omega)]
      | cons c t =>
        simp only [reduceCtorEq, if_false]
        rw [if_pos (by rw [mkB_size, List.length_cons]; omega), bt_cons, blank_f, ht c rfl]
        simp only [Option.bind_some, if_true]
        rw [if_pos (by rw [mkB_size]; omega), if_pos (by omega)]

/-! ### the reference's -/
theorem rl1_ev (p w t : List UInt8) (acc : List ByteArray) (from_ : Nat) (res : List ByteArray × Bool) (hf : from_ ≤ p.length) : ∀ (v : List UInt8), (∀ c ∈ v, blk c = false) → (∀ c, t.head? = some c → blk c = true) →
    p.length + v.length + t.length ≤ 1000000 → acc.length ≤ 1000000 → ∀ u : List UInt8, Ev (fun k => haversackref17_Words.l0 k (mkB (p ++ u ++ v ++ t)) (acc ++ [(mkB (p ++ u ++ v ++ t)).extract from_ (p ++ u ++ v).length]) ((p ++ u ++ v).length : Int)) res → u.length + p.length + v.length + t.length ≤ 1000000 →
    Ev (fun k => haversackref17_Words.l1 k (mkB (p ++ u ++ v ++ t)) acc ((p ++ u).length : Int) (from_ : Int)) res
  | [], hv, ht, h1, h2, u, hres, h3 => by
    simp only [List.append_nil] at hres ⊢
    refine Ev.step (fun k => ?_) hres
    have hlu : (p ++ u).length = p.length + u.length := List.length_append
    have hsz : (mkB (p ++ u ++ t)).size = p.length + u.length + t.length := by rw [mkB_size, List.length_append, List.length_append]
    simp only [haversackref17_Words.l1]
    cases t with
    | nil =>
      simp only [List.length_nil] at hsz
      rw [if_neg (by omega), if_pos (by omega), if_pos (by omega), if_pos (by omega), if_pos (by omega), Int.toNat_natCast, Int.toNat_natCast]
    | cons c t =>
      simp only [List.length_cons] at hsz
      have hb := Lib.hid (bt_app (p ++ u) c t ((p ++ u).length : Int) rfl)
      rw [if_pos (by omega), if_pos (by omega), hb.out]
      rcases (blk_iff c).1 (ht c rfl) with rfl | rfl
      · rw [if_pos (by decide), if_pos (by omega), if_pos (by omega), if_pos (by omega), if_pos (by omega), Int.toNat_natCast, Int.toNat_natCast]
      · rw [if_neg (by decide), if_pos (by decide), if_pos (by omega), if_pos (by omega), if_pos (by omega), if_pos (by omega), Int.toNat_natCast, Int.toNat_natCast]
  | c :: v, hv, ht, h1, h2, u, hres, h3 => by
    simp only [List.length_cons] at h1 h3
    have happ : p ++ u ++ c :: v ++ t = p ++ (u ++ [c]) ++ v ++ t := by simp
    have hlen : (p ++ u ++ c :: v).length = (p ++ (u ++ [c]) ++ v).length := by simp
    rw [happ, hlen] at hres
    have ih := rl1_ev p w t acc from_ res hf v (fun x hx => hv x (List.mem_cons_of_mem _ hx)) ht (by omega) h2 (u ++ [c]) hres (by simp; omega)
    refine Ev.step (fun k => ?_) ih
    have hlu : (p ++ u).length = p.length + u.length := List.length_append
    have hsz : (mkB (p ++ u ++ c :: v ++ t)).size = p.length + u.length + v.length + 1 + t.length := by rw [mkB_size]; simp; omega
    have hb := Lib.hid (show bt (mkB (p ++ u ++ c :: v ++ t)) ((p ++ u).length : Int) = (c.toNat : Int) by
      rw [List.append_assoc, List.cons_append]
      exact bt_app (p ++ u) c (v ++ t) _ rfl)
    have hc := hv c List.mem_cons_self
    have n32 : c ≠ 32 := fun e => by rw [e] at hc; cases hc
    have n9 : c ≠ 9 := fun e => by rw [e] at hc; cases hc
    have hw : wrap64 (((p ++ u).length : Int) + 1) = ((p ++ (u ++ [c])).length : Int) := by rw [w64 (by omega)]; simp; omega
    simp only [haversackref17_Words.l1]
    rw [if_pos (by omega), if_pos (by omega), hb.out, if_neg (show ¬ ((c.toNat : Int) = 32) from b_ne (n := 32) (by decide) n32), if_neg (show ¬ ((c.toNat : Int) = 9) from b_ne (n := 9) (by decide) n9), hw, happ]
/-- What stands in quotes, at the reference. -/
def rres (l acc : List UInt8) (out : List ByteArray) : List ByteArray × Bool → Prop := fun res => match quo l acc with
  | none => res = ([], false)
  | some (_, c :: _) => blk c = false → res = ([], false)
  | some _ => True
theorem rl2_ev (out : List ByteArray) (res : List ByteArray × Bool) (ho : out.length ≤ 1000000) : ∀ (n : Nat) (l p acc : List UInt8), l.length ≤ n → p.length + l.length ≤ 1000000 → acc.length + l.length ≤ 1000000 →
    (quo l acc = none → res = ([], false)) → (∀ q c t, quo l acc = some (q, c :: t) → blk c = false → res = ([], false)) →
    (∀ q t, quo l acc = some (q, t) → (∀ c, t.head? = some c → blk c = true) → ∀ p', p ++ l = p' ++ t → Ev (fun k => haversackref17_Words.l0 k (mkB (p' ++ t)) (out ++ [mkB q]) (p'.length : Int)) res) →
    Ev (fun k => haversackref17_Words.l2 k (mkB (p ++ l)) out (p.length : Int) (nb acc)) res
  | n, [], p, acc, hn, h1, h2, hno, hnear, hgo => by
    rw [hno rfl]
    refine Ev.step (f := fun _ => some (([] : List ByteArray), false)) (fun k => ?_) (Ev.now _)
    simp only [haversackref17_Words.l2]
    rw [if_pos (by rw [mkB_size]; simp)]
  | 0, c :: r, p, acc, hn, h1, h2, hno, hnear, hgo => by simp at hn
  | n + 1, c :: r, p, acc, hn, h1, h2, hno, hnear, hgo => by
    simp only [List.length_cons] at hn h1 h2
    have hsz : (mkB (p ++ c :: r)).size = p.length + r.length + 1 := by rw [mkB_size, List.length_append, List.length_cons]; omega
    have hb := Lib.hid (bt_app p c r (p.length : Int) rfl)
    have hw : wrap64 ((p.length : Int) + 1) = ((p.length + 1 : Nat) : Int) := w64 (by omega)
    have hacc : (nb acc).length < 140737488355328 := by rw [nb_len]; omega
    by_cases h34 : c = 34
    · subst h34
      have hb2 : ∀ d r', r = d :: r' → Hid (bt (mkB (p ++ 34 :: r)) ((p.length + 1 : Nat) : Int) = (d.toNat : Int)) := fun d r' e => Lib.hid (by
        rw [e, app_one]
        exact bt_app _ d r' _ (by simp))
      cases r with
      | nil =>
        have hg := hgo acc [] (quo_end [] acc) (fun c hc => by cases hc) (p ++ [34]) (by simp)
        simp only [List.append_nil, List.length_append, List.length_cons, List.length_nil] at hg
        refine Ev.step (fun k => ?_) hg
        simp only [haversackref17_Words.l2]
        simp only [List.length_nil] at hsz
        rw [if_neg (by omega), if_pos (by omega), if_pos (by omega), hb.out, if_pos (by decide), hw, if_neg (by omega), if_pos (by omega), str_nb]
      | cons d r =>
        have hbd := hb2 d r rfl
        simp only [List.length_cons] at hsz
        cases hd : blk d with
        | false =>
          rw [hnear acc d r (quo_end _ _) hd]
          have n32 : d ≠ 32 := fun e => by rw [e] at hd; cases hd
          have n9 : d ≠ 9 := fun e => by rw [e] at hd; cases hd
          refine Ev.step (f := fun _ => some (([] : List ByteArray), false)) (fun k => ?_) (Ev.now _)
          simp only [haversackref17_Words.l2]
          rw [if_neg (by omega), if_pos (by omega), if_pos (by omega), hb.out, if_pos (by decide), hw, if_pos (by omega), if_pos (by omega), hbd.out, if_neg (show ¬ ((d.toNat : Int) = 32) from b_ne (n := 32) (by decide) n32), if_neg (show ¬ ((d.toNat : Int) = 9) from b_ne (n := 9) (by decide) n9)]
        | true =>
          have hg := hgo acc (d :: r) (quo_end _ _) (fun c hc => by cases hc; exact hd) (p ++ [34]) (by simp)
          rw [← app_one, ← cast_len] at hg
          refine Ev.step (fun k => ?_) hg
          simp only [haversackref17_Words.l2]
          rw [if_neg (by omega), if_pos (by omega), if_pos (by omega), hb.out, if_pos (by decide), hw, if_pos (by omega), if_pos (by omega), hbd.out, str_nb]
          rcases (blk_iff d).1 hd with rfl | rfl
          · rw [if_pos (by decide), if_pos (by omega)]
          · rw [if_neg (by decide), if_pos (by decide), if_pos (by omega)]
    · have n34 : ¬ ((c.toNat : Int) = 34) := b_ne (n := 34) (by decide) h34
      by_cases h92 : c = 92
      · subst h92
        cases r with
        | nil =>
          rw [hno (quo_esc_end acc)]
          simp only [List.length_nil] at hsz
          refine Ev.step (f := fun _ => some (([] : List ByteArray), false)) (fun k => ?_) (Ev.now _)
          simp only [haversackref17_Words.l2]
          rw [if_neg (by omega), if_pos (by omega), if_pos (by omega), hb.out, if_neg n34, if_pos (by decide), hw, if_pos (by omega)]
        | cons d r =>
          simp only [List.length_cons] at hn h1 h2 hsz
          have hb2 : Hid (bt (mkB (p ++ 92 :: d :: r)) ((p.length + 1 : Nat) : Int) = (d.toNat : Int)) := Lib.hid (by
            rw [app_one]
            exact bt_app _ d r _ (by simp))
          have hw2 : wrap64 (((p.length + 1 : Nat) : Int) + 1) = ((p.length + 2 : Nat) : Int) := w64 (by omega)
          have happ : p ++ 92 :: d :: r = (p ++ [92, d]) ++ r := by simp
          have hcast : ((p.length + 2 : Nat) : Int) = ((p ++ [92, d]).length : Int) := by simp
          have to4 : ∀ (b : Bool), ((bt (mkB (p ++ 92 :: d :: r)) ((p.length + 1 : Nat) : Int)) = 34 → b = true) → (¬ ((d.toNat : Int) = 34) → b = (((d.toNat : Int)) == 92)) →
              Ev (fun k => haversackref17_Words.j4 k (mkB (p ++ 92 :: d :: r)) out ((p.length + 1 : Nat) : Int) (nb acc) (d.toNat : Int) b) res := fun b hbt hbf => by
            by_cases hd : d = 34 ∨ d = 92
            · have hbv : b = true := by
                rcases hd with rfl | rfl
                · exact hbt (by rw [hb2.out]; rfl)
                · exact hbf (by decide)
              subst hbv
              have ih := rl2_ev out res ho n r (p ++ [92, d]) (acc ++ [d]) (by omega) (by simp; omega) (by simp; omega) (fun h => hno (by rw [quo_esc _ _ hd]; exact h)) (fun q c t h => hnear q c t (by rw [quo_esc _ _ hd]; exact h)) (fun q t h hb p' hp => hgo q t (by rw [quo_esc _ _ hd]; exact h) hb p' (by rw [happ]; exact hp))
              refine Ev.step (fun k => ?_) ih
              simp only [haversackref17_Words.j4]
              rw [if_pos trivial, if_pos (by omega), if_pos (by omega), if_pos hacc, hb2.out, hw2, nb_snoc, hcast, happ]
            · have d34 : ¬ ((d.toNat : Int) = 34) := b_ne (n := 34) (by decide) (fun e => hd (.inl e))
              have d92 : ¬ ((d.toNat : Int) = 92) := b_ne (n := 92) (by decide) (fun e => hd (.inr e))
              have hbv : b = false := by rw [hbf d34]; exact beq_eq_false_iff_ne.2 d92
              subst hbv
              by_cases hn' : d = 110
              · subst hn'
                have ih := rl2_ev out res ho n r (p ++ [92, 110]) (acc ++ [10]) (by omega) (by simp; omega) (by simp; omega) (fun h => hno (by rw [quo_n]; exact h)) (fun q c t h => hnear q c t (by rw [quo_n]; exact h)) (fun q t h hb p' hp => hgo q t (by rw [quo_n]; exact h) hb p' (by rw [happ]; exact hp))
                refine Ev.step (fun k => ?_) ih
                simp only [haversackref17_Words.j4]
                rw [if_neg (by simp), if_pos (by decide), if_pos hacc, hw2, hcast, happ, show nb acc ++ [(10 : Int)] = nb (acc ++ [10]) from nb_snoc acc 10]
              · rw [hno (quo_bad _ _ hd hn')]
                refine Ev.step (f := fun _ => some (([] : List ByteArray), false)) (fun k => ?_) (Ev.now _)
                simp only [haversackref17_Words.j4]
                rw [if_neg (by simp), if_neg (show ¬ ((d.toNat : Int) = 110) from b_ne (n := 110) (by decide) hn')]
          by_cases hd34 : d = 34
          · have ih := to4 ((d.toNat : Int) == 34) (fun _ => by rw [hd34]; rfl) (fun h => absurd (by rw [hd34]; rfl) h)
            refine Ev.step (fun k => ?_) ih
            simp only [haversackref17_Words.l2]
            rw [if_neg (by omega), if_pos (by omega), if_pos (by omega), hb.out, if_neg n34, if_pos (by decide), hw, if_neg (by omega), if_pos (by omega), if_pos (by omega), hb2.out, if_pos (by rw [hd34]; rfl)]
          · have d34 : ¬ ((d.toNat : Int) = 34) := b_ne (n := 34) (by decide) hd34
            have ih := to4 ((d.toNat : Int) == 92) (fun h => absurd (hb2.out ▸ h) d34) (fun _ => rfl)
            refine Ev.step (fun k => ?_) ih
            simp only [haversackref17_Words.l2]
            rw [if_neg (by omega), if_pos (by omega), if_pos (by omega), hb.out, if_neg n34, if_pos (by decide), hw, if_neg (by omega), if_pos (by omega), if_pos (by omega), hb2.out, if_neg d34]
      · have n92 : ¬ ((c.toNat : Int) = 92) := b_ne (n := 92) (by decide) h92
        have ih := rl2_ev out res ho n r (p ++ [c]) (acc ++ [c]) (by omega) (by simp; omega) (by simp; omega) (fun h => hno (by rw [quo_any _ _ h34 h92]; exact h)) (fun q c' t h => hnear q c' t (by rw [quo_any _ _ h34 h92]; exact h)) (fun q t h hb p' hp => hgo q t (by rw [quo_any _ _ h34 h92]; exact h) hb p' (by rw [app_one]; exact hp))
        refine Ev.step (fun k => ?_) ih
        simp only [haversackref17_Words.l2]
        rw [if_neg (by omega), if_pos (by omega), if_pos (by omega), hb.out, if_neg n34, if_neg n92, if_pos hacc, hw, nb_snoc, cast_len p c, app_one p c r]
theorem quo_pre : ∀ (n : Nat) (l a acc : List UInt8), l.length ≤ n → quo l (a ++ acc) = (quo l acc).map fun x => (a ++ x.1, x.2)
  | n, [], a, acc, hn => rfl
  | 0, c :: r, a, acc, hn => by simp at hn
  | n + 1, c :: r, a, acc, hn => by
    simp only [List.length_cons] at hn
    by_cases h34 : c = 34
    · subst h34
      rw [quo_end, quo_end]
      rfl
    · by_cases h92 : c = 92
      · subst h92
        cases r with
        | nil => rw [quo_esc_end, quo_esc_end]; rfl
        | cons d r =>
          simp only [List.length_cons] at hn
          by_cases hd : d = 34 ∨ d = 92
          · rw [quo_esc _ _ hd, quo_esc _ _ hd, List.append_assoc]
            exact quo_pre n r a _ (by omega)
          · by_cases hn' : d = 110
            · subst hn'
              rw [quo_n, quo_n, List.append_assoc]
              exact quo_pre n r a _ (by omega)
            · rw [quo_bad _ _ hd hn', quo_bad _ _ hd hn']
              rfl
      · rw [quo_any _ _ h34 h92, quo_any _ _ h34 h92, List.append_assoc]
        exact quo_pre n r a _ (by omega)
theorem quo_34 (r : List UInt8) : quo r [34] = (quo r []).map fun x => (34 :: x.1, x.2) := quo_pre r.length r [34] [] (Nat.le_refl _)
theorem open34 (r : List UInt8) (acc : List ByteArray) (res : List ByteArray × Bool) (p : List UInt8) (h1 : p.length + (r.length + 1) ≤ 1000) (h2 : acc.length ≤ 1000000)
    (h : Ev (fun k => haversackref17_Words.l2 k (mkB (p ++ [34] ++ r)) acc ((p ++ [34]).length : Int) (nb [34])) res) : Ev (fun k => haversackref17_Words.l0 k (mkB (p ++ 34 :: r)) acc (p.length : Int)) res := by
  rw [← app_one, ← cast_len] at h
  have hsz : (mkB (p ++ 34 :: r)).size = p.length + r.length + 1 := by rw [mkB_size, List.length_append, List.length_cons]; omega
  have hbt := Lib.hid (bt_app p 34 r (p.length : Int) rfl)
  have hj : Ev (fun k => haversackref17_Words.j1 k (mkB (p ++ 34 :: r)) acc (p.length : Int) false) res := by
    refine Ev.step (fun k => ?_) h
    simp only [haversackref17_Words.j1]
    rw [if_neg (by simp), if_pos (by omega), if_pos (by omega), hbt.out, if_pos (by decide), w64 (by omega)]
    rfl
  refine Ev.step (fun k => ?_) hj
  simp only [haversackref17_Words.l0]
  rw [if_pos (by omega), if_pos (by omega), hbt.out, if_neg (by decide)]
  rfl
theorem refwords_ev {l : List UInt8} {acc : List ByteArray} {res : List ByteArray × Bool} (h : Wds l acc res) : ∀ p : List UInt8, p.length + l.length ≤ 1000 → acc.length + l.length ≤ 1000000 → Ev (fun k => haversackref17_Words.l0 k (mkB (p ++ l)) acc (p.length : Int)) res := by
  induction h with
  | stop acc =>
    intro p h1 h2
    refine Ev.step (f := fun _ => some (acc, true)) (fun k => ?_) (Ev.now _)
    simp only [haversackref17_Words.l0]
    rw [if_neg (by rw [mkB_size]; simp)]
  | blank c r acc res hb hr ih =>
    intro p h1 h2
    simp only [List.length_cons] at h1 h2
    have hsz : (mkB (p ++ c :: r)).size = p.length + r.length + 1 := by rw [mkB_size, List.length_append, List.length_cons]; omega
    have hbt := Lib.hid (bt_app p c r (p.length : Int) rfl)
    have hih := ih (p ++ [c]) (by simp; omega) (by omega)
    rw [← app_one, ← cast_len] at hih
    have hj : Ev (fun k => haversackref17_Words.j1 k (mkB (p ++ c :: r)) acc (p.length : Int) true) res := by
      refine Ev.step (fun k => ?_) hih
      simp only [haversackref17_Words.j1]
      rw [if_pos trivial, w64 (by omega)]
    refine Ev.step (fun k => ?_) hj
    simp only [haversackref17_Words.l0]
    rw [if_pos (by omega), if_pos (by omega), hbt.out]
    rcases (blk_iff c).1 hb with rfl | rfl
    · rw [if_pos (by decide)]
    · rw [if_neg (by decide)]
      rfl
  | word l w t acc res hw0 hl hw h34 ht hr ih =>
    intro p h1 h2
    subst hl
    cases w with
    | nil => exact absurd rfl hw0
    | cons c w =>
      have hlen : (c :: w ++ t).length = w.length + 1 + t.length := by simp; omega
      have hc34 : c ≠ 34 := fun e => h34 (by rw [e]; rfl)
      have hc := hw c List.mem_cons_self
      have n32 : c ≠ 32 := fun e => by rw [e] at hc; cases hc
      have n9 : c ≠ 9 := fun e => by rw [e] at hc; cases hc
      have hsz : (mkB (p ++ (c :: w ++ t))).size = p.length + w.length + 1 + t.length := by rw [mkB_size, List.length_append, hlen]; omega
      have hbt : Hid (bt (mkB (p ++ (c :: w ++ t))) (p.length : Int) = (c.toNat : Int)) := Lib.hid (bt_app p c (w ++ t) _ rfl)
      have hih := ih (p ++ c :: w) (by simp; simp at h1; omega) (by simp; omega)
      have hl1 := rl1_ev p w t acc p.length res (Nat.le_refl _) (c :: w) hw ht (by simp; omega) (by omega) [] (by
        simp only [List.append_nil]
        refine Ev.congr (fun k => ?_) hih
        congr 3
        rw [mk_take]
        simp) (by simp; omega)
      simp only [List.append_nil] at hl1
      have happ : p ++ c :: w ++ t = p ++ (c :: w ++ t) := by simp
      rw [happ] at hl1
      have hj : Ev (fun k => haversackref17_Words.j1 k (mkB (p ++ (c :: w ++ t))) acc (p.length : Int) false) res := by
        refine Ev.step (fun k => ?_) hl1
        simp only [haversackref17_Words.j1]
        rw [if_neg (by simp), if_pos (by omega), if_pos (by omega), hbt.out, if_neg (show ¬ ((c.toNat : Int) = 34) from b_ne (n := 34) (by decide) hc34)]
      refine Ev.step (fun k => ?_) hj
      simp only [haversackref17_Words.l0]
      rw [if_pos (by omega), if_pos (by omega), hbt.out, if_neg (show ¬ ((c.toNat : Int) = 32) from b_ne (n := 32) (by decide) n32), show ((c.toNat : Int) == 9) = false from beq_eq_false_iff_ne.2 (b_ne (n := 9) (by decide) n9)]
  | open_ r acc hq =>
    intro p h1 h2
    simp only [List.length_cons] at h1 h2
    refine open34 r acc _ p h1 (by omega) (rl2_ev acc _ (by omega) r.length r (p ++ [34]) [34] (Nat.le_refl _) (by simp; omega) (by simp; omega) (fun _ => rfl) (fun q c t h => ?_) (fun q t h => ?_))
    · rw [quo_34, hq] at h
      cases h
    · rw [quo_34, hq] at h
      cases h
  | near r q c t acc hq hc =>
    intro p h1 h2
    simp only [List.length_cons] at h1 h2
    refine open34 r acc _ p h1 (by omega) (rl2_ev acc _ (by omega) r.length r (p ++ [34]) [34] (Nat.le_refl _) (by simp; omega) (by simp; omega) (fun _ => rfl) (fun q c t h _ => rfl) (fun q' t' h hb => ?_))
    rw [quo_34, hq] at h
    cases h
    rw [hb c rfl] at hc
    cases hc
  | text r q t acc res hq ht hr ih =>
    intro p h1 h2
    simp only [List.length_cons] at h1 h2
    obtain ⟨q1, q2, _⟩ := quo_len _ r [] q t (Nat.le_refl _) hq
    refine open34 r acc _ p h1 (by omega) (rl2_ev acc _ (by omega) r.length r (p ++ [34]) [34] (Nat.le_refl _) (by simp; omega) (by simp; omega) (fun h => ?_) (fun q' c' t' h hc => ?_) (fun q' t' h hb p' hp => ?_))
    · rw [quo_34, hq] at h
      cases h
    · rw [quo_34, hq] at h
      cases h
      rw [ht c' rfl] at hc
      cases hc
    · rw [quo_34, hq] at h
      cases h
      have hlp := congrArg List.length hp
      simp only [List.length_append, List.length_cons, List.length_nil] at hlp
      exact ih p' (by omega) (by simp; omega)

theorem words_pure (s : ByteArray) (h : s.size ≤ 500) : ∃ r : List ByteArray × Bool, r.1.length ≤ 500 ∧ Ev (fun k => script_Words.f k s) r ∧ Ev (fun k => haversackref17_Words.f k s) r := by
  obtain ⟨res, hw⟩ := Wds.total _ s.data.toList [] (Nat.le_refl _)
  have hl := size_list s
  refine ⟨res, by have := hw.len; simp at this; omega, ?_, ?_⟩
  · have h1 := words_ev hw (by omega) (by simp; omega)
    rw [mkB_of] at h1
    exact h1
  · have h1 := refwords_ev hw [] (by simp; omega) (by simp; omega)
    rw [List.nil_append, mkB_of] at h1
    exact h1
end Go.Proofs.YtkcemdfhhdjdaaaDoor.Pure
