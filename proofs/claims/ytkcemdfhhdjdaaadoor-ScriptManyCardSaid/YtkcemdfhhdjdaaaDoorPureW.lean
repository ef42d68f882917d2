/- A line's words, plainly: what script.Words and the reference's Words come to, and that they are one. -/
import Derived.Test.YtkcemdfhhdjdaaaDoorPureA
import Derived.Test.YtkcemdfhhdjdaaaDoorPx5
namespace Go.Proofs.YtkcemdfhhdjdaaaDoor.Pure
open Go Go.RowKit Go.Lib Go.Proofs.YtkcemdfhhdjdaaaDoor.P Go.Proofs.YtkcemdfhhdjdaaaDoor.Ext Go.Proofs.YtkcemdfhhdjdaaaDoorW.PrintWords
set_option linter.unusedVariables false
set_option linter.unusedSimpArgs false

def nb (l : List UInt8) : List Int := l.map fun c => (c.toNat : Int)
theorem nb_len (l : List UInt8) : (nb l).length = l.length := by simp [nb]
theorem nb_snoc (l : List UInt8) (c : UInt8) : nb l ++ [(c.toNat : Int)] = nb (l ++ [c]) := by simp [nb]
theorem str_nb (l : List UInt8) : strOfNums (nb l) = mkB l := by
  apply bytes_ext
  simp [strOfNums, nb, mkB, List.map_map, Function.comp_def]
/-- What stands in quotes, what stands behind. -/
def quo : List UInt8 → List UInt8 → Option (List UInt8 × List UInt8)
  | [], _ => none
  | c :: r, acc => if c = 34 then some (acc, r) else if c = 92 then (match r with
      | [] => none
      | d :: r' => if d = 34 ∨ d = 92 then quo r' (acc ++ [d]) else if d = 110 then quo r' (acc ++ [10]) else none) else quo r (acc ++ [c])
theorem quo_end (r acc : List UInt8) : quo (34 :: r) acc = some (acc, r) := by rw [quo.eq_def]; rfl
theorem quo_esc_end (acc : List UInt8) : quo [92] acc = none := by rw [quo.eq_def]; rfl
theorem quo_esc {d : UInt8} (r acc : List UInt8) (h : d = 34 ∨ d = 92) : quo (92 :: d :: r) acc = quo r (acc ++ [d]) := by
  rw [quo.eq_def]
  simp only
  rw [if_neg (by decide), if_pos trivial, if_pos h]
theorem quo_n (r acc : List UInt8) : quo (92 :: 110 :: r) acc = quo r (acc ++ [10]) := by rw [quo.eq_def]; rfl
theorem quo_bad {d : UInt8} (r acc : List UInt8) (h : ¬ (d = 34 ∨ d = 92)) (h2 : d ≠ 110) : quo (92 :: d :: r) acc = none := by
  rw [quo.eq_def]
  simp only
  rw [if_neg (by decide), if_pos trivial, if_neg h, if_neg h2]
theorem quo_any {c : UInt8} (r acc : List UInt8) (h : c ≠ 34) (h2 : c ≠ 92) : quo (c :: r) acc = quo r (acc ++ [c]) := by
  rw [quo.eq_def]
  simp only
  rw [if_neg h, if_neg h2]
def qres (l acc : List UInt8) : ByteArray × ByteArray × Bool := match quo l acc with
  | some (q, t) => (mkB q, mkB t, true)
  | none => (⟨#[]⟩, ⟨#[]⟩, false)
theorem quo_len : ∀ (n : Nat) (l acc q t : List UInt8), l.length ≤ n → quo l acc = some (q, t) → t.length < l.length ∧ q.length ≤ acc.length + l.length ∧ ∃ p, l = p ++ t
  | 0, l, acc, q, t, hn, h => by
    have : l = [] := List.length_eq_zero_iff.1 (by omega)
    subst this
    cases h
  | n + 1, [], acc, q, t, hn, h => by cases h
  | n + 1, c :: r, acc, q, t, hn, h => by
    simp only [List.length_cons] at hn
    by_cases h34 : c = 34
    · subst h34
      rw [quo_end] at h
      cases h
      exact ⟨by simp, by simp, [34], rfl⟩
    · by_cases h92 : c = 92
      · subst h92
        cases r with
        | nil => rw [quo_esc_end] at h; cases h
        | cons d r =>
          simp only [List.length_cons] at hn
          by_cases hd : d = 34 ∨ d = 92
          · rw [quo_esc _ _ hd] at h
            obtain ⟨h1, h2, p, h3⟩ := quo_len n r _ _ _ (by omega) h
            simp only [List.length_append, List.length_cons, List.length_nil] at h2 ⊢
            exact ⟨by omega, by omega, 92 :: d :: p, by rw [h3]; rfl⟩
          · by_cases hn' : d = 110
            · subst hn'
              rw [quo_n] at h
              obtain ⟨h1, h2, p, h3⟩ := quo_len n r _ _ _ (by omega) h
              simp only [List.length_append, List.length_cons, List.length_nil] at h2 ⊢
              exact ⟨by omega, by omega, 92 :: 110 :: p, by rw [h3]; rfl⟩
            · rw [quo_bad _ _ hd hn'] at h
              cases h
      · rw [quo_any _ _ h34 h92] at h
        obtain ⟨h1, h2, p, h3⟩ := quo_len n r _ _ _ (by omega) h
        simp only [List.length_append, List.length_cons, List.length_nil] at h2 ⊢
        exact ⟨by omega, by omega, c :: p, by rw [h3]; rfl⟩

/-! ### the program's -/
theorem app_one (p : List UInt8) (c : UInt8) (r : List UInt8) : p ++ c :: r = (p ++ [c]) ++ r := by simp
theorem cast_len (p : List UInt8) (c : UInt8) : ((p.length + 1 : Nat) : Int) = ((p ++ [c]).length : Int) := by simp
theorem quoted_ev : ∀ (n : Nat) (l p acc : List UInt8), l.length ≤ n → p.length + l.length ≤ 1000000 → acc.length + l.length ≤ 1000000 →
    Ev (fun k => script_quoted.l0 k (mkB (p ++ l)) (nb acc) (p.length : Int)) (qres l acc)
  | n, [], p, acc, hn, h1, h2 => by
    refine Ev.step (f := fun _ => some (qres [] acc)) (fun k => ?_) (Ev.now _)
    simp only [script_quoted.l0]
    rw [if_neg (by rw [mkB_size]; simp)]
    rfl
  | 0, c :: r, p, acc, hn, h1, h2 => by simp at hn
  | n + 1, c :: r, p, acc, hn, h1, h2 => by
    simp only [List.length_cons] at hn h1 h2
    have hsz : (mkB (p ++ c :: r)).size = p.length + r.length + 1 := by rw [mkB_size]; simp; omega
    have hb := Lib.hid (bt_app p c r (p.length : Int) rfl)
    have hw : wrap64 ((p.length : Int) + 1) = ((p.length + 1 : Nat) : Int) := w64 (by omega)
    by_cases h34 : c = 34
    · subst h34
      refine Ev.step (f := fun _ => some (qres (34 :: r) acc)) (fun k => ?_) (Ev.now _)
      simp only [script_quoted.l0]
      rw [if_pos (by omega), if_pos (by omega), hb.out, if_pos (by decide), hw, if_pos (by omega), if_pos (by omega), str_nb, Int.toNat_natCast, mk_drop _ _ _ (by rw [hsz]; simp; omega)]
      unfold qres
      rw [quo_end]
      simp
    · have n34 : ¬ ((c.toNat : Int) = 34) := b_ne (n := 34) (by decide) h34
      by_cases h92 : c = 92
      · subst h92
        cases r with
        | nil =>
          refine Ev.step (f := fun _ => some (qres [92] acc)) (fun k => ?_) (Ev.now _)
          simp only [script_quoted.l0]
          rw [if_pos (by omega), if_pos (by omega), hb.out, if_neg n34, if_pos (by decide), hw, if_pos (by rw [hsz]; simp)]
          rfl
        | cons d r =>
          simp only [List.length_cons] at hn h1 h2 hsz
          have hb2 : Hid (bt (mkB (p ++ 92 :: d :: r)) ((p.length + 1 : Nat) : Int) = (d.toNat : Int)) := Lib.hid (by
            rw [app_one]
            exact bt_app _ d r _ (by simp))
          have hw2 : wrap64 (((p.length + 1 : Nat) : Int) + 1) = ((p.length + 2 : Nat) : Int) := w64 (by omega)
          have happ : p ++ 92 :: d :: r = (p ++ [92, d]) ++ r := by simp
          have hcast : ((p.length + 2 : Nat) : Int) = ((p ++ [92, d]).length : Int) := by simp
          by_cases hd : d = 34 ∨ d = 92
          · have ih := quoted_ev n r (p ++ [92, d]) (acc ++ [d]) (by omega) (by simp; omega) (by simp; omega)
            have hq : qres (92 :: d :: r) acc = qres r (acc ++ [d]) := by unfold qres; rw [quo_esc _ _ hd]
            rw [hq]
            refine Ev.step (fun k => ?_) ih
            simp only [script_quoted.l0]
            rw [if_pos (by omega), if_pos (by omega), hb.out, if_neg n34, if_pos (by decide), hw, if_neg (by omega), if_pos (by omega), if_pos (by omega), hb2.out, hw2]
            have hlt : (nb acc).length < 140737488355328 := by rw [nb_len]; omega
            rw [nb_snoc, hcast, happ]
            rcases hd with rfl | rfl
            · rw [if_pos (by decide), if_pos hlt]
            · rw [if_neg (by decide), if_pos (by decide), if_pos hlt]
          · have d34 : ¬ ((d.toNat : Int) = 34) := b_ne (n := 34) (by decide) (fun e => hd (.inl e))
            have d92 : ¬ ((d.toNat : Int) = 92) := b_ne (n := 92) (by decide) (fun e => hd (.inr e))
            by_cases hn' : d = 110
            · subst hn'
              have ih := quoted_ev n r (p ++ [92, 110]) (acc ++ [10]) (by omega) (by simp; omega) (by simp; omega)
              have hq : qres (92 :: 110 :: r) acc = qres r (acc ++ [10]) := by unfold qres; rw [quo_n]
              rw [hq]
              refine Ev.step (fun k => ?_) ih
              simp only [script_quoted.l0]
              rw [if_pos (by omega), if_pos (by omega), hb.out, if_neg n34, if_pos (by decide), hw, if_neg (by omega), if_pos (by omega), if_pos (by omega), hb2.out, hw2, if_neg d34, if_neg d92, if_pos (by decide), if_pos (by rw [nb_len]; omega), hcast, happ]
              rw [show nb acc ++ [(10 : Int)] = nb (acc ++ [10]) from nb_snoc acc 10]
            · have hq : qres (92 :: d :: r) acc = (⟨#[]⟩, ⟨#[]⟩, false) := by unfold qres; rw [quo_bad _ _ hd hn']
              rw [hq]
              refine Ev.step (fun k => ?_) (Ev.now _)
              simp only [script_quoted.l0]
              rw [if_pos (by omega), if_pos (by omega), hb.out, if_neg n34, if_pos (by decide), hw, if_neg (by omega), if_pos (by omega), if_pos (by omega), hb2.out, if_neg d34, if_neg d92, if_neg (show ¬ ((d.toNat : Int) = 110) from b_ne (n := 110) (by decide) hn')]
      · have n92 : ¬ ((c.toNat : Int) = 92) := b_ne (n := 92) (by decide) h92
        have ih := quoted_ev n r (p ++ [c]) (acc ++ [c]) (by omega) (by simp; omega) (by simp; omega)
        have hq : qres (c :: r) acc = qres r (acc ++ [c]) := by unfold qres; rw [quo_any _ _ h34 h92]
        rw [hq]
        refine Ev.step (fun k => ?_) ih
        simp only [script_quoted.l0]
        rw [if_pos (by omega), if_pos (by omega), hb.out, if_neg n34, if_neg n92, if_pos (by rw [nb_len]; omega), hw, nb_snoc, cast_len p c, app_one p c r]

theorem mem_tw (p : UInt8 → Bool) : ∀ (l : List UInt8) (x : UInt8), x ∈ l.takeWhile p → p x = true
  | [], x, h => by cases h
  | c :: r, x, h => by
    rw [List.takeWhile_cons] at h
    split at h
    · rename_i hc
      rcases List.mem_cons.1 h with rfl | h
      · exact hc
      · exact mem_tw p r x h
    · cases h
/-- A line's words, told one behind the other. -/
inductive Wds : List UInt8 → List ByteArray → List ByteArray × Bool → Prop where
  | stop (acc) : Wds [] acc (acc, true)
  | blank (c r acc res) : blk c = true → Wds r acc res → Wds (c :: r) acc res
  | word (l w t acc res) : w ≠ [] → l = w ++ t → (∀ c ∈ w, blk c = false) → w.head? ≠ some 34 → (∀ c, t.head? = some c → blk c = true) → Wds t (acc ++ [mkB w]) res → Wds l acc res
  | open_ (r acc) : quo r [] = none → Wds (34 :: r) acc ([], false)
  | near (r q c t acc) : quo r [] = some (q, c :: t) → blk c = false → Wds (34 :: r) acc ([], false)
  | text (r q t acc res) : quo r [] = some (q, t) → (∀ c, t.head? = some c → blk c = true) → Wds t (acc ++ [mkB (34 :: q)]) res → Wds (34 :: r) acc res
theorem Wds.total : ∀ (n : Nat) (l : List UInt8) (acc : List ByteArray), l.length ≤ n → ∃ res, Wds l acc res
  | n, [], acc, hn => ⟨_, .stop acc⟩
  | 0, c :: r, acc, hn => by simp at hn
  | n + 1, c :: r, acc, hn => by
    simp only [List.length_cons] at hn
    by_cases hb : blk c = true
    · obtain ⟨res, h⟩ := Wds.total n r acc (by omega)
      exact ⟨res, .blank c r acc res hb h⟩
    · have hb' : blk c = false := by simpa using hb
      by_cases h34 : c = 34
      · subst h34
        cases hq : quo r [] with
        | none => exact ⟨_, .open_ r acc hq⟩
        | some qt =>
          obtain ⟨q, t⟩ := qt
          have hl := (quo_len _ r [] q t (Nat.le_refl _) hq).1
          cases t with
          | nil =>
            obtain ⟨res, h⟩ := Wds.total n [] (acc ++ [mkB (34 :: q)]) (by simp)
            exact ⟨res, .text r q [] acc res hq (fun c h => by cases h) h⟩
          | cons d t =>
            by_cases hd : blk d = true
            · obtain ⟨res, h⟩ := Wds.total n (d :: t) (acc ++ [mkB (34 :: q)]) (by omega)
              exact ⟨res, .text r q _ acc res hq (fun c h => by cases h; exact hd) h⟩
            · exact ⟨_, .near r q d t acc hq (by simpa using hd)⟩
      · have hsplit : c :: r = (c :: r).takeWhile (fun x => !blk x) ++ (c :: r).dropWhile (fun x => !blk x) := (List.takeWhile_append_dropWhile).symm
        have ht : (c :: r).takeWhile (fun x => !blk x) = c :: r.takeWhile (fun x => !blk x) := by rw [List.takeWhile_cons, hb']; rfl
        have hd : ((c :: r).dropWhile (fun x => !blk x)).length ≤ n := by
          rw [List.dropWhile_cons, hb']
          simp only [Bool.not_false, if_true]
          have := (List.dropWhile_sublist (fun x => !blk x) (l := r)).length_le
          omega
        obtain ⟨res, h⟩ := Wds.total n ((c :: r).dropWhile (fun x => !blk x)) (acc ++ [mkB ((c :: r).takeWhile (fun x => !blk x))]) hd
        refine ⟨res, .word _ _ _ acc res (by rw [ht]; simp) hsplit (fun x hx => ?_) (by rw [ht]; simpa using h34) (fun x hx => ?_) h⟩
        · have := mem_tw (fun x => !blk x) _ x hx
          simpa using this
        · have := List.head?_dropWhile_not (fun x => !blk x) (c :: r)
          rw [hx] at this
          simpa using this
end Go.Proofs.YtkcemdfhhdjdaaaDoor.Pure
