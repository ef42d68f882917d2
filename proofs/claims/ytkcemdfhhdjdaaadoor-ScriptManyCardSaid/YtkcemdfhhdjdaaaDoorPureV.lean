/- A line's words: the program's and the reference's are one. -/
import Derived.Test.YtkcemdfhhdjdaaaDoorPureW
namespace Go.Proofs.YtkcemdfhhdjdaaaDoor.Pure
open Go Go.RowKit Go.Lib Go.Proofs.YtkcemdfhhdjdaaaDoor.P Go.Proofs.YtkcemdfhhdjdaaaDoor.Ext Go.Proofs.YtkcemdfhhdjdaaaDoorW.PrintWords
set_option linter.unusedVariables false
set_option linter.unusedSimpArgs false

theorem Wds.len {l : List UInt8} {acc : List ByteArray} {res : List ByteArray × Bool} (h : Wds l acc res) : res.1.length ≤ acc.length + l.length := by
  induction h with
  | stop acc => simp
  | blank c r acc res hb hr ih => simp only [List.length_cons]; omega
  | word l w t acc res hw0 hl hw h34 ht hr ih =>
    subst hl
    have := List.length_pos_iff.2 hw0
    simp only [List.length_append, List.length_cons, List.length_nil] at ih ⊢
    omega
  | open_ r acc hq => simp
  | near r q c t acc hq hc => simp
  | text r q t acc res hq ht hr ih =>
    have := (quo_len _ r [] q t (Nat.le_refl _) hq).1
    simp only [List.length_append, List.length_cons, List.length_nil] at ih ⊢
    omega
theorem mk_one (q : List UInt8) : (⟨#[34]⟩ : ByteArray) ++ mkB q = mkB (34 :: q) := bytes_ext (by simp [mkB])
theorem toList_nil (l : List UInt8) : ((mkB l).toList = ([] : List UInt8)) = (l = []) := by rw [mkB_toList]
theorem firstBlk_word (w t : List UInt8) (hw : ∀ c ∈ w, blk c = false) (ht : ∀ c, t.head? = some c → blk c = true) : firstBlk (w ++ t) = if t = [] then none else some w.length := by
  induction w with
  | nil =>
    cases t with
    | nil => rfl
    | cons c t => rw [List.nil_append, firstBlk_cons, if_pos (ht c rfl), if_neg (by simp)]; rfl
  | cons c w ih =>
    rw [List.cons_append, firstBlk_cons, hw c List.mem_cons_self, if_neg (by simp), ih (fun x hx => hw x (List.mem_cons_of_mem _ hx))]
    split
    · rfl
    · rfl
theorem quoted_f (r : List UInt8) (h : r.length ≤ 999999) : Ev (fun k => script_quoted.f k (mkB (34 :: r))) (qres r []) := quoted_ev r.length r [34] [] (Nat.le_refl _) (by simp; omega) (by simp; omega)
theorem words_ev {l : List UInt8} {acc : List ByteArray} {res : List ByteArray × Bool} (h : Wds l acc res) : l.length ≤ 1000 → acc.length + l.length ≤ 1000000 → Ev (fun k => script_Words.l0 k (mkB l) acc) res := by
  induction h with
  | stop acc =>
    intro h1 h2
    refine Ev.step (f := fun _ => some (acc, true)) (fun k => ?_) (Ev.now _)
    simp only [script_Words.l0]
    rw [if_pos (by rw [toList_nil])]
  | blank c r acc res hb hr ih =>
    intro h1 h2
    simp only [List.length_cons] at h1 h2
    refine Ev.step (fun k => ?_) (ih (by omega) (by omega))
    simp only [script_Words.l0]
    rw [if_neg (by rw [toList_nil]; simp), if_pos (by rw [mkB_size]; simp), bt_cons, blank_f, hb]
    simp only [Option.bind_some, if_true]
    rw [if_pos (by rw [mkB_size]; simp; omega), mk_drop _ _ _ (by rw [mkB_size]; exact Nat.le_refl _)]
    rfl
  | word l w t acc res hw0 hl hw h34 ht hr ih =>
    intro h1 h2
    subst hl
    cases w with
    | nil => exact absurd rfl hw0
    | cons c w =>
      have hlen : (c :: w ++ t).length = w.length + 1 + t.length := by simp; omega
      have hc34 : c ≠ 34 := fun e => h34 (by rw [e]; rfl)
      refine Ev.step (fun k => ?_) (ih (by omega) (by simp; omega))
      simp only [script_Words.l0]
      rw [if_neg (by rw [toList_nil]; simp), if_pos (by rw [mkB_size, hlen]; omega), List.cons_append, bt_cons, blank_f, hw c List.mem_cons_self]
      simp only [Option.bind_some, Bool.false_eq_true, if_false]
      rw [if_neg (show ¬ ((c.toNat : Int) = 34) from b_ne (n := 34) (by decide) hc34)]
      unfold strings_IndexFunc.f
      rw [Option.bind_some, idx_blk, ← List.cons_append, firstBlk_word _ t hw ht]
      by_cases ht0 : t = []
      · subst ht0
        rw [if_pos rfl]
        simp only [List.append_nil]
        rw [if_pos (by omega), if_pos (by omega), if_pos (by omega), if_pos (by omega), mk_drop _ _ _ (by rw [mkB_size]; exact Nat.le_refl _), mk_take, mkB_size]
        simp
      · rw [if_neg ht0]
        simp only
        rw [if_neg (by omega), if_pos (by omega), if_pos (by rw [mkB_size, hlen]; simp; omega), if_pos (by omega), Int.toNat_natCast, mk_drop _ _ _ (by rw [mkB_size]; exact Nat.le_refl _), mk_take]
        simp
  | open_ r acc hq =>
    intro h1 h2
    simp only [List.length_cons] at h1 h2
    have hqe := quoted_f r (by omega)
    rw [show qres r [] = ((⟨#[]⟩, ⟨#[]⟩, false) : ByteArray × ByteArray × Bool) by unfold qres; rw [hq]] at hqe
    refine Ev.step (fun k => ?hA) (Ev.bind (f := ?fA) hqe ?rA)
    case hA =>
      simp only [script_Words.l0]
      rw [if_neg (by rw [toList_nil]; simp), if_pos (by rw [mkB_size, List.length_cons]; omega), bt_cons, blank_f, show blk 34 = false from rfl]
      simp only [Option.bind_some, Bool.false_eq_true, if_false]
      rw [if_pos (by decide)]
    case rA =>
      simp only [Bool.false_eq_true, if_false]
      exact Ev.now _
  | near r q c t acc hq hc =>
    intro h1 h2
    simp only [List.length_cons] at h1 h2
    have hqe := quoted_f r (by omega)
    rw [show qres r [] = (mkB q, mkB (c :: t), true) by unfold qres; rw [hq]] at hqe
    refine Ev.step (fun k => ?hB) (Ev.bind (f := ?fB) hqe ?rB)
    case hB =>
      simp only [script_Words.l0]
      rw [if_neg (by rw [toList_nil]; simp), if_pos (by rw [mkB_size, List.length_cons]; omega), bt_cons, blank_f, show blk 34 = false from rfl]
      simp only [Option.bind_some, Bool.false_eq_true, if_false]
      rw [if_pos (by decide)]
    case rB =>
      refine Ev.congr (f := fun _ => some (([] : List ByteArray), false)) (fun n => ?_) (Ev.now _)
      simp only [if_true]
      rw [mkB_toList]
      simp only [reduceCtorEq, if_false]
      rw [if_pos (by rw [mkB_size, List.length_cons]; omega), bt_cons, blank_f, hc]
      simp only [Option.bind_some, Bool.false_eq_true, if_false]
  | text r q t acc res hq ht hr ih =>
    intro h1 h2
    simp only [List.length_cons] at h1 h2
    have hqe := quoted_f r (by omega)
    rw [show qres r [] = (mkB q, mkB t, true) by unfold qres; rw [hq]] at hqe
    refine Ev.step (fun k => ?hC) (Ev.bind (f := ?fC) hqe ?rC)
    case hC =>
      simp only [script_Words.l0]
      rw [if_neg (by rw [toList_nil]; simp), if_pos (by rw [mkB_size, List.length_cons]; omega), bt_cons, blank_f, show blk 34 = false from rfl]
      simp only [Option.bind_some, Bool.false_eq_true, if_false]
      rw [if_pos (by decide)]
    case rC =>
      obtain ⟨q1, q2, _⟩ := quo_len _ r [] q t (Nat.le_refl _) hq
      simp only [List.length_nil, Nat.zero_add] at q2
      refine Ev.congr (fun n => ?_) (ih (by omega) (by simp; omega))
      simp only [if_true, mk_one]
      rw [mkB_toList]
      cases t with
      | nil => rw [if_pos rfl, if_pos (by rw [mkB_size]; omega), if_pos (by omega)]
      | cons c t =>
        simp only [reduceCtorEq, if_false]
        rw [if_pos (by rw [mkB_size, List.length_cons]; omega), bt_cons, blank_f, ht c rfl]
        simp only [Option.bind_some, if_true]
        rw [if_pos (by rw [mkB_size]; omega), if_pos (by omega)]

/-! ### the reference's -/
theorem rl1_ev (p w t : List UInt8) (acc : List ByteArray) (from_ : Nat) (res : List ByteArray × Bool) (hf : from_ ≤ p.length) : ∀ (v : List UInt8), (∀ c ∈ v, blk c = false) → (∀ c, t.head? = some c → blk c = true) →
    p.length + v.length + t.length ≤ 1000000 → acc.length ≤ 1000000 → ∀ u : List UInt8, Ev (fun k => haversackref17_Words.l0 k (mkB (p ++ u ++ v ++ t)) (acc ++ [(mkB (p ++ u ++ v ++ t)).extract from_ (p ++ u ++ v).length]) ((p ++ u ++ v).length : Int)) res → u.length + p.length + v.length + t.length ≤ 1000000 →
    Ev (fun k => haversackref17_Words.l1 k (mkB (p ++ u ++ v ++ t)) acc ((p ++ u).length : Int) (from_ : Int)) res
  | [], hv, ht, h1, h2, u, hres, h3 => by
    simp only [List.append_nil] at hres ⊢
    refine Ev.step (fun k => ?_) hres
    have hlu : (p ++ u).length = p.length + u.length := List.length_append
    have hsz : (mkB (p ++ u ++ t)).size = p.length + u.length + t.length := by rw [mkB_size, List.length_append, List.length_append]
    simp only [haversackref17_Words.l1]
    cases t with
    | nil =>
      simp only [List.length_nil] at hsz
      rw [if_neg (by omega), if_pos (by omega), if_pos (by omega), if_pos (by omega), if_pos (by omega), Int.toNat_natCast, Int.toNat_natCast]
    | cons c t =>
      simp only [List.length_cons] at hsz
      have hb := Lib.hid (bt_app (p ++ u) c t ((p ++ u).length : Int) rfl)
      rw [if_pos (by omega), if_pos (by omega), hb.out]
      rcases (blk_iff c).1 (ht c rfl) with rfl | rfl
      · rw [if_pos (by decide), if_pos (by omega), if_pos (by omega), if_pos (by omega), if_pos (by omega), Int.toNat_natCast, Int.toNat_natCast]
      · rw [if_neg (by decide), if_pos (by decide), if_pos (by omega), if_pos (by omega), if_pos (by omega), if_pos (by omega), Int.toNat_natCast, Int.toNat_natCast]
  | c :: v, hv, ht, h1, h2, u, hres, h3 => by
    simp only [List.length_cons] at h1 h3
    have happ : p ++ u ++ c :: v ++ t = p ++ (u ++ [c]) ++ v ++ t := by simp
    have hlen : (p ++ u ++ c :: v).length = (p ++ (u ++ [c]) ++ v).length := by simp
    rw [happ, hlen] at hres
    have ih := rl1_ev p w t acc from_ res hf v (fun x hx => hv x (List.mem_cons_of_mem _ hx)) ht (by omega) h2 (u ++ [c]) hres (by simp; omega)
    refine Ev.step (fun k => ?_) ih
    have hlu : (p ++ u).length = p.length + u.length := List.length_append
    have hsz : (mkB (p ++ u ++ c :: v ++ t)).size = p.length + u.length + v.length + 1 + t.length := by rw [mkB_size]; simp; omega
    have hb := Lib.hid (show bt (mkB (p ++ u ++ c :: v ++ t)) ((p ++ u).length : Int) = (c.toNat : Int) by
      rw [List.append_assoc, List.cons_append]
      exact bt_app (p ++ u) c (v ++ t) _ rfl)
    have hc := hv c List.mem_cons_self
    have n32 : c ≠ 32 := fun e => by rw [e] at hc; cases hc
    have n9 : c ≠ 9 := fun e => by rw [e] at hc; cases hc
    have hw : wrap64 (((p ++ u).length : Int) + 1) = ((p ++ (u ++ [c])).length : Int) := by rw [w64 (by omega)]; simp; omega
    simp only [haversackref17_Words.l1]
    rw [if_pos (by omega), if_pos (by omega), hb.out, if_neg (show ¬ ((c.toNat : Int) = 32) from b_ne (n := 32) (by decide) n32), if_neg (show ¬ ((c.toNat : Int) = 9) from b_ne (n := 9) (by decide) n9), hw, happ]
/-- What stands in quotes, at the reference. -/
def rres (l acc : List UInt8) (out : List ByteArray) : List ByteArray × Bool → Prop := fun res => match quo l acc with
  | none => res = ([], false)
  | some (_, c :: _) => blk c = false → res = ([], false)
  | some _ => True
theorem rl2_ev (out : List ByteArray) (res : List ByteArray × Bool) (ho : out.length ≤ 1000000) : ∀ (n : Nat) (l p acc : List UInt8), l.length ≤ n → p.length + l.length ≤ 1000000 → acc.length + l.length ≤ 1000000 →
    (quo l acc = none → res = ([], false)) → (∀ q c t, quo l acc = some (q, c :: t) → blk c = false → res = ([], false)) →
    (∀ q t, quo l acc = some (q, t) → (∀ c, t.head? = some c → blk c = true) → ∀ p', p ++ l = p' ++ t → Ev (fun k => haversackref17_Words.l0 k (mkB (p' ++ t)) (out ++ [mkB q]) (p'.length : Int)) res) →
    Ev (fun k => haversackref17_Words.l2 k (mkB (p ++ l)) out (p.length : Int) (nb acc)) res
  | n, [], p, acc, hn, h1, h2, hno, hnear, hgo => by
    rw [hno rfl]
    refine Ev.step (f := fun _ => some (([] : List ByteArray), false)) (fun k => ?_) (Ev.now _)
    simp only [haversackref17_Words.l2]
    rw [if_pos (by rw [mkB_size]; simp)]
  | 0, c :: r, p, acc, hn, h1, h2, hno, hnear, hgo => by simp at hn
  | n + 1, c :: r, p, acc, hn, h1, h2, hno, hnear, hgo => by
    simp only [List.length_cons] at hn h1 h2
    have hsz : (mkB (p ++ c :: r)).size = p.length + r.length + 1 := by rw [mkB_size, List.length_append, List.length_cons]; omega
    have hb := Lib.hid (bt_app p c r (p.length : Int) rfl)
    have hw : wrap64 ((p.length : Int) + 1) = ((p.length + 1 : Nat) : Int) := w64 (by omega)
    have hacc : (nb acc).length < 140737488355328 := by rw [nb_len]; omega
    by_cases h34 : c = 34
    · subst h34
      have hb2 : ∀ d r', r = d :: r' → Hid (bt (mkB (p ++ 34 :: r)) ((p.length + 1 : Nat) : Int) = (d.toNat : Int)) := fun d r' e => Lib.hid (by
        rw [e, app_one]
        exact bt_app _ d r' _ (by simp))
      cases r with
      | nil =>
        have hg := hgo acc [] (quo_end [] acc) (fun c hc => by cases hc) (p ++ [34]) (by simp)
        simp only [List.append_nil, List.length_append, List.length_cons, List.length_nil] at hg
        refine Ev.step (fun k => ?_) hg
        simp only [haversackref17_Words.l2]
        simp only [List.length_nil] at hsz
        rw [if_neg (by omega), if_pos (by omega), if_pos (by omega), hb.out, if_pos (by decide), hw, if_neg (by omega), if_pos (by omega), str_nb]
      | cons d r =>
        have hbd := hb2 d r rfl
        simp only [List.length_cons] at hsz
        cases hd : blk d with
        | false =>
          rw [hnear acc d r (quo_end _ _) hd]
          have n32 : d ≠ 32 := fun e => by rw [e] at hd; cases hd
          have n9 : d ≠ 9 := fun e => by rw [e] at hd; cases hd
          refine Ev.step (f := fun _ => some (([] : List ByteArray), false)) (fun k => ?_) (Ev.now _)
          simp only [haversackref17_Words.l2]
          rw [if_neg (by omega), if_pos (by omega), if_pos (by omega), hb.out, if_pos (by decide), hw, if_pos (by omega), if_pos (by omega), hbd.out, if_neg (show ¬ ((d.toNat : Int) = 32) from b_ne (n := 32) (by decide) n32), if_neg (show ¬ ((d.toNat : Int) = 9) from b_ne (n := 9) (by decide) n9)]
        | true =>
          have hg := hgo acc (d :: r) (quo_end _ _) (fun c hc => by cases hc; exact hd) (p ++ [34]) (by simp)
          rw [← app_one, ← cast_len] at hg
          refine Ev.step (fun k => ?_) hg
          simp only [haversackref17_Words.l2]
          rw [if_neg (by omega), if_pos (by omega), if_pos (by omega), hb.out, if_pos (by decide), hw, if_pos (by omega), if_pos (by omega), hbd.out, str_nb]
          rcases (blk_iff d).1 hd with rfl | rfl
          · rw [if_pos (by decide), if_pos (by omega)]
          · rw [if_neg (by decide), if_pos (by decide), if_pos (by omega)]
    · have n34 : ¬ ((c.toNat : Int) = 34) := b_ne (n := 34) (by decide) h34
      by_cases h92 : c = 92
      · subst h92
        cases r with
        | nil =>
          rw [hno (quo_esc_end acc)]
          simp only [List.length_nil] at hsz
          refine Ev.step (f := fun _ => some (([] : List ByteArray), false)) (fun k => ?_) (Ev.now _)
          simp only [haversackref17_Words.l2]
          rw [if_neg (by omega), if_pos (by omega), if_pos (by omega), hb.out, if_neg n34, if_pos (by decide), hw, if_pos (by omega)]
        | cons d r =>
          simp only [List.length_cons] at hn h1 h2 hsz
          have hb2 : Hid (bt (mkB (p ++ 92 :: d :: r)) ((p.length + 1 : Nat) : Int) = (d.toNat : Int)) := Lib.hid (by
            rw [app_one]
            exact bt_app _ d r _ (by simp))
          have hw2 : wrap64 (((p.length + 1 : Nat) : Int) + 1) = ((p.length + 2 : Nat) : Int) := w64 (by omega)
          have happ : p ++ 92 :: d :: r = (p ++ [92, d]) ++ r := by simp
          have hcast : ((p.length + 2 : Nat) : Int) = ((p ++ [92, d]).length : Int) := by simp
          have to4 : ∀ (b : Bool), ((bt (mkB (p ++ 92 :: d :: r)) ((p.length + 1 : Nat) : Int)) = 34 → b = true) → (¬ ((d.toNat : Int) = 34) → b = (((d.toNat : Int)) == 92)) →
              Ev (fun k => haversackref17_Words.j4 k (mkB (p ++ 92 :: d :: r)) out ((p.length + 1 : Nat) : Int) (nb acc) (d.toNat : Int) b) res := fun b hbt hbf => by
            by_cases hd : d = 34 ∨ d = 92
            · have hbv : b = true := by
                rcases hd with rfl | rfl
                · exact hbt (by rw [hb2.out]; rfl)
                · exact hbf (by decide)
              subst hbv
              have ih := rl2_ev out res ho n r (p ++ [92, d]) (acc ++ [d]) (by omega) (by simp; omega) (by simp; omega) (fun h => hno (by rw [quo_esc _ _ hd]; exact h)) (fun q c t h => hnear q c t (by rw [quo_esc _ _ hd]; exact h)) (fun q t h hb p' hp => hgo q t (by rw [quo_esc _ _ hd]; exact h) hb p' (by rw [happ]; exact hp))
              refine Ev.step (fun k => ?_) ih
              simp only [haversackref17_Words.j4]
              rw [if_pos trivial, if_pos (by omega), if_pos (by omega), if_pos hacc, hb2.out, hw2, nb_snoc, hcast, happ]
            · have d34 : ¬ ((d.toNat : Int) = 34) := b_ne (n := 34) (by decide) (fun e => hd (.inl e))
              have d92 : ¬ ((d.toNat : Int) = 92) := b_ne (n := 92) (by decide) (fun e => hd (.inr e))
              have hbv : b = false := by rw [hbf d34]; exact beq_eq_false_iff_ne.2 d92
              subst hbv
              by_cases hn' : d = 110
              · subst hn'
                have ih := rl2_ev out res ho n r (p ++ [92, 110]) (acc ++ [10]) (by omega) (by simp; omega) (by simp; omega) (fun h => hno (by rw [quo_n]; exact h)) (fun q c t h => hnear q c t (by rw [quo_n]; exact h)) (fun q t h hb p' hp => hgo q t (by rw [quo_n]; exact h) hb p' (by rw [happ]; exact hp))
                refine Ev.step (fun k => ?_) ih
                simp only [haversackref17_Words.j4]
                rw [if_neg (by simp), if_pos (by decide), if_pos hacc, hw2, hcast, happ, show nb acc ++ [(10 : Int)] = nb (acc ++ [10]) from nb_snoc acc 10]
              · rw [hno (quo_bad _ _ hd hn')]
                refine Ev.step (f := fun _ => some (([] : List ByteArray), false)) (fun k => ?_) (Ev.now _)
                simp only [haversackref17_Words.j4]
                rw [if_neg (by simp), if_neg (show ¬ ((d.toNat : Int) = 110) from b_ne (n := 110) (by decide) hn')]
          by_cases hd34 : d = 34
          · have ih := to4 ((d.toNat : Int) == 34) (fun _ => by rw [hd34]; rfl) (fun h => absurd (by rw [hd34]; rfl) h)
            refine Ev.step (fun k => ?_) ih
            simp only [haversackref17_Words.l2]
            rw [if_neg (by omega), if_pos (by omega), if_pos (by omega), hb.out, if_neg n34, if_pos (by decide), hw, if_neg (by omega), if_pos (by omega), if_pos (by omega), hb2.out, if_pos (by rw [hd34]; rfl)]
          · have d34 : ¬ ((d.toNat : Int) = 34) := b_ne (n := 34) (by decide) hd34
            have ih := to4 ((d.toNat : Int) == 92) (fun h => absurd (hb2.out ▸ h) d34) (fun _ => rfl)
            refine Ev.step (fun k => ?_) ih
            simp only [haversackref17_Words.l2]
            rw [if_neg (by omega), if_pos (by omega), if_pos (by omega), hb.out, if_neg n34, if_pos (by decide), hw, if_neg (by omega), if_pos (by omega), if_pos (by omega), hb2.out, if_neg d34]
      · have n92 : ¬ ((c.toNat : Int) = 92) := b_ne (n := 92) (by decide) h92
        have ih := rl2_ev out res ho n r (p ++ [c]) (acc ++ [c]) (by omega) (by simp; omega) (by simp; omega) (fun h => hno (by rw [quo_any _ _ h34 h92]; exact h)) (fun q c' t h => hnear q c' t (by rw [quo_any _ _ h34 h92]; exact h)) (fun q t h hb p' hp => hgo q t (by rw [quo_any _ _ h34 h92]; exact h) hb p' (by rw [app_one]; exact hp))
        refine Ev.step (fun k => ?_) ih
        simp only [haversackref17_Words.l2]
        rw [if_neg (by omega), if_pos (by omega), if_pos (by omega), hb.out, if_neg n34, if_neg n92, if_pos hacc, hw, nb_snoc, cast_len p c, app_one p c r]
theorem quo_pre : ∀ (n : Nat) (l a acc : List UInt8), l.length ≤ n → quo l (a ++ acc) = (quo l acc).map fun x => (a ++ x.1, x.2)
  | n, [], a, acc, hn => rfl
  | 0, c :: r, a, acc, hn => by simp at hn
  | n + 1, c :: r, a, acc, hn => by
    simp only [List.length_cons] at hn
    by_cases h34 : c = 34
    · subst h34
      rw [quo_end, quo_end]
      rfl
    · by_cases h92 : c = 92
      · subst h92
        cases r with
        | nil => rw [quo_esc_end, quo_esc_end]; rfl
        | cons d r =>
          simp only [List.length_cons] at hn
          by_cases hd : d = 34 ∨ d = 92
          · rw [quo_esc _ _ hd, quo_esc _ _ hd, List.append_assoc]
            exact quo_pre n r a _ (by omega)
          · by_cases hn' : d = 110
            · subst hn'
              rw [quo_n, quo_n, List.append_assoc]
              exact quo_pre n r a _ (by omega)
            · rw [quo_bad _ _ hd hn', quo_bad _ _ hd hn']
              rfl
      · rw [quo_any _ _ h34 h92, quo_any _ _ h34 h92, List.append_assoc]
        exact quo_pre n r a _ (by omega)
theorem quo_34 (r : List UInt8) : quo r [34] = (quo r []).map fun x => (34 :: x.1, x.2) := quo_pre r.length r [34] [] (Nat.le_refl _)
theorem open34 (r : List UInt8) (acc : List ByteArray) (res : List ByteArray × Bool) (p : List UInt8) (h1 : p.length + (r.length + 1) ≤ 1000) (h2 : acc.length ≤ 1000000)
    (h : Ev (fun k => haversackref17_Words.l2 k (mkB (p ++ [34] ++ r)) acc ((p ++ [34]).length : Int) (nb [34])) res) : Ev (fun k => haversackref17_Words.l0 k (mkB (p ++ 34 :: r)) acc (p.length : Int)) res := by
  rw [← app_one, ← cast_len] at h
  have hsz : (mkB (p ++ 34 :: r)).size = p.length + r.length + 1 := by rw [mkB_size, List.length_append, List.length_cons]; omega
  have hbt := Lib.hid (bt_app p 34 r (p.length : Int) rfl)
  have hj : Ev (fun k => haversackref17_Words.j1 k (mkB (p ++ 34 :: r)) acc (p.length : Int) false) res := by
    refine Ev.step (fun k => ?_) h
    simp only [haversackref17_Words.j1]
    rw [if_neg (by simp), if_pos (by omega), if_pos (by omega), hbt.out, if_pos (by decide), w64 (by omega)]
    rfl
  refine Ev.step (fun k => ?_) hj
  simp only [haversackref17_Words.l0]
  rw [if_pos (by omega), if_pos (by omega), hbt.out, if_neg (by decide)]
  rfl
theorem refwords_ev {l : List UInt8} {acc : List ByteArray} {res : List ByteArray × Bool} (h : Wds l acc res) : ∀ p : List UInt8, p.length + l.length ≤ 1000 → acc.length + l.length ≤ 1000000 → Ev (fun k => haversackref17_Words.l0 k (mkB (p ++ l)) acc (p.length : Int)) res := by
  induction h with
  | stop acc =>
    intro p h1 h2
    refine Ev.step (f := fun _ => some (acc, true)) (fun k => ?_) (Ev.now _)
    simp only [haversackref17_Words.l0]
    rw [if_neg (by rw [mkB_size]; simp)]
  | blank c r acc res hb hr ih =>
    intro p h1 h2
    simp only [List.length_cons] at h1 h2
    have hsz : (mkB (p ++ c :: r)).size = p.length + r.length + 1 := by rw [mkB_size, List.length_append, List.length_cons]; omega
    have hbt := Lib.hid (bt_app p c r (p.length : Int) rfl)
    have hih := ih (p ++ [c]) (by simp; omega) (by omega)
    rw [← app_one, ← cast_len] at hih
    have hj : Ev (fun k => haversackref17_Words.j1 k (mkB (p ++ c :: r)) acc (p.length : Int) true) res := by
      refine Ev.step (fun k => ?_) hih
      simp only [haversackref17_Words.j1]
      rw [if_pos trivial, w64 (by omega)]
    refine Ev.step (fun k => ?_) hj
    simp only [haversackref17_Words.l0]
    rw [if_pos (by omega), if_pos (by omega), hbt.out]
    rcases (blk_iff c).1 hb with rfl | rfl
    · rw [if_pos (by decide)]
    · rw [if_neg (by decide)]
      rfl
  | word l w t acc res hw0 hl hw h34 ht hr ih =>
    intro p h1 h2
    subst hl
    cases w with
    | nil => exact absurd rfl hw0
    | cons c w =>
      have hlen : (c :: w ++ t).length = w.length + 1 + t.length := by simp; omega
      have hc34 : c ≠ 34 := fun e => h34 (by rw [e]; rfl)
      have hc := hw c List.mem_cons_self
      have n32 : c ≠ 32 := fun e => by rw [e] at hc; cases hc
      have n9 : c ≠ 9 := fun e => by rw [e] at hc; cases hc
      have hsz : (mkB (p ++ (c :: w ++ t))).size = p.length + w.length + 1 + t.length := by rw [mkB_size, List.length_append, hlen]; omega
      have hbt : Hid (bt (mkB (p ++ (c :: w ++ t))) (p.length : Int) = (c.toNat : Int)) := Lib.hid (bt_app p c (w ++ t) _ rfl)
      have hih := ih (p ++ c :: w) (by simp; simp at h1; omega) (by simp; omega)
      have hl1 := rl1_ev p w t acc p.length res (Nat.le_refl _) (c :: w) hw ht (by simp; omega) (by omega) [] (by
        simp only [List.append_nil]
        refine Ev.congr (fun k => ?_) hih
        congr 3
        rw [mk_take]
        simp) (by simp; omega)
      simp only [List.append_nil] at hl1
      have happ : p ++ c :: w ++ t = p ++ (c :: w ++ t) := by simp
      rw [happ] at hl1
      have hj : Ev (fun k => haversackref17_Words.j1 k (mkB (p ++ (c :: w ++ t))) acc (p.length : Int) false) res := by
        refine Ev.step (fun k => ?_) hl1
        simp only [haversackref17_Words.j1]
        rw [if_neg (by simp), if_pos (by omega), if_pos (by omega), hbt.out, if_neg (show ¬ ((c.toNat : Int) = 34) from b_ne (n := 34) (by decide) hc34)]
      refine Ev.step (fun k => ?_) hj
      simp only [haversackref17_Words.l0]
      rw [if_pos (by omega), if_pos (by omega), hbt.out, if_neg (show ¬ ((c.toNat : Int) = 32) from b_ne (n := 32) (by decide) n32), show ((c.toNat : Int) == 9) = false from beq_eq_false_iff_ne.2 (b_ne (n := 9) (by decide) n9)]
  | open_ r acc hq =>
    intro p h1 h2
    simp only [List.length_cons] at h1 h2
    refine open34 r acc _ p h1 (by omega) (rl2_ev acc _ (by omega) r.length r (p ++ [34]) [34] (Nat.le_refl _) (by simp; omega) (by simp; omega) (fun _ => rfl) (fun q c t h => ?_) (fun q t h => ?_))
    · rw [quo_34, hq] at h
      cases h
    · rw [quo_34, hq] at h
      cases h
  | near r q c t acc hq hc =>
    intro p h1 h2
    simp only [List.length_cons] at h1 h2
    refine open34 r acc _ p h1 (by omega) (rl2_ev acc _ (by omega) r.length r (p ++ [34]) [34] (Nat.le_refl _) (by simp; omega) (by simp; omega) (fun _ => rfl) (fun q c t h _ => rfl) (fun q' t' h hb => ?_))
    rw [quo_34, hq] at h
    cases h
    rw [hb c rfl] at hc
    cases hc
  | text r q t acc res hq ht hr ih =>
    intro p h1 h2
    simp only [List.length_cons] at h1 h2
    obtain ⟨q1, q2, _⟩ := quo_len _ r [] q t (Nat.le_refl _) hq
    refine open34 r acc _ p h1 (by omega) (rl2_ev acc _ (by omega) r.length r (p ++ [34]) [34] (Nat.le_refl _) (by simp; omega) (by simp; omega) (fun h => ?_) (fun q' c' t' h hc => ?_) (fun q' t' h hb p' hp => ?_))
    · rw [quo_34, hq] at h
      cases h
    · rw [quo_34, hq] at h
      cases h
      rw [ht c' rfl] at hc
      cases hc
    · rw [quo_34, hq] at h
      cases h
      have hlp := congrArg List.length hp
      simp only [List.length_append, List.length_cons, List.length_nil] at hlp
      exact ih p' (by omega) (by simp; omega)

theorem words_pure (s : ByteArray) (h : s.size ≤ 500) : ∃ r : List ByteArray × Bool, r.1.length ≤ 500 ∧ Ev (fun k => script_Words.f k s) r ∧ Ev (fun k => haversackref17_Words.f k s) r := by
  obtain ⟨res, hw⟩ := Wds.total _ s.data.toList [] (Nat.le_refl _)
  have hl := size_list s
  refine ⟨res, by have := hw.len; simp at this; omega, ?_, ?_⟩
  · have h1 := words_ev hw (by omega) (by simp; omega)
    rw [mkB_of] at h1
    exact h1
  · have h1 := refwords_ev hw [] (by simp; omega) (by simp; omega)
    rw [List.nil_append, mkB_of] at h1
    exact h1
end Go.Proofs.YtkcemdfhhdjdaaaDoor.Pure
