/- Scripts of the laws' lines: the program's Parse and the reference's are one machine over what each line means; the twenty lines of the laws, what each means. -/
import Derived.Test.YtkcemdfhhdjdaaaDoorPureQ
import Derived.Test.YtkcemdfhhdjdaaaDoorPx9
import Derived.KernelRfl
namespace Go.Proofs.YtkcemdfhhdjdaaaDoor.Pure
open Go Go.RowKit Go.Lib Go.Proofs.YtkcemdfhhdjdaaaDoor.P Go.Proofs.YtkcemdfhhdjdaaaDoor.B Go.Proofs.YtkcemdfhhdjdaaaDoor.Ext Go.Proofs.YtkcemdfhhdjdaaaDoorW.PrintWords
set_option linter.unusedVariables false
set_option linter.unusedSimpArgs false

/-- What a line means. -/
inductive Out where
  | skip
  | bad
  | good (kd : Int) (A B T : ByteArray) (n : Int) (no : Bool)
def run : List Out → List S41 → List Int → Nat → ParseR
  | [], out, st, _ => if st = [] then (out, 0, 0) else ([], 0, 66)
  | .skip :: ms, out, st, i => run ms out st (i + 1)
  | .bad :: _, _, _, i => ([], ((i + 1 : Nat) : Int), 66)
  | .good kd A B T n no :: ms, out, st, i => if out.length = 200 then ([], ((i + 1 : Nat) : Int), 66) else match takeP st kd with
      | none => ([], ((i + 1 : Nat) : Int), 66)
      | some st' => run ms (out ++ [⟨kd, A, B, T, n, no⟩]) st' (i + 1)
/-- .. to the program .. -/
def PM (t : List UInt8) : Out → Prop
  | .skip => t.dropWhile blk = [] ∨ ∃ r, t.dropWhile blk = 35 :: r
  | .bad => ∃ c r ws kd A B T n no, t.dropWhile blk = c :: r ∧ c ≠ 35 ∧ t.length ≤ 1000 ∧ Wds (c :: r) [] (ws, true) ∧ Ev (fun k => script_read.f k ws) (kd, A, B, T, n, no, false)
  | .good kd A B T n no => ∃ c r ws, t.dropWhile blk = c :: r ∧ c ≠ 35 ∧ t.length ≤ 1000 ∧ Wds (c :: r) [] (ws, true) ∧ Ev (fun k => script_read.f k ws) (kd, A, B, T, n, no, true)
/-- .. and to the reference. -/
def RM (t : List UInt8) : Out → Prop
  | .skip => ∃ ws, Ev (fun k => haversackref17_Words.f k (mkB t)) (ws, true) ∧ (ws = [] ∨ ∃ w r, ws = mkB (35 :: w) :: r)
  | .bad => ∃ ws c w r kd A B T n no, Ev (fun k => haversackref17_Words.f k (mkB t)) (ws, true) ∧ ws = mkB (c :: w) :: r ∧ c ≠ 35 ∧ Ev (fun k => haversackref17_comment.f k (mkB t)) false ∧ Ev (fun k => haversackref17_line.f k ws) (kd, A, B, T, n, no, false)
  | .good kd A B T n no => ∃ ws c w r, Ev (fun k => haversackref17_Words.f k (mkB t)) (ws, true) ∧ ws = mkB (c :: w) :: r ∧ c ≠ 35 ∧ Ev (fun k => haversackref17_comment.f k (mkB t)) false ∧ Ev (fun k => haversackref17_line.f k ws) (kd, A, B, T, n, no, true)
theorem prog_run : ∀ (ts : List (List UInt8)) (ms : List Out) (out : List S41) (st : List Int) (i : Nat), ts.length = ms.length → (∀ (j : Nat) t m, ts[j]? = some t → ms[j]? = some m → PM t m) → Ev (fun k => script_Parse.l0 k (toB ts) out st i) (run ms out st i)
  | [], [], out, st, i, _, _ => by
    refine Ev.congr (f := fun _ => some (run [] out st i)) (fun k => ?_) (Ev.now _)
    rfl
  | [], _ :: _, _, _, _, h, _ => by cases h
  | _ :: _, [], _, _, _, h, _ => by cases h
  | t :: ts, m :: ms, out, st, i, h, hm => by
    have h0 := hm 0 t m rfl rfl
    have ih := fun out st => prog_run ts ms out st (i + 1) (by simpa using h) (fun j t m h1 h2 => hm (j + 1) t m h1 h2)
    cases m with
    | skip => exact parse_skip h0 (ih out st)
    | bad =>
      obtain ⟨c, r, ws, kd, A, B, T, n, no, h1, h2, h3, h4, h5⟩ := h0
      exact parse_bad h1 h2 h3 h4 h5 (.inl rfl)
    | good kd A B T n no =>
      obtain ⟨c, r, ws, h1, h2, h3, h4, h5⟩ := h0
      unfold run
      by_cases ho : out.length = 200
      · rw [if_pos ho]
        exact parse_bad h1 h2 h3 h4 h5 (.inr (.inl ho))
      · rw [if_neg ho]
        cases htk : takeP st kd with
        | none => exact parse_bad h1 h2 h3 h4 h5 (.inr (.inr htk))
        | some st' => exact parse_step h1 h2 h3 h4 h5 ho htk (ih _ _)
/-! ### the reference's machine -/
def cv (x : Int) : Int := if x = 7 then 0 else if x = 9 then 1 else 2
def Okst (st : List Int) : Prop := st.length ≤ 8 ∧ ∀ x ∈ st, x = 7 ∨ x = 8 ∨ x = 9
theorem okst_take {st st' : List Int} {kd : Int} (h : Okst st) (ht : takeP st kd = some st') : Okst st' := by
  refine ⟨takeP_len h.1 ht, ?_⟩
  have h2 := h.2
  unfold takeP at ht
  split at ht
  · rename_i hk
    split at ht
    · cases ht
    · cases ht
      intro x hx
      rcases List.mem_append.1 hx with hx | hx
      · exact h2 x hx
      · rw [List.mem_singleton.1 hx]
        rcases hk with rfl | rfl
        · exact .inl rfl
        · exact .inr (.inl rfl)
  · split at ht
    · split at ht
      · cases ht
      · cases ht
        intro x hx
        rcases List.mem_append.1 hx with hx | hx
        · exact h2 x (List.dropLast_subset _ hx)
        · rw [List.mem_singleton.1 hx]; exact .inr (.inr rfl)
    · split at ht
      · split at ht
        · cases ht
        · cases ht
          intro x hx
          exact h2 x (List.dropLast_subset _ hx)
      · cases ht
        exact h2
theorem rd_last (st : List Int) (a : Int) (h : st.getLast? = some a) : rd (st.map cv) (wrap64 ((st.length : Int) - 1)) = cv a ∨ 4611686018427387904 ≤ st.length := by
  rcases Nat.lt_or_ge st.length 4611686018427387904 with hl | hl
  · left
    have h0 : 0 < st.length := by
      cases st with
      | nil => cases h
      | cons _ _ => simp
    rw [show wrap64 ((st.length : Int) - 1) = ((st.length - 1 : Nat) : Int) by unfold wrap64; omega]
    unfold rd
    rw [Int.toNat_natCast, List.getD_eq_getElem?_getD, List.getElem?_map]
    rw [List.getLast?_eq_getElem?] at h
    rw [h]
    rfl
  · exact .inr hl
/-- The step of the reference behind a good line. -/
theorem ref_take (k : Nat) (out : List S41) (st : List Int) (all : List ByteArray) (i : Nat) (kd n : Int) (A B T : ByteArray) (no : Bool) (hs : Okst st) (ho : out.length < 200) (hi : i < 1000000) :
    haversackref17_Parse.j2 (k + 2) out (st.map cv) all (i : Int) false kd A B T n no = match takeP st kd with
      | none => some ([], ((i + 1 : Nat) : Int), 66)
      | some st' => haversackref17_Parse.l0 k (out ++ [⟨kd, A, B, T, n, no⟩]) (st'.map cv) all ((i + 1 : Nat) : Int) := by
  have hl : ((st.map cv).length : Int) = (st.length : Int) := by rw [List.length_map]
  have hl' : (st.map cv).length = st.length := List.length_map _
  have h8 := hs.1
  have hw : wrap64 ((i : Int) + 1) = ((i + 1 : Nat) : Int) := w64 (by omega)
  have key : ∀ b : Bool, b = decide (kd = 7 ∨ kd = 8) → haversackref17_Parse.j3 (k + 1) out (st.map cv) all (i : Int) ((st.map cv).length : Int) kd b kd A B T n no = match takeP st kd with
      | none => some ([], ((i + 1 : Nat) : Int), 66)
      | some st' => haversackref17_Parse.l0 k (out ++ [⟨kd, A, B, T, n, no⟩]) (st'.map cv) all ((i + 1 : Nat) : Int) := fun b hb => by
    simp only [haversackref17_Parse.j3]
    unfold takeP
    by_cases h78 : kd = 7 ∨ kd = 8
    · rw [if_pos (by rw [hb]; simpa using h78), if_pos h78, hl, hw]
      by_cases hf : st.length = 8
      · rw [if_pos (by omega), if_pos hf]
      · rw [if_neg (by omega), if_neg hf]
        rcases h78 with rfl | rfl
        · rw [if_pos rfl, if_pos (by omega), if_pos (by omega)]
          simp [cv]
        · rw [if_neg (by decide), if_pos (by omega), if_pos (by omega)]
          simp [cv]
    · rw [if_neg (by rw [hb]; simpa using h78), if_neg h78, hl, hw]
      by_cases h9 : kd = 9
      · rw [if_pos h9, if_pos h9]
        by_cases h0 : st = []
        · rw [if_pos (by rw [h0]; rfl), if_pos (.inl h0)]
        · have hpos := List.length_pos_iff.2 h0
          obtain ⟨a, ha⟩ : ∃ a, st.getLast? = some a := ⟨_, List.getLast?_eq_some_getLast h0⟩
          have hrd : rd (st.map cv) (wrap64 ((st.length : Int) - 1)) = cv a := (rd_last st a ha).resolve_right (by omega)
          have hwl : wrap64 ((st.length : Int) - 1) = ((st.length - 1 : Nat) : Int) := by unfold wrap64; omega
          rw [if_neg (by omega), if_pos (by rw [hwl]; omega), if_pos (by rw [hwl]; omega), hrd]
          by_cases ha7 : a = 7
          · rw [if_pos (by rw [ha7]; rfl), if_pos (by omega), if_neg (by rintro (e | e); exact h0 e; exact e (by rw [ha, ha7])), hwl, Int.toNat_natCast]
            simp only
            congr 1
            refine List.ext_getElem? fun j => ?_
            rw [List.getElem?_set, List.length_map]
            by_cases hj : st.length - 1 = j
            · subst hj
              rw [if_pos rfl, if_pos (by omega)]
              simp [List.getElem?_append, cv]
            · rw [if_neg hj]
              simp only [List.getElem?_map, List.getElem?_append, List.length_dropLast]
              by_cases hj2 : j < st.length - 1
              · rw [if_pos hj2, List.getElem?_dropLast, if_pos hj2]
              · rw [if_neg hj2, List.getElem?_eq_none (by omega), List.getElem?_eq_none (by simp; omega)]
          · have hcv : ¬ (cv a = 0) := by
              unfold cv
              rw [if_neg ha7]
              split <;> decide
            rw [if_neg hcv, if_pos (.inr (by rw [ha]; intro e; exact ha7 (Option.some.inj e)))]
      · rw [if_neg h9, if_neg h9]
        by_cases h10 : kd = 10
        · rw [if_pos h10, if_pos h10]
          by_cases h0 : st = []
          · rw [if_pos (by rw [h0]; rfl), if_pos h0]
          · have hpos := List.length_pos_iff.2 h0
            have hwl : wrap64 ((st.length : Int) - 1) = ((st.length - 1 : Nat) : Int) := by unfold wrap64; omega
            rw [if_neg (by omega), if_pos (by rw [hwl]; omega), if_pos (by rw [hwl]; omega), if_pos (by omega), if_neg h0, hwl, Int.toNat_natCast]
            simp only
            congr 1
            rw [List.dropLast_eq_take, List.map_take]
        · rw [if_neg h10, if_neg h10, if_pos (by omega)]
  simp only [haversackref17_Parse.j2]
  rw [if_neg (by simp)]
  by_cases h7 : kd = 7
  · rw [if_pos h7]
    exact key _ (by rw [h7]; rfl)
  · rw [if_neg h7]
    refine key _ ?_
    by_cases h8' : kd = 8
    · rw [h8']; rfl
    · rw [beq_eq_false_iff_ne.2 h8']
      exact (decide_eq_false (fun e => e.elim h7 h8')).symm
/-- A line's way through the reference's round: its words, and what is said of it. -/
theorem ref_skip {out : List S41} {st : List Int} {all : List (List UInt8)} {i : Nat} {t : List UInt8} {res : ParseR} (ht : all[i]? = some t) (hi : i < 1000000) (h : RM t .skip)
    (hgo : Ev (fun k => haversackref17_Parse.l0 k out st (toB all) ((i + 1 : Nat) : Int)) res) : Ev (fun k => haversackref17_Parse.l0 k out st (toB all) (i : Int)) res := by
  obtain ⟨ws, ⟨K1, h1⟩, hws⟩ := h
  obtain ⟨K2, h2⟩ := hgo
  refine ⟨K1 + K2 + 2, fun k hk => ?_⟩
  obtain ⟨k, rfl⟩ : ∃ m, k = m + 2 := ⟨k - 2, by omega⟩
  have hlen : i < (toB all).length := by
    unfold toB
    rw [List.length_map]
    exact (List.getElem?_eq_some_iff.1 ht).1
  have hrd : rdOf ByteArray.empty (toB all) (i : Int) = mkB t := by
    unfold rdOf toB
    rw [Int.toNat_natCast, List.getD_eq_getElem?_getD, List.getElem?_map, ht]
    rfl
  have e1 : haversackref17_Words.f (k + 1) (mkB t) = some (ws, true) := h1 (k + 1) (by omega)
  have e2 : haversackref17_Parse.l0 k out st (toB all) ((i + 1 : Nat) : Int) = some res := h2 k (by omega)
  have hj : haversackref17_Parse.j1 (k + 1) out st (toB all) (i : Int) ws true true = some res := by
    simp only [haversackref17_Parse.j1]
    rw [if_pos trivial, w64 (by omega)]
    exact e2
  simp only [haversackref17_Parse.l0]
  rw [if_pos (by omega), if_pos (by omega), hrd, e1, Option.bind_some]
  simp only
  rw [if_pos trivial]
  rcases hws with rfl | ⟨w, r, rfl⟩
  · rw [if_pos (by simp)]
    exact hj
  · have hpos : 0 < ((mkB (35 :: w) :: r).length : Int) := by rw [List.length_cons]; omega
    rw [if_neg (by omega), if_pos (by omega), if_pos (by omega)]
    rw [show rdOf ByteArray.empty (mkB (35 :: w) :: r) 0 = mkB (35 :: w) from rfl, if_pos (by rw [mkB_size, List.length_cons]; omega), bt_cons, if_pos (by decide)]
    exact hj
theorem ref_line {out : List S41} {st : List Int} {all : List (List UInt8)} {i : Nat} {t w : List UInt8} {c : UInt8} {r ws : List ByteArray} {kd n : Int} {A B T : ByteArray} {no ok : Bool} {res : ParseR} (ht : all[i]? = some t) (hi : i < 1000000)
    (h1 : Ev (fun k => haversackref17_Words.f k (mkB t)) (ws, true)) (hws : ws = mkB (c :: w) :: r) (hc : c ≠ 35) (h2 : Ev (fun k => haversackref17_comment.f k (mkB t)) false) (h3 : Ev (fun k => haversackref17_line.f k ws) (kd, A, B, T, n, no, ok))
    (hgo : Ev (fun k => haversackref17_Parse.j2 k out st (toB all) (i : Int) (if ok = true then decide ((out.length : Int) ≥ 200) else true) kd A B T n no) res) : Ev (fun k => haversackref17_Parse.l0 k out st (toB all) (i : Int)) res := by
  obtain ⟨K1, h1⟩ := h1
  obtain ⟨K2, h2⟩ := h2
  obtain ⟨K3, h3⟩ := h3
  obtain ⟨K4, h4⟩ := hgo
  refine ⟨K1 + K2 + K3 + K4 + 2, fun k hk => ?_⟩
  obtain ⟨k, rfl⟩ : ∃ m, k = m + 2 := ⟨k - 2, by omega⟩
  have hlen : i < (toB all).length := by
    unfold toB
    rw [List.length_map]
    exact (List.getElem?_eq_some_iff.1 ht).1
  have hrd : rdOf ByteArray.empty (toB all) (i : Int) = mkB t := by
    unfold rdOf toB
    rw [Int.toNat_natCast, List.getD_eq_getElem?_getD, List.getElem?_map, ht]
    rfl
  have e1 : haversackref17_Words.f (k + 1) (mkB t) = some (ws, true) := h1 (k + 1) (by omega)
  have e2 : haversackref17_comment.f (k + 1) (mkB t) = some false := h2 (k + 1) (by omega)
  have e3 : haversackref17_line.f k ws = some (kd, A, B, T, n, no, ok) := h3 k (by omega)
  have e4 : haversackref17_Parse.j2 k out st (toB all) (i : Int) (if ok = true then decide ((out.length : Int) ≥ 200) else true) kd A B T n no = some res := h4 k (by omega)
  have hj : haversackref17_Parse.j1 (k + 1) out st (toB all) (i : Int) ws true false = some res := by
    simp only [haversackref17_Parse.j1]
    rw [if_neg (by simp), if_pos trivial, e3, Option.bind_some]
    simp only
    cases ok with
    | true => rw [if_pos rfl] at e4 ⊢; exact e4
    | false => rw [if_neg (by simp)] at e4 ⊢; exact e4
  simp only [haversackref17_Parse.l0]
  rw [if_pos (by omega), if_pos (by omega), hrd, e1, Option.bind_some]
  simp only
  rw [if_pos trivial]
  subst hws
  have hpos : 0 < ((mkB (c :: w) :: r).length : Int) := by rw [List.length_cons]; omega
  rw [if_neg (by omega), if_pos (by omega), if_pos (by omega)]
  rw [show rdOf ByteArray.empty (mkB (c :: w) :: r) 0 = mkB (c :: w) from rfl, if_pos (by rw [mkB_size, List.length_cons]; omega), bt_cons, if_neg (show ¬ ((c.toNat : Int) = 35) from b_ne (n := 35) (by decide) hc), e2, Option.bind_some]
  exact hj
theorem ref_run (all : List (List UInt8)) (ms : List Out) (hlen : all.length = ms.length) (hall : all.length ≤ 1000) (hm : ∀ (j : Nat) t m, all[j]? = some t → ms[j]? = some m → RM t m) :
    ∀ (d i : Nat) (out : List S41) (st : List Int), i + d = all.length → Okst st → out.length ≤ 200 → Ev (fun k => haversackref17_Parse.l0 k out (st.map cv) (toB all) (i : Int)) (run (ms.drop i) out st i)
  | 0, i, out, st, hi, hs, ho => by
    rw [List.drop_of_length_le (by omega)]
    refine Ev.step (f := fun _ => some (run [] out st i)) (fun k => ?_) (Ev.now _)
    simp only [haversackref17_Parse.l0]
    rw [if_neg (by unfold toB; rw [List.length_map]; omega), List.length_map]
    unfold run
    by_cases h0 : st = []
    · subst h0
      rw [if_neg (by simp), if_pos rfl]
    · rw [if_pos (by have := List.length_pos_iff.2 h0; omega), if_neg h0]
  | d + 1, i, out, st, hi, hs, ho => by
    obtain ⟨t, ht⟩ : ∃ t, all[i]? = some t := ⟨_, List.getElem?_eq_getElem (by omega)⟩
    obtain ⟨m, hmi⟩ : ∃ m, ms[i]? = some m := ⟨_, List.getElem?_eq_getElem (by omega)⟩
    have hdrop : ms.drop i = m :: ms.drop (i + 1) := by
      obtain ⟨h1, h2⟩ := List.getElem?_eq_some_iff.1 hmi
      rw [← h2]
      exact List.drop_eq_getElem_cons h1
    have h0 := hm i t m ht hmi
    rw [hdrop]
    cases m with
    | skip => exact ref_skip ht (by omega) h0 (ref_run all ms hlen hall hm d (i + 1) out st (by omega) hs ho)
    | bad =>
      obtain ⟨ws, c, w, r, kd, A, B, T, n, no, h1, h2, h3, h4, h5⟩ := h0
      refine ref_line ht (by omega) h1 h2 h3 h4 h5 ?_
      refine Ev.step (f := fun _ => some ([], ((i + 1 : Nat) : Int), 66)) (fun k => ?_) (Ev.now _)
      simp only [haversackref17_Parse.j2]
      rw [show (if false = true then decide ((out.length : Int) ≥ 200) else true) = true from rfl, if_pos rfl, w64 (by omega)]
    | good kd A B T n no =>
      obtain ⟨ws, c, w, r, h1, h2, h3, h4, h5⟩ := h0
      refine ref_line ht (by omega) h1 h2 h3 h4 h5 ?_
      unfold run
      by_cases h200 : out.length = 200
      · rw [if_pos h200]
        refine Ev.step (f := fun _ => some ([], ((i + 1 : Nat) : Int), 66)) (fun k => ?_) (Ev.now _)
        simp only [haversackref17_Parse.j2]
        rw [if_pos (by simp; omega), w64 (by omega)]
      · rw [if_neg h200, show (if true = true then decide ((out.length : Int) ≥ 200) else true) = false by simp; omega]
        cases htk : takeP st kd with
        | none =>
          refine ⟨2, fun k hk => ?_⟩
          obtain ⟨k, rfl⟩ : ∃ m, k = m + 2 := ⟨k - 2, by omega⟩
          show haversackref17_Parse.j2 (k + 2) _ _ _ _ _ _ _ _ _ _ _ = _
          rw [ref_take k out st _ i kd n A B T no hs (by omega) (by omega), htk]
        | some st' =>
          obtain ⟨K, h⟩ := ref_run all ms hlen hall hm d (i + 1) (out ++ [⟨kd, A, B, T, n, no⟩]) st' (by omega) (okst_take hs htk) (by simp; omega)
          refine ⟨K + 2, fun k hk => ?_⟩
          obtain ⟨k, rfl⟩ : ∃ m, k = m + 2 := ⟨k - 2, by omega⟩
          show haversackref17_Parse.j2 (k + 2) _ _ _ _ _ _ _ _ _ _ _ = _
          rw [ref_take k out st _ i kd n A B T no hs (by omega) (by omega), htk]
          exact h k (by omega)
/-! ### Split and Lines of the reference -/
def preL (p : List UInt8) : List (List UInt8) → List (List UInt8)
  | [] => [p]
  | y :: ys => (p ++ y) :: ys
theorem preL_nil {l : List (List UInt8)} (h : l ≠ []) : preL [] l = l := by
  cases l with
  | nil => exact absurd rfl h
  | cons y ys => rfl
theorem preL_cons (p : List UInt8) (c x : UInt8) (xs : List UInt8) (h : x ≠ c) : preL p (spl c (x :: xs)) = preL (p ++ [x]) (spl c xs) := by
  rw [spl, if_neg h]
  have := spl_ne c xs
  cases hs : spl c xs with
  | nil => exact absurd hs this
  | cons y ys => simp [preL]
theorem rsplit_ev : ∀ (l q p : List UInt8) (out : List ByteArray), q.length + p.length + l.length ≤ 1000000 → out.length ≤ q.length + p.length → Ev (fun k => haversackref9_Split.l0 k (mkB (q ++ p ++ l)) 10 out (q.length : Int) ((q.length + p.length : Nat) : Int)) (out ++ toB (preL p (spl 10 l)))
  | [], q, p, out, h1, h2 => by
    have hsz : (mkB (q ++ p ++ [])).size = q.length + p.length := by rw [mkB_size]; simp
    refine ⟨2, fun k hk => ?_⟩
    obtain ⟨k, rfl⟩ : ∃ m, k = m + 2 := ⟨k - 2, by omega⟩
    simp only [List.length_nil, Nat.add_zero] at h1
    simp only [haversackref9_Split.l0]
    rw [if_pos (by omega), if_pos (by omega), if_pos (by omega), if_pos (by omega), if_pos (by omega), w64 (by omega), if_neg (by omega), Int.toNat_natCast, Int.toNat_natCast, mk_take]
    simp [spl, preL, toB]
  | c :: l, q, p, out, h1, h2 => by
    simp only [List.length_cons] at h1
    have hsz : (mkB (q ++ p ++ c :: l)).size = q.length + p.length + l.length + 1 := by rw [mkB_size, List.length_append, List.length_append, List.length_cons]; omega
    have hb : Hid (bt (mkB (q ++ p ++ c :: l)) ((q.length + p.length : Nat) : Int) = (c.toNat : Int)) := Lib.hid (bt_app (q ++ p) c l _ (by simp))
    have hw : wrap64 (((q.length + p.length : Nat) : Int) + 1) = ((q.length + p.length + 1 : Nat) : Int) := w64 (by omega)
    by_cases hc : c = 10
    · subst hc
      have ih := rsplit_ev l (q ++ p ++ [10]) [] (out ++ [mkB p]) (by simp; omega) (by simp; omega)
      simp only [List.append_nil, List.length_nil, Nat.add_zero] at ih
      rw [preL_nil (spl_ne 10 l)] at ih
      have h3 : preL p (spl 10 (10 :: l)) = p :: spl 10 l := by rw [spl, if_pos rfl]; simp [preL]
      rw [h3, show out ++ toB (p :: spl 10 l) = out ++ [mkB p] ++ toB (spl 10 l) by simp [toB]]
      have happ : q ++ p ++ 10 :: l = q ++ p ++ [10] ++ l := by simp
      have hln : ((q ++ p ++ [10]).length : Int) = ((q.length + p.length + 1 : Nat) : Int) := by simp; omega
      rw [← happ, hln] at ih
      refine Ev.step (fun k => ?_) ih
      simp only [haversackref9_Split.l0]
      rw [if_pos (by omega), if_neg (by omega), if_pos (by omega), if_pos (by omega), hb.out, if_pos (by decide), if_pos (by omega), if_pos (by omega), if_pos (by omega), hw, Int.toNat_natCast, Int.toNat_natCast, mk_take]
      simp
    · have ih := rsplit_ev l q (p ++ [c]) out (by simp; omega) (by simp; omega)
      rw [← preL_cons p 10 c l hc] at ih
      have happ : q ++ p ++ c :: l = q ++ (p ++ [c]) ++ l := by simp
      rw [← happ, show q.length + (p ++ [c]).length = q.length + p.length + 1 by simp; omega] at ih
      refine Ev.step (fun k => ?_) ih
      simp only [haversackref9_Split.l0]
      rw [if_pos (by omega), if_neg (by omega), if_pos (by omega), if_pos (by omega), hb.out, if_neg (show ¬ ((c.toNat : Int) = 10) from b_ne (n := 10) (by decide) hc), hw]
theorem rlines_ev (l : List (List UInt8)) (h : ∀ a ∈ l, ∀ c ∈ a, c ≠ 10) (hs : (lines l).length ≤ 65536) (hl : l.length ≤ 1000) : Ev (fun k => haversackref9_Lines.f k (mkB (lines l))) (toB l) := by
  have h1 := rsplit_ev (lines l) [] [] [] (by simp; omega) (by simp)
  simp only [List.nil_append, List.length_nil, Nat.add_zero] at h1
  rw [preL_nil (spl_ne _ _), spl_lines l h] at h1
  obtain ⟨K, e⟩ := h1
  refine ⟨K, fun k hk => ?_⟩
  have e' : haversackref9_Split.f k (mkB (lines l)) 10 = some (toB (l ++ [[]])) := e k hk
  show haversackref9_Lines.f k (mkB (lines l)) = some (toB l)
  unfold haversackref9_Lines.f
  have hlen : (toB (l ++ [[]])).length = l.length + 1 := by simp [toB]
  have hw : wrap64 ((((toB (l ++ [[]])).length : Nat) : Int) - 1) = (l.length : Int) := by rw [hlen]; unfold wrap64; omega
  rw [e', Option.bind_some, hw, if_pos (by omega), if_pos (by omega)]
  have hrd : rdOf ByteArray.empty (toB (l ++ [[]])) (l.length : Int) = mkB [] := by
    unfold rdOf toB
    rw [Int.toNat_natCast, List.getD_eq_getElem?_getD, List.getElem?_map, List.getElem?_append_right (Nat.le_refl _)]
    simp
  rw [hrd, if_pos (mkB_toList []), if_pos (by omega), Int.toNat_natCast]
  congr 1
  unfold toB
  rw [List.map_append, List.take_left' (by simp)]
theorem ref_lines (l : List (List UInt8)) (ms : List Out) (hlen : l.length = ms.length) (hl : l.length ≤ 1000) (h : ∀ a ∈ l, ∀ c ∈ a, c ≠ 10) (hs : (lines l).length ≤ 65536) (hm : ∀ (j : Nat) t m, l[j]? = some t → ms[j]? = some m → RM t m) :
    Ev (fun k => haversackref17_Parse.f k (mkB (lines l))) (run ms [] [] 0) := by
  have h1 := ref_run l ms hlen hl hm l.length 0 [] [] (by omega) ⟨by simp, fun x hx => by cases hx⟩ (by simp)
  rw [List.drop_zero] at h1
  have h2 := Ev.bind (rlines_ev l h hs hl) (f := fun k t => haversackref17_Parse.l0 k [] [] t 0) h1
  refine Ev.congr (fun k => ?_) h2
  unfold haversackref17_Parse.f
  rw [if_neg (by rw [mkB_size]; omega)]
theorem prog_lines (l : List (List UInt8)) (ms : List Out) (hlen : l.length = ms.length) (h : ∀ a ∈ l, ∀ c ∈ a, c ≠ 10) (hs : (lines l).length ≤ 65536) (hm : ∀ (j : Nat) t m, l[j]? = some t → ms[j]? = some m → PM t m) :
    Ev (fun k => script_Parse.f k (mkB (lines l))) (run ms [] [] 0) := parse_lines l h hs (prog_run l ms [] [] 0 hlen hm)

/-- A line's words, reckoned. -/
def wdsF : Nat → List UInt8 → List ByteArray → Option (List ByteArray × Bool)
  | 0, _, _ => none
  | _ + 1, [], acc => some (acc, true)
  | n + 1, c :: r, acc => if blk c = true then wdsF n r acc else if c = 34 then (match quo r [] with
      | none => some ([], false)
      | some (q, []) => wdsF n [] (acc ++ [mkB (34 :: q)])
      | some (q, d :: t) => if blk d = true then wdsF n (d :: t) (acc ++ [mkB (34 :: q)]) else some ([], false))
    else wdsF n ((c :: r).dropWhile fun x => !blk x) (acc ++ [mkB ((c :: r).takeWhile fun x => !blk x)])
theorem wdsF_sound : ∀ (n : Nat) (l : List UInt8) (acc : List ByteArray) (res : List ByteArray × Bool), wdsF n l acc = some res → Wds l acc res
  | 0, l, acc, res, h => by cases h
  | n + 1, [], acc, res, h => by
    simp only [wdsF] at h
    cases h
    exact .stop acc
  | n + 1, c :: r, acc, res, h => by
    simp only [wdsF] at h
    split at h
    · rename_i hb
      exact .blank c r acc res hb (wdsF_sound n r acc res h)
    · rename_i hb
      have hb' : blk c = false := by simpa using hb
      split at h
      · rename_i h34
        subst h34
        split at h
        · rename_i hq
          cases h
          exact .open_ r acc hq
        · rename_i q hq
          exact .text r q [] acc res hq (fun c h => by cases h) (wdsF_sound n _ _ res h)
        · rename_i q d t hq
          split at h
          · rename_i hd
            exact .text r q _ acc res hq (fun c h => by cases h; exact hd) (wdsF_sound n _ _ res h)
          · rename_i hd
            cases h
            exact .near r q d t acc hq (by simpa using hd)
      · rename_i h34
        have ht : (c :: r).takeWhile (fun x => !blk x) = c :: r.takeWhile (fun x => !blk x) := by rw [List.takeWhile_cons, hb']; rfl
        refine .word _ _ _ acc res (by rw [ht]; simp) (List.takeWhile_append_dropWhile).symm (fun x hx => ?_) (by rw [ht]; simpa using h34) (fun x hx => ?_) (wdsF_sound n _ _ res h)
        · have := mem_tw (fun x => !blk x) _ x hx
          simpa using this
        · have := List.head?_dropWhile_not (fun x => !blk x) (c :: r)
          rw [hx] at this
          simpa using this
theorem refW {t : List UInt8} {ws : List ByteArray} (h : Wds t [] (ws, true)) (hl : t.length ≤ 1000) : Ev (fun k => haversackref17_Words.f k (mkB t)) (ws, true) := by
  have h1 := refwords_ev h [] (by simp; omega) (by simp; omega)
  rw [List.nil_append] at h1
  exact h1
def t0 : List UInt8 := [99, 111, 112, 121, 32, 97, 32, 98]
def t1 : List UInt8 := [119, 114, 105, 116, 101, 32, 97, 32, 34, 120, 34]
def t2 : List UInt8 := [97, 112, 112, 101, 110, 100, 32, 98, 47, 99, 32, 34, 36, 118, 92, 110, 34]
def t3 : List UInt8 := [109, 107, 100, 105, 114, 32, 100]
def t4 : List UInt8 := [114, 101, 109, 111, 118, 101, 32, 97]
def t5 : List UInt8 := [114, 101, 110, 97, 109, 101, 32, 97, 32, 101]
def t6 : List UInt8 := [115, 101, 116, 32, 118, 32, 34, 49, 34]
def t7 : List UInt8 := [105, 102, 32, 101, 120, 105, 115, 116, 115, 32, 97]
def t8 : List UInt8 := [105, 102, 32, 110, 111, 116, 32, 101, 120, 105, 115, 116, 115, 32, 97]
def t9 : List UInt8 := [114, 101, 112, 101, 97, 116, 32, 50]
def t10 : List UInt8 := [101, 108, 115, 101]
def t11 : List UInt8 := [101, 110, 100]
def t12 : List UInt8 := [102, 97, 105, 108, 32, 34, 110, 111, 34]
def t13 : List UInt8 := []
def t14 : List UInt8 := [35, 32, 120]
def t15 : List UInt8 := [32, 32]
def t16 : List UInt8 := [114, 101, 112, 101, 97, 116, 32, 49, 48, 48, 49]
def t17 : List UInt8 := [99, 111, 112, 121, 32, 97]
def t18 : List UInt8 := [115, 101, 116, 32, 118, 32, 49]
def t19 : List UInt8 := [101, 110, 100, 32, 101, 110, 100]
def m0 : Out := (.good 0 (mkB [97]) (mkB [98]) (⟨#[]⟩) 0 false)
def m1 : Out := (.good 1 (mkB [97]) (⟨#[]⟩) (mkB [120]) 0 false)
def m2 : Out := (.good 2 (mkB [98, 47, 99]) (⟨#[]⟩) (mkB [36, 118, 10]) 0 false)
def m3 : Out := (.good 3 (mkB [100]) (⟨#[]⟩) (⟨#[]⟩) 0 false)
def m4 : Out := (.good 4 (mkB [97]) (⟨#[]⟩) (⟨#[]⟩) 0 false)
def m5 : Out := (.good 5 (mkB [97]) (mkB [101]) (⟨#[]⟩) 0 false)
def m6 : Out := (.good 6 (mkB [118]) (⟨#[]⟩) (mkB [49]) 0 false)
def m7 : Out := (.good 7 (mkB [97]) (⟨#[]⟩) (⟨#[]⟩) 0 false)
def m8 : Out := (.good 7 (mkB [97]) (⟨#[]⟩) (⟨#[]⟩) 0 true)
def m9 : Out := (.good 8 (⟨#[]⟩) (⟨#[]⟩) (⟨#[]⟩) 2 false)
def m10 : Out := (.good 9 (⟨#[]⟩) (⟨#[]⟩) (⟨#[]⟩) 0 false)
def m11 : Out := (.good 10 (⟨#[]⟩) (⟨#[]⟩) (⟨#[]⟩) 0 false)
def m12 : Out := (.good 11 (⟨#[]⟩) (⟨#[]⟩) (mkB [110, 111]) 0 false)
def m13 : Out := .skip
def m14 : Out := .skip
def m15 : Out := .skip
def m16 : Out := .bad
def m17 : Out := .bad
def m18 : Out := .bad
def m19 : Out := .bad
theorem wd_0 : Wds t0 [] ([mkB [99, 111, 112, 121], mkB [97], mkB [98]], true) := wdsF_sound 30 _ _ _ (by kernel_rfl)
theorem pm0 : PM t0 m0 := ⟨99, [111, 112, 121, 32, 97, 32, 98], [mkB [99, 111, 112, 121], mkB [97], mkB [98]], rfl, by decide, by decide, wd_0, Ev.of (fun k => script_read.mono _ k) (k := 40) (by kernel_rfl)⟩
theorem rm0 : RM t0 m0 := ⟨[mkB [99, 111, 112, 121], mkB [97], mkB [98]], 99, [111, 112, 121], _, refW wd_0 (by decide), rfl, by decide, Ev.of (fun k => haversackref17_comment.mono _ k) (k := 40) (by kernel_rfl), Ev.of (fun k => haversackref17_line.mono _ k) (k := 1) (by kernel_rfl)⟩
theorem wd_1 : Wds t1 [] ([mkB [119, 114, 105, 116, 101], mkB [97], mkB [34, 120]], true) := wdsF_sound 30 _ _ _ (by kernel_rfl)
theorem pm1 : PM t1 m1 := ⟨119, [114, 105, 116, 101, 32, 97, 32, 34, 120, 34], [mkB [119, 114, 105, 116, 101], mkB [97], mkB [34, 120]], rfl, by decide, by decide, wd_1, Ev.of (fun k => script_read.mono _ k) (k := 40) (by kernel_rfl)⟩
theorem rm1 : RM t1 m1 := ⟨[mkB [119, 114, 105, 116, 101], mkB [97], mkB [34, 120]], 119, [114, 105, 116, 101], _, refW wd_1 (by decide), rfl, by decide, Ev.of (fun k => haversackref17_comment.mono _ k) (k := 40) (by kernel_rfl), Ev.of (fun k => haversackref17_line.mono _ k) (k := 1) (by kernel_rfl)⟩
theorem wd_2 : Wds t2 [] ([mkB [97, 112, 112, 101, 110, 100], mkB [98, 47, 99], mkB [34, 36, 118, 10]], true) := wdsF_sound 30 _ _ _ (by kernel_rfl)
theorem pm2 : PM t2 m2 := ⟨97, [112, 112, 101, 110, 100, 32, 98, 47, 99, 32, 34, 36, 118, 92, 110, 34], [mkB [97, 112, 112, 101, 110, 100], mkB [98, 47, 99], mkB [34, 36, 118, 10]], rfl, by decide, by decide, wd_2, Ev.of (fun k => script_read.mono _ k) (k := 40) (by kernel_rfl)⟩
theorem rm2 : RM t2 m2 := ⟨[mkB [97, 112, 112, 101, 110, 100], mkB [98, 47, 99], mkB [34, 36, 118, 10]], 97, [112, 112, 101, 110, 100], _, refW wd_2 (by decide), rfl, by decide, Ev.of (fun k => haversackref17_comment.mono _ k) (k := 40) (by kernel_rfl), Ev.of (fun k => haversackref17_line.mono _ k) (k := 1) (by kernel_rfl)⟩
theorem wd_3 : Wds t3 [] ([mkB [109, 107, 100, 105, 114], mkB [100]], true) := wdsF_sound 30 _ _ _ (by kernel_rfl)
theorem pm3 : PM t3 m3 := ⟨109, [107, 100, 105, 114, 32, 100], [mkB [109, 107, 100, 105, 114], mkB [100]], rfl, by decide, by decide, wd_3, Ev.of (fun k => script_read.mono _ k) (k := 40) (by kernel_rfl)⟩
theorem rm3 : RM t3 m3 := ⟨[mkB [109, 107, 100, 105, 114], mkB [100]], 109, [107, 100, 105, 114], _, refW wd_3 (by decide), rfl, by decide, Ev.of (fun k => haversackref17_comment.mono _ k) (k := 40) (by kernel_rfl), Ev.of (fun k => haversackref17_line.mono _ k) (k := 1) (by kernel_rfl)⟩
theorem wd_4 : Wds t4 [] ([mkB [114, 101, 109, 111, 118, 101], mkB [97]], true) := wdsF_sound 30 _ _ _ (by kernel_rfl)
theorem pm4 : PM t4 m4 := ⟨114, [101, 109, 111, 118, 101, 32, 97], [mkB [114, 101, 109, 111, 118, 101], mkB [97]], rfl, by decide, by decide, wd_4, Ev.of (fun k => script_read.mono _ k) (k := 40) (by kernel_rfl)⟩
theorem rm4 : RM t4 m4 := ⟨[mkB [114, 101, 109, 111, 118, 101], mkB [97]], 114, [101, 109, 111, 118, 101], _, refW wd_4 (by decide), rfl, by decide, Ev.of (fun k => haversackref17_comment.mono _ k) (k := 40) (by kernel_rfl), Ev.of (fun k => haversackref17_line.mono _ k) (k := 1) (by kernel_rfl)⟩
theorem wd_5 : Wds t5 [] ([mkB [114, 101, 110, 97, 109, 101], mkB [97], mkB [101]], true) := wdsF_sound 30 _ _ _ (by kernel_rfl)
theorem pm5 : PM t5 m5 := ⟨114, [101, 110, 97, 109, 101, 32, 97, 32, 101], [mkB [114, 101, 110, 97, 109, 101], mkB [97], mkB [101]], rfl, by decide, by decide, wd_5, Ev.of (fun k => script_read.mono _ k) (k := 40) (by kernel_rfl)⟩
theorem rm5 : RM t5 m5 := ⟨[mkB [114, 101, 110, 97, 109, 101], mkB [97], mkB [101]], 114, [101, 110, 97, 109, 101], _, refW wd_5 (by decide), rfl, by decide, Ev.of (fun k => haversackref17_comment.mono _ k) (k := 40) (by kernel_rfl), Ev.of (fun k => haversackref17_line.mono _ k) (k := 1) (by kernel_rfl)⟩
theorem wd_6 : Wds t6 [] ([mkB [115, 101, 116], mkB [118], mkB [34, 49]], true) := wdsF_sound 30 _ _ _ (by kernel_rfl)
theorem pm6 : PM t6 m6 := ⟨115, [101, 116, 32, 118, 32, 34, 49, 34], [mkB [115, 101, 116], mkB [118], mkB [34, 49]], rfl, by decide, by decide, wd_6, Ev.of (fun k => script_read.mono _ k) (k := 40) (by kernel_rfl)⟩
theorem rm6 : RM t6 m6 := ⟨[mkB [115, 101, 116], mkB [118], mkB [34, 49]], 115, [101, 116], _, refW wd_6 (by decide), rfl, by decide, Ev.of (fun k => haversackref17_comment.mono _ k) (k := 40) (by kernel_rfl), Ev.of (fun k => haversackref17_line.mono _ k) (k := 1) (by kernel_rfl)⟩
theorem wd_7 : Wds t7 [] ([mkB [105, 102], mkB [101, 120, 105, 115, 116, 115], mkB [97]], true) := wdsF_sound 30 _ _ _ (by kernel_rfl)
theorem pm7 : PM t7 m7 := ⟨105, [102, 32, 101, 120, 105, 115, 116, 115, 32, 97], [mkB [105, 102], mkB [101, 120, 105, 115, 116, 115], mkB [97]], rfl, by decide, by decide, wd_7, Ev.of (fun k => script_read.mono _ k) (k := 40) (by kernel_rfl)⟩
theorem rm7 : RM t7 m7 := ⟨[mkB [105, 102], mkB [101, 120, 105, 115, 116, 115], mkB [97]], 105, [102], _, refW wd_7 (by decide), rfl, by decide, Ev.of (fun k => haversackref17_comment.mono _ k) (k := 40) (by kernel_rfl), Ev.of (fun k => haversackref17_line.mono _ k) (k := 1) (by kernel_rfl)⟩
theorem wd_8 : Wds t8 [] ([mkB [105, 102], mkB [110, 111, 116], mkB [101, 120, 105, 115, 116, 115], mkB [97]], true) := wdsF_sound 30 _ _ _ (by kernel_rfl)
theorem pm8 : PM t8 m8 := ⟨105, [102, 32, 110, 111, 116, 32, 101, 120, 105, 115, 116, 115, 32, 97], [mkB [105, 102], mkB [110, 111, 116], mkB [101, 120, 105, 115, 116, 115], mkB [97]], rfl, by decide, by decide, wd_8, Ev.of (fun k => script_read.mono _ k) (k := 40) (by kernel_rfl)⟩
theorem rm8 : RM t8 m8 := ⟨[mkB [105, 102], mkB [110, 111, 116], mkB [101, 120, 105, 115, 116, 115], mkB [97]], 105, [102], _, refW wd_8 (by decide), rfl, by decide, Ev.of (fun k => haversackref17_comment.mono _ k) (k := 40) (by kernel_rfl), Ev.of (fun k => haversackref17_line.mono _ k) (k := 1) (by kernel_rfl)⟩
theorem wd_9 : Wds t9 [] ([mkB [114, 101, 112, 101, 97, 116], mkB [50]], true) := wdsF_sound 30 _ _ _ (by kernel_rfl)
theorem pm9 : PM t9 m9 := ⟨114, [101, 112, 101, 97, 116, 32, 50], [mkB [114, 101, 112, 101, 97, 116], mkB [50]], rfl, by decide, by decide, wd_9, Ev.of (fun k => script_read.mono _ k) (k := 40) (by kernel_rfl)⟩
theorem rm9 : RM t9 m9 := ⟨[mkB [114, 101, 112, 101, 97, 116], mkB [50]], 114, [101, 112, 101, 97, 116], _, refW wd_9 (by decide), rfl, by decide, Ev.of (fun k => haversackref17_comment.mono _ k) (k := 40) (by kernel_rfl), Ev.of (fun k => haversackref17_line.mono _ k) (k := 1) (by kernel_rfl)⟩
theorem wd_10 : Wds t10 [] ([mkB [101, 108, 115, 101]], true) := wdsF_sound 30 _ _ _ (by kernel_rfl)
theorem pm10 : PM t10 m10 := ⟨101, [108, 115, 101], [mkB [101, 108, 115, 101]], rfl, by decide, by decide, wd_10, Ev.of (fun k => script_read.mono _ k) (k := 40) (by kernel_rfl)⟩
theorem rm10 : RM t10 m10 := ⟨[mkB [101, 108, 115, 101]], 101, [108, 115, 101], _, refW wd_10 (by decide), rfl, by decide, Ev.of (fun k => haversackref17_comment.mono _ k) (k := 40) (by kernel_rfl), Ev.of (fun k => haversackref17_line.mono _ k) (k := 1) (by kernel_rfl)⟩
theorem wd_11 : Wds t11 [] ([mkB [101, 110, 100]], true) := wdsF_sound 30 _ _ _ (by kernel_rfl)
theorem pm11 : PM t11 m11 := ⟨101, [110, 100], [mkB [101, 110, 100]], rfl, by decide, by decide, wd_11, Ev.of (fun k => script_read.mono _ k) (k := 40) (by kernel_rfl)⟩
theorem rm11 : RM t11 m11 := ⟨[mkB [101, 110, 100]], 101, [110, 100], _, refW wd_11 (by decide), rfl, by decide, Ev.of (fun k => haversackref17_comment.mono _ k) (k := 40) (by kernel_rfl), Ev.of (fun k => haversackref17_line.mono _ k) (k := 1) (by kernel_rfl)⟩
theorem wd_12 : Wds t12 [] ([mkB [102, 97, 105, 108], mkB [34, 110, 111]], true) := wdsF_sound 30 _ _ _ (by kernel_rfl)
theorem pm12 : PM t12 m12 := ⟨102, [97, 105, 108, 32, 34, 110, 111, 34], [mkB [102, 97, 105, 108], mkB [34, 110, 111]], rfl, by decide, by decide, wd_12, Ev.of (fun k => script_read.mono _ k) (k := 40) (by kernel_rfl)⟩
theorem rm12 : RM t12 m12 := ⟨[mkB [102, 97, 105, 108], mkB [34, 110, 111]], 102, [97, 105, 108], _, refW wd_12 (by decide), rfl, by decide, Ev.of (fun k => haversackref17_comment.mono _ k) (k := 40) (by kernel_rfl), Ev.of (fun k => haversackref17_line.mono _ k) (k := 1) (by kernel_rfl)⟩
theorem pm13 : PM t13 m13 := .inl rfl
theorem rm13 : RM t13 m13 := ⟨[], refW (wdsF_sound 30 _ _ _ (by kernel_rfl)) (by decide), .inl rfl⟩
theorem pm14 : PM t14 m14 := .inr ⟨_, rfl⟩
theorem rm14 : RM t14 m14 := ⟨[mkB [35], mkB [120]], refW (wdsF_sound 30 _ _ _ (by kernel_rfl)) (by decide), .inr ⟨[], _, rfl⟩⟩
theorem pm15 : PM t15 m15 := .inl rfl
theorem rm15 : RM t15 m15 := ⟨[], refW (wdsF_sound 30 _ _ _ (by kernel_rfl)) (by decide), .inl rfl⟩
theorem wd_16 : Wds t16 [] ([mkB [114, 101, 112, 101, 97, 116], mkB [49, 48, 48, 49]], true) := wdsF_sound 30 _ _ _ (by kernel_rfl)
theorem pm16 : PM t16 m16 := ⟨114, [101, 112, 101, 97, 116, 32, 49, 48, 48, 49], [mkB [114, 101, 112, 101, 97, 116], mkB [49, 48, 48, 49]], _, _, _, _, _, _, rfl, by decide, by decide, wd_16, Ev.of (r := (8, ⟨#[]⟩, ⟨#[]⟩, ⟨#[]⟩, 1001, false, false)) (fun k => script_read.mono _ k) (k := 40) (by kernel_rfl)⟩
theorem rm16 : RM t16 m16 := ⟨[mkB [114, 101, 112, 101, 97, 116], mkB [49, 48, 48, 49]], 114, [101, 112, 101, 97, 116], _, _, _, _, _, _, _, refW wd_16 (by decide), rfl, by decide, Ev.of (fun k => haversackref17_comment.mono _ k) (k := 40) (by kernel_rfl), Ev.of (r := (8, ⟨#[]⟩, ⟨#[]⟩, ⟨#[]⟩, 1001, false, false)) (fun k => haversackref17_line.mono _ k) (k := 1) (by kernel_rfl)⟩
theorem wd_17 : Wds t17 [] ([mkB [99, 111, 112, 121], mkB [97]], true) := wdsF_sound 30 _ _ _ (by kernel_rfl)
theorem pm17 : PM t17 m17 := ⟨99, [111, 112, 121, 32, 97], [mkB [99, 111, 112, 121], mkB [97]], _, _, _, _, _, _, rfl, by decide, by decide, wd_17, Ev.of (r := (0, ⟨#[]⟩, ⟨#[]⟩, ⟨#[]⟩, 0, false, false)) (fun k => script_read.mono _ k) (k := 40) (by kernel_rfl)⟩
theorem rm17 : RM t17 m17 := ⟨[mkB [99, 111, 112, 121], mkB [97]], 99, [111, 112, 121], _, _, _, _, _, _, _, refW wd_17 (by decide), rfl, by decide, Ev.of (fun k => haversackref17_comment.mono _ k) (k := 40) (by kernel_rfl), Ev.of (r := (0, ⟨#[]⟩, ⟨#[]⟩, ⟨#[]⟩, 0, false, false)) (fun k => haversackref17_line.mono _ k) (k := 1) (by kernel_rfl)⟩
theorem wd_18 : Wds t18 [] ([mkB [115, 101, 116], mkB [118], mkB [49]], true) := wdsF_sound 30 _ _ _ (by kernel_rfl)
theorem pm18 : PM t18 m18 := ⟨115, [101, 116, 32, 118, 32, 49], [mkB [115, 101, 116], mkB [118], mkB [49]], _, _, _, _, _, _, rfl, by decide, by decide, wd_18, Ev.of (r := (6, mkB [118], ⟨#[]⟩, ⟨#[]⟩, 0, false, false)) (fun k => script_read.mono _ k) (k := 40) (by kernel_rfl)⟩
theorem rm18 : RM t18 m18 := ⟨[mkB [115, 101, 116], mkB [118], mkB [49]], 115, [101, 116], _, _, _, _, _, _, _, refW wd_18 (by decide), rfl, by decide, Ev.of (fun k => haversackref17_comment.mono _ k) (k := 40) (by kernel_rfl), Ev.of (r := (0, ⟨#[]⟩, ⟨#[]⟩, ⟨#[]⟩, 0, false, false)) (fun k => haversackref17_line.mono _ k) (k := 1) (by kernel_rfl)⟩
theorem wd_19 : Wds t19 [] ([mkB [101, 110, 100], mkB [101, 110, 100]], true) := wdsF_sound 30 _ _ _ (by kernel_rfl)
theorem pm19 : PM t19 m19 := ⟨101, [110, 100, 32, 101, 110, 100], [mkB [101, 110, 100], mkB [101, 110, 100]], _, _, _, _, _, _, rfl, by decide, by decide, wd_19, Ev.of (r := (10, ⟨#[]⟩, ⟨#[]⟩, ⟨#[]⟩, 0, false, false)) (fun k => script_read.mono _ k) (k := 40) (by kernel_rfl)⟩
theorem rm19 : RM t19 m19 := ⟨[mkB [101, 110, 100], mkB [101, 110, 100]], 101, [110, 100], _, _, _, _, _, _, _, refW wd_19 (by decide), rfl, by decide, Ev.of (fun k => haversackref17_comment.mono _ k) (k := 40) (by kernel_rfl), Ev.of (r := (10, ⟨#[]⟩, ⟨#[]⟩, ⟨#[]⟩, 0, false, false)) (fun k => haversackref17_line.mono _ k) (k := 1) (by kernel_rfl)⟩
def tab : List (List UInt8) := [t0, t1, t2, t3, t4, t5, t6, t7, t8, t9, t10, t11, t12, t13, t14, t15, t16, t17, t18, t19]
def mab : List Out := [m0, m1, m2, m3, m4, m5, m6, m7, m8, m9, m10, m11, m12, m13, m14, m15, m16, m17, m18, m19]
theorem pm_tab (j : Nat) (t : List UInt8) (m : Out) (h1 : tab[j]? = some t) (h2 : mab[j]? = some m) : PM t m ∧ RM t m := by
  match j, h1, h2 with
  | 0, h1, h2 => cases h1; cases h2; exact ⟨pm0, rm0⟩
  | 1, h1, h2 => cases h1; cases h2; exact ⟨pm1, rm1⟩
  | 2, h1, h2 => cases h1; cases h2; exact ⟨pm2, rm2⟩
  | 3, h1, h2 => cases h1; cases h2; exact ⟨pm3, rm3⟩
  | 4, h1, h2 => cases h1; cases h2; exact ⟨pm4, rm4⟩
  | 5, h1, h2 => cases h1; cases h2; exact ⟨pm5, rm5⟩
  | 6, h1, h2 => cases h1; cases h2; exact ⟨pm6, rm6⟩
  | 7, h1, h2 => cases h1; cases h2; exact ⟨pm7, rm7⟩
  | 8, h1, h2 => cases h1; cases h2; exact ⟨pm8, rm8⟩
  | 9, h1, h2 => cases h1; cases h2; exact ⟨pm9, rm9⟩
  | 10, h1, h2 => cases h1; cases h2; exact ⟨pm10, rm10⟩
  | 11, h1, h2 => cases h1; cases h2; exact ⟨pm11, rm11⟩
  | 12, h1, h2 => cases h1; cases h2; exact ⟨pm12, rm12⟩
  | 13, h1, h2 => cases h1; cases h2; exact ⟨pm13, rm13⟩
  | 14, h1, h2 => cases h1; cases h2; exact ⟨pm14, rm14⟩
  | 15, h1, h2 => cases h1; cases h2; exact ⟨pm15, rm15⟩
  | 16, h1, h2 => cases h1; cases h2; exact ⟨pm16, rm16⟩
  | 17, h1, h2 => cases h1; cases h2; exact ⟨pm17, rm17⟩
  | 18, h1, h2 => cases h1; cases h2; exact ⟨pm18, rm18⟩
  | 19, h1, h2 => cases h1; cases h2; exact ⟨pm19, rm19⟩
  | j + 20, h1, h2 => cases h1
end Go.Proofs.YtkcemdfhhdjdaaaDoor.Pure
