/- ScriptMany, plainly: just how many lines, just how deep. -/
import Derived.Test.YtkcemdfhhdjdaaaDoorPureQ
import Derived.Test.YtkcemdfhhdjdaaaDoorPx6
import Derived.KernelRfl
namespace Go.Proofs.YtkcemdfhhdjdaaaDoor.Pure
open Go Go.RowKit Go.Lib Go.Proofs.YtkcemdfhhdjdaaaDoor.P Go.Proofs.YtkcemdfhhdjdaaaDoor.B Go.Proofs.YtkcemdfhhdjdaaaDoor.Ext Go.Proofs.YtkcemdfhhdjdaaaDoorW.PrintWords
set_option linter.unusedVariables false
set_option linter.unusedSimpArgs false

theorem known_evM : Ev (fun k => haversacklaw17_known.f k) true := Ev.of (fun k => haversacklaw17_known.mono k) (k := 60) (by kernel_rfl)
/-- A line that begins with no blank, of plain words: read at its words. -/
theorem mk_bytes (l : List UInt8) : (mkB l) = ⟨l.toArray⟩ := rfl
def tMk : List UInt8 := [109, 107, 100, 105, 114, 32, 97]
def tIf : List UInt8 := [105, 102, 32, 101, 120, 105, 115, 116, 115, 32, 97]
def tRe : List UInt8 := [114, 101, 112, 101, 97, 116, 32, 49]
def tEnd : List UInt8 := [101, 110, 100]
def sMk : S41 := ⟨3, mkB [97], ⟨#[]⟩, ⟨#[]⟩, 0, false⟩
def sIf : S41 := ⟨7, mkB [97], ⟨#[]⟩, ⟨#[]⟩, 0, false⟩
def sRe : S41 := ⟨8, ⟨#[]⟩, ⟨#[]⟩, ⟨#[]⟩, 1, false⟩
def sEnd : S41 := ⟨10, ⟨#[]⟩, ⟨#[]⟩, ⟨#[]⟩, 0, false⟩
theorem wd1 (a b : List UInt8) (c : UInt8) (acc : List ByteArray) (res : List ByteArray × Bool) (ha : a ≠ []) (h1 : ∀ x ∈ a, blk x = false) (h2 : a.head? ≠ some 34) (hb : Wds b (acc ++ [mkB a]) res) : Wds (a ++ 32 :: b) acc res :=
  .word _ a (32 :: b) _ _ ha rfl h1 h2 (fun c h => by cases h; rfl) (.blank 32 _ _ _ rfl hb)
theorem wd0 (a : List UInt8) (acc : List ByteArray) (ha : a ≠ []) (h1 : ∀ x ∈ a, blk x = false) (h2 : a.head? ≠ some 34) : Wds a acc (acc ++ [mkB a], true) :=
  .word _ a [] _ _ ha (by simp) h1 h2 (fun c h => by cases h) (.stop _)
theorem wMk : Wds tMk [] ([mkB [109, 107, 100, 105, 114], mkB [97]], true) := wd1 [109, 107, 100, 105, 114] [97] 0 [] _ (by decide) (by decide) (by decide) (wd0 [97] _ (by decide) (by decide) (by decide))
theorem wIf : Wds tIf [] ([mkB [105, 102], mkB [101, 120, 105, 115, 116, 115], mkB [97]], true) := wd1 [105, 102] [101, 120, 105, 115, 116, 115, 32, 97] 0 [] _ (by decide) (by decide) (by decide) (wd1 [101, 120, 105, 115, 116, 115] [97] 0 _ _ (by decide) (by decide) (by decide) (wd0 [97] _ (by decide) (by decide) (by decide)))
theorem wRe : Wds tRe [] ([mkB [114, 101, 112, 101, 97, 116], mkB [49]], true) := wd1 [114, 101, 112, 101, 97, 116] [49] 0 [] _ (by decide) (by decide) (by decide) (wd0 [49] _ (by decide) (by decide) (by decide))
theorem wEnd : Wds tEnd [] ([mkB [101, 110, 100]], true) := wd0 [101, 110, 100] [] (by decide) (by decide) (by decide)
theorem rMk : Ev (fun k => script_read.f k [mkB [109, 107, 100, 105, 114], mkB [97]]) (3, mkB [97], ⟨#[]⟩, ⟨#[]⟩, 0, false, true) := Ev.of (fun k => script_read.mono _ k) (k := 30) (by kernel_rfl)
theorem rIf : Ev (fun k => script_read.f k [mkB [105, 102], mkB [101, 120, 105, 115, 116, 115], mkB [97]]) (7, mkB [97], ⟨#[]⟩, ⟨#[]⟩, 0, false, true) := Ev.of (fun k => script_read.mono _ k) (k := 30) (by kernel_rfl)
theorem rRe : Ev (fun k => script_read.f k [mkB [114, 101, 112, 101, 97, 116], mkB [49]]) (8, ⟨#[]⟩, ⟨#[]⟩, ⟨#[]⟩, 1, false, true) := Ev.of (fun k => script_read.mono _ k) (k := 30) (by kernel_rfl)
theorem rEnd : Ev (fun k => script_read.f k [mkB [101, 110, 100]]) (10, ⟨#[]⟩, ⟨#[]⟩, ⟨#[]⟩, 0, false, true) := Ev.of (fun k => script_read.mono _ k) (k := 30) (by kernel_rfl)
theorem rep_cons {α : Type} (n : Nat) (a : α) : List.replicate (n + 1) a = a :: List.replicate n a := rfl

/-! ### many lines -/
theorem parse_mk : ∀ (n : Nat) (out : List S41) (i : Nat), out.length = i → i ≤ 200 → Ev (fun k => script_Parse.l0 k (toB (List.replicate n tMk)) out [] i) (if i + n ≤ 200 then (out ++ List.replicate n sMk, 0, 0) else ([], 201, 66))
  | 0, out, i, h, hi => by
    rw [if_pos (by omega)]
    refine Ev.congr (f := fun _ => some (out ++ List.replicate 0 sMk, 0, 0)) (fun k => ?_) (Ev.now _)
    simp [toB, script_Parse.l0]
  | n + 1, out, i, h, hi => by
    rw [rep_cons]
    by_cases h200 : i = 200
    · rw [if_neg (by omega)]
      have hb := parse_bad (t := tMk) (c := 109) (ts := toB (List.replicate n tMk)) (out := out) (st := []) (i := i) rfl (by decide) (by decide) wMk rMk (.inr (.inl (by omega)))
      rw [show ((i + 1 : Nat) : Int) = 201 by omega] at hb
      exact hb
    · have ih := parse_mk n (out ++ [sMk]) (i + 1) (by simp [h]) (by omega)
      rw [show i + 1 + n = i + (n + 1) by omega, show out ++ [sMk] ++ List.replicate n sMk = out ++ List.replicate (n + 1) sMk by rw [rep_cons]; simp] at ih
      exact parse_step (t := tMk) (c := 109) rfl (by decide) (by decide) wMk rMk (by omega) rfl ih
/-! ### nested deep -/
def opn (b : Bool) : List UInt8 := if b = true then tRe else tIf
def opS (b : Bool) : S41 := if b = true then sRe else sIf
def opK (b : Bool) : Int := if b = true then 8 else 7
theorem parse_op (b : Bool) (ts : List ByteArray) (out : List S41) (st : List Int) (i : Nat) (res : ParseR) (ho : out.length ≠ 200) (hst : st.length < 8) (h : Ev (fun k => script_Parse.l0 k ts (out ++ [opS b]) (st ++ [opK b]) (i + 1)) res) :
    Ev (fun k => script_Parse.l0 k (mkB (opn b) :: ts) out st i) res := by
  cases b with
  | false => exact parse_step (t := tIf) (c := 105) rfl (by decide) (by decide) wIf rIf ho (by unfold takeP; rw [if_pos (.inl rfl), if_neg (by omega)]; rfl) h
  | true => exact parse_step (t := tRe) (c := 114) rfl (by decide) (by decide) wRe rRe ho (by unfold takeP; rw [if_pos (.inr rfl), if_neg (by omega)]; rfl) h
theorem parse_op_bad (b : Bool) (ts : List ByteArray) (out : List S41) (st : List Int) (i : Nat) (hst : st.length = 8) : Ev (fun k => script_Parse.l0 k (mkB (opn b) :: ts) out st i) ([], ((i + 1 : Nat) : Int), 66) := by
  cases b with
  | false => exact parse_bad (t := tIf) (c := 105) rfl (by decide) (by decide) wIf rIf (.inr (.inr (by unfold takeP; rw [if_pos (.inl rfl), if_pos hst])))
  | true => exact parse_bad (t := tRe) (c := 114) rfl (by decide) (by decide) wRe rRe (.inr (.inr (by unfold takeP; rw [if_pos (.inr rfl), if_pos hst])))
theorem parse_ends : ∀ (n : Nat) (out : List S41) (st : List Int) (i : Nat), st.length = n → out.length + n ≤ 100 → Ev (fun k => script_Parse.l0 k (toB (List.replicate n tEnd)) out st i) (out ++ List.replicate n sEnd, 0, 0)
  | 0, out, st, i, h, hl => by
    have : st = [] := List.length_eq_zero_iff.1 h
    subst this
    refine Ev.congr (f := fun _ => some (out ++ List.replicate 0 sEnd, 0, 0)) (fun k => ?_) (Ev.now _)
    simp [toB, script_Parse.l0]
  | n + 1, out, st, i, h, hl => by
    have hne : st ≠ [] := fun e => by rw [e] at h; cases h
    have ih := parse_ends n (out ++ [sEnd]) st.dropLast (i + 1) (by rw [List.length_dropLast]; omega) (by simp; omega)
    rw [show out ++ [sEnd] ++ List.replicate n sEnd = out ++ List.replicate (n + 1) sEnd by rw [rep_cons]; simp] at ih
    rw [rep_cons]
    exact parse_step (t := tEnd) (c := 101) rfl (by decide) (by decide) wEnd rEnd (by omega) (by unfold takeP; rw [if_neg (by decide), if_neg (by decide), if_pos rfl, if_neg hne]) ih
theorem parse_deep : ∀ (bs : List Bool) (out : List S41) (st : List Int) (i n : Nat), out.length = i → st.length = i → i ≤ 8 → n = i + bs.length → n ≤ 12 →
    ∃ r : ParseR, Ev (fun k => script_Parse.l0 k (toB (bs.map opn ++ List.replicate n tEnd)) out st i) r ∧ (if n ≤ 8 then r.2.2 = 0 ∧ r.1.length = 2 * n else r.2.2 = 66 ∧ r.2.1 = 9)
  | [], out, st, i, n, ho, hs, hi, hn, h12 => by
    simp only [List.length_nil] at hn
    refine ⟨_, parse_ends n out st i (by omega) (by omega), ?_⟩
    rw [if_pos (by omega)]
    refine ⟨rfl, ?_⟩
    simp
    omega
  | b :: bs, out, st, i, n, ho, hs, hi, hn, h12 => by
    simp only [List.length_cons] at hn
    by_cases h8 : i = 8
    · refine ⟨_, parse_op_bad b _ out st i (by omega), ?_⟩
      rw [if_neg (by omega)]
      exact ⟨rfl, show ((i + 1 : Nat) : Int) = 9 by omega⟩
    · obtain ⟨r, h1, h2⟩ := parse_deep bs (out ++ [opS b]) (st ++ [opK b]) (i + 1) n (by simp [ho]) (by simp [hs]) (by omega) (by omega) h12
      exact ⟨r, parse_op b _ out st i r (by omega) (by omega) h1, h2⟩
/-! ### the law -/
theorem lines_rep (n : Nat) (a : List UInt8) : lines (List.replicate (n + 1) a) = lines (List.replicate n a) ++ (a ++ [10]) := by
  rw [List.replicate_succ']
  simp [lines]
theorem lines_len (n : Nat) (a : List UInt8) : (lines (List.replicate n a)).length = n * (a.length + 1) := by
  induction n with
  | zero => simp [lines]
  | succ n ih => rw [lines_rep, List.length_append, ih, List.length_append, Nat.succ_mul]; rfl
theorem many_l2 (a : Int) (bs : List Bool) (d : Nat) (hd : bs.length = d) (h12 : d < 12) : ∀ e j : Nat, j + e = d → Ev (fun k => haversacklaw17_ScriptMany.l2 k (mkB (lines (bs.map opn ++ List.replicate j tEnd))) (d : Int) (j : Int)) true := by
  have hopl : ∀ b, (opn b ++ [10]).length ≤ 12 := fun b => by cases b <;> decide
  have hop10 : ∀ b, ∀ c ∈ opn b, c ≠ 10 := fun b => by cases b <;> decide
  have hlen : ∀ l : List Bool, (lines (l.map opn)).length ≤ 12 * l.length := by
    intro l
    induction l with
    | nil => simp [lines]
    | cons b l ih =>
      have := hopl b
      rw [show lines ((b :: l).map opn) = (opn b ++ [10]) ++ lines (l.map opn) by simp [lines], List.length_append]
      simp only [List.length_cons]
      omega
  have happ : ∀ x y : List (List UInt8), lines (x ++ y) = lines x ++ lines y := fun x y => by simp [lines]
  have hbl := hlen bs
  intro e
  induction e with
  | zero =>
    intro j hj
    have hj' : j = d := by omega
    subst hj'
    obtain ⟨r, h1, h2⟩ := parse_deep bs [] [] 0 j rfl rfl (by omega) (by omega) (by omega)
    have h3 := parse_lines (bs.map opn ++ List.replicate j tEnd) (fun x hx c hc => by
      rcases List.mem_append.1 hx with hx | hx
      · obtain ⟨b, _, rfl⟩ := List.mem_map.1 hx
        exact hop10 b c hc
      · rw [(List.mem_replicate.1 hx).2] at hc
        revert c
        decide) (by rw [happ, List.length_append, lines_len]; simp [tEnd]; omega) h1
    obtain ⟨K, e1⟩ := h3
    refine ⟨K + 1, fun k hk => ?_⟩
    obtain ⟨k, rfl⟩ : ∃ m, k = m + 1 := ⟨k - 1, by omega⟩
    have e1' : script_Parse.f k (mkB (lines (bs.map opn ++ List.replicate j tEnd))) = some r := e1 k (by omega)
    simp only [haversacklaw17_ScriptMany.l2]
    rw [if_neg (by omega), e1', Option.bind_some]
    by_cases h8 : j ≤ 8
    · rw [if_pos h8] at h2
      rw [if_neg (by omega), if_pos h2.1, h2.2, show wrap64 (2 * (j : Int)) = ((2 * j : Nat) : Int) by unfold wrap64; omega]
      simp
    · rw [if_neg h8] at h2
      rw [if_pos (by omega), if_pos h2.1, h2.2]
      rfl
  | succ e ih =>
    intro j hj
    have hih := ih (j + 1) (by omega)
    rw [List.replicate_succ', ← List.append_assoc, happ (bs.map opn ++ List.replicate j tEnd), show lines [tEnd] = [101, 110, 100, 10] from rfl, ← mkB_append] at hih
    refine Ev.step (fun k => ?_) hih
    simp only [haversacklaw17_ScriptMany.l2]
    rw [if_pos (by omega), if_pos (by rw [mkB_size, happ, List.length_append, lines_len]; simp [tEnd]; omega), w64 (by omega)]
    rfl
theorem many_l1 (a : Nat) (ha : a ≤ 255) (d : Nat) (h12 : d < 12) : ∀ e j : Nat, j + e = d → Ev (fun k => haversacklaw17_ScriptMany.l1 k (a : Int) (mkB (lines (((List.range j).map fun i => (i + a) % 2 == 1).map opn))) (d : Int) (j : Int)) true := by
  have hopl : ∀ b, (opn b ++ [10]).length ≤ 12 := fun b => by cases b <;> decide
  have hlen : ∀ l : List Bool, (lines (l.map opn)).length ≤ 12 * l.length := by
    intro l
    induction l with
    | nil => simp [lines]
    | cons b l ih =>
      have := hopl b
      rw [show lines ((b :: l).map opn) = (opn b ++ [10]) ++ lines (l.map opn) by simp [lines], List.length_append]
      simp only [List.length_cons]
      omega
  intro e
  induction e with
  | zero =>
    intro j hj
    have hj' : j = d := by omega
    subst hj'
    have h2 := many_l2 a ((List.range j).map fun i => (i + a) % 2 == 1) j (by simp) h12 j 0 (by omega)
    simp only [List.replicate_zero, List.append_nil] at h2
    refine Ev.step (fun k => ?_) h2
    simp only [haversacklaw17_ScriptMany.l1]
    rw [if_neg (by omega)]
    rfl
  | succ e ih =>
    intro j hj
    have hih := ih (j + 1) (by omega)
    have hb := hlen ((List.range j).map fun i => (i + a) % 2 == 1)
    rw [List.length_map, List.length_range] at hb
    rw [List.range_succ, List.map_append, List.map_append, show ∀ x y : List (List UInt8), lines (x ++ y) = lines x ++ lines y from fun x y => by simp [lines], ← mkB_append] at hih
    have hidx : Int.tmod (wrap64 ((j : Int) + (wrap64 (a : Int)))) 2 = (((j + a) % 2 : Nat) : Int) := by
      rw [show wrap64 (a : Int) = (a : Int) by unfold wrap64; omega, show wrap64 ((j : Int) + (a : Int)) = ((j + a : Nat) : Int) by unfold wrap64; omega]
      rfl
    have hrd : rdOf ByteArray.empty ([(⟨#[105, 102, 32, 101, 120, 105, 115, 116, 115, 32, 97, 10]⟩ : ByteArray), (⟨#[114, 101, 112, 101, 97, 116, 32, 49, 10]⟩ : ByteArray)] : List ByteArray) (((j + a) % 2 : Nat) : Int) = mkB (lines ([(j + a) % 2 == 1].map opn)) := by
      rcases Nat.mod_two_eq_zero_or_one (j + a) with h | h
      · rw [h]; rfl
      · rw [h]; rfl
    have hsz : (mkB (lines ([(j + a) % 2 == 1].map opn))).size ≤ 12 := by
      rcases Nat.mod_two_eq_zero_or_one (j + a) with h | h
      · rw [h]; decide
      · rw [h]; decide
    refine Ev.step (fun k => ?_) hih
    simp only [haversacklaw17_ScriptMany.l1]
    rw [if_pos (by omega), Option.bind_some, hidx, if_pos (by omega), if_pos (by simp; omega), hrd, if_pos (by rw [mkB_size]; omega), w64 (by omega)]
    rfl
theorem many_l0 (a b : Nat) (ha : a ≤ 255) (hb : b ≤ 255) (K : Nat) (hK : 198 ≤ K) (hK2 : K ≤ 202) : ∀ e i : Nat, i + e = K → Ev (fun k => haversacklaw17_ScriptMany.l0 k (a : Int) (b : Int) (K : Int) (mkB (lines (List.replicate i tMk))) (i : Int)) true
  | 0, i, hi => by
    have hi' : i = K := by omega
    subst hi'
    have h3 := parse_lines (List.replicate i tMk) (fun x hx c hc => by
      rw [(List.mem_replicate.1 hx).2] at hc
      revert c
      decide) (by rw [lines_len]; simp [tMk]; omega) (parse_mk i [] 0 rfl (by omega))
    have hj : Ev (fun k => haversacklaw17_ScriptMany.j1 k (a : Int) (b : Int) false) true := by
      have h1 := many_l1 a ha (b % 12) (by omega) (b % 12) 0 (by omega)
      refine Ev.step (fun k => ?_) h1
      simp only [haversacklaw17_ScriptMany.j1]
      rw [if_neg (by simp), show wrap64 (Int.tmod (b : Int) 12) = ((b % 12 : Nat) : Int) by
        rw [show Int.tmod (b : Int) 12 = ((b % 12 : Nat) : Int) from rfl]; unfold wrap64; omega]
      rfl
    obtain ⟨K1, e1⟩ := h3
    obtain ⟨K2, e2⟩ := hj
    refine ⟨K1 + K2 + 1, fun k hk => ?_⟩
    obtain ⟨k, rfl⟩ : ∃ m, k = m + 1 := ⟨k - 1, by omega⟩
    have e1' : script_Parse.f k (mkB (lines (List.replicate i tMk))) = some (if 0 + i ≤ 200 then ([] ++ List.replicate i sMk, 0, 0) else ([], 201, 66)) := e1 k (by omega)
    have e2' : haversacklaw17_ScriptMany.j1 k (a : Int) (b : Int) false = some true := e2 k (by omega)
    simp only [haversacklaw17_ScriptMany.l0]
    rw [if_neg (by omega), e1', Option.bind_some]
    by_cases h2 : i ≤ 200
    · rw [if_pos (show 0 + i ≤ 200 by omega), if_neg (by omega), if_pos (by omega), if_pos rfl]
      rw [show ((([] ++ List.replicate i sMk, 0, 0) : ParseR).1.length : Int) = (i : Int) by simp, show ((i : Int) != (i : Int)) = false by simp]
      exact e2'
    · rw [if_neg (show ¬ (0 + i ≤ 200) by omega), if_pos (by omega), if_pos rfl, if_pos rfl, if_neg (by omega)]
      exact e2'
  | e + 1, i, hi => by
    have ih := many_l0 a b ha hb K hK hK2 e (i + 1) (by omega)
    rw [lines_rep, ← mkB_append] at ih
    refine Ev.step (fun k => ?_) ih
    simp only [haversacklaw17_ScriptMany.l0]
    rw [if_pos (by omega), if_pos (by rw [mkB_size, lines_len]; simp [tMk]; omega), w64 (by omega)]
    rfl
theorem u8_bd {x : Int} (h : (Lit.int .u8 x).wf = true) : 0 ≤ x ∧ x ≤ 255 := by
  simp [Lit.wf, IntKind.min, IntKind.max, IntKind.signed, IntKind.bits] at h
  omega
theorem ScriptMany : haversacklaw17_ScriptMany.Pure := by
  intro a0 a1 w0 w1
  obtain ⟨a, rfl, ha⟩ : ∃ a : Nat, a0 = (a : Int) ∧ a ≤ 255 := by
    have : 0 ≤ a0 ∧ a0 ≤ 255 := u8_bd w0
    exact ⟨a0.toNat, by omega, by omega⟩
  obtain ⟨b, rfl, hb⟩ : ∃ b : Nat, a1 = (b : Int) ∧ b ≤ 255 := by
    have : 0 ≤ a1 ∧ a1 ≤ 255 := u8_bd w1
    exact ⟨a1.toNat, by omega, by omega⟩
  have hK : wrap64 (198 + (wrap64 (Int.tmod (a : Int) 5))) = ((198 + a % 5 : Nat) : Int) := by
    rw [show Int.tmod (a : Int) 5 = ((a % 5 : Nat) : Int) from rfl, show wrap64 ((a % 5 : Nat) : Int) = ((a % 5 : Nat) : Int) by unfold wrap64; omega]
    unfold wrap64
    omega
  have h := many_l0 a b ha hb (198 + a % 5) (by omega) (by omega) (198 + a % 5) 0 (by omega)
  have : Ev (fun k => haversacklaw17_ScriptMany.f k (a : Int) (b : Int)) true := by
    unfold haversacklaw17_ScriptMany.f
    refine Ev.bind known_evM ?_
    refine Ev.congr (fun k => ?_) h
    rw [if_pos rfl, hK]
    rfl
  exact this.rounds
end Go.Proofs.YtkcemdfhhdjdaaaDoor.Pure
