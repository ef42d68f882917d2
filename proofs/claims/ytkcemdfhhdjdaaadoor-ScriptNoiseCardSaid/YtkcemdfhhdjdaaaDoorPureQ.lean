/- Parse, Text and their parts, plainly: cuts at LF, a written text in quotes. -/
import Derived.Test.YtkcemdfhhdjdaaaDoorPureA
import Derived.Test.YtkcemdfhhdjdaaaDoorParse
import Derived.Test.YtkcemdfhhdjdaaaDoorText
import Derived.KernelRfl
namespace Go.Proofs.YtkcemdfhhdjdaaaDoor.Pure
open Go Go.RowKit Go.Lib Go.Proofs.YtkcemdfhhdjdaaaDoor.P Go.Proofs.YtkcemdfhhdjdaaaDoor.B Go.Proofs.YtkcemdfhhdjdaaaDoor.Ext Go.Proofs.YtkcemdfhhdjdaaaDoorW.PrintWords
set_option linter.unusedVariables false
set_option linter.unusedSimpArgs false

/-! ### a text, cut at each c -/
def spl (c : UInt8) : List UInt8 → List (List UInt8)
  | [] => [[]]
  | x :: xs => if x = c then [] :: spl c xs else match spl c xs with
    | [] => [[x]]
    | y :: ys => (x :: y) :: ys
theorem spl_ne (c : UInt8) : ∀ l, spl c l ≠ []
  | [] => by simp [spl]
  | x :: xs => by
    unfold spl
    split
    · simp
    · split <;> simp
theorem spl_miss (c : UInt8) : ∀ l : List UInt8, Lib.indexByte l c = -1 → spl c l = [l]
  | [], _ => rfl
  | x :: xs, h => by
    unfold Lib.indexByte at h
    split at h
    · cases h
    · rename_i hx
      split at h
      · rename_i h1
        have := spl_miss c xs (beq_iff_eq.1 h1)
        rw [spl, if_neg (fun e => hx (by rw [e]; simp)), this]
      · rename_i h1
        have := Lib.indexByte_ge xs c
        simp at h1
        omega
theorem spl_hit (c : UInt8) : ∀ (l : List UInt8) (i : Nat), Lib.indexByte l c = i → spl c l = l.take i :: spl c (l.drop (i + 1)) ∧ l.count c = (l.drop (i + 1)).count c + 1 ∧ i < l.length
  | [], i, h => by unfold Lib.indexByte at h; omega
  | x :: xs, i, h => by
    unfold Lib.indexByte at h
    split at h
    · rename_i hx
      have hx' : x = c := beq_iff_eq.1 hx
      have : i = 0 := by omega
      subst this
      subst hx'
      simp [spl]
    · rename_i hx
      have hne : ¬ x = c := fun e => hx (by rw [e]; simp)
      split at h
      · omega
      · obtain ⟨j, hj⟩ : ∃ j : Nat, Lib.indexByte xs c = j := ⟨(Lib.indexByte xs c).toNat, by
          have := Lib.indexByte_ge xs c
          rename_i h1
          simp at h1
          omega⟩
        have hi : i = j + 1 := by omega
        subst hi
        obtain ⟨h2, h3, h4⟩ := spl_hit c xs j hj
        refine ⟨?_, ?_, by simp; omega⟩
        · rw [spl, if_neg hne, h2]
          rfl
        · rw [List.count_cons, h3]
          simp [hne]
theorem splitK_spl (c : UInt8) : ∀ (k : Nat) (l : List UInt8), l.count c ≤ k → Lib.splitK [c] 0 k l = spl c l
  | k, l, h => by
    rcases Int.lt_or_le (Lib.indexByte l c) 0 with h0 | h0
    · have hm : Lib.indexByte l c = -1 := by have := Lib.indexByte_ge l c; omega
      rw [spl_miss c l hm]
      cases k with
      | zero => rfl
      | succ k =>
        unfold Lib.splitK
        rw [Lib.index_one, if_pos (by rw [hm]; rfl)]
    · obtain ⟨i, hi⟩ : ∃ i : Nat, Lib.indexByte l c = i := ⟨(Lib.indexByte l c).toNat, by omega⟩
      obtain ⟨h1, h2, h3⟩ := spl_hit c l i hi
      cases k with
      | zero => omega
      | succ k =>
        unfold Lib.splitK
        rw [Lib.index_one, hi, if_neg (fun e => by have := beq_iff_eq.1 e; omega), h1]
        have := splitK_spl c k (l.drop (i + 1)) (by omega)
        simpa using this
theorem splitB_spl (c : UInt8) (k : Nat) (s : ByteArray) (h : s.data.toList.count c ≤ k) : Lib.splitB ⟨#[c]⟩ 0 k s = toB (spl c s.data.toList) := by
  rw [← toB_of (Lib.splitB ⟨#[c]⟩ 0 k s), Lib.splitB_data]
  congr 1
  exact splitK_spl c k s.data.toList h
theorem split_pure (l : List UInt8) (h : l.length < 4294967281) : strings_Split.f (mkB l) ⟨#[10]⟩ = some (toB (spl 10 l)) := by
  unfold strings_Split.f
  rw [if_pos ⟨h, rfl⟩]
  congr 1
  refine splitB_spl 10 _ (mkB l) ?_
  have : Lib.countB (mkB l) ⟨#[10]⟩ = l.count 10 := by
    rw [Lib.countB]
    exact Lib.count_one _ _
  rw [this]
  exact Nat.le_refl _
theorem spl_line (a r : List UInt8) (h : ∀ c ∈ a, c ≠ 10) : spl 10 (a ++ 10 :: r) = a :: spl 10 r := by
  induction a with
  | nil => rw [List.nil_append, spl, if_pos rfl]
  | cons c a ih => rw [List.cons_append, spl, if_neg (h c List.mem_cons_self), ih (fun x hx => h x (List.mem_cons_of_mem _ hx))]
/-- Lines, each with its LF. -/
def lines (l : List (List UInt8)) : List UInt8 := l.flatMap fun a => a ++ [10]
theorem spl_lines (l : List (List UInt8)) (h : ∀ a ∈ l, ∀ c ∈ a, c ≠ 10) : spl 10 (lines l) = l ++ [[]] := by
  induction l with
  | nil => rfl
  | cons a l ih =>
    have : lines (a :: l) = a ++ 10 :: lines l := by simp [lines]
    rw [this, spl_line a _ (h a List.mem_cons_self), ih (fun b hb => h b (List.mem_cons_of_mem _ hb))]
    rfl
theorem dropEnd_lines (l : List (List UInt8)) : dropEnd (toB (l ++ [[]])) = toB l := by
  unfold dropEnd toB
  rw [List.map_append, List.map_cons, List.map_nil, List.getLast?_concat, List.dropLast_concat]
  rw [if_pos]
  rw [Option.getD_some, mkB_toList]
/-- Parse at lines. -/
theorem parse_lines (l : List (List UInt8)) (h : ∀ a ∈ l, ∀ c ∈ a, c ≠ 10) (hs : (lines l).length ≤ 65536) {r : ParseR} (hr : Ev (fun k => script_Parse.l0 k (toB l) [] [] 0) r) : Ev (fun k => script_Parse.f k (mkB (lines l))) r := by
  unfold script_Parse.f
  refine Ev.congr (fun k => ?_) hr
  rw [if_neg (by rw [mkB_size]; omega), split_pure _ (by omega), spl_lines l h, Option.bind_some, if_neg (by simp [toB]), dropEnd_lines]
theorem trim_pure (l : List UInt8) : strings_TrimLeft.f (mkB l) ⟨#[32, 9]⟩ = some (mkB (l.dropWhile blk)) := by
  unfold strings_TrimLeft.f
  rw [if_pos rfl]
  congr 2
  rw [mkB_data]
  unfold Lib.trimLeftS
  have : (fun c : UInt8 => [(32 : UInt8), 9].contains c) = blk := by
    funext c
    simp [blk, List.contains_cons]
    rfl
  rw [this]

/-! ### words of the table -/
theorem words_some : script_words.f = some (toB [[99, 111, 112, 121], [119, 114, 105, 116, 101], [97, 112, 112, 101, 110, 100], [109, 107, 100, 105, 114], [114, 101, 109, 111, 118, 101], [114, 101, 110, 97, 109, 101], [115, 101, 116], [105, 102], [114, 101, 112, 101, 97, 116], [101, 108, 115, 101], [101, 110, 100], [102, 97, 105, 108]]) := rfl
theorem words_f_ev {l : List UInt8} {res : List ByteArray × Bool} (h : Wds l [] res) (hl : l.length ≤ 1000) : Ev (fun k => script_Words.f k (mkB l)) res := words_ev h hl (by simp; omega)

/-! ### a text in quotes -/
def escB (c : UInt8) : List UInt8 := if c = 34 ∨ c = 92 then [92, c] else if c = 10 then [92, 110] else [c]
def esc (t : List UInt8) : List UInt8 := t.flatMap escB
theorem esc_nil : esc [] = [] := rfl
theorem esc_cons (c : UInt8) (t : List UInt8) : esc (c :: t) = escB c ++ esc t := by simp [esc]
theorem escB_len (c : UInt8) : (escB c).length ≤ 2 := by
  unfold escB
  split
  · simp
  · split <;> simp
theorem esc_len : ∀ t : List UInt8, (esc t).length ≤ 2 * t.length
  | [] => by simp [esc]
  | c :: t => by
    rw [esc_cons, List.length_append]
    have := escB_len c
    have := esc_len t
    simp only [List.length_cons]
    omega
theorem escB_ne10 (c : UInt8) : ∀ x ∈ escB c, x ≠ 10 := by
  intro x hx
  unfold escB at hx
  split at hx
  · rename_i h
    rcases List.mem_cons.1 hx with rfl | hx
    · decide
    · rw [List.mem_singleton.1 hx]
      rcases h with rfl | rfl <;> decide
  · split at hx
    · rcases List.mem_cons.1 hx with rfl | hx
      · decide
      · rw [List.mem_singleton.1 hx]; decide
    · rename_i h1 h2
      rw [List.mem_singleton.1 hx]
      exact h2
theorem esc_ne10 (t : List UInt8) : ∀ x ∈ esc t, x ≠ 10 := by
  intro x hx
  obtain ⟨c, _, hc⟩ := List.mem_flatMap.1 hx
  exact escB_ne10 c x hc
theorem quo_all : ∀ (t acc r : List UInt8), quo (esc t ++ 34 :: r) acc = some (acc ++ t, r)
  | [], acc, r => by rw [esc_nil, List.nil_append, quo_end, List.append_nil]
  | c :: t, acc, r => by
    rw [esc_cons, List.append_assoc]
    unfold escB
    split
    · rename_i h
      rw [List.cons_append, List.cons_append, List.nil_append, quo_esc _ _ h, quo_all t _ r]
      simp
    · rename_i h
      split
      · rename_i h2
        subst h2
        rw [List.cons_append, List.cons_append, List.nil_append, quo_n, quo_all t _ r]
        simp
      · rw [List.cons_append, List.nil_append, quo_any _ _ (fun e => h (.inl e)) (fun e => h (.inr e)), quo_all t _ r]
        simp
/-- write f "t" -/
def wr (t : List UInt8) : List UInt8 := [119, 114, 105, 116, 101, 32, 102, 32, 34] ++ esc t ++ [34]
def wrS (t : List UInt8) : S41 := ⟨1, mkB [102], ⟨#[]⟩, mkB t, 0, false⟩
theorem wr_wds (t : List UInt8) : Wds (wr t) [] ([mkB [119, 114, 105, 116, 101], mkB [102], mkB (34 :: t)], true) := by
  have h1 : Wds (34 :: (esc t ++ [34])) [mkB [119, 114, 105, 116, 101], mkB [102]] ([mkB [119, 114, 105, 116, 101], mkB [102], mkB (34 :: t)], true) := by
    refine .text (esc t ++ [34]) t [] _ _ ?_ (fun c h => by cases h) (.stop _)
    rw [quo_all]; rfl
  have h2 : Wds (102 :: 32 :: 34 :: (esc t ++ [34])) [mkB [119, 114, 105, 116, 101]] ([mkB [119, 114, 105, 116, 101], mkB [102], mkB (34 :: t)], true) :=
    .word _ [102] (32 :: 34 :: (esc t ++ [34])) _ _ (by simp) rfl (by decide) (by decide) (fun c h => by cases h; rfl) (.blank 32 _ _ _ rfl h1)
  have h3 : wr t = [119, 114, 105, 116, 101] ++ (32 :: 102 :: 32 :: 34 :: (esc t ++ [34])) := by simp [wr]
  rw [h3]
  exact .word _ [119, 114, 105, 116, 101] (32 :: 102 :: 32 :: 34 :: (esc t ++ [34])) _ _ (by simp) rfl (by decide) (by decide) (fun c h => by cases h; rfl) (.blank 32 _ _ _ rfl h2)
theorem text_pure (t : List UInt8) : script_text.f (mkB (34 :: t)) = some (mkB t, true) := by
  unfold script_text.f script_plain.f
  rw [if_pos (by rw [mkB_size, List.length_cons]; omega), if_pos (by rw [mkB_size, List.length_cons]; omega), bt_cons, Option.bind_some, mk_drop _ _ _ (by rw [mkB_size]; exact Nat.le_refl _)]
  rfl
theorem wr_read (t : List UInt8) : Ev (fun k => script_read.f k [mkB [119, 114, 105, 116, 101], mkB [102], mkB (34 :: t)]) (1, mkB [102], ⟨#[]⟩, mkB t, 0, false, true) := by
  have h1 : Ev (fun k => slices_Index_string_string.f k (toB [[99, 111, 112, 121], [119, 114, 105, 116, 101], [97, 112, 112, 101, 110, 100], [109, 107, 100, 105, 114], [114, 101, 109, 111, 118, 101], [114, 101, 110, 97, 109, 101], [115, 101, 116], [105, 102], [114, 101, 112, 101, 97, 116], [101, 108, 115, 101], [101, 110, 100], [102, 97, 105, 108]]) (mkB [119, 114, 105, 116, 101])) 1 := Ev.of (fun k => slices_Index_string_string.mono _ _ k) (k := 20) (by kernel_rfl)
  unfold script_read.f
  rw [words_some]
  simp only [Option.bind_some]
  refine Ev.bind h1 (Ev.congr (fun k => ?_) (Ev.now _))
  simp only [readK]
  rw [if_neg (by decide), if_pos (by decide), if_pos (by rfl), text_pure, Option.bind_some]
theorem dw_ne {c : UInt8} {r : List UInt8} (h : blk c = false) : (c :: r).dropWhile blk = c :: r := by rw [List.dropWhile_cons, h]; rfl
theorem wr_head (t : List UInt8) : ∃ r, wr t = 119 :: r := ⟨_, rfl⟩
/-- A line that says something. -/
theorem parse_step {t r : List UInt8} {c : UInt8} {ws : List ByteArray} {kd n : Int} {A B T : ByteArray} {no : Bool} {ts : List ByteArray} {out : List S41} {st st' : List Int} {i : Nat} {res : ParseR}
    (ht : t.dropWhile blk = c :: r) (hc : c ≠ 35) (hlen : t.length ≤ 1000) (hw : Wds (c :: r) [] (ws, true)) (hr : Ev (fun k => script_read.f k ws) (kd, A, B, T, n, no, true)) (ho : out.length ≠ 200) (htk : takeP st kd = some st')
    (hgo : Ev (fun k => script_Parse.l0 k ts (out ++ [⟨kd, A, B, T, n, no⟩]) st' (i + 1)) res) : Ev (fun k => script_Parse.l0 k (mkB t :: ts) out st i) res := by
  have hl : (c :: r).length ≤ 1000 := by
    rw [← ht]
    exact Nat.le_trans (List.dropWhile_sublist blk).length_le hlen
  obtain ⟨K1, h1⟩ := words_f_ev hw hl
  obtain ⟨K2, h2⟩ := hr
  obtain ⟨K3, h3⟩ := hgo
  refine ⟨K1 + K2 + K3, fun k hk => ?_⟩
  have e1 : script_Words.f k (mkB (c :: r)) = some (ws, true) := h1 k (by omega)
  have e2 : script_read.f k ws = some (kd, A, B, T, n, no, true) := h2 k (by omega)
  simp only [script_Parse.l0]
  rw [trim_pure, Option.bind_some, ht, mkB_toList, if_neg (by simp), bt_cons, if_neg (show ¬ ((c.toNat : Int) = 35) from b_ne (n := 35) (by decide) hc), e1, Option.bind_some]
  simp only
  rw [if_pos trivial, e2, Option.bind_some]
  simp only
  rw [if_pos trivial, if_neg ho, htk]
  exact h3 k (by omega)
/-- A line that says nothing. -/
theorem parse_skip {t : List UInt8} {ts : List ByteArray} {out : List S41} {st : List Int} {i : Nat} {res : ParseR} (ht : t.dropWhile blk = [] ∨ ∃ r, t.dropWhile blk = 35 :: r)
    (hgo : Ev (fun k => script_Parse.l0 k ts out st (i + 1)) res) : Ev (fun k => script_Parse.l0 k (mkB t :: ts) out st i) res := by
  refine Ev.congr (fun k => ?_) hgo
  simp only [script_Parse.l0]
  rw [trim_pure, Option.bind_some]
  rcases ht with ht | ⟨r, ht⟩
  · rw [ht, mkB_toList, if_pos rfl]
  · rw [ht, mkB_toList, if_neg (by simp), bt_cons, if_pos (by decide)]
/-- A line that is refused: for its words, or by read, or too many, or by the shape. -/
theorem parse_bad {t r : List UInt8} {c : UInt8} {ws : List ByteArray} {kd n : Int} {A B T : ByteArray} {no ok : Bool} {ts : List ByteArray} {out : List S41} {st : List Int} {i : Nat}
    (ht : t.dropWhile blk = c :: r) (hc : c ≠ 35) (hlen : t.length ≤ 1000) (hw : Wds (c :: r) [] (ws, true)) (hr : Ev (fun k => script_read.f k ws) (kd, A, B, T, n, no, ok)) (hbad : ok = false ∨ out.length = 200 ∨ takeP st kd = none) :
    Ev (fun k => script_Parse.l0 k (mkB t :: ts) out st i) ([], ((i + 1 : Nat) : Int), 66) := by
  have hl : (c :: r).length ≤ 1000 := by
    rw [← ht]
    exact Nat.le_trans (List.dropWhile_sublist blk).length_le hlen
  obtain ⟨K1, h1⟩ := words_f_ev hw hl
  obtain ⟨K2, h2⟩ := hr
  refine ⟨K1 + K2, fun k hk => ?_⟩
  have e1 : script_Words.f k (mkB (c :: r)) = some (ws, true) := h1 k (by omega)
  have e2 : script_read.f k ws = some (kd, A, B, T, n, no, ok) := h2 k (by omega)
  simp only [script_Parse.l0]
  rw [trim_pure, Option.bind_some, ht, mkB_toList, if_neg (by simp), bt_cons, if_neg (show ¬ ((c.toNat : Int) = 35) from b_ne (n := 35) (by decide) hc), e1, Option.bind_some]
  simp only
  rw [if_pos trivial, e2, Option.bind_some]
  simp only
  cases ok with
  | false => rw [if_neg (by simp)]
  | true =>
    rw [if_pos rfl]
    by_cases ho : out.length = 200
    · rw [if_pos ho]
    · rw [if_neg ho]
      rcases hbad with h | h | h
      · cases h
      · exact absurd h ho
      · rw [h]
theorem parse_wr : ∀ (ts : List (List UInt8)) (out : List S41) (i : Nat), (∀ t ∈ ts, t.length ≤ 200) → out.length + ts.length ≤ 100 → Ev (fun k => script_Parse.l0 k (toB (ts.map wr)) out [] i) (out ++ ts.map wrS, 0, 0)
  | [], out, i, h, hl => by
    refine Ev.congr (f := fun _ => some (out ++ [].map wrS, 0, 0)) (fun k => ?_) (Ev.now _)
    rw [List.map_nil, List.map_nil, List.append_nil]
    rfl
  | t :: ts, out, i, h, hl => by
    have ih := parse_wr ts (out ++ [wrS t]) (i + 1) (fun x hx => h x (List.mem_cons_of_mem _ hx)) (by simp at hl ⊢; omega)
    rw [show out ++ [wrS t] ++ ts.map wrS = out ++ (t :: ts).map wrS by simp] at ih
    have hlen : (wr t).length ≤ 1000 := by
      have h1 := esc_len t
      have h2 := h t List.mem_cons_self
      simp [wr]
      omega
    obtain ⟨r, hr⟩ := wr_head t
    have hwd := wr_wds t
    have hdw : (wr t).dropWhile blk = wr t := by rw [hr]; exact dw_ne rfl
    refine parse_step (t := wr t) (hdw.trans hr) (by decide) hlen (hr ▸ hwd) (wr_read t) (by simp at hl; omega) rfl ih

/-! ### Text -/
theorem escaped_ev (t : List UInt8) (ht : t.length ≤ 1000000) : ∀ (l p acc : List UInt8), t = p ++ l → acc.length + 2 * l.length ≤ 10000000 → Ev (fun k => script_escaped.l0 k (mkB t) (nb acc) (t.length : Int) (p.length : Int)) (mkB (acc ++ esc l ++ [34]))
  | [], p, acc, hp, hl => by
    refine Ev.step (f := fun _ => some (mkB (acc ++ esc [] ++ [34]))) (fun k => ?_) (Ev.now _)
    simp only [script_escaped.l0]
    have h1 : t.length = p.length := by rw [hp]; simp
    rw [if_neg (by omega), if_pos (by rw [nb_len]; simp at hl; omega), show nb acc ++ [(34 : Int)] = nb (acc ++ [34]) from nb_snoc acc 34, str_nb, esc_nil, List.append_nil]
  | c :: l, p, acc, hp, hl => by
    simp only [List.length_cons] at hl
    have hle := escB_len c
    have ih := escaped_ev t ht l (p ++ [c]) (acc ++ escB c) (by rw [hp]; simp) (by simp; omega)
    rw [List.append_assoc acc (escB c), ← esc_cons] at ih
    have hsz : t.length = p.length + l.length + 1 := by rw [hp, List.length_append, List.length_cons]; omega
    have hb : Hid (bt (mkB t) (p.length : Int) = (c.toNat : Int)) := Lib.hid (by rw [hp]; exact bt_app p c l _ rfl)
    have hw : wrap64 ((p.length : Int) + 1) = ((p ++ [c]).length : Int) := by rw [w64 (by omega)]; simp
    have n1 : (nb acc).length < 140737488355328 := by rw [nb_len]; omega
    have n2 : (nb acc ++ [(92 : Int)]).length < 140737488355328 := by rw [List.length_append, nb_len]; simp; omega
    refine Ev.step (fun k => ?_) ih
    simp only [script_escaped.l0]
    rw [if_pos (by omega), if_pos (by omega), if_pos (by rw [mkB_size]; omega), hb.out]
    unfold escB at *
    by_cases h10 : c = 10
    · subst h10
      rw [if_pos (by decide), Option.bind_some, if_pos (by simp [nb_len]; omega), hw]
      rw [if_neg (by decide), if_pos rfl]
      congr 1
      simp [nb]
    · rw [if_neg (show ¬ ((c.toNat : Int) = 10) from b_ne (n := 10) (by decide) h10)]
      by_cases h34 : c = 34
      · subst h34
        rw [if_pos (by decide), if_pos n1, Option.bind_some, if_pos n2, hw, if_pos (.inl rfl)]
        congr 1
        simp [nb]
      · rw [if_neg (show ¬ ((c.toNat : Int) = 34) from b_ne (n := 34) (by decide) h34)]
        by_cases h92 : c = 92
        · subst h92
          rw [if_pos (by decide), if_pos n1, Option.bind_some, if_pos n2, hw, if_pos (.inr rfl)]
          congr 1
          simp [nb]
        · rw [if_neg (show ¬ ((c.toNat : Int) = 92) from b_ne (n := 92) (by decide) h92), if_pos n1, hw, nb_snoc, if_neg (fun e => e.elim h34 h92), if_neg h10]
theorem escaped_f (t : List UInt8) (ht : t.length ≤ 1000000) : Ev (fun k => script_escaped.f k (mkB t)) (mkB ([34] ++ esc t ++ [34])) := escaped_ev t ht t [] [34] rfl (by simp; omega)
theorem one_wr (t : List UInt8) (ht : t.length ≤ 1000) : Ev (fun k => script_one.f k 1 (mkB [102]) ⟨#[]⟩ (mkB t) 0 false) (mkB (wr t)) := by
  obtain ⟨K, h⟩ := escaped_f t (by omega)
  refine ⟨K, fun k hk => ?_⟩
  have hj : strings_Join.f ([mkB [119, 114, 105, 116, 101]] ++ [mkB [102]] ++ [mkB ([34] ++ esc t ++ [34])]) ⟨#[32]⟩ = some (mkB (wr t)) := by
    have hjl : Lib.join ([[119, 114, 105, 116, 101], [102], [34] ++ esc t ++ [34]] : List (List UInt8)) [32] = wr t := by
      simp [Lib.join, wr]
    unfold strings_Join.f
    have he := esc_len t
    rw [if_pos]
    · congr 1
      show mkB (Lib.join [[119, 114, 105, 116, 101], [102], [34] ++ esc t ++ [34]] [32]) = _
      rw [hjl]
    · refine ⟨by simp, ?_⟩
      show (Lib.join [[119, 114, 105, 116, 101], [102], [34] ++ esc t ++ [34]] [32]).length ≤ _
      rw [hjl]
      simp [wr]
      omega
  unfold script_one.f
  rw [words_some]
  simp only [Option.bind_some]
  rw [if_neg (by decide), if_neg (by decide), if_pos (by decide), if_pos (by decide), if_neg (by decide), if_neg (by decide), if_pos trivial, if_pos (by decide), show script_escaped.f k (mkB t) = _ from h k hk]
  simp only [Option.bind_some]
  rw [if_pos (by decide)]
  exact congrArg (fun o : Option ByteArray => o.bind fun t => some t) hj
theorem rep_zero : strings_Repeat.f ⟨#[9]⟩ ((tabsOf 0 1 : Nat) : Int) = some (mkB []) := by kernel_rfl
theorem text_wr : ∀ (ts : List (List UInt8)) (acc : List UInt8), (∀ t ∈ ts, t.length ≤ 200) → acc.length + 1000 * ts.length ≤ 1000000 → Ev (fun k => script_Text.l0 k (ts.map wrS) 0 (mkB acc)) (mkB (acc ++ lines (ts.map wr)))
  | [], acc, h, hl => by
    refine Ev.congr (f := fun _ => some (mkB (acc ++ lines ([].map wr)))) (fun k => ?_) (Ev.now _)
    rw [List.map_nil, List.map_nil, show lines [] = [] from rfl, List.append_nil]
    rfl
  | t :: ts, acc, h, hl => by
    simp only [List.length_cons] at hl
    have hlen : (wr t).length ≤ 900 := by
      have h1 := esc_len t
      have h2 := h t List.mem_cons_self
      simp [wr]
      omega
    have ih := text_wr ts (acc ++ (wr t ++ [10])) (fun x hx => h x (List.mem_cons_of_mem _ hx)) (by simp; omega)
    rw [show acc ++ (wr t ++ [10]) ++ lines (ts.map wr) = acc ++ lines ((t :: ts).map wr) by simp [lines]] at ih
    obtain ⟨K1, h1⟩ := one_wr t (by have := h t List.mem_cons_self; omega)
    obtain ⟨K2, h2⟩ := ih
    refine ⟨K1 + K2, fun k hk => ?_⟩
    have h1' : script_one.f k 1 (mkB [102]) ⟨#[]⟩ (mkB t) 0 false = some (mkB (wr t)) := h1 k (by omega)
    have h2' : script_Text.l0 k (ts.map wrS) 0 (mkB (acc ++ (wr t ++ [10]))) = some (mkB (acc ++ lines ((t :: ts).map wr))) := h2 k (by omega)
    simp only [List.map_cons, script_Text.l0]
    rw [show (wrS t).f0 = 1 from rfl, show (wrS t).f1 = mkB [102] from rfl, show (wrS t).f2 = ⟨#[]⟩ from rfl, show (wrS t).f3 = mkB t from rfl, show (wrS t).f4 = 0 from rfl, show (wrS t).f5 = false from rfl, rep_zero, Option.bind_some, h1', Option.bind_some, if_pos (by rw [mkB_size, mkB_size, mkB_size]; simp; omega)]
    rw [show deepOf 0 1 = 0 from rfl, mkB_append, List.nil_append]
    rw [show (mkB (wr t) ++ ⟨#[10]⟩ : ByteArray) = mkB (wr t ++ [10]) from mkB_append (wr t) [10], mkB_append]
    exact h2'
end Go.Proofs.YtkcemdfhhdjdaaaDoor.Pure
