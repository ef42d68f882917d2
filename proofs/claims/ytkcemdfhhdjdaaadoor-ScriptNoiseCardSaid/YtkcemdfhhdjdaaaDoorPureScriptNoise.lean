/- ScriptNoise, plainly: the law's own function answers true at every two lists of numbers. -/
import Derived.Test.YtkcemdfhhdjdaaaDoorPureScriptBlocks
import Derived.Test.YtkcemdfhhdjdaaaDoorPx11
namespace Go.Proofs.YtkcemdfhhdjdaaaDoor.Pure
open Go Go.RowKit Go.Lib Go.Proofs.YtkcemdfhhdjdaaaDoor.P Go.Proofs.YtkcemdfhhdjdaaaDoor.B Go.Proofs.YtkcemdfhhdjdaaaDoor.Ext Go.Proofs.YtkcemdfhhdjdaaaDoorW.PrintWords
set_option linter.unusedVariables false
set_option linter.unusedSimpArgs false

/-! ### what a number puts ahead of a line, and behind it -/
def pre1 (n : Nat) : List (List UInt8) := ([[], [[]], [[35, 32, 34]], [], [[9, 35, 32, 120]]] : List (List (List UInt8))).getD (n % 5) []
def pre2 (n : Nat) : List UInt8 := ([[], [], [], [32, 32, 9], [32, 32, 32]] : List (List UInt8)).getD (n % 5) []
def suf (n : Nat) : List UInt8 := ([[], [32], [9, 32]] : List (List UInt8)).getD (n % 3) []
def preB (n : Nat) : List UInt8 := ([[], [10], [35, 32, 34, 10], [32, 32, 9], [9, 35, 32, 120, 10, 32, 32, 32]] : List (List UInt8)).getD (n % 5) []
theorem preB_eq (n : Nat) : preB n = lines (pre1 n) ++ pre2 n := by
  unfold preB pre1 pre2
  have hm : n % 5 < 5 := Nat.mod_lt _ (by decide)
  generalize n % 5 = m at hm ⊢
  match m, hm with
  | 0, _ => rfl
  | 1, _ => rfl
  | 2, _ => rfl
  | 3, _ => rfl
  | 4, _ => rfl
  | m + 5, hm => omega
theorem pre_facts (n : Nat) : (∀ t ∈ pre1 n, t.length ≤ 4 ∧ (t.dropWhile blk = [] ∨ ∃ r, t.dropWhile blk = 35 :: r) ∧ ∀ c ∈ t, c ≠ 10) ∧ (pre1 n).length ≤ 1 ∧ (pre2 n).length ≤ 3 ∧ (∀ c ∈ pre2 n, blk c = true ∧ c ≠ 10) := by
  unfold pre1 pre2
  have hm : n % 5 < 5 := Nat.mod_lt _ (by decide)
  generalize n % 5 = m at hm ⊢
  match m, hm with
  | 0, _ => exact ⟨fun t h => (by cases h), by decide, by decide, by decide⟩
  | 1, _ => exact ⟨fun t h => (by rw [List.mem_singleton.1 h]; exact ⟨by decide, .inl rfl, by decide⟩), by decide, by decide, by decide⟩
  | 2, _ => exact ⟨fun t h => (by rw [List.mem_singleton.1 h]; exact ⟨by decide, .inr ⟨_, rfl⟩, by decide⟩), by decide, by decide, by decide⟩
  | 3, _ => exact ⟨fun t h => (by cases h), by decide, by decide, by decide⟩
  | 4, _ => exact ⟨fun t h => (by rw [List.mem_singleton.1 h]; exact ⟨by decide, .inr ⟨_, rfl⟩, by decide⟩), by decide, by decide, by decide⟩
  | m + 5, hm => omega
theorem suf_facts (n : Nat) : (suf n).length ≤ 2 ∧ ∀ c ∈ suf n, blk c = true ∧ c ≠ 10 := by
  unfold suf
  have hm : n % 3 < 3 := Nat.mod_lt _ (by decide)
  generalize n % 3 = m at hm ⊢
  match m, hm with
  | 0, _ => decide
  | 1, _ => decide
  | 2, _ => decide
  | m + 3, hm => omega
/-- Blanks behind say nothing. -/
theorem Wds.blanks (s : List UInt8) (hs : ∀ c ∈ s, blk c = true) (acc : List ByteArray) : Wds s acc (acc, true) := by
  induction s with
  | nil => exact .stop acc
  | cons c s ih => exact .blank c s acc _ (hs c List.mem_cons_self) (ih (fun x hx => hs x (List.mem_cons_of_mem _ hx)))
theorem quo_app : ∀ (n : Nat) (l acc q t s : List UInt8), l.length ≤ n → quo l acc = some (q, t) → quo (l ++ s) acc = some (q, t ++ s)
  | n, [], acc, q, t, s, hn, h => by cases h
  | 0, c :: r, acc, q, t, s, hn, h => by simp at hn
  | n + 1, c :: r, acc, q, t, s, hn, h => by
    simp only [List.length_cons] at hn
    by_cases h34 : c = 34
    · subst h34
      rw [quo_end] at h
      cases h
      rw [List.cons_append, quo_end]
    · by_cases h92 : c = 92
      · subst h92
        cases r with
        | nil => rw [quo_esc_end] at h; cases h
        | cons d r =>
          simp only [List.length_cons] at hn
          by_cases hd : d = 34 ∨ d = 92
          · rw [quo_esc _ _ hd] at h
            rw [List.cons_append, List.cons_append, quo_esc _ _ hd]
            exact quo_app n r _ q t s (by omega) h
          · by_cases hn' : d = 110
            · subst hn'
              rw [quo_n] at h
              rw [List.cons_append, List.cons_append, quo_n]
              exact quo_app n r _ q t s (by omega) h
            · rw [quo_bad _ _ hd hn'] at h
              cases h
      · rw [quo_any _ _ h34 h92] at h
        rw [List.cons_append, quo_any _ _ h34 h92]
        exact quo_app n r _ q t s (by omega) h
theorem Wds.app {l : List UInt8} {acc : List ByteArray} {res : List ByteArray × Bool} (h : Wds l acc res) (s : List UInt8) (hs : ∀ c ∈ s, blk c = true) (hok : res.2 = true) : Wds (l ++ s) acc res := by
  have hhead : ∀ t : List UInt8, (∀ c, t.head? = some c → blk c = true) → ∀ c, (t ++ s).head? = some c → blk c = true := fun t ht c hc => by
    cases t with
    | nil =>
      rw [List.nil_append] at hc
      exact hs c (List.mem_of_head? hc)
    | cons d t => exact ht c hc
  induction h with
  | stop acc => exact Wds.blanks s hs acc
  | blank c r acc res hb hr ih => exact .blank c _ acc res hb (ih hok)
  | word l w t acc res hw0 hl hw h34 ht hr ih => exact .word _ w (t ++ s) acc res hw0 (by rw [hl, List.append_assoc]) hw h34 (hhead t ht) (ih hok)
  | open_ r acc hq => cases hok
  | near r q c t acc hq hc => cases hok
  | text r q t acc res hq ht hr ih => exact .text (r ++ s) q (t ++ s) acc res (quo_app r.length r [] q t s (Nat.le_refl _) hq) (hhead t ht) (ih hok)
theorem dw_pre (p t : List UInt8) (hp : ∀ c ∈ p, blk c = true) : (p ++ t).dropWhile blk = t.dropWhile blk := by
  induction p with
  | nil => rfl
  | cons c p ih => rw [List.cons_append, List.dropWhile_cons, hp c List.mem_cons_self, if_pos rfl]; exact ih (fun x hx => hp x (List.mem_cons_of_mem _ hx))
/-- A good line with blanks ahead and behind is that line. -/
theorem pm_noise {t p s : List UInt8} {kd n : Int} {A B T : ByteArray} {no : Bool} (h : PM t (.good kd A B T n no)) (ht : t.length ≤ 20) (hpl : p.length ≤ 3) (hsl : s.length ≤ 2) (hp : ∀ c ∈ p, blk c = true) (hs : ∀ c ∈ s, blk c = true) : PM (p ++ t ++ s) (.good kd A B T n no) := by
  obtain ⟨c, r, ws, h1, h2, h3, h4, h5⟩ := h
  refine ⟨c, r ++ s, ws, ?_, h2, by simp; omega, h4.app s hs rfl, h5⟩
  rw [List.append_assoc, dw_pre p _ hp]
  have hsp : t = t.takeWhile blk ++ (c :: r) := by rw [← h1]; exact (List.takeWhile_append_dropWhile).symm
  have hc : blk c = false := by
    have := List.head?_dropWhile_not blk t
    rw [h1] at this
    simpa using this
  rw [hsp, List.append_assoc, dw_pre _ _ (fun x hx => mem_tw blk _ x hx), List.cons_append]
  exact dw_ne hc
/-! ### lines that say nothing may stand between -/
/-- The same, but for lines that say nothing. -/
inductive Sk : List Out → List Out → Prop where
  | nil : Sk [] []
  | skip {a b} : Sk a b → Sk a (.skip :: b)
  | same {a b} (m : Out) : Sk a b → Sk (m :: a) (m :: b)
theorem sk_run {a b : List Out} (h : Sk a b) : ∀ (out : List S41) (st : List Int) (i j : Nat), (run a out st i).1 = (run b out st j).1 ∧ (run a out st i).2.2 = (run b out st j).2.2 := by
  induction h with
  | nil =>
    intro out st i j
    unfold run
    split <;> exact ⟨rfl, rfl⟩
  | skip h ih =>
    intro out st i j
    exact ih out st i (j + 1)
  | same m h ih =>
    intro out st i j
    cases m with
    | skip => exact ih out st (i + 1) (j + 1)
    | bad => exact ⟨rfl, rfl⟩
    | good kd A B T n no =>
      unfold run
      split
      · exact ⟨rfl, rfl⟩
      · split
        · exact ⟨rfl, rfl⟩
        · exact ih _ _ (i + 1) (j + 1)
/-! ### the two texts -/
def num (x : Int) : Nat := x.toNat
/-- The lines of a number and its noise. -/
def nl (x y : Int) : List (List UInt8) := pre1 (num y) ++ [pre2 (num y) ++ tx (Int.tmod x 13) ++ suf (num y)]
def nm (x y : Int) : List Out := (pre1 (num y)).map (fun _ => Out.skip) ++ [mx_ (Int.tmod x 13)]
def nls (l0 l1 : List Int) : List (List UInt8) := (l0.zip l1).flatMap fun p => nl p.1 p.2
def nms (l0 l1 : List Int) : List Out := (l0.zip l1).flatMap fun p => nm p.1 p.2
theorem mx_good (x : Int) (h : 0 ≤ x ∧ x ≤ 255) : ∃ kd A B T n no, mx_ (Int.tmod x 13) = .good kd A B T n no := by
  obtain ⟨n, rfl⟩ := Int.eq_ofNat_of_zero_le h.1
  rw [show Int.tmod ((n : Nat) : Int) 13 = ((n % 13 : Nat) : Int) from rfl]
  unfold mx_
  rw [Int.toNat_natCast]
  have hm : n % 13 < 13 := Nat.mod_lt _ (by decide)
  generalize n % 13 = m at hm ⊢
  match m, hm with
  | 0, _ => exact ⟨_, _, _, _, _, _, rfl⟩
  | 1, _ => exact ⟨_, _, _, _, _, _, rfl⟩
  | 2, _ => exact ⟨_, _, _, _, _, _, rfl⟩
  | 3, _ => exact ⟨_, _, _, _, _, _, rfl⟩
  | 4, _ => exact ⟨_, _, _, _, _, _, rfl⟩
  | 5, _ => exact ⟨_, _, _, _, _, _, rfl⟩
  | 6, _ => exact ⟨_, _, _, _, _, _, rfl⟩
  | 7, _ => exact ⟨_, _, _, _, _, _, rfl⟩
  | 8, _ => exact ⟨_, _, _, _, _, _, rfl⟩
  | 9, _ => exact ⟨_, _, _, _, _, _, rfl⟩
  | 10, _ => exact ⟨_, _, _, _, _, _, rfl⟩
  | 11, _ => exact ⟨_, _, _, _, _, _, rfl⟩
  | 12, _ => exact ⟨_, _, _, _, _, _, rfl⟩
  | m + 13, hm => omega
theorem rel_app {R : List UInt8 → Out → Prop} {a b : List (List UInt8)} {x y : List Out} (hl : a.length = x.length) (h1 : ∀ (j : Nat) t m, a[j]? = some t → x[j]? = some m → R t m) (h2 : ∀ (j : Nat) t m, b[j]? = some t → y[j]? = some m → R t m) :
    ∀ (j : Nat) t m, (a ++ b)[j]? = some t → (x ++ y)[j]? = some m → R t m := fun j t m ht hm => by
  by_cases hj : j < a.length
  · rw [List.getElem?_append_left hj] at ht
    rw [List.getElem?_append_left (by omega)] at hm
    exact h1 j t m ht hm
  · rw [List.getElem?_append_right (by omega)] at ht
    rw [List.getElem?_append_right (by omega)] at hm
    exact h2 (j - a.length) t m ht (by rw [hl]; exact hm)
theorem nl_rel (x y : Int) (hx : 0 ≤ x ∧ x ≤ 255) : (nl x y).length = (nm x y).length ∧ (∀ (j : Nat) t m, (nl x y)[j]? = some t → (nm x y)[j]? = some m → PM t m) ∧ (∀ a ∈ nl x y, a.length ≤ 30 ∧ ∀ c ∈ a, c ≠ 10) ∧ (nl x y).length ≤ 2 := by
  obtain ⟨f1, f2, f3, f4⟩ := pre_facts (num y)
  obtain ⟨s1, s2⟩ := suf_facts (num y)
  have htx := tx_ok (Int.tmod x 13)
  refine ⟨by simp [nl, nm], rel_app (by simp) (fun j t m h1 h2 => ?_) (fun j t m h1 h2 => ?_), fun a ha => ?_, by simp [nl]; omega⟩
  · rw [List.getElem?_map, h1] at h2
    cases h2
    exact (f1 t (List.mem_of_getElem? h1)).2.1
  · match j, h1, h2 with
    | 0, h1, h2 =>
      cases h1
      cases h2
      obtain ⟨kd, A, B, T, n, no, hg⟩ := mx_good x hx
      have hpm := (tx_pm (Int.tmod x 13)).1
      rw [hg] at hpm ⊢
      exact pm_noise hpm htx.1 f3 s1 (fun c hc => (f4 c hc).1) (fun c hc => (s2 c hc).1)
    | j + 1, h1, h2 => simp at h1
  · rcases List.mem_append.1 ha with ha | ha
    · have := f1 a ha
      exact ⟨by omega, this.2.2⟩
    · rw [List.mem_singleton.1 ha]
      refine ⟨by simp; omega, fun c hc => ?_⟩
      rcases List.mem_append.1 hc with hc | hc
      · rcases List.mem_append.1 hc with hc | hc
        · exact (f4 c hc).2
        · exact htx.2 c hc
      · exact (s2 c hc).2
theorem nls_rel : ∀ (l0 l1 : List Int), (∀ x ∈ l0, (Lit.int .u8 x).wf = true) → (nls l0 l1).length = (nms l0 l1).length ∧ (∀ (j : Nat) t m, (nls l0 l1)[j]? = some t → (nms l0 l1)[j]? = some m → PM t m) ∧ (∀ a ∈ nls l0 l1, a.length ≤ 30 ∧ ∀ c ∈ a, c ≠ 10) ∧ (nls l0 l1).length ≤ 2 * l0.length
  | [], l1, _ => ⟨rfl, fun j t m h => by simp [nls] at h, fun a h => by simp [nls] at h, by simp [nls]⟩
  | x :: l0, [], _ => ⟨rfl, fun j t m h => by simp [nls] at h, fun a h => by simp [nls] at h, by simp [nls]⟩
  | x :: l0, y :: l1, hw => by
    obtain ⟨h1, h2, h3, h4⟩ := nls_rel l0 l1 (fun z hz => hw z (List.mem_cons_of_mem _ hz))
    obtain ⟨g1, g2, g3, g4⟩ := nl_rel x y (u8_bdB (hw x List.mem_cons_self))
    have e1 : nls (x :: l0) (y :: l1) = nl x y ++ nls l0 l1 := by simp [nls]
    have e2 : nms (x :: l0) (y :: l1) = nm x y ++ nms l0 l1 := by simp [nms]
    rw [e1, e2]
    refine ⟨by simp [h1, g1], rel_app g1 g2 h2, fun a ha => ?_, by simp; omega⟩
    rcases List.mem_append.1 ha with ha | ha
    · exact g3 a ha
    · exact h3 a ha
theorem sk_nms : ∀ (l0 l1 : List Int), l0.length ≤ l1.length → Sk (l0.map fun x => mx_ (Int.tmod x 13)) (nms l0 l1)
  | [], l1, _ => .nil
  | x :: l0, [], h => by simp at h
  | x :: l0, y :: l1, h => by
    have ih := sk_nms l0 l1 (by simpa using h)
    have e2 : nms (x :: l0) (y :: l1) = nm x y ++ nms l0 l1 := by simp [nms]
    rw [e2]
    unfold nm
    rw [List.append_assoc, List.map_cons]
    generalize (pre1 (num y)) = ps
    induction ps with
    | nil => exact .same _ ih
    | cons p ps ihp => exact .skip ihp
theorem lines_app (a b : List (List UInt8)) : lines (a ++ b) = lines a ++ lines b := by simp [lines]
theorem lines_nls : ∀ (l0 l1 : List Int), (∀ a ∈ nls l0 l1, a.length ≤ 30) → (lines (nls l0 l1)).length ≤ 31 * (nls l0 l1).length := fun l0 l1 => by
  generalize nls l0 l1 = l
  induction l with
  | nil => intro _; simp [lines]
  | cons a l ih =>
    intro h
    have h1 := ih (fun x hx => h x (List.mem_cons_of_mem _ hx))
    have h2 := h a List.mem_cons_self
    rw [show lines (a :: l) = (a ++ [10]) ++ lines l by simp [lines], List.length_append, List.length_append]
    simp only [List.length_cons, List.length_nil]
    omega
theorem rd_pre (y : Int) (h : 0 ≤ y ∧ y ≤ 255) : 0 ≤ Int.tmod y 5 ∧ Int.tmod y 5 < 5 ∧ rdOf ByteArray.empty ([(⟨#[]⟩ : ByteArray), (⟨#[10]⟩ : ByteArray), (⟨#[35, 32, 34, 10]⟩ : ByteArray), (⟨#[32, 32, 9]⟩ : ByteArray), (⟨#[9, 35, 32, 120, 10, 32, 32, 32]⟩ : ByteArray)] : List ByteArray) (Int.tmod y 5) = mkB (preB (num y)) := by
  obtain ⟨n, rfl⟩ := Int.eq_ofNat_of_zero_le h.1
  rw [show Int.tmod ((n : Nat) : Int) 5 = ((n % 5 : Nat) : Int) from rfl]
  unfold preB num
  rw [Int.toNat_natCast]
  have hm : n % 5 < 5 := Nat.mod_lt _ (by decide)
  generalize n % 5 = m at hm ⊢
  refine ⟨by omega, by omega, ?_⟩
  match m, hm with
  | 0, _ => rfl
  | 1, _ => rfl
  | 2, _ => rfl
  | 3, _ => rfl
  | 4, _ => rfl
  | m + 5, hm => omega
theorem rd_suf (y : Int) (h : 0 ≤ y ∧ y ≤ 255) : 0 ≤ Int.tmod y 3 ∧ Int.tmod y 3 < 3 ∧ rdOf ByteArray.empty ([(⟨#[]⟩ : ByteArray), (⟨#[32]⟩ : ByteArray), (⟨#[9, 32]⟩ : ByteArray)] : List ByteArray) (Int.tmod y 3) = mkB (suf (num y)) := by
  obtain ⟨n, rfl⟩ := Int.eq_ofNat_of_zero_le h.1
  rw [show Int.tmod ((n : Nat) : Int) 3 = ((n % 3 : Nat) : Int) from rfl]
  unfold suf num
  rw [Int.toNat_natCast]
  have hm : n % 3 < 3 := Nat.mod_lt _ (by decide)
  generalize n % 3 = m at hm ⊢
  refine ⟨by omega, by omega, ?_⟩
  match m, hm with
  | 0, _ => rfl
  | 1, _ => rfl
  | 2, _ => rfl
  | m + 3, hm => omega
theorem preB_len (n : Nat) : (preB n).length ≤ 8 := by
  unfold preB
  have hm : n % 5 < 5 := Nat.mod_lt _ (by decide)
  generalize n % 5 = m at hm ⊢
  match m, hm with
  | 0, _ => decide
  | 1, _ => decide
  | 2, _ => decide
  | 3, _ => decide
  | 4, _ => decide
  | m + 5, hm => omega
def tx13 (x : Int) : List UInt8 := tx (Int.tmod x 13)
def mx13 (x : Int) : Out := mx_ (Int.tmod x 13)
theorem rel13 (l : List Int) (j : Nat) (t : List UInt8) (m : Out) (h1 : (l.map tx13)[j]? = some t) (h2 : (l.map mx13)[j]? = some m) : PM t m ∧ RM t m := by
  rw [List.getElem?_map] at h1 h2
  obtain ⟨x, hx, rfl⟩ := Option.map_eq_some_iff.1 h1
  rw [hx] at h2
  cases h2
  exact tx_pm (Int.tmod x 13)
theorem lines_13 : ∀ l : List Int, (lines (l.map tx13)).length ≤ 21 * l.length
  | [] => by simp [lines]
  | x :: l => by
    have h1 := lines_13 l
    have h2 := (tx_ok (Int.tmod x 13)).1
    rw [show lines ((x :: l).map tx13) = (tx13 x ++ [10]) ++ lines (l.map tx13) by simp [lines], List.length_append, List.length_append]
    unfold tx13 at *
    simp only [List.length_cons, List.length_nil]
    omega
theorem noise_end (l0 l1 : List Int) (h0 : l0.length ≤ 20) (h1 : l0.length ≤ l1.length) (hw : ∀ x ∈ l0, (Lit.int .u8 x).wf = true) : Ev (fun k => haversacklaw17_ScriptNoise.l0 k l0 l1 (mkB (lines (l0.map tx13))) (mkB (lines (nls l0 l1))) (l0.length : Int)) true := by
  have hs := lines_13 l0
  have h10 : ∀ a ∈ l0.map tx13, ∀ c ∈ a, c ≠ 10 := fun a ha => by
    obtain ⟨x, _, rfl⟩ := List.mem_map.1 ha
    exact (tx_ok _).2
  obtain ⟨g1, g2, g3, g4⟩ := nls_rel l0 l1 hw
  have hsn := lines_nls l0 l1 (fun a ha => (g3 a ha).1)
  have e1 := prog_lines (l0.map tx13) (l0.map mx13) (by simp) h10 (by omega) (fun j t m h1 h2 => (rel13 l0 j t m h1 h2).1)
  have e3 := ref_lines (l0.map tx13) (l0.map mx13) (by simp) (by simp; omega) h10 (by omega) (fun j t m h1 h2 => (rel13 l0 j t m h1 h2).2)
  have e2 := prog_lines (nls l0 l1) (nms l0 l1) g1 (fun a ha => (g3 a ha).2) (by omega) g2
  have hsk := sk_run (sk_nms l0 l1 h1) [] [] 0 0
  have hrl := run_len (l0.map mx13) [] [] 0
  rw [List.length_map, List.length_nil] at hrl
  have e4 := lines_same (run (l0.map mx13) [] [] 0).1 (by omega)
  obtain ⟨K1, e1⟩ := e1
  obtain ⟨K2, e2⟩ := e2
  obtain ⟨K3, e3⟩ := e3
  obtain ⟨K4, e4⟩ := e4
  refine ⟨K1 + K2 + K3 + K4 + 1, fun k hk => ?_⟩
  obtain ⟨k, rfl⟩ : ∃ m, k = m + 1 := ⟨k - 1, by omega⟩
  have e1' : script_Parse.f k (mkB (lines (l0.map tx13))) = some (run (l0.map mx13) [] [] 0) := e1 k (by omega)
  have e2' : script_Parse.f k (mkB (lines (nls l0 l1))) = some (run (nms l0 l1) [] [] 0) := e2 k (by omega)
  have e3' : haversackref17_Parse.f k (mkB (lines (l0.map tx13))) = some (run (l0.map mx13) [] [] 0) := e3 k (by omega)
  have e4' : haversackhelp_Lines.f k (run (l0.map mx13) [] [] 0).1 (run (l0.map mx13) [] [] 0).1 = some true := e4 k (by omega)
  have hsk1 : (run (nms l0 l1) [] [] 0).1 = (run (l0.map mx13) [] [] 0).1 := hsk.1.symm
  have hsk2 : (run (nms l0 l1) [] [] 0).2.2 = (run (l0.map mx13) [] [] 0).2.2 := hsk.2.symm
  simp only [haversacklaw17_ScriptNoise.l0]
  rw [if_neg (by omega), e1', Option.bind_some, e2', Option.bind_some, e3', Option.bind_some, if_pos rfl, hsk2, if_pos rfl, hsk1, e4', Option.bind_some, if_pos rfl, Option.bind_some]
theorem nls_cons (a b : Int) (l m : List Int) : nls (a :: l) (b :: m) = nl a b ++ nls l m := by simp [nls]
theorem take_zip : ∀ (l0 l1 : List Int) (i : Nat) (x y : Int), l0[i]? = some x → l1[i]? = some y → nls (l0.take (i + 1)) (l1.take (i + 1)) = nls (l0.take i) (l1.take i) ++ nl x y
  | [], _, _, _, _, hx, _ => by simp at hx
  | _ :: _, [], _, _, _, _, hy => by simp at hy
  | a :: l, b :: m, 0, x, y, hx, hy => by
    cases hx
    cases hy
    simp [nls]
  | a :: l, b :: m, i + 1, x, y, hx, hy => by
    rw [List.take_succ_cons, List.take_succ_cons, List.take_succ_cons, List.take_succ_cons, nls_cons, nls_cons, take_zip l m i x y hx hy, List.append_assoc]
theorem nls_full : ∀ l0 l1 : List Int, l0.length ≤ l1.length → nls l0 (l1.take l0.length) = nls l0 l1
  | [], l1, _ => by simp [nls]
  | a :: l, [], h => by simp at h
  | a :: l, b :: m, h => by
    rw [List.length_cons, List.take_succ_cons, nls_cons, nls_cons, nls_full l m (by simpa using h)]
theorem noise_ev (l0 l1 : List Int) (h0 : l0.length ≤ 20) (h1 : l0.length ≤ l1.length) (hw : ∀ x ∈ l0, (Lit.int .u8 x).wf = true) (hw1 : ∀ x ∈ l1, (Lit.int .u8 x).wf = true) :
    ∀ d i : Nat, i + d = l0.length → Ev (fun k => haversacklaw17_ScriptNoise.l0 k l0 l1 (mkB (lines ((l0.take i).map tx13))) (mkB (lines (nls (l0.take i) (l1.take i)))) (i : Int)) true
  | 0, i, h => by
    have hi : i = l0.length := by omega
    subst hi
    rw [List.take_length]
    have e : nls l0 (l1.take l0.length) = nls l0 l1 := nls_full l0 l1 h1
    rw [e]
    exact noise_end l0 l1 h0 h1 hw
  | d + 1, i, h => by
    obtain ⟨x, hx⟩ : ∃ x, l0[i]? = some x := ⟨_, List.getElem?_eq_getElem (by omega)⟩
    obtain ⟨y, hy⟩ : ∃ y, l1[i]? = some y := ⟨_, List.getElem?_eq_getElem (by omega)⟩
    have hxw := u8_bdB (hw x (List.mem_of_getElem? hx))
    have hyw := u8_bdB (hw1 y (List.mem_of_getElem? hy))
    have ih := noise_ev l0 l1 h0 h1 hw hw1 d (i + 1) (by omega)
    rw [take_zip l0 l1 i x y hx hy, List.take_add_one, hx] at ih
    simp only [Option.toList_some] at ih
    rw [List.map_append, lines_app, lines_app, show lines ([x].map tx13) = tx13 x ++ [10] by simp [lines]] at ih
    have hnl : lines (nl x y) = preB (num y) ++ (tx13 x ++ (suf (num y) ++ [10])) := by
      unfold nl
      rw [lines_app, preB_eq]
      simp [lines, tx13]
    rw [hnl] at ih
    have hs0 := lines_13 (l0.take i)
    rw [List.length_take] at hs0
    obtain ⟨g1, g2, g3, g4⟩ := nls_rel (l0.take i) (l1.take i) (fun z hz => hw z (List.mem_of_mem_take hz))
    have hs1 := lines_nls (l0.take i) (l1.take i) (fun a ha => (g3 a ha).1)
    rw [List.length_take] at g4
    have hx20 : (tx13 x).length ≤ 20 := (tx_ok _).1
    obtain ⟨p1, p2, p3⟩ := rd_pre y hyw
    obtain ⟨q1, q2, q3⟩ := rd_suf y hyw
    have hpl := preB_len (num y)
    have hsl := (suf_facts (num y)).1
    have htxt : haversacklaw17_text.f (Int.tmod x 13) = some (mkB (tx13 x)) := text_tx _ (by
      obtain ⟨n, rfl⟩ := Int.eq_ofNat_of_zero_le hxw.1
      rw [show Int.tmod ((n : Nat) : Int) 13 = ((n % 13 : Nat) : Int) from rfl]
      omega)
    refine Ev.step (fun k => ?_) ih
    simp only [haversacklaw17_ScriptNoise.l0]
    rw [if_pos (by omega), if_pos (by omega), rd_at l0 i x hx, htxt, Option.bind_some, if_pos (by rw [mkB_size, mkB_size]; omega), mkB_append, if_pos (by rw [mkB_size, List.length_append]; omega)]
    simp only [Option.bind_some]
    rw [if_pos (by omega), rd_at l1 i y hy, if_pos p1, if_pos (by simp; omega), p3, if_pos (by rw [mkB_size, mkB_size]; omega), mkB_append, if_pos (by rw [mkB_size, mkB_size, List.length_append]; omega), if_pos q1, if_pos (by simp; omega), q3, mkB_append, if_pos (by rw [mkB_size, mkB_size, List.length_append, List.length_append]; omega), mkB_append, if_pos (by rw [mkB_size, List.length_append, List.length_append, List.length_append]; omega), w64 (by omega)]
    rw [show (⟨#[10]⟩ : ByteArray) = mkB [10] from rfl, mkB_append, mkB_append]
    simp only [List.append_assoc]
theorem ScriptNoise : haversacklaw17_ScriptNoise.Pure := by
  intro l0 l1 _ _ hw _ _ hw1
  have hend : Ev (fun k => haversacklaw17_ScriptNoise.j0 k l0 l1 true) true := by
    refine Ev.step (f := fun _ => some true) (fun k => ?_) (Ev.now _)
    simp only [haversacklaw17_ScriptNoise.j0]
    rw [if_pos trivial]
  have : Ev (fun k => haversacklaw17_ScriptNoise.f k l0 l1) true := by
    unfold haversacklaw17_ScriptNoise.f
    refine Ev.bind known_evB ?_
    by_cases hl : l0.length ≤ 20
    · by_cases hl1 : l0.length ≤ l1.length
      · have h2 := noise_ev l0 l1 hl hl1 hw hw1 l0.length 0 (by omega)
        have hj : Ev (fun k => haversacklaw17_ScriptNoise.j0 k l0 l1 false) true := by
          refine Ev.step (fun k => ?_) h2
          simp only [haversacklaw17_ScriptNoise.j0]
          rw [if_neg (by simp)]
          rfl
        refine Ev.congr (fun k => ?_) hj
        rw [if_pos rfl, if_neg (by omega), show decide ((l1.length : Int) < (l0.length : Int)) = false by simp; omega]
      · refine Ev.congr (fun k => ?_) hend
        rw [if_pos rfl, if_neg (by omega), show decide ((l1.length : Int) < (l0.length : Int)) = true by simp; omega]
    · refine Ev.congr (fun k => ?_) hend
      rw [if_pos rfl, if_pos (by omega)]
  exact this.rounds
end Go.Proofs.YtkcemdfhhdjdaaaDoor.Pure
