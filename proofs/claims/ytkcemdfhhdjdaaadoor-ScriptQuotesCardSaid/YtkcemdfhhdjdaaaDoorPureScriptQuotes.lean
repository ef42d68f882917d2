/- ScriptQuotes, plainly: the law's own function answers true at every list of texts. -/
import Derived.Test.YtkcemdfhhdjdaaaDoorPureQ
import Derived.Test.YtkcemdfhhdjdaaaDoorPx7
import Derived.KernelRfl
namespace Go.Proofs.YtkcemdfhhdjdaaaDoor.Pure
open Go Go.RowKit Go.Lib Go.Proofs.YtkcemdfhhdjdaaaDoor.P Go.Proofs.YtkcemdfhhdjdaaaDoor.B Go.Proofs.YtkcemdfhhdjdaaaDoor.Ext Go.Proofs.YtkcemdfhhdjdaaaDoorW.PrintWords
set_option linter.unusedVariables false
set_option linter.unusedSimpArgs false

theorem known_evQ : Ev (fun k => haversacklaw17_known.f k) true := Ev.of (fun k => haversacklaw17_known.mono k) (k := 60) (by kernel_rfl)
theorem rd_toB (ts : List (List UInt8)) (i : Nat) (t : List UInt8) (h : ts[i]? = some t) : rdOf ByteArray.empty (toB ts) (i : Int) = mkB t := by
  unfold rdOf toB
  rw [Int.toNat_natCast, List.getD_eq_getElem?_getD, List.getElem?_map, h]
  rfl
/-- One text is put in quotes. -/
theorem quote_ev (ts : List (List UInt8)) (i : Nat) (t : List UInt8) (x3 : ByteArray) (res : Bool) (hi : ts[i]? = some t) (hil : i < 100) (ht : t.length ≤ 200) (h3 : x3.size ≤ 1000000) (hgo : Ev (fun k => haversacklaw17_ScriptQuotes.l0 k (toB ts) (x3 ++ mkB (wr t ++ [10])) ((i + 1 : Nat) : Int)) res) :
    ∀ (l p : List UInt8), t = p ++ l → Ev (fun k => haversacklaw17_ScriptQuotes.l1 k (toB ts) x3 (i : Int) (mkB (esc p)) (p.length : Int)) res
  | [], p, hp => by
    have hlen : i < (toB ts).length := by
      have := (List.getElem?_eq_some_iff.1 hi).1
      unfold toB
      rw [List.length_map]
      exact this
    rw [List.append_nil] at hp
    subst hp
    have he := esc_len t
    have hs1 : (x3 ++ (⟨#[119, 114, 105, 116, 101, 32, 102, 32, 34]⟩ : ByteArray)).size = x3.size + 9 := by rw [ByteArray.size_append]; rfl
    have hs2 : ((x3 ++ (⟨#[119, 114, 105, 116, 101, 32, 102, 32, 34]⟩ : ByteArray)) ++ mkB (esc t)).size = x3.size + 9 + (esc t).length := by rw [ByteArray.size_append, hs1]; rfl
    refine Ev.step (fun k => ?_) hgo
    simp only [haversacklaw17_ScriptQuotes.l1]
    rw [if_pos (by omega), if_pos (by omega), rd_toB ts i t hi, if_neg (by rw [mkB_size]; omega), if_pos (by omega), if_pos (by rw [hs1, mkB_size]; omega), if_pos (by rw [hs2]; omega), w64 (by omega)]
    congr 1
    apply bytes_ext
    simp [wr, mkB]
  | c :: l, p, hp => by
    have hlen : i < (toB ts).length := by
      have := (List.getElem?_eq_some_iff.1 hi).1
      unfold toB
      rw [List.length_map]
      exact this
    have ih := quote_ev ts i t x3 res hi hil ht h3 hgo l (p ++ [c]) (by rw [hp]; simp)
    have hesc : esc (p ++ [c]) = esc p ++ escB c := by simp [esc]
    have hsz : t.length = p.length + l.length + 1 := by rw [hp, List.length_append, List.length_cons]; omega
    have hb : Hid (bt (mkB t) (p.length : Int) = (c.toNat : Int)) := Lib.hid (by rw [hp]; exact bt_app p c l _ rfl)
    have hw : wrap64 ((p.length : Int) + 1) = ((p.length + 1 : Nat) : Int) := w64 (by omega)
    have hcast : ((p.length + 1 : Nat) : Int) = ((p ++ [c]).length : Int) := cast_len p c
    have hex : (mkB t).extract p.length (p.length + 1) = mkB [c] := by
      rw [mk_take, hp]
      simp
    have he := esc_len p
    have hrd := rd_toB ts i t hi
    have hj : ∀ b : Bool, b = decide (c = 34 ∨ c = 92) → Ev (fun k => haversacklaw17_ScriptQuotes.j2 k (toB ts) x3 (i : Int) (mkB (esc p)) (p.length : Int) (c.toNat : Int) b) res := fun b hb2 => by
      refine Ev.step (fun k => ?_) ih
      simp only [haversacklaw17_ScriptQuotes.j2]
      rw [hrd, hw, Int.toNat_natCast, Int.toNat_natCast, hex, hesc]
      have hs3 : (mkB (esc p) ++ (⟨#[92]⟩ : ByteArray)).size = (esc p).length + 1 := by rw [ByteArray.size_append]; rfl
      unfold escB
      by_cases hq : c = 34 ∨ c = 92
      · rw [if_pos (by rw [hb2]; simpa using hq), if_pos (by rw [mkB_size]; omega), if_pos (by omega), if_pos (by omega), if_pos (by omega), if_pos (by omega), if_pos (by rw [mkB_size]; omega), if_pos (by rw [hs3, mkB_size]; simp; omega), if_pos hq, hcast]
        congr 1
        exact bytes_ext (by simp [mkB])
      · rw [if_neg (by rw [hb2]; simpa using hq), if_neg hq]
        by_cases h10 : c = 10
        · subst h10
          rw [if_pos (by decide), if_pos (by rw [mkB_size]; omega), if_pos rfl, hcast]
          congr 1
        · rw [if_neg (show ¬ ((c.toNat : Int) = 10) from b_ne (n := 10) (by decide) h10), if_pos (by omega), if_pos (by omega), if_pos (by omega), if_pos (by omega), if_pos (by rw [mkB_size]; omega), if_pos (by rw [mkB_size, mkB_size]; simp; omega), if_neg h10, hcast]
          congr 1
    by_cases h34 : c = 34
    · refine Ev.step (fun k => ?_) (hj ((c.toNat : Int) == 34) (by rw [h34]; rfl))
      simp only [haversacklaw17_ScriptQuotes.l1]
      rw [if_pos (by omega), if_pos (by omega), hrd, if_pos (by rw [mkB_size]; omega), if_pos (by omega), hb.out, if_pos (by rw [h34]; rfl)]
    · have n34 : ¬ ((c.toNat : Int) = 34) := b_ne (n := 34) (by decide) h34
      refine Ev.step (fun k => ?_) (hj ((c.toNat : Int) == 92) ?_)
      · simp only [haversacklaw17_ScriptQuotes.l1]
        rw [if_pos (by omega), if_pos (by omega), hrd, if_pos (by rw [mkB_size]; omega), if_pos (by omega), hb.out, if_neg n34]
      · by_cases h92 : c = 92
        · rw [h92]; rfl
        · rw [beq_eq_false_iff_ne.2 (show ¬ ((c.toNat : Int) = 92) from b_ne (n := 92) (by decide) h92)]
          exact (decide_eq_false (fun e => e.elim h34 h92)).symm
/-- The end: what was read is as it was. -/
theorem check_ev (ts : List (List UInt8)) (hl : ts.length ≤ 100) : ∀ d i : Nat, i + d = ts.length → Ev (fun k => haversacklaw17_ScriptQuotes.l2 k (toB ts) (ts.map wrS) (i : Int)) true
  | 0, i, h => by
    refine Ev.step (f := fun _ => some true) (fun k => ?_) (Ev.now _)
    simp only [haversacklaw17_ScriptQuotes.l2]
    rw [if_neg (by rw [List.length_map]; omega)]
  | d + 1, i, h => by
    obtain ⟨t, ht⟩ : ∃ t, ts[i]? = some t := ⟨_, List.getElem?_eq_getElem (by omega)⟩
    have hrd : rd_T41 (ts.map wrS) (i : Int) = wrS t := by
      unfold rd_T41
      rw [Int.toNat_natCast, List.getD_eq_getElem?_getD, List.getElem?_map, ht]
      rfl
    refine Ev.step (fun k => ?_) (check_ev ts hl d (i + 1) (by omega))
    simp only [haversacklaw17_ScriptQuotes.l2]
    rw [if_pos (by rw [List.length_map]; omega), if_pos (by omega), if_pos (by unfold toB; rw [List.length_map]; omega), hrd, rd_toB ts i t ht, if_pos (show (wrS t).f3.toList = (mkB t).toList from rfl), if_pos (show (wrS t).f1.toList = [102] from mkB_toList [102]), w64 (by omega)]
theorem quotes_end (ts : List (List UInt8)) (hl : ts.length ≤ 10) (h : ∀ t ∈ ts, t.length ≤ 200) : Ev (fun k => haversacklaw17_ScriptQuotes.l0 k (toB ts) (mkB (lines (ts.map wr))) ((ts.length : Nat) : Int)) true := by
  have hle : ∀ l : List (List UInt8), (∀ t ∈ l, t.length ≤ 200) → (lines (l.map wr)).length ≤ 500 * l.length := by
    intro l
    induction l with
    | nil => intro _; simp [lines]
    | cons t l ih =>
      intro hh
      have h1 := ih (fun x hx => hh x (List.mem_cons_of_mem _ hx))
      have h2 := esc_len t
      have h3 := hh t List.mem_cons_self
      rw [show lines ((t :: l).map wr) = (wr t ++ [10]) ++ lines (l.map wr) by simp [lines], List.length_append]
      simp only [List.length_cons]
      have : (wr t ++ [10]).length ≤ 450 := by simp [wr]; omega
      omega
  have h1 := parse_lines (ts.map wr) (fun a ha c hc => by
    obtain ⟨t, _, rfl⟩ := List.mem_map.1 ha
    unfold wr at hc
    rcases List.mem_append.1 hc with hc | hc
    · rcases List.mem_append.1 hc with hc | hc
      · intro e
        subst e
        revert hc
        decide
      · exact esc_ne10 t c hc
    · rw [List.mem_singleton.1 hc]; decide) (by have := hle ts h; omega) (parse_wr ts [] 0 h (by simp; omega))
  rw [List.nil_append] at h1
  have h2 : Ev (fun k => script_Text.f k (ts.map wrS)) (mkB (lines (ts.map wr))) := by
    have := text_wr ts [] h (by simp; omega)
    rw [List.nil_append] at this
    exact this
  have h4 : Ev (fun k => haversacklaw17_ScriptQuotes.j3 k (toB ts) (ts.map wrS) false) true := by
    refine Ev.step (fun k => ?_) (check_ev ts (by omega) ts.length 0 (by omega))
    simp only [haversacklaw17_ScriptQuotes.j3]
    rw [if_neg (by simp)]
    rfl
  obtain ⟨K1, e1⟩ := h1
  obtain ⟨K2, e2⟩ := h2
  obtain ⟨K4, e4⟩ := h4
  refine ⟨K1 + K2 + K4 + 1, fun k hk => ?_⟩
  obtain ⟨k, rfl⟩ : ∃ m, k = m + 1 := ⟨k - 1, by omega⟩
  have e1' : script_Parse.f k (mkB (lines (ts.map wr))) = some (ts.map wrS, 0, 0) := e1 k (by omega)
  have e2' : script_Text.f k (ts.map wrS) = some (mkB (lines (ts.map wr))) := e2 k (by omega)
  have e4' : haversacklaw17_ScriptQuotes.j3 k (toB ts) (ts.map wrS) false = some true := e4 k (by omega)
  simp only [haversacklaw17_ScriptQuotes.l0]
  rw [if_neg (by unfold toB; rw [List.length_map]; omega), e1', Option.bind_some, if_pos rfl, if_pos (by unfold toB; rw [List.length_map, List.length_map]), e2', Option.bind_some]
  rw [show ((mkB (lines (ts.map wr))).toList != (mkB (lines (ts.map wr))).toList) = false by simp]
  exact e4'
theorem quotes_ev (ts : List (List UInt8)) (hl : ts.length ≤ 10) : ∀ d i : Nat, i + d = ts.length → (∀ (j : Nat) t, j < i → ts[j]? = some t → t.length ≤ 200) → Ev (fun k => haversacklaw17_ScriptQuotes.l0 k (toB ts) (mkB (lines ((ts.take i).map wr))) (i : Int)) true
  | 0, i, h, hlt => by
    have hi : i = ts.length := by omega
    subst hi
    rw [List.take_length]
    exact quotes_end ts hl (fun t ht => by
      obtain ⟨j, hj, he⟩ := List.mem_iff_getElem.1 ht
      exact hlt j t hj (by rw [List.getElem?_eq_getElem hj, he]))
  | d + 1, i, h, hlt => by
    obtain ⟨t, ht⟩ : ∃ t, ts[i]? = some t := ⟨_, List.getElem?_eq_getElem (by omega)⟩
    have hrd := rd_toB ts i t ht
    by_cases hbig : t.length ≤ 200
    · have ih := quotes_ev ts hl d (i + 1) (by omega) (fun j u hj hu => by
        by_cases e : j = i
        · subst e
          rw [ht] at hu
          cases hu
          exact hbig
        · exact hlt j u (by omega) hu)
      have htake : ts.take (i + 1) = ts.take i ++ [t] := by rw [List.take_add_one, ht]; rfl
      rw [htake, List.map_append, show lines ((ts.take i).map wr ++ [t].map wr) = lines ((ts.take i).map wr) ++ (wr t ++ [10]) by simp [lines], ← mkB_append] at ih
      have hsz : (mkB (lines ((ts.take i).map wr))).size ≤ 1000000 := by
        rw [mkB_size]
        have hle : ∀ l : List (List UInt8), (∀ t ∈ l, t.length ≤ 200) → (lines (l.map wr)).length ≤ 500 * l.length := by
          intro l
          induction l with
          | nil => intro _; simp [lines]
          | cons t l ih =>
            intro hh
            have h1 := ih (fun x hx => hh x (List.mem_cons_of_mem _ hx))
            have h2 := esc_len t
            have h3 := hh t List.mem_cons_self
            rw [show lines ((t :: l).map wr) = (wr t ++ [10]) ++ lines (l.map wr) by simp [lines], List.length_append]
            simp only [List.length_cons]
            have : (wr t ++ [10]).length ≤ 450 := by simp [wr]; omega
            omega
        have h5 := hle (ts.take i) (fun u hu => by
          obtain ⟨j, hj, he⟩ := List.mem_iff_getElem.1 hu
          rw [List.length_take] at hj
          rw [List.getElem_take] at he
          exact hlt j u (by omega) (by rw [List.getElem?_eq_getElem (by omega), he]))
        rw [List.length_take] at h5
        omega
      refine Ev.step (fun k => ?_) (quote_ev ts i t _ true ht (by omega) hbig hsz ih t [] rfl)
      simp only [haversacklaw17_ScriptQuotes.l0]
      rw [if_pos (by unfold toB; rw [List.length_map]; omega), if_pos (by omega), hrd, if_neg (by rw [mkB_size]; omega)]
      rfl
    · refine Ev.step (f := fun _ => some true) (fun k => ?_) (Ev.now _)
      simp only [haversacklaw17_ScriptQuotes.l0]
      rw [if_pos (by unfold toB; rw [List.length_map]; omega), if_pos (by omega), hrd, if_pos (by rw [mkB_size]; omega)]
theorem quotes_pure (l : List ByteArray) : Ev (fun k => haversacklaw17_ScriptQuotes.f k l) true := by
  unfold haversacklaw17_ScriptQuotes.f
  refine Ev.bind known_evQ ?_
  by_cases h : l.length ≤ 10
  · obtain ⟨ts, rfl⟩ : ∃ ts, l = toB ts := ⟨_, (toB_of l).symm⟩
    have hl : ts.length ≤ 10 := by unfold toB at h; rw [List.length_map] at h; exact h
    refine Ev.congr (fun k => ?_) (quotes_ev ts hl ts.length 0 (by omega) (fun j t hj _ => by omega))
    rw [if_pos rfl, if_neg (by omega)]
    rfl
  · refine Ev.congr (fun k => ?_) (Ev.now _)
    rw [if_pos rfl, if_pos (by omega)]

/-! ### at a slice of strings that came in -/
def IsRowS (w : World) (a : Option Addr) (len cap : Nat) (l : List ByteArray) : Prop := Kd.C Kd.string w a l.length l ∧ l.length = len ∧ len ≤ cap
theorem isRowS_nil (w : World) : IsRowS w none 0 0 [] := ⟨⟨rfl, Nat.zero_le _, fun h => absurd h (by simp)⟩, rfl, Nat.le_refl _⟩
theorem isRowS_of {w : World} {x : Addr} {len cap : Nat} {ss : List ByteArray} (hl : len ≤ cap) (hm : cap ≤ maxLen) (hz : ss.length = cap) (hcell : ∀ i, i < ss.length → w.cell? (x.add i) = some (.string (ss.getD i ByteArray.empty))) : IsRowS w (some x) len cap (ss.take len) := by
  have hlen : (ss.take len).length = len := by rw [List.length_take]; omega
  refine ⟨⟨rfl, by unfold maxLen at hm; omega, fun _ => ⟨x, rfl, fun j y hj => ⟨[.string y], rfl, rfl, fun i u hu => ?_⟩⟩⟩, hlen, hl⟩
  obtain ⟨hj1, hj2⟩ := List.getElem?_eq_some_iff.1 hj
  rw [List.getElem_take] at hj2
  have hjs : j < ss.length := by omega
  have h := hcell j hjs
  rw [List.getD_eq_getElem?_getD, List.getElem?_eq_getElem hjs, Option.getD_some, hj2] at h
  match i, hu with
  | 0, hu =>
    cases hu
    rw [show j * Kd.string.sz + 0 = j from Nat.mul_one j]
    exact h
theorem ScriptQuotes (a : Option Addr) (len cap : Nat) (l : List ByteArray) (w : World) (h : IsRowS w a len cap l) :
    Calls Tryd.prog 6 #[.slice a len cap] w fun e w' => e = .returned (.bool true) ∧ Below w.heap.size w w' := by
  obtain ⟨h1, rfl, h3⟩ := h
  obtain ⟨k, hk⟩ := (quotes_pure l).rounds
  exact haversacklaw17_ScriptQuotes.calls k a cap l true w h1 h3 hk
end Go.Proofs.YtkcemdfhhdjdaaaDoor.Pure
