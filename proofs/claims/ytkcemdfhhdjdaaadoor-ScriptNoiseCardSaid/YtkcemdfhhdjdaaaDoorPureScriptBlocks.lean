/- ScriptBlocks, plainly: the law's own function answers true at every list of numbers. -/
import Derived.Test.YtkcemdfhhdjdaaaDoorPureB
import Derived.Test.YtkcemdfhhdjdaaaDoorPx10
import Derived.KernelRfl
namespace Go.Proofs.YtkcemdfhhdjdaaaDoor.Pure
open Go Go.RowKit Go.Lib Go.Proofs.YtkcemdfhhdjdaaaDoor.P Go.Proofs.YtkcemdfhhdjdaaaDoor.B Go.Proofs.YtkcemdfhhdjdaaaDoor.Ext Go.Proofs.YtkcemdfhhdjdaaaDoorW.PrintWords
set_option linter.unusedVariables false
set_option linter.unusedSimpArgs false

theorem known_evB : Ev (fun k => haversacklaw17_known.f k) true := Ev.of (fun k => haversacklaw17_known.mono k) (k := 60) (by kernel_rfl)
theorem u8_bdB {x : Int} (h : (Lit.int .u8 x).wf = true) : 0 ≤ x ∧ x ≤ 255 := by
  simp [Lit.wf, IntKind.min, IntKind.max, IntKind.signed, IntKind.bits] at h
  omega
def tx (x : Int) : List UInt8 := tab.getD (x.toNat % 20) []
def mx_ (x : Int) : Out := mab.getD (x.toNat % 20) .skip
theorem text_tx (x : Int) (h : 0 ≤ x ∧ x ≤ 255) : haversacklaw17_text.f x = some (mkB (tx x)) := by
  obtain ⟨n, rfl⟩ := Int.eq_ofNat_of_zero_le h.1
  unfold haversacklaw17_text.f tx
  simp only [Option.bind_some]
  rw [show Int.tmod ((n : Nat) : Int) 20 = ((n % 20 : Nat) : Int) from rfl, if_pos (by omega), if_pos (by simp; omega), Int.toNat_natCast]
  congr 1
  have hm : n % 20 < 20 := Nat.mod_lt _ (by decide)
  generalize n % 20 = m at hm ⊢
  match m, hm with
  | 0, _ => rfl
  | 1, _ => rfl
  | 2, _ => rfl
  | 3, _ => rfl
  | 4, _ => rfl
  | 5, _ => rfl
  | 6, _ => rfl
  | 7, _ => rfl
  | 8, _ => rfl
  | 9, _ => rfl
  | 10, _ => rfl
  | 11, _ => rfl
  | 12, _ => rfl
  | 13, _ => rfl
  | 14, _ => rfl
  | 15, _ => rfl
  | 16, _ => rfl
  | 17, _ => rfl
  | 18, _ => rfl
  | 19, _ => rfl
  | m + 20, hm => omega
theorem tab_at (x : Int) : tab[x.toNat % 20]? = some (tx x) ∧ mab[x.toNat % 20]? = some (mx_ x) := by
  have hm : x.toNat % 20 < 20 := Nat.mod_lt _ (by decide)
  unfold tx mx_
  rw [List.getD_eq_getElem?_getD, List.getD_eq_getElem?_getD, List.getElem?_eq_getElem (by exact hm), List.getElem?_eq_getElem (by exact hm)]
  exact ⟨rfl, rfl⟩
theorem tab_all : ∀ t ∈ tab, t.length ≤ 20 ∧ ∀ c ∈ t, c ≠ 10 := by decide
theorem tx_ok (x : Int) : (tx x).length ≤ 20 ∧ ∀ c ∈ tx x, c ≠ 10 := tab_all _ (List.mem_of_getElem? (tab_at x).1)
theorem tx_pm (x : Int) : PM (tx x) (mx_ x) ∧ RM (tx x) (mx_ x) := pm_tab _ _ _ (tab_at x).1 (tab_at x).2
theorem lines_tx : ∀ l : List Int, (lines (l.map tx)).length ≤ 21 * l.length
  | [] => by simp [lines]
  | x :: l => by
    have h1 := lines_tx l
    have h2 := (tx_ok x).1
    rw [show lines ((x :: l).map tx) = (tx x ++ [10]) ++ lines (l.map tx) by simp [lines], List.length_append, List.length_append]
    simp only [List.length_cons, List.length_nil]
    omega
theorem rd_at (l : List Int) (i : Nat) (x : Int) (h : l[i]? = some x) : rd l (i : Int) = x := by
  unfold rd
  rw [Int.toNat_natCast, List.getD_eq_getElem?_getD, h]
  rfl
theorem written_ev (l : List Int) (hl : l.length ≤ 1000) (hw : ∀ x ∈ l, (Lit.int .u8 x).wf = true) : ∀ d i : Nat, i + d = l.length → Ev (fun k => haversacklaw17_written.l0 k l (mkB (lines ((l.take i).map tx))) (i : Int)) (mkB (lines (l.map tx)))
  | 0, i, h => by
    rw [List.take_of_length_le (by omega)]
    refine Ev.step (f := fun _ => some (mkB (lines (l.map tx)))) (fun k => ?_) (Ev.now _)
    simp only [haversacklaw17_written.l0]
    rw [if_neg (by omega)]
  | d + 1, i, h => by
    obtain ⟨x, hx⟩ : ∃ x, l[i]? = some x := ⟨_, List.getElem?_eq_getElem (by omega)⟩
    have hxw := u8_bdB (hw x (List.mem_of_getElem? hx))
    have ih := written_ev l hl hw d (i + 1) (by omega)
    rw [List.take_add_one, hx] at ih
    simp only [Option.toList_some] at ih
    rw [List.map_append, show lines ((l.take i).map tx ++ [x].map tx) = lines ((l.take i).map tx) ++ (tx x ++ [10]) by simp [lines]] at ih
    have hsz := lines_tx (l.take i)
    rw [List.length_take] at hsz
    have hx20 := (tx_ok x).1
    refine Ev.step (fun k => ?_) ih
    simp only [haversacklaw17_written.l0]
    rw [if_pos (by omega), if_pos (by omega), rd_at l i x hx, text_tx x hxw, Option.bind_some, if_pos (by rw [mkB_size, mkB_size]; omega), mkB_append, if_pos (by rw [mkB_size, List.length_append]; omega), w64 (by omega)]
    rw [show (⟨#[10]⟩ : ByteArray) = mkB [10] from rfl, mkB_append, List.append_assoc]
theorem written_f (l : List Int) (hl : l.length ≤ 1000) (hw : ∀ x ∈ l, (Lit.int .u8 x).wf = true) : Ev (fun k => haversacklaw17_written.f k l) (mkB (lines (l.map tx))) := written_ev l hl hw l.length 0 (by omega)
theorem lines_selfL (l : List S41) (hl : l.length ≤ 1000000) : ∀ (d i : Nat), i + d = l.length → Ev (fun k => haversackhelp_Lines.l0 k l l (i : Int)) true
  | 0, i, h => by
    refine Ev.step (f := fun _ => some true) (fun k => ?_) (Ev.now _)
    simp only [haversackhelp_Lines.l0]
    rw [if_neg (by omega)]
  | d + 1, i, h => by
    refine Ev.step (fun k => ?_) (lines_selfL l hl d (i + 1) (by omega))
    simp only [haversackhelp_Lines.l0]
    rw [if_pos (by omega), if_pos (by omega), if_pos (by omega), if_neg (by simp), w64 (by omega)]
theorem lines_same (l : List S41) (hl : l.length ≤ 1000000) : Ev (fun k => haversackhelp_Lines.f k l l) true := by
  refine Ev.congr (fun k => ?_) (lines_selfL l hl l.length 0 (by omega))
  unfold haversackhelp_Lines.f
  rw [if_pos rfl]
  rfl
theorem run_len : ∀ (ms : List Out) (out : List S41) (st : List Int) (i : Nat), (run ms out st i).1.length ≤ out.length + ms.length
  | [], out, st, i => by
    unfold run
    split
    · simp
    · simp
  | .skip :: ms, out, st, i => by
    have := run_len ms out st (i + 1)
    unfold run
    simp only [List.length_cons]
    omega
  | .bad :: ms, out, st, i => by unfold run; simp
  | .good kd A B T n no :: ms, out, st, i => by
    unfold run
    split
    · simp
    · split
      · simp
      · rename_i st' _
        have := run_len ms (out ++ [⟨kd, A, B, T, n, no⟩]) st' (i + 1)
        simp only [List.length_append, List.length_cons, List.length_nil] at this ⊢
        omega
theorem tx_rel (l : List Int) (j : Nat) (t : List UInt8) (m : Out) (h1 : (l.map tx)[j]? = some t) (h2 : (l.map mx_)[j]? = some m) : PM t m ∧ RM t m := by
  rw [List.getElem?_map] at h1 h2
  obtain ⟨x, hx, rfl⟩ := Option.map_eq_some_iff.1 h1
  rw [hx] at h2
  cases h2
  exact tx_pm x
theorem blocks_both (l : List Int) (hl : l.length ≤ 60) : Ev (fun k => script_Parse.f k (mkB (lines (l.map tx)))) (run (l.map mx_) [] [] 0) ∧ Ev (fun k => haversackref17_Parse.f k (mkB (lines (l.map tx)))) (run (l.map mx_) [] [] 0) := by
  have hs := lines_tx l
  have h10 : ∀ a ∈ l.map tx, ∀ c ∈ a, c ≠ 10 := fun a ha => by
    obtain ⟨x, _, rfl⟩ := List.mem_map.1 ha
    exact (tx_ok x).2
  exact ⟨prog_lines _ _ (by simp) h10 (by omega) (fun j t m h1 h2 => (tx_rel l j t m h1 h2).1), ref_lines _ _ (by simp) (by simp; omega) h10 (by omega) (fun j t m h1 h2 => (tx_rel l j t m h1 h2).2)⟩
theorem ScriptBlocks : haversacklaw17_ScriptBlocks.Pure := by
  intro l _ _ hw
  have : Ev (fun k => haversacklaw17_ScriptBlocks.f k l) true := by
    unfold haversacklaw17_ScriptBlocks.f
    refine Ev.bind known_evB ?_
    by_cases hl : l.length ≤ 60
    · obtain ⟨h1, h2⟩ := blocks_both l hl
      have hwr := written_f l (by omega) hw
      have hrl := run_len (l.map mx_) [] [] 0
      rw [List.length_map, List.length_nil] at hrl
      have hls := lines_same (run (l.map mx_) [] [] 0).1 (by omega)
      refine Ev.congr (fun k => by rw [if_pos rfl, if_neg (by omega)]) ?_
      refine Ev.bind hwr (Ev.bind h1 (Ev.bind hwr (Ev.bind h2 ?_)))
      refine Ev.congr (fun k => by rw [if_pos rfl, if_pos rfl]) (Ev.bind hls (Ev.now _))
    · refine Ev.congr (fun k => by rw [if_pos rfl, if_pos (by omega)]) (Ev.now _)
  exact this.rounds
end Go.Proofs.YtkcemdfhhdjdaaaDoor.Pure
