/- script.asked, walked by hand: the rest. -/
import Derived.Test.YtkcemdfhhdjdaaaDoorAsked
import Derived.Outline
namespace Go.Proofs.YtkcemdfhhdjdaaaDoor.Ext
open Go Go.RowKit Go.Lib Go.Shelf Go.Proofs.YtkcemdfhhdjdaaaDoorW.PrintWords Go.Proofs.YtkcemdfhhdjdaaaDoorW.PrintLast
set_option linter.unusedVariables false
set_option linter.unusedSimpArgs false
set_option maxRecDepth 100000 in
set_option maxHeartbeats 4000000 in
theorem ask_three (b o c : Nat) (a : ByteArray) (w : World) (hb : b < w.heap.size) (h0 : w.cell? ⟨b, o, none⟩ = some (.string ⟨#[110, 111, 116]⟩)) (h1 : w.cell? ⟨b, o + 1, none⟩ = some (.string ⟨#[101, 120, 105, 115, 116, 115]⟩)) (h2 : w.cell? ⟨b, o + 2, none⟩ = some (.string a)) (hm : 3 ≤ c) (hp : B.script_plain.f a = some true) :
    Calls Tryd.prog 43 #[.slice (some ⟨b, o, none⟩) 3 c] w (AskPost (7, a, ⟨#[]⟩, ⟨#[]⟩, 0, true, true) w) := by
  have hu41 := Tryd.underlying41
  have HP := Lib.hid hp
  clear hp
  go_enter Tryd.func43, Tryd.ntmps43
  go_wp2_with fail
  go_region
  all_goals
    clear hu41
    go_wp2_with fail
    refine (B.script_plain.calls a true _ HP.out).mono ?_
    rintro e w' ⟨rfl, ⟨nd, rfl⟩⟩
    have hu41 := Tryd.underlying41
    have g0 : ((((w.alloc (.cells #[.int .i64 0, .string ⟨#[]⟩, .string ⟨#[]⟩, .string ⟨#[]⟩, .int .i64 0, .bool false] 41)).alloc (.cells #[.int .i64 7, .string ⟨#[]⟩, .string ⟨#[]⟩, .string ⟨#[]⟩, .int .i64 0, .bool true] 41)).drew).drewN nd).heap[w.heap.size]? = some (.cells #[.int .i64 0, .string ⟨#[]⟩, .string ⟨#[]⟩, .string ⟨#[]⟩, .int .i64 0, .bool false] 41 (0, 0)) := heap_two _ _ _
    have g1 : ((((w.alloc (.cells #[.int .i64 0, .string ⟨#[]⟩, .string ⟨#[]⟩, .string ⟨#[]⟩, .int .i64 0, .bool false] 41)).alloc (.cells #[.int .i64 7, .string ⟨#[]⟩, .string ⟨#[]⟩, .string ⟨#[]⟩, .int .i64 0, .bool true] 41)).drew).drewN nd).heap[w.heap.size + 1]? = some (.cells #[.int .i64 7, .string ⟨#[]⟩, .string ⟨#[]⟩, .string ⟨#[]⟩, .int .i64 0, .bool true] 41 (0, 0)) := by
      have := heap_new' (w.alloc (.cells #[.int .i64 0, .string ⟨#[]⟩, .string ⟨#[]⟩, .string ⟨#[]⟩, .int .i64 0, .bool false] 41)) (.cells #[.int .i64 7, .string ⟨#[]⟩, .string ⟨#[]⟩, .string ⟨#[]⟩, .int .i64 0, .bool true] 41)
      rwa [World.size_alloc] at this
    have gB : Below w.heap.size w ((((w.alloc (.cells #[.int .i64 0, .string ⟨#[]⟩, .string ⟨#[]⟩, .string ⟨#[]⟩, .int .i64 0, .bool false] 41)).alloc (.cells #[.int .i64 7, .string ⟨#[]⟩, .string ⟨#[]⟩, .string ⟨#[]⟩, .int .i64 0, .bool true] 41)).drew).drewN nd) := pw_below_drewN (below_drew1 ((Below.refl _ _).alloc (Nat.le_refl _) _ |>.alloc (by simp) _)) nd
    generalize (((w.alloc (.cells #[.int .i64 0, .string ⟨#[]⟩, .string ⟨#[]⟩, .string ⟨#[]⟩, .int .i64 0, .bool false] 41)).alloc (.cells #[.int .i64 7, .string ⟨#[]⟩, .string ⟨#[]⟩, .string ⟨#[]⟩, .int .i64 0, .bool true] 41)).drew).drewN nd = W at g0 g1 gB ⊢
    have k0 := blk_cell g1 0
    have k1 := blk_cell g1 1
    have k2 := blk_cell g1 2
    have k3 := blk_cell g1 3
    have k4 := blk_cell g1 4
    have k5 := blk_cell g1 5
    have j0 := blk_cell g0 0
    have j1 := blk_cell g0 1
    have j2 := blk_cell g0 2
    have j3 := blk_cell g0 3
    have j4 := blk_cell g0 4
    have j5 := blk_cell g0 5
    have z := fun i => blk_frozen g1 i
    have y := fun i => blk_frozen g0 i
    have n1 : W.cell? ⟨b, o + 1 + 1, none⟩ = some (.string a) := (gB.cell (p := ⟨b, o + 2, none⟩) hb).trans h2
    simp only [List.getElem?_toArray, List.getElem?_cons_zero, List.getElem?_cons_succ] at k0 k1 k2 k3 k4 k5 j0 j1 j2 j3 j4 j5
    have HG := Lib.hid (And.intro g0 (And.intro g1 gB))
    clear g0 g1 gB
    go_wp2_with fail
    obtain ⟨g0, g1, gB⟩ := HG.out
    refine bodyPost_ret (results_ct rfl _ _ w.heap.size 41 #[.int .i64 7, .string a, .string ⟨#[]⟩, .string ⟨#[]⟩, .int .i64 0, .bool true] (0, 0) _ rfl (by
      refine blk_put (cs := #[.int .i64 7, .string a, .string ⟨#[]⟩, .string ⟨#[]⟩, .int .i64 0, .bool false]) ?_ 5 _ rfl
      refine blk_put (cs := #[.int .i64 7, .string a, .string ⟨#[]⟩, .string ⟨#[]⟩, .int .i64 0, .bool false]) ?_ 4 _ rfl
      refine blk_put (cs := #[.int .i64 7, .string a, .string ⟨#[]⟩, .string ⟨#[]⟩, .int .i64 0, .bool false]) ?_ 3 _ rfl
      refine blk_put (cs := #[.int .i64 7, .string a, .string ⟨#[]⟩, .string ⟨#[]⟩, .int .i64 0, .bool false]) ?_ 2 _ rfl
      refine blk_put (cs := #[.int .i64 7, .string ⟨#[]⟩, .string ⟨#[]⟩, .string ⟨#[]⟩, .int .i64 0, .bool false]) ?_ 1 _ rfl
      refine blk_put (cs := #[.int .i64 0, .string ⟨#[]⟩, .string ⟨#[]⟩, .string ⟨#[]⟩, .int .i64 0, .bool false]) ?_ 0 _ rfl
      refine blk_far ?_ (Nat.ne_of_lt (Nat.lt_succ_self _)) _
      exact g0) hu41 rfl (by kernel_rfl)) rfl ?_
    exact ⟨rfl, below_set (below_set (below_set (below_set (below_set (below_set (below_set gB (Nat.le_succ _)) (Nat.le_refl _)) (Nat.le_refl _)) (Nat.le_refl _)) (Nat.le_refl _)) (Nat.le_refl _)) (Nat.le_refl _)⟩

/-- What asked's contract speaks of: all but lists that begin with 'not' and are no 'not exists PLAIN', and but an 'exists' before a quoted word. -/
def script_asked.f (k : Nat) : List ByteArray → Option (Int × ByteArray × ByteArray × ByteArray × Int × Bool × Bool)
  | [] => some noR
  | [x] => if x = ⟨#[110, 111, 116]⟩ then none else some noR
  | [x, a] => if x = ⟨#[110, 111, 116]⟩ then none else if x = ⟨#[101, 120, 105, 115, 116, 115]⟩ then (if B.script_plain.f a = some true then some (7, a, ⟨#[]⟩, ⟨#[]⟩, 0, false, true) else none) else none
  | [x, y, a] => if x = ⟨#[110, 111, 116]⟩ then (if y = ⟨#[101, 120, 105, 115, 116, 115]⟩ then (if B.script_plain.f a = some true then some (7, a, ⟨#[]⟩, ⟨#[]⟩, 0, true, true) else none) else none) else some noR
  | x :: y :: z :: t :: l => if x = ⟨#[110, 111, 116]⟩ then none else some noR
theorem script_asked.mono : ∀ a0 k, LeO (script_asked.f k a0) (script_asked.f (k + 1) a0) := fun a0 k => by
  have : script_asked.f k a0 = script_asked.f (k + 1) a0 := by unfold script_asked.f; rfl
  rw [this]
  exact LeO.refl _
theorem not_list {x : ByteArray} (h : ¬ x = ⟨#[110, 111, 116]⟩) : x.toList ≠ [110, 111, 116] := by
  intro e
  apply h
  rw [ByteArray.toList_eq] at e
  obtain ⟨⟨l⟩⟩ := x
  have : l = [110, 111, 116] := e
  rw [this]
theorem script_asked.calls (k : Nat) (A0 : Option Addr) (c0 : Nat) (l0 : List ByteArray) (r1 : Int) (r2 : ByteArray) (r3 : ByteArray) (r4 : ByteArray) (r5 : Int) (r6 : Bool) (r7 : Bool) (w : World) (hr0 : Kd.C Kd.string w A0 l0.length l0) (hc0 : l0.length ≤ c0) (h : script_asked.f k l0 = some (r1, r2, r3, r4, r5, r6, r7)) :
    Calls Tryd.prog 43 #[.slice A0 l0.length c0] w fun e w' => e = .returned (.tuple #[.agg #[.int .i64 r1, .string r2, .string r3, .string r4, .int .i64 r5, .bool r6], .bool r7]) ∧ Below w.heap.size w w' := by
  have hbig : l0.length ≤ 9223372036854775807 := hr0.2.1
  match l0, hr0, hc0, h, hbig with
  | [], hr, hc, h, _ => 
    simp only [script_asked.f] at h
    cases h
    exact ask_nil A0 c0 w
  | x :: l, hr, hc, h, hbig =>
    obtain ⟨b, o, rfl, hb, hcell⟩ := C_cells hr (by simp)
    have hx := hcell 0 x rfl
    by_cases hnot : x = ⟨#[110, 111, 116]⟩
    · match l, hr, hc, h, hbig, hcell with
      | [y, a], hr, hc, h, hbig, hcell =>
        simp only [script_asked.f] at h
        rw [if_pos hnot] at h
        split at h
        · rename_i hy
          split at h
          · rename_i hp
            cases h
            subst hnot hy
            exact ask_three b o c0 _ w hb hx (hcell 1 _ rfl) (hcell 2 _ rfl) hc hp
          · cases h
        · cases h
      | [], hr, hc, h, hbig, hcell => simp only [script_asked.f] at h; rw [if_pos hnot] at h; cases h
      | [y], hr, hc, h, hbig, hcell => simp only [script_asked.f] at h; rw [if_pos hnot] at h; cases h
      | y :: z :: t :: l, hr, hc, h, hbig, hcell => simp only [script_asked.f] at h; rw [if_pos hnot] at h; cases h
    · match l, hr, hc, h, hbig, hcell with
      | [a], hr, hc, h, hbig, hcell =>
        simp only [script_asked.f] at h
        rw [if_neg hnot] at h
        split at h
        · rename_i hy
          split at h
          · rename_i hp
            cases h
            subst hy
            exact ask_two b o c0 _ w hb hx (hcell 1 _ rfl) hc hp
          · cases h
        · cases h
      | [], hr, hc, h, hbig, hcell =>
        simp only [script_asked.f] at h
        rw [if_neg hnot] at h
        cases h
        exact ask_ne b o c0 1 x w hb hx (by omega) hc hbig (by omega) (not_list hnot)
      | [y, a], hr, hc, h, hbig, hcell =>
        simp only [script_asked.f] at h
        rw [if_neg hnot] at h
        cases h
        exact ask_ne b o c0 3 x w hb hx (by omega) hc hbig (by omega) (not_list hnot)
      | y :: z :: t :: l, hr, hc, h, hbig, hcell =>
        simp only [script_asked.f] at h
        rw [if_neg hnot] at h
        cases h
        exact ask_ne b o c0 _ x w hb hx (by simp) hc hbig (by simp) (not_list hnot)
end Go.Proofs.YtkcemdfhhdjdaaaDoor.Ext
