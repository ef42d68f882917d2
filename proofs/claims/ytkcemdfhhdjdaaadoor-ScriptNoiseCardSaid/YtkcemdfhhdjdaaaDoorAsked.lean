/- script.asked, walked by hand. -/
import Derived.Test.YtkcemdfhhdjdaaaDoorExt1
import Derived.Test.YtkcemdfhhdjdaaaDoorWLast
import Derived.Test.YtkcemdfhhdjdaaaDoorWMore
import Derived.Test.YtkcemdfhhdjdaaaDoorBx1
import Derived.RegionTactic
import Derived.ChangeAlike
import Derived.Lib.Hide
namespace Go.Proofs.YtkcemdfhhdjdaaaDoor.Ext
open Go Go.RowKit Go.Lib Go.Shelf Go.Proofs.YtkcemdfhhdjdaaaDoorW.PrintWords Go.Proofs.YtkcemdfhhdjdaaaDoorW.PrintLast
set_option linter.unusedVariables false
set_option linter.unusedSimpArgs false

/-- A row of strings, told by its block and place. -/
theorem C_cells {w : World} {A : Option Addr} {l : List ByteArray} (h : Kd.C Kd.string w A l.length l) (h0 : 0 < l.length) : ∃ b o, A = some ⟨b, o, none⟩ ∧ b < w.heap.size ∧ ∀ (j : Nat) y, l[j]? = some y → w.cell? ⟨b, o + j, none⟩ = some (.string y) := by
  obtain ⟨_, _, h3⟩ := h
  obtain ⟨ad, rfl, hcell⟩ := h3 h0
  have hx : ∀ (j : Nat) y, l[j]? = some y → w.cell? (ad.add j) = some (.string y) := fun j y hj => by
    obtain ⟨cs, _, hk, hu⟩ := hcell j y hj
    have hk' : cs = [Value.string y] := hk
    have h5 := hu 0 (.string y) (by rw [hk']; rfl)
    rw [show j * Kd.string.sz + 0 = j from Nat.mul_one j] at h5
    exact h5
  obtain ⟨x, hx0⟩ : ∃ x, l[0]? = some x := ⟨_, List.getElem?_eq_getElem h0⟩
  have h00 := hx 0 x hx0
  obtain ⟨b, o, sp⟩ := ad
  have hsp : sp = none := by
    cases sp with
    | none => rfl
    | some q =>
      have h6 : w.cell? ⟨b, o, some q⟩ = some (.string x) := h00
      unfold World.cell? at h6
      split at h6
      · simp at h6
      · cases h6
  subst hsp
  refine ⟨b, o, rfl, ?_, fun j y hj => ?_⟩
  · have h6 : w.cell? ⟨b, o, none⟩ = some (.string x) := h00
    unfold World.cell? at h6
    split at h6
    · rename_i hb; exact (Array.getElem?_eq_some_iff.1 hb).1
    · cases h6
  · have h7 := hx j y hj
    unfold Addr.add at h7
    split at h7
    · rename_i e; subst e; exact h7
    · exact h7
/-- Unquoted? (The empty word panics.) -/
def plainP (a : ByteArray) : Option Bool := if 0 < a.size then some (a.data.toList.head? != some 34) else none
abbrev AskR := Int × ByteArray × ByteArray × ByteArray × Int × Bool × Bool
def noR : AskR := (0, ⟨#[]⟩, ⟨#[]⟩, ⟨#[]⟩, 0, false, false)
def exL : List UInt8 := [101, 120, 105, 115, 116, 115]
def notL : List UInt8 := [110, 111, 116]
def askE (e a : ByteArray) (not : Bool) : Option AskR := if e.toList = exL then (plainP a).bind fun p => some (if p = true then (7, a, ⟨#[]⟩, ⟨#[]⟩, 0, not, true) else noR) else some noR
def AskPost (r : AskR) (w : World) (e : Ending) (w' : World) : Prop :=
  e = .returned (.tuple #[.agg #[.int .i64 r.1, .string r.2.1, .string r.2.2.1, .string r.2.2.2.1, .int .i64 r.2.2.2.2.1, .bool r.2.2.2.2.2.1], .bool r.2.2.2.2.2.2]) ∧ Below w.heap.size w w'
theorem heap_two (w : World) (o1 o2 : Obj) : ((w.alloc o1).alloc o2).heap[w.heap.size]? = some o1 := (Below.heap_alloc _ _ _ (by simp)).trans (heap_new' _ _)

set_option maxRecDepth 100000 in
set_option maxHeartbeats 2000000 in
theorem ask_nil (A : Option Addr) (c : Nat) (w : World) : Calls Tryd.prog 43 #[.slice A 0 c] w (AskPost noR w) := by
  have hu41 := Tryd.underlying41
  go_enter Tryd.func43, Tryd.ntmps43
  go_wp2_with fail
  refine bodyPost_ret (results_ct rfl _ _ w.heap.size 41 #[.int .i64 0, .string ⟨#[]⟩, .string ⟨#[]⟩, .string ⟨#[]⟩, .int .i64 0, .bool false] (0, 0) _ rfl (heap_two _ _ _) hu41 rfl (by kernel_rfl)) rfl ?_
  exact ⟨rfl, (Below.refl _ _).alloc (Nat.le_refl _) _ |>.alloc (by simp) _⟩
set_option maxRecDepth 100000 in
set_option maxHeartbeats 4000000 in
theorem ask_ne (b o c n : Nat) (x : ByteArray) (w : World) (hb : b < w.heap.size) (hc : w.cell? ⟨b, o, none⟩ = some (.string x)) (hn : 0 < n) (hm : n ≤ c) (hbig : n ≤ 9223372036854775807) (h2 : n ≠ 2) (hx : x.toList ≠ [110, 111, 116]) :
    Calls Tryd.prog 43 #[.slice (some ⟨b, o, none⟩) n c] w (AskPost noR w) := by
  have h2i : ((n : Int) == 2) = false := beq_eq_false_iff_ne.2 (by omega)
  have h2n : ((n : Int) != 2) = true := bne_iff_ne.2 (by omega)
  have hxb : (x.toList == [110, 111, 116]) = false := beq_eq_false_iff_ne.2 hx
  have hu41 := Tryd.underlying41
  go_enter Tryd.func43, Tryd.ntmps43
  go_wp2_with fail
  refine bodyPost_ret (results_ct rfl _ _ w.heap.size 41 #[.int .i64 0, .string ⟨#[]⟩, .string ⟨#[]⟩, .string ⟨#[]⟩, .int .i64 0, .bool false] (0, 0) _ rfl (heap_two _ _ _) hu41 rfl (by kernel_rfl)) rfl ?_
  exact ⟨rfl, (Below.refl _ _).alloc (Nat.le_refl _) _ |>.alloc (by simp) _⟩
set_option maxRecDepth 100000 in
set_option maxHeartbeats 4000000 in
theorem ask_two (b o c : Nat) (a : ByteArray) (w : World) (hb : b < w.heap.size) (h0 : w.cell? ⟨b, o, none⟩ = some (.string ⟨#[101, 120, 105, 115, 116, 115]⟩)) (h1 : w.cell? ⟨b, o + 1, none⟩ = some (.string a)) (hm : 2 ≤ c) (hp : B.script_plain.f a = some true) :
    Calls Tryd.prog 43 #[.slice (some ⟨b, o, none⟩) 2 c] w (AskPost (7, a, ⟨#[]⟩, ⟨#[]⟩, 0, false, true) w) := by
  have hu41 := Tryd.underlying41
  have HP := Lib.hid hp
  clear hp
  go_enter Tryd.func43, Tryd.ntmps43
  go_wp2_with fail
  refine (B.script_plain.calls a true _ HP.out).mono ?_
  rintro e w' ⟨rfl, ⟨nd, rfl⟩⟩
  have g0 : (((w.alloc (.cells #[.int .i64 0, .string ⟨#[]⟩, .string ⟨#[]⟩, .string ⟨#[]⟩, .int .i64 0, .bool false] 41)).alloc (.cells #[.int .i64 7, .string ⟨#[]⟩, .string ⟨#[]⟩, .string ⟨#[]⟩, .int .i64 0, .bool false] 41)).drewN nd).heap[w.heap.size]? = some (.cells #[.int .i64 0, .string ⟨#[]⟩, .string ⟨#[]⟩, .string ⟨#[]⟩, .int .i64 0, .bool false] 41 (0, 0)) := heap_two _ _ _
  have g1 : (((w.alloc (.cells #[.int .i64 0, .string ⟨#[]⟩, .string ⟨#[]⟩, .string ⟨#[]⟩, .int .i64 0, .bool false] 41)).alloc (.cells #[.int .i64 7, .string ⟨#[]⟩, .string ⟨#[]⟩, .string ⟨#[]⟩, .int .i64 0, .bool false] 41)).drewN nd).heap[w.heap.size + 1]? = some (.cells #[.int .i64 7, .string ⟨#[]⟩, .string ⟨#[]⟩, .string ⟨#[]⟩, .int .i64 0, .bool false] 41 (0, 0)) := by
    have := heap_new' (w.alloc (.cells #[.int .i64 0, .string ⟨#[]⟩, .string ⟨#[]⟩, .string ⟨#[]⟩, .int .i64 0, .bool false] 41)) (.cells #[.int .i64 7, .string ⟨#[]⟩, .string ⟨#[]⟩, .string ⟨#[]⟩, .int .i64 0, .bool false] 41)
    rwa [World.size_alloc] at this
  have gB : Below w.heap.size w (((w.alloc (.cells #[.int .i64 0, .string ⟨#[]⟩, .string ⟨#[]⟩, .string ⟨#[]⟩, .int .i64 0, .bool false] 41)).alloc (.cells #[.int .i64 7, .string ⟨#[]⟩, .string ⟨#[]⟩, .string ⟨#[]⟩, .int .i64 0, .bool false] 41)).drewN nd) := pw_below_drewN ((Below.refl _ _).alloc (Nat.le_refl _) _ |>.alloc (by simp) _) nd
  generalize ((w.alloc (.cells #[.int .i64 0, .string ⟨#[]⟩, .string ⟨#[]⟩, .string ⟨#[]⟩, .int .i64 0, .bool false] 41)).alloc (.cells #[.int .i64 7, .string ⟨#[]⟩, .string ⟨#[]⟩, .string ⟨#[]⟩, .int .i64 0, .bool false] 41)).drewN nd = W at g0 g1 gB ⊢
  have k0 := blk_cell g1 0
  have k1 := blk_cell g1 1
  have k2 := blk_cell g1 2
  have k3 := blk_cell g1 3
  have k4 := blk_cell g1 4
  have k5 := blk_cell g1 5
  have j0 := blk_cell g0 0
  have j1 := blk_cell g0 1
  have j2 := blk_cell g0 2
  have j3 := blk_cell g0 3
  have j4 := blk_cell g0 4
  have j5 := blk_cell g0 5
  have z := fun i => blk_frozen g1 i
  have y := fun i => blk_frozen g0 i
  have n1 : W.cell? ⟨b, o + 1, none⟩ = some (.string a) := (gB.cell (p := ⟨b, o + 1, none⟩) hb).trans h1
  simp only [List.getElem?_toArray, List.getElem?_cons_zero, List.getElem?_cons_succ] at k0 k1 k2 k3 k4 k5 j0 j1 j2 j3 j4 j5
  have HG := Lib.hid (And.intro g0 (And.intro g1 gB))
  clear g0 g1 gB
  go_wp2_with fail
  obtain ⟨g0, g1, gB⟩ := HG.out
  refine bodyPost_ret (results_ct rfl _ _ w.heap.size 41 #[.int .i64 7, .string a, .string ⟨#[]⟩, .string ⟨#[]⟩, .int .i64 0, .bool false] (0, 0) _ rfl (by
    refine blk_put (cs := #[.int .i64 7, .string a, .string ⟨#[]⟩, .string ⟨#[]⟩, .int .i64 0, .bool false]) ?_ 5 _ rfl
    refine blk_put (cs := #[.int .i64 7, .string a, .string ⟨#[]⟩, .string ⟨#[]⟩, .int .i64 0, .bool false]) ?_ 4 _ rfl
    refine blk_put (cs := #[.int .i64 7, .string a, .string ⟨#[]⟩, .string ⟨#[]⟩, .int .i64 0, .bool false]) ?_ 3 _ rfl
    refine blk_put (cs := #[.int .i64 7, .string a, .string ⟨#[]⟩, .string ⟨#[]⟩, .int .i64 0, .bool false]) ?_ 2 _ rfl
    refine blk_put (cs := #[.int .i64 7, .string ⟨#[]⟩, .string ⟨#[]⟩, .string ⟨#[]⟩, .int .i64 0, .bool false]) ?_ 1 _ rfl
    refine blk_put (cs := #[.int .i64 0, .string ⟨#[]⟩, .string ⟨#[]⟩, .string ⟨#[]⟩, .int .i64 0, .bool false]) ?_ 0 _ rfl
    refine blk_far ?_ (Nat.ne_of_lt (Nat.lt_succ_self _)) _
    exact g0) hu41 rfl (by kernel_rfl)) rfl ?_
  exact ⟨rfl, below_set (below_set (below_set (below_set (below_set (below_set (below_set gB (Nat.le_succ _)) (Nat.le_refl _)) (Nat.le_refl _)) (Nat.le_refl _)) (Nat.le_refl _)) (Nat.le_refl _)) (Nat.le_refl _)⟩
end Go.Proofs.YtkcemdfhhdjdaaaDoor.Ext
