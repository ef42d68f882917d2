/- strings.SplitSeq at a separator of one byte: what its iterator tells, and that the call makes just the three boxes and the closure. -/
import Derived.Test.YtnangnnflmdjbaaDoorRng
import Derived.Test.YtnangnnflmdjbaaDoorExt1
import Derived.RangeFuncNested
import Derived.RangeFuncBound
import Derived.RangeFuncCalls
import Derived.RangeFuncLeaves
import Derived.Shelf.Abstract
import Derived.Shelf.RegionOpen
import Derived.OwnWalkIn
import Derived.TacticsInMore
import Derived.LoopNIn
import Derived.LoopIn
import Derived.OneCell
import Derived.Outline
namespace Go.Proofs.YtnangnnflmdjbaaDoor.Ext
open Go Go.RowKit Go.Lib Go.Shelf Go.Proofs.YtnangnnflmdjbaaDoor.Rng
attribute [local go_sem] Oper.semAt_some
set_option linter.unusedVariables false
set_option linter.unusedSimpArgs false

/-- How long the text in a cell is. -/
def lenAt (w : World) (b : Nat) : Nat := match w.cell? ⟨b, 0, none⟩ with | some (.string s) => s.size | _ => 0

def Pcs (c : UInt8) (s : ByteArray) : List ByteArray := Lib.splitB ⟨#[c]⟩ 0 s.size s

/-- What holds at the head of the iterator's loop. -/
def SeqRel (c : UInt8) (s : ByteArray) (J : List ByteArray → World → Prop) (Bsep Bs Bsv : Nat) (wr : World) : Prop :=
  ∃ (pre : List ByteArray) (rest : ByteArray) (k : Nat), rest.size ≤ k ∧ rest.size ≤ s.size ∧ pre ++ Lib.splitB ⟨#[c]⟩ 0 k rest = Pcs c s ∧ J pre wr ∧
    wr.heap[Bsep]? = some (.cells #[.string ⟨#[c]⟩] 9 (0, 0)) ∧ wr.heap[Bs]? = some (.cells #[.string rest] 9 (0, 0)) ∧ wr.heap[Bsv]? = some (.cells #[.int .i64 0] 3 (0, 0))

theorem one_cell {w : World} {b t : Nat} {v : Value} (h : w.heap[b]? = some (.cells #[v] t (0, 0))) : w.cell? ⟨b, 0, none⟩ = some v := by
  simp [World.cell?, h]
theorem one_free {w : World} {b t : Nat} {v : Value} (h : w.heap[b]? = some (.cells #[v] t (0, 0))) : w.frozen? ⟨b, 0, none⟩ = false := by
  simp [World.frozen?, h]
theorem one_set {w : World} {b t : Nat} {v : Value} (h : w.heap[b]? = some (.cells #[v] t (0, 0))) (u : Value) : (w.setCell ⟨b, 0, none⟩ u).heap[b]? = some (.cells #[u] t (0, 0)) := by
  obtain ⟨hl, he⟩ := Array.getElem?_eq_some_iff.1 h
  simp [World.setCell, Array.getElem?_modify, h]

set_option maxRecDepth 100000 in
set_option maxHeartbeats 2000000 in
theorem seq_at (n : Nat) (c : UInt8) (s : ByteArray) (hs : s.size ≤ 140737488355328) (Bsep Bs Bsv lo hi : Nat) (w : World) (hlo : lo ≤ Bs) (hlo1 : lo ≤ Bsep) (hlo3 : lo ≤ Bsv) (hhi : Bs < hi) (hhi1 : Bsep < hi) (hhi3 : Bsv < hi) (hne1 : Bsep ≠ Bs) (hne3 : Bsv ≠ Bs)
    (h1 : w.heap[Bsep]? = some (.cells #[.string ⟨#[c]⟩] 9 (0, 0))) (h2 : w.heap[Bs]? = some (.cells #[.string s] 9 (0, 0))) (h3 : w.heap[Bsv]? = some (.cells #[.int .i64 0] 3 (0, 0))) :
    SeqAt n Tryd.prog 51 #[.pointer (some ⟨Bsep, 0, none⟩), .pointer (some ⟨Bs, 0, none⟩), .pointer (some ⟨Bsv, 0, none⟩)] (fun x : ByteArray => #[.string x]) (Pcs c s) lo hi w := by
  intro l J Jx W hW hz hJ hJx hY h0
  have g1 := (hW.2 Bsep hlo1 hhi1).trans h1
  have g2 := (hW.2 Bs hlo hhi).trans h2
  have g3 := (hW.2 Bsv hlo3 hhi3).trans h3
  have HY := Lib.hid hY
  clear hY h1 h2 h3 hW
  refine callsIn_of_wp Tryd.func51 rfl trivial ?_
  simp only [Tryd.ntmps51, List.size_toArray, List.length_cons, List.length_nil, Nat.reduceAdd, Nat.reduceSub, Array.replicate_succ, Array.replicate_zero, List.push_toArray, List.append_toArray, List.nil_append, List.cons_append]
  have k1 := one_cell g1
  gi_wp2
  gi_loopw [7, 8] (fun _ _ wr => SeqRel c s J Bsep Bs Bsv wr) (fun _ _ wr => lenAt wr Bs)
  case atStart => exact ⟨[], s, s.size, Nat.le_refl _, Nat.le_refl _, rfl, h0, g1, g2, g3⟩
  case round =>
    obtain ⟨pre, rest, k, hk, hks, hsp, hj, f1, f2, f3⟩ := hrel
    clear g1 g2 g3 k1 h0
    have c1 := one_cell f1
    have c2 := one_cell f2
    have c3 := one_cell f3
    have z2 := one_free f2
    have HS := Lib.hid hsp
    clear hsp
    rcases Lib.indexB_cases rest ⟨#[c]⟩ with hix | ⟨i, hix, hroom⟩
    · have hI : Calls Tryd.prog 42 #[.string rest, .string ⟨#[c]⟩] wr fun e w' => e = .returned (.int .i64 (-1)) ∧ w' = wr := by
        have := Tryd.strings_Index_one rest c wr
        rw [← indexB_one, hix] at this
        exact this
      have HI := Lib.hid hI
      have hlast : pre ++ [rest] = Pcs c s := by rw [← HS.out, Lib.splitB_miss _ _ _ _ hix]
      have HP := Lib.hid hlast
      obtain ⟨fn, tmps, assign, body, hy, hR⟩ := HY.out pre rest wr hj (by rw [hlast]; exact List.prefix_refl _)
      clear hI hlast hix hj HY
      gi_wp2_with fail
      refine ⟨trivial, (fun h => by simp [Fence.wide] at h), (callsIn_wide.2 HI.out).mono ?_⟩
      rintro e w' ⟨rfl, rfl⟩
      gi_wp2_with fail
      refine ⟨(fun h => by simp [Fence.wide] at h), hR.mono ?_⟩
      rintro e W' (⟨rfl, hJ', _⟩ | ⟨rfl, hJx'⟩)
      · gi_wp2_with fail
        go_end0
        exact ⟨⟨_, rfl⟩, .inl (by rw [← HP.out]; exact hJ')⟩
      · gi_wp2_with fail
        go_end0
        exact ⟨⟨_, rfl⟩, .inr ⟨_, by rw [HP.out]; exact List.prefix_refl _, hJx'⟩⟩
    · have hI : Calls Tryd.prog 42 #[.string rest, .string ⟨#[c]⟩] wr fun e w' => e = .returned (.int .i64 i) ∧ w' = wr := by
        have := Tryd.strings_Index_one rest c wr
        rw [← indexB_one, hix] at this
        exact this
      have HI := Lib.hid hI
      have hsz : (⟨#[c]⟩ : ByteArray).size = 1 := rfl
      rw [hsz] at hroom
      obtain ⟨k, rfl⟩ : ∃ m, k = m + 1 := ⟨k - 1, by omega⟩
      have hnext : (pre ++ [rest.extract 0 i]) ++ Lib.splitB ⟨#[c]⟩ 0 k (rest.extract (i + 1) rest.size) = Pcs c s := by
        rw [← HS.out, Lib.splitB_hit _ _ _ _ i hix]; simp [hsz]
      have HP := Lib.hid hnext
      have hle : (rest.extract (i + 1) rest.size).size ≤ k := by rw [ByteArray.size_extract]; omega
      have hle2 : (rest.extract (i + 1) rest.size).size ≤ s.size := by rw [ByteArray.size_extract]; omega
      have hlt : (rest.extract (i + 1) rest.size).size < rest.size := by rw [ByteArray.size_extract]; omega
      obtain ⟨fn, tmps, assign, body, hy, hR⟩ := HY.out pre (rest.extract 0 i) wr hj (by rw [← hnext]; exact List.prefix_append _ _)
      have HL := Lib.hid hlt
      have HL1 := Lib.hid hle
      have HL2 := Lib.hid hle2
      have b1 : (0 : Int) ≤ (i : Int) := by omega
      have b2 : (i : Int) ≤ (rest.size : Int) := by omega
      have b3 : (i : Int) + 1 ≤ (rest.size : Int) := by omega
      have b4 : (rest.size : Int) ≤ 140737488355328 := by omega
      have b0 : ¬ ((i : Int) < 0) := by omega
      clear hI hnext hle hle2 hlt hix hj HY hsz
      gi_wp2_with fail
      refine ⟨trivial, (fun h => by simp [Fence.wide] at h), (callsIn_wide.2 HI.out).mono ?_⟩
      rintro e w' ⟨rfl, rfl⟩
      gi_wp2_with fail
      refine ⟨(fun h => by simp [Fence.wide] at h), hR.mono ?_⟩
      rintro e W' (⟨rfl, hJ', hIn⟩ | ⟨rfl, hJx'⟩)
      · have e1 := (hIn.2 Bsep hlo1 hhi1).trans f1
        have e2 := (hIn.2 Bs hlo hhi).trans f2
        have e3 := (hIn.2 Bsv hlo3 hhi3).trans f3
        have d1 := one_cell e1
        have d2 := one_cell e2
        have d3 := one_cell e3
        have y2 := one_free e2
        have y1 := one_set e2 (.string (rest.extract (i + 1) rest.size))
        have hj2 := hJ _ _ _ hJ' (Out.set W' hlo hhi 0 (.string (rest.extract (i + 1) rest.size)))
        have x1 : (W'.setCell ⟨Bs, 0, none⟩ (.string (rest.extract (i + 1) rest.size))).heap[Bsep]? = some (.cells #[.string ⟨#[c]⟩] 9 (0, 0)) := (Below.heap_setCell W' ⟨Bs, 0, none⟩ _ Bsep hne1).trans e1
        have x3 : (W'.setCell ⟨Bs, 0, none⟩ (.string (rest.extract (i + 1) rest.size))).heap[Bsv]? = some (.cells #[.int .i64 0] 3 (0, 0)) := (Below.heap_setCell W' ⟨Bs, 0, none⟩ _ Bsv hne3).trans e3
        have X : Hid (SeqRel c s J Bsep Bs Bsv (W'.setCell ⟨Bs, 0, none⟩ (.string (rest.extract (i + 1) rest.size))) ∧ lenAt (W'.setCell ⟨Bs, 0, none⟩ (.string (rest.extract (i + 1) rest.size))) Bs < lenAt w' Bs) :=
          Lib.hid ⟨⟨_, _, k, HL1.out, HL2.out, HP.out, hj2, x1, y1, x3⟩, by unfold lenAt; rw [one_cell y1, c2]; exact HL.out⟩
        clear hR hIn e1 e2 e3 hJ' hj2 x1 y1 x3 f1 f2 f3 c1 c2 c3 z2
        gi_wp2_with fail
        exact X
      · gi_wp2_with fail
        refine bodyPost_ret (results_none rfl _ _ _) rfl ?_
        exact ⟨⟨_, rfl⟩, .inr ⟨_, by rw [← HP.out]; exact List.prefix_append _ _, hJx'⟩⟩
end Go.Proofs.YtnangnnflmdjbaaDoor.Ext
