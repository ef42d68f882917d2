/- script.read, walked by hand: what it comes to where the laws need it (kinds by kinds). -/
import Derived.Test.YtkcemdfhhdjdaaaDoorAskedB
import Derived.Deep.RegionWith
import Derived.Deep.DeepCutAuto
import Derived.RegionTactic
namespace Go.Proofs.YtkcemdfhhdjdaaaDoor.Ext
open Go Go.RowKit Go.Lib Go.Shelf Go.Proofs.YtkcemdfhhdjdaaaDoorW.PrintWords Go.Proofs.YtkcemdfhhdjdaaaDoorW.PrintLast
set_option linter.unusedVariables false
set_option linter.unusedSimpArgs false

abbrev ReadR := Int × ByteArray × ByteArray × ByteArray × Int × Bool × Bool
/-- A line of a kind, its words behind the first. -/
def readK (k : Nat) (kd : Int) : List ByteArray → Option ReadR
  | [] => if kd = 9 ∨ kd = 10 then some (kd, ⟨#[]⟩, ⟨#[]⟩, ⟨#[]⟩, 0, false, true) else none
  | [a] => if kd = 10 ∨ kd = 0 ∨ kd = 1 then some (kd, ⟨#[]⟩, ⟨#[]⟩, ⟨#[]⟩, 0, false, false)
      else if kd = 3 ∨ kd = 4 then (if B.script_plain.f a = some true then some (kd, a, ⟨#[]⟩, ⟨#[]⟩, 0, false, true) else none)
      else if kd = 8 then (B.script_number.f k a).bind fun r => some (kd, ⟨#[]⟩, ⟨#[]⟩, ⟨#[]⟩, r.1, false, r.2)
      else if kd = 11 then (B.script_text.f a).bind fun r => some (kd, ⟨#[]⟩, ⟨#[]⟩, r.1, 0, false, r.2) else none
  | [a, b] => if kd = 0 ∨ kd = 5 then (if B.script_plain.f a = some true ∧ B.script_plain.f b = some true then some (kd, a, b, ⟨#[]⟩, 0, false, true) else none)
      else if kd = 1 ∨ kd = 2 ∨ kd = 6 then (if B.script_plain.f a = some true then (B.script_text.f b).bind fun r => some (kd, a, ⟨#[]⟩, r.1, 0, false, r.2) else none)
      else if kd = 7 then script_asked.f k [a, b] else none
  | [a, b, c] => if kd = 7 then script_asked.f k [a, b, c] else none
  | _ => none
def script_read.f (k : Nat) : List ByteArray → Option ReadR
  | [] => none
  | x :: ws => (B.script_words.f).bind fun wl => (B.slices_Index_string_string.f k wl x).bind fun kd => readK k kd ws
theorem readK.mono (k : Nat) (kd : Int) (ws : List ByteArray) : LeO (readK k kd ws) (readK (k + 1) kd ws) := by
  match ws with
  | [] => exact LeO.refl _
  | [a] =>
    unfold readK
    exact LeO.ite (LeO.refl _) (LeO.ite (LeO.refl _) (LeO.ite (LeO.bind (B.script_number.mono _ _) fun _ => LeO.refl _) (LeO.refl _)))
  | [a, b] =>
    unfold readK
    exact LeO.ite (LeO.refl _) (LeO.ite (LeO.refl _) (LeO.ite (script_asked.mono _ _) (LeO.refl _)))
  | [a, b, c] =>
    unfold readK
    exact LeO.ite (script_asked.mono _ _) (LeO.refl _)
  | a :: b :: c :: d :: l => exact LeO.refl _
theorem script_read.mono : ∀ a0 k, LeO (script_read.f k a0) (script_read.f (k + 1) a0) := fun a0 k => by
  cases a0 with
  | nil => exact LeO.refl _
  | cons x ws =>
    unfold script_read.f
    exact LeO.bind (LeO.refl _) fun wl => LeO.bind (B.slices_Index_string_string.mono _ _ _) fun kd => readK.mono k kd ws

theorem readK_nil {k : Nat} {kd : Int} {r : ReadR} (h : readK k kd [] = some r) : (kd = 9 ∨ kd = 10) ∧ r = (kd, ⟨#[]⟩, ⟨#[]⟩, ⟨#[]⟩, 0, false, true) := by
  simp only [readK] at h
  split at h
  · rename_i h9
    exact ⟨h9, (Option.some.inj h).symm⟩
  · cases h
theorem readK_one {k : Nat} {kd : Int} {a : ByteArray} {r : ReadR} (h : readK k kd [a] = some r) :
    ((kd = 10 ∨ kd = 0 ∨ kd = 1) ∧ r = (kd, ⟨#[]⟩, ⟨#[]⟩, ⟨#[]⟩, 0, false, false)) ∨ ((kd = 3 ∨ kd = 4) ∧ B.script_plain.f a = some true ∧ r = (kd, a, ⟨#[]⟩, ⟨#[]⟩, 0, false, true)) ∨
    (kd = 8 ∧ ∃ n ok, B.script_number.f k a = some (n, ok) ∧ r = (kd, ⟨#[]⟩, ⟨#[]⟩, ⟨#[]⟩, n, false, ok)) ∨ (kd = 11 ∧ ∃ t ok, B.script_text.f a = some (t, ok) ∧ r = (kd, ⟨#[]⟩, ⟨#[]⟩, t, 0, false, ok)) := by
  simp only [readK] at h
  split at h
  · rename_i h1
    exact .inl ⟨h1, (Option.some.inj h).symm⟩
  · split at h
    · rename_i h2
      split at h
      · rename_i h3
        exact .inr (.inl ⟨h2, h3, (Option.some.inj h).symm⟩)
      · cases h
    · split at h
      · rename_i h3
        obtain ⟨⟨n, ok⟩, h4, h5⟩ := Option.bind_eq_some_iff.1 h
        exact .inr (.inr (.inl ⟨h3, n, ok, h4, (Option.some.inj h5).symm⟩))
      · split at h
        · rename_i h3
          obtain ⟨⟨n, ok⟩, h4, h5⟩ := Option.bind_eq_some_iff.1 h
          exact .inr (.inr (.inr ⟨h3, n, ok, h4, (Option.some.inj h5).symm⟩))
        · cases h
theorem readK_two {k : Nat} {kd : Int} {a b : ByteArray} {r : ReadR} (h : readK k kd [a, b] = some r) :
    ((kd = 0 ∨ kd = 5) ∧ B.script_plain.f a = some true ∧ B.script_plain.f b = some true ∧ r = (kd, a, b, ⟨#[]⟩, 0, false, true)) ∨
    ((kd = 1 ∨ kd = 2 ∨ kd = 6) ∧ B.script_plain.f a = some true ∧ ∃ t ok, B.script_text.f b = some (t, ok) ∧ r = (kd, a, ⟨#[]⟩, t, 0, false, ok)) ∨ (kd = 7 ∧ script_asked.f k [a, b] = some r) := by
  simp only [readK] at h
  split at h
  · rename_i h1
    split at h
    · rename_i h2
      exact .inl ⟨h1, h2.1, h2.2, (Option.some.inj h).symm⟩
    · cases h
  · split at h
    · rename_i h2
      split at h
      · rename_i h3
        obtain ⟨⟨n, ok⟩, h4, h5⟩ := Option.bind_eq_some_iff.1 h
        exact .inr (.inl ⟨h2, h3, n, ok, h4, (Option.some.inj h5).symm⟩)
      · cases h
    · split at h
      · rename_i h3
        exact .inr (.inr ⟨h3, h⟩)
      · cases h
theorem readK_three {k : Nat} {kd : Int} {a b c : ByteArray} {r : ReadR} (h : readK k kd [a, b, c] = some r) : kd = 7 ∧ script_asked.f k [a, b, c] = some r := by
  simp only [readK] at h
  split at h
  · rename_i h3
    exact ⟨h3, h⟩
  · cases h
theorem put6 {W : World} {R t : Nat} {z0 z1 z2 z3 z4 z5 : Value} (h : W.heap[R]? = some (.cells #[z0, z1, z2, z3, z4, z5] t (0, 0))) (v0 v1 v2 v3 v4 v5 : Value) :
    ((((((W.setCell ⟨R, 0, none⟩ v0).setCell ⟨R, 1, none⟩ v1).setCell ⟨R, 2, none⟩ v2).setCell ⟨R, 3, none⟩ v3).setCell ⟨R, 4, none⟩ v4).setCell ⟨R, 5, none⟩ v5).heap[R]? = some (.cells #[v0, v1, v2, v3, v4, v5] t (0, 0)) := by
  refine blk_put (cs := #[v0, v1, v2, v3, v4, z5]) ?_ 5 _ rfl
  refine blk_put (cs := #[v0, v1, v2, v3, z4, z5]) ?_ 4 _ rfl
  refine blk_put (cs := #[v0, v1, v2, z3, z4, z5]) ?_ 3 _ rfl
  refine blk_put (cs := #[v0, v1, z2, z3, z4, z5]) ?_ 2 _ rfl
  refine blk_put (cs := #[v0, z1, z2, z3, z4, z5]) ?_ 1 _ rfl
  exact blk_put (cs := #[z0, z1, z2, z3, z4, z5]) h 0 _ rfl
theorem below_drawn {w w' : World} (h : Drawn0 w w') : Below w.heap.size w w' := by
  obtain ⟨n, rfl⟩ := h
  exact pw_below_drewN (Below.refl _ _) n
/-- A kind's number is one of the list's places. -/
def ReadPost (r : ReadR) (w : World) (e : Ending) (w' : World) : Prop :=
  e = .returned (.tuple #[.agg #[.int .i64 r.1, .string r.2.1, .string r.2.2.1, .string r.2.2.2.1, .int .i64 r.2.2.2.2.1, .bool r.2.2.2.2.2.1], .bool r.2.2.2.2.2.2]) ∧ Below w.heap.size w w'
theorem some_lt' {w : World} {k : Nat} {o : Obj} (h : w.heap[k]? = some o) : k < w.heap.size := (Array.getElem?_eq_some_iff.1 h).1
def KC (b o : Nat) (l : List ByteArray) (w : World) : Prop := ∀ (j : Nat) y, l[j]? = some y → w.cell? ⟨b, o + j, none⟩ = some (.string y)

set_option maxRecDepth 100000 in
set_option maxHeartbeats 8000000 in
theorem script_read.calls (k : Nat) (A0 : Option Addr) (c0 : Nat) (l0 : List ByteArray) (r1 : Int) (r2 : ByteArray) (r3 : ByteArray) (r4 : ByteArray) (r5 : Int) (r6 : Bool) (r7 : Bool) (w : World) (hr0 : Kd.C Kd.string w A0 l0.length l0) (hc0 : l0.length ≤ c0) (h : script_read.f k l0 = some (r1, r2, r3, r4, r5, r6, r7)) :
    Calls Tryd.prog 24 #[.slice A0 l0.length c0] w (ReadPost (r1, r2, r3, r4, r5, r6, r7) w) := by
  cases l0 with
  | nil => cases h
  | cons x ws =>
    unfold script_read.f at h
    obtain ⟨wl, hwl, h1⟩ := Option.bind_eq_some_iff.1 h
    clear h
    obtain ⟨kd, hkd, h2⟩ := Option.bind_eq_some_iff.1 h1
    clear h1
    obtain ⟨b, o, rfl, hb, hcell⟩ := C_cells hr0 (by simp)
    have hx : w.cell? ⟨b, o, none⟩ = some (.string x) := hcell 0 x rfl
    have HWL := Lib.hid hwl
    have HKD := Lib.hid hkd
    have HC := Lib.hid (show KC b o (x :: ws) w from hcell)
    have HR := Lib.hid h2
    have HR0 := Lib.hid hr0
    have hu41 := Tryd.underlying41
    obtain ⟨n, hn⟩ : ∃ n, (x :: ws).length = n + 1 := ⟨_, rfl⟩
    rw [hn] at hc0 ⊢
    have HN := Lib.hid hn
    clear hcell hr0 hwl hkd h2 hn
    go_enter Tryd.func24, Tryd.ntmps24
    go_upto_region 1 with fail
    go_cut [4] (fun v4 wc => ∃ g, v4 = .pointer (some ⟨g, 0, none⟩) ∧ Hid (wc.heap[g]? = some (.cells #[.int .i64 kd, .string ⟨#[]⟩, .string ⟨#[]⟩, .string ⟨#[]⟩, .int .i64 0, .bool false] 41 (0, 0)) ∧ wc.heap[w.heap.size]? = some (.cells #[.int .i64 0, .string ⟨#[]⟩, .string ⟨#[]⟩, .string ⟨#[]⟩, .int .i64 0, .bool false] 41 (0, 0)) ∧ Below w.heap.size w wc) ∧ w.heap.size < g)
    case first =>
      go_region_with (first | (go_at_call 40; refine (B.script_words.calls wl _ HWL.out).mono ?_; rintro e w1 ⟨v1, rfl, hR1, hb1⟩; obtain ⟨A1, c1, rfl, hc1, hC1⟩ := Kd.R_reads hR1; have Z1 : Hid (w1.heap[w.heap.size]? = some (.cells #[.int .i64 0, .string ⟨#[]⟩, .string ⟨#[]⟩, .string ⟨#[]⟩, .int .i64 0, .bool false] 41 (0, 0)) ∧ Below w.heap.size w w1 ∧ w.heap.size < w1.heap.size) := Lib.hid ⟨(hb1.block w.heap.size (by first | (simp; done) | (simp; omega))).trans (by first | exact heap_new' _ _ | exact heap_two _ _ _), below_step (w := w) (by repeat (first | exact Below.refl _ _ | apply below_alloc | apply pw_below_drewN | apply below_drew1)) hb1, (by have := hb1.size; simp at this; omega)⟩; have hx1 : w1.cell? ⟨b, o, none⟩ = some (.string x) := (Z1.out.2.1.cell (p := ⟨b, o, none⟩) hb).trans hx; have hbw1 : b < w1.heap.size := Nat.lt_of_lt_of_le hb Z1.out.2.1.size; have HC1 := Lib.hid hC1; have HCC1 := Lib.hid hc1; (try have ZA : w1.heap[w.heap.size + 1]? = some (.cells #[.int .i64 0, .string ⟨#[]⟩, .string ⟨#[]⟩, .string ⟨#[]⟩, .int .i64 0, .bool false] 41 (0, 0)) := (by have h9 := heap_new' (w.alloc (.cells #[.int .i64 0, .string ⟨#[]⟩, .string ⟨#[]⟩, .string ⟨#[]⟩, .int .i64 0, .bool false] 41)) (.cells #[.int .i64 0, .string ⟨#[]⟩, .string ⟨#[]⟩, .string ⟨#[]⟩, .int .i64 0, .bool false] 41); rw [World.size_alloc] at h9; exact (hb1.block (w.heap.size + 1) (by simp)).trans h9)); (try (have za0 := blk_cell ZA 0; have za1 := blk_cell ZA 1; have za2 := blk_cell ZA 2; have za3 := blk_cell ZA 3; have za4 := blk_cell ZA 4; have za5 := blk_cell ZA 5; have zaf := fun i => blk_frozen ZA i; simp only [List.getElem?_toArray, List.getElem?_cons_zero, List.getElem?_cons_succ] at za0 za1 za2 za3 za4 za5)); (try replace ZA := Lib.hid ZA); clear hR1 hb1 hC1 hc1) | (go_at_call 39; refine (B.slices_Index_string_string.calls k A1 c1 wl x kd _ ?cc HCC1.out HKD.out).mono ?_; (case cc => repeat (first | exact HC1.out | refine Kd.C_drewN ?_ _ | refine Kd.C_drew ?_ | refine Kd.C_alloc ?_ _)); rintro e w2 ⟨rfl, hd2⟩; have hb2 := below_drawn hd2; clear hd2; have Z2 : Hid (w2.heap[w.heap.size]? = some (.cells #[.int .i64 0, .string ⟨#[]⟩, .string ⟨#[]⟩, .string ⟨#[]⟩, .int .i64 0, .bool false] 41 (0, 0)) ∧ Below w.heap.size w w2 ∧ w.heap.size < w2.heap.size) := Lib.hid ⟨(hb2.block w.heap.size (by first | exact Z1.out.2.2 | (have := Z1.out.2.2; simp; omega))).trans (by first | exact Z1.out.1 | exact (Below.heap_alloc _ _ _ Z1.out.2.2).trans Z1.out.1), below_step (w := w) (by repeat (first | exact Z1.out.2.1 | apply below_alloc | apply pw_below_drewN | apply below_drew1)) hb2, Nat.lt_of_lt_of_le Z1.out.2.2 (by have := hb2.size; first | exact this | (simp at this; omega))⟩; have hx2 : w2.cell? ⟨b, o, none⟩ = some (.string x) := (Z2.out.2.1.cell (p := ⟨b, o, none⟩) hb).trans hx; have hbw2 : b < w2.heap.size := Nat.lt_of_lt_of_le hb Z2.out.2.1.size; (first | (have ZG : w2.heap[w.heap.size + 1]? = some (.cells #[.int .i64 0, .string ⟨#[]⟩, .string ⟨#[]⟩, .string ⟨#[]⟩, .int .i64 0, .bool false] 41 (0, 0)) := (hb2.block (w.heap.size + 1) (blk_lt ZA.out)).trans ZA.out; have ZL : Hid (w.heap.size < w.heap.size + 1) := Lib.hid (Nat.lt_succ_self _)) | (have ZG : w2.heap[w1.heap.size]? = some (.cells #[.int .i64 0, .string ⟨#[]⟩, .string ⟨#[]⟩, .string ⟨#[]⟩, .int .i64 0, .bool false] 41 (0, 0)) := (hb2.block w1.heap.size (by simp)).trans (heap_new' w1 _); have ZL : Hid (w.heap.size < w1.heap.size) := Lib.hid Z1.out.2.2) | skip); (try (have zg0 := blk_cell ZG 0; have zg1 := blk_cell ZG 1; have zg2 := blk_cell ZG 2; have zg3 := blk_cell ZG 3; have zg4 := blk_cell ZG 4; have zg5 := blk_cell ZG 5; have zgf := fun i => blk_frozen ZG i; simp only [List.getElem?_toArray, List.getElem?_cons_zero, List.getElem?_cons_succ] at zg0 zg1 zg2 zg3 zg4 zg5)); (try replace ZG := Lib.hid ZG); clear hb2))
      all_goals
        go_wp2_with fail
        go_meet
        case rel => first
          | exact ⟨_, rfl, Lib.hid ⟨put6 ZG.out _ _ _ _ _ _, (blk_far (blk_far (blk_far (blk_far (blk_far (blk_far Z2.out.1 (Nat.ne_of_lt ZL.out) _) (Nat.ne_of_lt ZL.out) _) (Nat.ne_of_lt ZL.out) _) (Nat.ne_of_lt ZL.out) _) (Nat.ne_of_lt ZL.out) _) (Nat.ne_of_lt ZL.out) _), (below_set (below_set (below_set (below_set (below_set (below_set Z2.out.2.1 (Nat.le_of_lt ZL.out)) (Nat.le_of_lt ZL.out)) (Nat.le_of_lt ZL.out)) (Nat.le_of_lt ZL.out)) (Nat.le_of_lt ZL.out)) (Nat.le_of_lt ZL.out))⟩, ZL.out⟩
          | exact ⟨_, rfl, Lib.hid ⟨heap_new' _ _, (Below.heap_alloc _ _ _ Z2.out.2.2).trans Z2.out.1, below_alloc Z2.out.2.1 _⟩, Z2.out.2.2⟩
    case rest =>
      obtain ⟨g, rfl, HW, hg⟩ := hcut
      have KCC : Hid (KC b o (x :: ws) wc) := Lib.hid (fun j y hj => (HW.out.2.2.cell (p := ⟨b, o + j, none⟩) hb).trans (HC.out j y hj))
      have k0 := blk_cell HW.out.1 0
      have k1 := blk_cell HW.out.1 1
      have k2 := blk_cell HW.out.1 2
      have k3 := blk_cell HW.out.1 3
      have k4 := blk_cell HW.out.1 4
      have k5 := blk_cell HW.out.1 5
      have z := fun i => blk_frozen HW.out.1 i
      have j0 := blk_cell HW.out.2.1 0
      have j1 := blk_cell HW.out.2.1 1
      have j2 := blk_cell HW.out.2.1 2
      have j3 := blk_cell HW.out.2.1 3
      have j4 := blk_cell HW.out.2.1 4
      have j5 := blk_cell HW.out.2.1 5
      have y := fun i => blk_frozen HW.out.2.1 i
      simp only [List.getElem?_toArray, List.getElem?_cons_zero, List.getElem?_cons_succ] at k0 k1 k2 k3 k4 k5 j0 j1 j2 j3 j4 j5
      have hgn : g ≠ w.heap.size := Nat.ne_of_gt hg
      clear hx
      have HP := Lib.hid hg
      rcases ws with _ | ⟨a, _ | ⟨a2, _ | ⟨a3, _ | ⟨a4, l⟩⟩⟩⟩
      · obtain rfl : n = 0 := by have := HN.out; simp at this; omega
        obtain ⟨h9, hr⟩ := readK_nil HR.out
        cases hr
        by_cases hc1 : c0 = 1
        · subst hc1
          rcases h9 with rfl | rfl
          all_goals (go_wp2_with fail; (obtain ⟨g0, r0, gB⟩ := HW.out; refine bodyPost_ret (results_ct rfl _ _ w.heap.size 41 _ (0, 0) _ rfl (put6 (by (with_reducible repeat (first | exact r0 | refine blk_far ?_ (Nat.ne_of_lt hg) _ | refine blk_drewN ?_ _ | refine blk_drew ?_))) _ _ _ _ _ _) hu41 rfl (by kernel_rfl)) rfl ?_; exact ⟨rfl, by (with_reducible repeat (first | exact gB | refine below_set ?_ (Nat.le_of_lt hg) | refine below_set ?_ (Nat.le_refl _) | refine pw_below_drewN ?_ _ | refine below_drew1 ?_))⟩))
        · rcases h9 with rfl | rfl
          all_goals (go_wp2_with fail; (obtain ⟨g0, r0, gB⟩ := HW.out; refine bodyPost_ret (results_ct rfl _ _ w.heap.size 41 _ (0, 0) _ rfl (put6 (by (with_reducible repeat (first | exact r0 | refine blk_far ?_ (Nat.ne_of_lt hg) _ | refine blk_drewN ?_ _ | refine blk_drew ?_))) _ _ _ _ _ _) hu41 rfl (by kernel_rfl)) rfl ?_; exact ⟨rfl, by (with_reducible repeat (first | exact gB | refine below_set ?_ (Nat.le_of_lt hg) | refine below_set ?_ (Nat.le_refl _) | refine pw_below_drewN ?_ _ | refine below_drew1 ?_))⟩))
      · obtain rfl : n = 1 := by have := HN.out; simp at this; omega
        have c1 : wc.cell? ⟨b, o + 1, none⟩ = some (.string a) := KCC.out 1 a rfl
        rcases readK_one HR.out with ⟨h9, hr⟩ | ⟨h9, hp, hr⟩ | ⟨rfl, m, ok, hm, hr⟩ | ⟨rfl, t, ok, ht, hr⟩
        · cases hr
          rcases h9 with rfl | rfl | rfl
          all_goals (go_wp2_with fail; (obtain ⟨g0, r0, gB⟩ := HW.out; refine bodyPost_ret (results_ct rfl _ _ w.heap.size 41 _ (0, 0) _ rfl (put6 (by (with_reducible repeat (first | exact r0 | refine blk_far ?_ (Nat.ne_of_lt hg) _ | refine blk_drewN ?_ _ | refine blk_drew ?_))) _ _ _ _ _ _) hu41 rfl (by kernel_rfl)) rfl ?_; exact ⟨rfl, by (with_reducible repeat (first | exact gB | refine below_set ?_ (Nat.le_of_lt hg) | refine below_set ?_ (Nat.le_refl _) | refine pw_below_drewN ?_ _ | refine below_drew1 ?_))⟩))
        · cases hr
          have HPL := Lib.hid hp
          clear hp
          rcases h9 with rfl | rfl
          all_goals
            go_wp2_with fail
            refine (B.script_plain.calls _ true _ HPL.out).mono ?_
            rintro e w3 ⟨rfl, ⟨nd, rfl⟩⟩
            go_wp2_with fail
            (obtain ⟨g0, r0, gB⟩ := HW.out; refine bodyPost_ret (results_ct rfl _ _ w.heap.size 41 _ (0, 0) _ rfl (put6 (by (with_reducible repeat (first | exact r0 | refine blk_far ?_ (Nat.ne_of_lt hg) _ | refine blk_drewN ?_ _ | refine blk_drew ?_))) _ _ _ _ _ _) hu41 rfl (by kernel_rfl)) rfl ?_; exact ⟨rfl, by (with_reducible repeat (first | exact gB | refine below_set ?_ (Nat.le_of_lt hg) | refine below_set ?_ (Nat.le_refl _) | refine pw_below_drewN ?_ _ | refine below_drew1 ?_))⟩)
        · cases hr
          have HNU := Lib.hid hm
          clear hm
          go_wp2_with fail
          refine (B.script_number.calls k _ _ _ _ HNU.out).mono ?_
          rintro e w3 ⟨rfl, ⟨nd, rfl⟩⟩
          go_wp2_with fail
          (obtain ⟨g0, r0, gB⟩ := HW.out; refine bodyPost_ret (results_ct rfl _ _ w.heap.size 41 _ (0, 0) _ rfl (put6 (by (with_reducible repeat (first | exact r0 | refine blk_far ?_ (Nat.ne_of_lt hg) _ | refine blk_drewN ?_ _ | refine blk_drew ?_))) _ _ _ _ _ _) hu41 rfl (by kernel_rfl)) rfl ?_; exact ⟨rfl, by (with_reducible repeat (first | exact gB | refine below_set ?_ (Nat.le_of_lt hg) | refine below_set ?_ (Nat.le_refl _) | refine pw_below_drewN ?_ _ | refine below_drew1 ?_))⟩)
        · cases hr
          have HT := Lib.hid ht
          clear ht
          go_wp2_with fail
          refine (B.script_text.calls _ _ _ _ HT.out).mono ?_
          rintro e w3 ⟨rfl, ⟨nd, rfl⟩⟩
          go_wp2_with fail
          (obtain ⟨g0, r0, gB⟩ := HW.out; refine bodyPost_ret (results_ct rfl _ _ w.heap.size 41 _ (0, 0) _ rfl (put6 (by (with_reducible repeat (first | exact r0 | refine blk_far ?_ (Nat.ne_of_lt hg) _ | refine blk_drewN ?_ _ | refine blk_drew ?_))) _ _ _ _ _ _) hu41 rfl (by kernel_rfl)) rfl ?_; exact ⟨rfl, by (with_reducible repeat (first | exact gB | refine below_set ?_ (Nat.le_of_lt hg) | refine below_set ?_ (Nat.le_refl _) | refine pw_below_drewN ?_ _ | refine below_drew1 ?_))⟩)
      · obtain rfl : n = 2 := by have := HN.out; simp at this; omega
        have c1 : wc.cell? ⟨b, o + 1, none⟩ = some (.string a) := KCC.out 1 a rfl
        have c2 : wc.cell? ⟨b, o + 1 + 1, none⟩ = some (.string a2) := KCC.out 2 a2 rfl
        have HN0 : Hid ([x, a, a2].length ≤ c0) := Lib.hid hc0
        rcases readK_two HR.out with ⟨h9, hp, hp2, hr⟩ | ⟨h9, hp, t, ok, ht, hr⟩ | ⟨rfl, ha⟩
        · cases hr
          have HPL := Lib.hid hp
          have HPL2 := Lib.hid hp2
          clear hp hp2
          rcases h9 with rfl | rfl
          all_goals
            go_wp2_with fail
            refine (B.script_plain.calls _ true _ HPL.out).mono ?_
            rintro e w3 ⟨rfl, ⟨nd, rfl⟩⟩
            go_wp2_with fail
            refine (B.script_plain.calls _ true _ HPL2.out).mono ?_
            rintro e w3 ⟨rfl, ⟨nd2, rfl⟩⟩
            go_wp2_with fail
            go_region
            all_goals
              go_wp2_with fail
              (obtain ⟨g0, r0, gB⟩ := HW.out; refine bodyPost_ret (results_ct rfl _ _ w.heap.size 41 _ (0, 0) _ rfl (put6 (by (with_reducible repeat (first | exact r0 | refine blk_far ?_ (Nat.ne_of_lt hg) _ | refine blk_drewN ?_ _ | refine blk_drew ?_))) _ _ _ _ _ _) hu41 rfl (by kernel_rfl)) rfl ?_; exact ⟨rfl, by (with_reducible repeat (first | exact gB | refine below_set ?_ (Nat.le_of_lt hg) | refine below_set ?_ (Nat.le_refl _) | refine pw_below_drewN ?_ _ | refine below_drew1 ?_))⟩)
        · cases hr
          have HPL := Lib.hid hp
          have HT := Lib.hid ht
          clear hp ht
          rcases h9 with rfl | rfl | rfl
          all_goals
            go_wp2_with fail
            refine (B.script_plain.calls _ true _ HPL.out).mono ?_
            rintro e w3 ⟨rfl, ⟨nd, rfl⟩⟩
            go_wp2_with fail
            refine (B.script_text.calls _ _ _ _ HT.out).mono ?_
            rintro e w3 ⟨rfl, ⟨nd2, rfl⟩⟩
            go_wp2_with fail
            (obtain ⟨g0, r0, gB⟩ := HW.out; refine bodyPost_ret (results_ct rfl _ _ w.heap.size 41 _ (0, 0) _ rfl (put6 (by (with_reducible repeat (first | exact r0 | refine blk_far ?_ (Nat.ne_of_lt hg) _ | refine blk_drewN ?_ _ | refine blk_drew ?_))) _ _ _ _ _ _) hu41 rfl (by kernel_rfl)) rfl ?_; exact ⟨rfl, by (with_reducible repeat (first | exact gB | refine below_set ?_ (Nat.le_of_lt hg) | refine below_set ?_ (Nat.le_refl _) | refine pw_below_drewN ?_ _ | refine below_drew1 ?_))⟩)
        · go_wp2_with fail
          have HCT : Hid (Kd.C Kd.string wc (some ⟨b, o + 1, none⟩) [a, a2].length [a, a2]) := Lib.hid (by
            have h1 := Kd.C_drop (m := 1) HR0.out (by simp) HN0.out
            rw [if_neg (by omega)] at h1
            exact Kd.C_below h1 HW.out.2.2)
          refine (script_asked.calls k (some ⟨b, o + 1, none⟩) (c0 - 1) [a, a2] _ _ _ _ _ _ _ _ HCT.out (by simp; omega) ha).mono ?_
          rintro e w3 ⟨rfl, hb3⟩
          have R3 : Hid (w3.heap[w.heap.size]? = some (.cells #[.int .i64 0, .string ⟨#[]⟩, .string ⟨#[]⟩, .string ⟨#[]⟩, .int .i64 0, .bool false] 41 (0, 0)) ∧ Below w.heap.size w w3) := Lib.hid ⟨(hb3.block w.heap.size (some_lt' HW.out.2.1)).trans HW.out.2.1, below_step HW.out.2.2 hb3⟩
          clear hb3 k0 k1 k2 k3 k4 k5 j0 j1 j2 j3 j4 j5 y z
          have j0 := blk_cell R3.out.1 0
          have j1 := blk_cell R3.out.1 1
          have j2 := blk_cell R3.out.1 2
          have j3 := blk_cell R3.out.1 3
          have j4 := blk_cell R3.out.1 4
          have j5 := blk_cell R3.out.1 5
          have y := fun i => blk_frozen R3.out.1 i
          simp only [List.getElem?_toArray, List.getElem?_cons_zero, List.getElem?_cons_succ] at j0 j1 j2 j3 j4 j5
          go_wp2_with fail
          obtain ⟨r0, gB⟩ := R3.out
          refine bodyPost_ret (results_ct rfl _ _ w.heap.size 41 _ (0, 0) _ rfl (put6 r0 _ _ _ _ _ _) hu41 rfl (by kernel_rfl)) rfl ?_
          exact ⟨rfl, by (with_reducible repeat (first | exact gB | refine below_set ?_ (Nat.le_refl _)))⟩

      · obtain rfl : n = 3 := by have := HN.out; simp at this; omega
        have c1 : wc.cell? ⟨b, o + 1, none⟩ = some (.string a) := KCC.out 1 a rfl
        have c2 : wc.cell? ⟨b, o + 1 + 1, none⟩ = some (.string a2) := KCC.out 2 a2 rfl
        have HN0 : Hid ([x, a, a2, a3].length ≤ c0) := Lib.hid hc0
        obtain ⟨rfl, ha⟩ := readK_three HR.out
        go_wp2_with fail
        have HCT : Hid (Kd.C Kd.string wc (some ⟨b, o + 1, none⟩) [a, a2, a3].length [a, a2, a3]) := Lib.hid (by
          have h1 := Kd.C_drop (m := 1) HR0.out (by simp) HN0.out
          rw [if_neg (by omega)] at h1
          exact Kd.C_below h1 HW.out.2.2)
        refine (script_asked.calls k (some ⟨b, o + 1, none⟩) (c0 - 1) [a, a2, a3] _ _ _ _ _ _ _ _ HCT.out (by simp; omega) ha).mono ?_
        rintro e w3 ⟨rfl, hb3⟩
        have R3 : Hid (w3.heap[w.heap.size]? = some (.cells #[.int .i64 0, .string ⟨#[]⟩, .string ⟨#[]⟩, .string ⟨#[]⟩, .int .i64 0, .bool false] 41 (0, 0)) ∧ Below w.heap.size w w3) := Lib.hid ⟨(hb3.block w.heap.size (some_lt' HW.out.2.1)).trans HW.out.2.1, below_step HW.out.2.2 hb3⟩
        clear hb3 k0 k1 k2 k3 k4 k5 j0 j1 j2 j3 j4 j5 y z
        have j0 := blk_cell R3.out.1 0
        have j1 := blk_cell R3.out.1 1
        have j2 := blk_cell R3.out.1 2
        have j3 := blk_cell R3.out.1 3
        have j4 := blk_cell R3.out.1 4
        have j5 := blk_cell R3.out.1 5
        have y := fun i => blk_frozen R3.out.1 i
        simp only [List.getElem?_toArray, List.getElem?_cons_zero, List.getElem?_cons_succ] at j0 j1 j2 j3 j4 j5
        go_wp2_with fail
        obtain ⟨r0, gB⟩ := R3.out
        refine bodyPost_ret (results_ct rfl _ _ w.heap.size 41 _ (0, 0) _ rfl (put6 r0 _ _ _ _ _ _) hu41 rfl (by kernel_rfl)) rfl ?_
        exact ⟨rfl, by (with_reducible repeat (first | exact gB | refine below_set ?_ (Nat.le_refl _)))⟩
      · exact absurd HR.out (by simp [readK])
end Go.Proofs.YtkcemdfhhdjdaaaDoor.Ext
