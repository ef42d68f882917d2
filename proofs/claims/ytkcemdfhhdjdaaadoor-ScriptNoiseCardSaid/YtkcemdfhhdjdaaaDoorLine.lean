/- haversackref17.line, walked at the lists of words that the laws come to. -/
import Derived.Test.YtkcemdfhhdjdaaaDoorRead
import Derived.Test.YtkcemdfhhdjdaaaDoorLx1
import Derived.RegionTactic
import Derived.LoopTactic
namespace Go.Proofs.YtkcemdfhhdjdaaaDoor.Ext
open Go Go.RowKit Go.Lib Go.Shelf Go.Proofs.YtkcemdfhhdjdaaaDoorW.PrintWords Go.Proofs.YtkcemdfhhdjdaaaDoorW.PrintLast
set_option linter.unusedVariables false
set_option linter.unusedSimpArgs false

theorem C_of_cells {w : World} {b o : Nat} {l : List ByteArray} (hl : l.length ≤ 9223372036854775807) (h : KC b o l w) : Kd.C Kd.string w (some ⟨b, o, none⟩) l.length l := by
  refine ⟨rfl, hl, fun _ => ⟨⟨b, o, none⟩, rfl, fun j y hj => ⟨[.string y], rfl, rfl, fun i u hu => ?_⟩⟩⟩
  match i, hu with
  | 0, hu =>
    cases hu
    have h1 := h j y hj
    have hadd : ∀ n, (Addr.mk b o none).add n = ⟨b, o + n, none⟩ := fun n => by
      unfold Addr.add
      split
      · rename_i e; subst e; rfl
      · rfl
    rw [show j * Kd.string.sz + 0 = j from Nat.mul_one j, hadd]
    exact h1
theorem KC_later {w w' : World} {b o : Nat} {l : List ByteArray} (h : KC b o l w) (hb : b < w.heap.size) (k : Below w.heap.size w w') : KC b o l w' := fun j y hj => (k.cell (p := ⟨b, o + j, none⟩) hb).trans (h j y hj)
set_option maxRecDepth 100000 in
set_option maxHeartbeats 2000000 in
theorem line_0 (b o c : Nat) (w : World) (hb : b < w.heap.size) (hk : KC b o [⟨#[99, 111, 112, 121]⟩, ⟨#[97]⟩, ⟨#[98]⟩] w) (hc : 3 ≤ c) : Calls Tryd.prog 28 #[.slice (some ⟨b, o, none⟩) 3 c] w (ReadPost (0, ⟨#[97]⟩, ⟨#[98]⟩, ⟨#[]⟩, 0, false, true) w) := by
  have h0 : w.cell? ⟨b, o, none⟩ = some (.string ⟨#[99, 111, 112, 121]⟩) := hk 0 _ rfl
  have h1 : w.cell? ⟨b, o + 1, none⟩ = some (.string ⟨#[97]⟩) := hk 1 _ rfl
  have h2 : w.cell? ⟨b, o + 2, none⟩ = some (.string ⟨#[98]⟩) := hk 2 _ rfl
  have hu41 := Tryd.underlying41
  have HK := Lib.hid hk
  clear hk
  have r0 := Lib.hid (heap_new' w (.cells #[.int .i64 0, .string ⟨#[]⟩, .string ⟨#[]⟩, .string ⟨#[]⟩, .int .i64 0, .bool false] 41))
  have gB := Lib.hid ((Below.refl w.heap.size w).alloc (Nat.le_refl _) (.cells #[.int .i64 0, .string ⟨#[]⟩, .string ⟨#[]⟩, .string ⟨#[]⟩, .int .i64 0, .bool false] 41))
  have hlt : b < (w.alloc (.cells #[.int .i64 0, .string ⟨#[]⟩, .string ⟨#[]⟩, .string ⟨#[]⟩, .int .i64 0, .bool false] 41)).heap.size := by simp; omega
  have HP : ∀ W : World, Below w.heap.size w W → Calls Tryd.prog 46 #[.slice (some ⟨b, o, none⟩) 3 c] W (fun e w' => e = .returned (.bool true) ∧ Drawn0 W w') := fun W hW =>
    L.haversackref17_plain.calls 20 (some ⟨b, o, none⟩) c [⟨#[99, 111, 112, 121]⟩, ⟨#[97]⟩, ⟨#[98]⟩] true W (C_of_cells (by decide) (KC_later (fun j y hj => HK.out j y (hj)) hb hW)) (show 3 ≤ c by omega) (by kernel_rfl)
  have HPP := Lib.hid HP
  clear HP
  go_enter Tryd.func28, Tryd.ntmps28
  go_wp2_with (first | (go_at_call 46; refine (HPP.out _ ?cP).mono ?_; (case cP => (with_reducible repeat (first | exact gB.out | refine pw_below_drewN ?_ _ | refine below_drew1 ?_))); rintro e w' ⟨rfl, ⟨nd, rfl⟩⟩))
  go_region
  all_goals
    go_wp2_with fail
    replace r0 := r0.out
    replace gB := gB.out
    refine bodyPost_ret (results_ct rfl _ _ w.heap.size 41 _ (0, 0) _ rfl (put6 (by (with_reducible repeat (first | exact r0 | refine blk_drewN ?_ _ | refine blk_drew ?_))) _ _ _ _ _ _) hu41 rfl (by kernel_rfl)) rfl ?_; exact ⟨rfl, by (with_reducible repeat (first | exact gB | refine below_set ?_ (Nat.le_refl _) | refine pw_below_drewN ?_ _ | refine below_drew1 ?_))⟩
set_option maxRecDepth 100000 in
set_option maxHeartbeats 2000000 in
theorem line_1 (b o c : Nat) (w : World) (hb : b < w.heap.size) (hk : KC b o [⟨#[119, 114, 105, 116, 101]⟩, ⟨#[97]⟩, ⟨#[34, 120]⟩] w) (hc : 3 ≤ c) : Calls Tryd.prog 28 #[.slice (some ⟨b, o, none⟩) 3 c] w (ReadPost (1, ⟨#[97]⟩, ⟨#[]⟩, ⟨#[120]⟩, 0, false, true) w) := by
  have h0 : w.cell? ⟨b, o, none⟩ = some (.string ⟨#[119, 114, 105, 116, 101]⟩) := hk 0 _ rfl
  have h1 : w.cell? ⟨b, o + 1, none⟩ = some (.string ⟨#[97]⟩) := hk 1 _ rfl
  have h2 : w.cell? ⟨b, o + 2, none⟩ = some (.string ⟨#[34, 120]⟩) := hk 2 _ rfl
  have hu41 := Tryd.underlying41
  have HK := Lib.hid hk
  clear hk
  have r0 := Lib.hid (heap_new' w (.cells #[.int .i64 0, .string ⟨#[]⟩, .string ⟨#[]⟩, .string ⟨#[]⟩, .int .i64 0, .bool false] 41))
  have gB := Lib.hid ((Below.refl w.heap.size w).alloc (Nat.le_refl _) (.cells #[.int .i64 0, .string ⟨#[]⟩, .string ⟨#[]⟩, .string ⟨#[]⟩, .int .i64 0, .bool false] 41))
  have hlt : b < (w.alloc (.cells #[.int .i64 0, .string ⟨#[]⟩, .string ⟨#[]⟩, .string ⟨#[]⟩, .int .i64 0, .bool false] 41)).heap.size := by simp; omega
  have HP : ∀ W : World, Below w.heap.size w W → Calls Tryd.prog 46 #[.slice (some ⟨b, o, none⟩) 2 c] W (fun e w' => e = .returned (.bool true) ∧ Drawn0 W w') := fun W hW =>
    L.haversackref17_plain.calls 20 (some ⟨b, o, none⟩) c [⟨#[119, 114, 105, 116, 101]⟩, ⟨#[97]⟩] true W (C_of_cells (by decide) (KC_later (fun j y hj => HK.out j y (by match j, hj with | 0, hj => exact hj | 1, hj => exact hj)) hb hW)) (show 2 ≤ c by omega) (by kernel_rfl)
  have HPP := Lib.hid HP
  clear HP
  have HQ := Lib.hid (fun W : World => L.haversackref17_quoted.calls ⟨#[34, 120]⟩ true W (by kernel_rfl))
  go_enter Tryd.func28, Tryd.ntmps28
  go_wp2_with (first | (go_at_call 46; refine (HPP.out _ ?cP).mono ?_; (case cP => (with_reducible repeat (first | exact gB.out | refine pw_below_drewN ?_ _ | refine below_drew1 ?_))); rintro e w' ⟨rfl, ⟨nd, rfl⟩⟩) | (go_at_call 47; refine (HQ.out _).mono ?_; rintro e w' ⟨rfl, ⟨nq, rfl⟩⟩))
  go_region
  all_goals
    go_wp2_with fail
    replace r0 := r0.out
    replace gB := gB.out
    refine bodyPost_ret (results_ct rfl _ _ w.heap.size 41 _ (0, 0) _ rfl (put6 (by (with_reducible repeat (first | exact r0 | refine blk_drewN ?_ _ | refine blk_drew ?_))) _ _ _ _ _ _) hu41 rfl (by kernel_rfl)) rfl ?_; exact ⟨rfl, by (with_reducible repeat (first | exact gB | refine below_set ?_ (Nat.le_refl _) | refine pw_below_drewN ?_ _ | refine below_drew1 ?_))⟩
set_option maxRecDepth 100000 in
set_option maxHeartbeats 2000000 in
theorem line_2 (b o c : Nat) (w : World) (hb : b < w.heap.size) (hk : KC b o [⟨#[97, 112, 112, 101, 110, 100]⟩, ⟨#[98, 47, 99]⟩, ⟨#[34, 36, 118, 10]⟩] w) (hc : 3 ≤ c) : Calls Tryd.prog 28 #[.slice (some ⟨b, o, none⟩) 3 c] w (ReadPost (2, ⟨#[98, 47, 99]⟩, ⟨#[]⟩, ⟨#[36, 118, 10]⟩, 0, false, true) w) := by
  have h0 : w.cell? ⟨b, o, none⟩ = some (.string ⟨#[97, 112, 112, 101, 110, 100]⟩) := hk 0 _ rfl
  have h1 : w.cell? ⟨b, o + 1, none⟩ = some (.string ⟨#[98, 47, 99]⟩) := hk 1 _ rfl
  have h2 : w.cell? ⟨b, o + 2, none⟩ = some (.string ⟨#[34, 36, 118, 10]⟩) := hk 2 _ rfl
  have hu41 := Tryd.underlying41
  have HK := Lib.hid hk
  clear hk
  have r0 := Lib.hid (heap_new' w (.cells #[.int .i64 0, .string ⟨#[]⟩, .string ⟨#[]⟩, .string ⟨#[]⟩, .int .i64 0, .bool false] 41))
  have gB := Lib.hid ((Below.refl w.heap.size w).alloc (Nat.le_refl _) (.cells #[.int .i64 0, .string ⟨#[]⟩, .string ⟨#[]⟩, .string ⟨#[]⟩, .int .i64 0, .bool false] 41))
  have hlt : b < (w.alloc (.cells #[.int .i64 0, .string ⟨#[]⟩, .string ⟨#[]⟩, .string ⟨#[]⟩, .int .i64 0, .bool false] 41)).heap.size := by simp; omega
  have HP : ∀ W : World, Below w.heap.size w W → Calls Tryd.prog 46 #[.slice (some ⟨b, o, none⟩) 2 c] W (fun e w' => e = .returned (.bool true) ∧ Drawn0 W w') := fun W hW =>
    L.haversackref17_plain.calls 20 (some ⟨b, o, none⟩) c [⟨#[97, 112, 112, 101, 110, 100]⟩, ⟨#[98, 47, 99]⟩] true W (C_of_cells (by decide) (KC_later (fun j y hj => HK.out j y (by match j, hj with | 0, hj => exact hj | 1, hj => exact hj)) hb hW)) (show 2 ≤ c by omega) (by kernel_rfl)
  have HPP := Lib.hid HP
  clear HP
  have HQ := Lib.hid (fun W : World => L.haversackref17_quoted.calls ⟨#[34, 36, 118, 10]⟩ true W (by kernel_rfl))
  go_enter Tryd.func28, Tryd.ntmps28
  go_wp2_with (first | (go_at_call 46; refine (HPP.out _ ?cP).mono ?_; (case cP => (with_reducible repeat (first | exact gB.out | refine pw_below_drewN ?_ _ | refine below_drew1 ?_))); rintro e w' ⟨rfl, ⟨nd, rfl⟩⟩) | (go_at_call 47; refine (HQ.out _).mono ?_; rintro e w' ⟨rfl, ⟨nq, rfl⟩⟩))
  go_region
  all_goals
    go_wp2_with fail
    replace r0 := r0.out
    replace gB := gB.out
    refine bodyPost_ret (results_ct rfl _ _ w.heap.size 41 _ (0, 0) _ rfl (put6 (by (with_reducible repeat (first | exact r0 | refine blk_drewN ?_ _ | refine blk_drew ?_))) _ _ _ _ _ _) hu41 rfl (by kernel_rfl)) rfl ?_; exact ⟨rfl, by (with_reducible repeat (first | exact gB | refine below_set ?_ (Nat.le_refl _) | refine pw_below_drewN ?_ _ | refine below_drew1 ?_))⟩
set_option maxRecDepth 100000 in
set_option maxHeartbeats 2000000 in
theorem line_3 (b o c : Nat) (w : World) (hb : b < w.heap.size) (hk : KC b o [⟨#[109, 107, 100, 105, 114]⟩, ⟨#[100]⟩] w) (hc : 2 ≤ c) : Calls Tryd.prog 28 #[.slice (some ⟨b, o, none⟩) 2 c] w (ReadPost (3, ⟨#[100]⟩, ⟨#[]⟩, ⟨#[]⟩, 0, false, true) w) := by
  have h0 : w.cell? ⟨b, o, none⟩ = some (.string ⟨#[109, 107, 100, 105, 114]⟩) := hk 0 _ rfl
  have h1 : w.cell? ⟨b, o + 1, none⟩ = some (.string ⟨#[100]⟩) := hk 1 _ rfl
  have hu41 := Tryd.underlying41
  have HK := Lib.hid hk
  clear hk
  have r0 := Lib.hid (heap_new' w (.cells #[.int .i64 0, .string ⟨#[]⟩, .string ⟨#[]⟩, .string ⟨#[]⟩, .int .i64 0, .bool false] 41))
  have gB := Lib.hid ((Below.refl w.heap.size w).alloc (Nat.le_refl _) (.cells #[.int .i64 0, .string ⟨#[]⟩, .string ⟨#[]⟩, .string ⟨#[]⟩, .int .i64 0, .bool false] 41))
  have hlt : b < (w.alloc (.cells #[.int .i64 0, .string ⟨#[]⟩, .string ⟨#[]⟩, .string ⟨#[]⟩, .int .i64 0, .bool false] 41)).heap.size := by simp; omega
  have HP : ∀ W : World, Below w.heap.size w W → Calls Tryd.prog 46 #[.slice (some ⟨b, o, none⟩) 2 c] W (fun e w' => e = .returned (.bool true) ∧ Drawn0 W w') := fun W hW =>
    L.haversackref17_plain.calls 20 (some ⟨b, o, none⟩) c [⟨#[109, 107, 100, 105, 114]⟩, ⟨#[100]⟩] true W (C_of_cells (by decide) (KC_later (fun j y hj => HK.out j y (hj)) hb hW)) (show 2 ≤ c by omega) (by kernel_rfl)
  have HPP := Lib.hid HP
  clear HP
  go_enter Tryd.func28, Tryd.ntmps28
  go_wp2_with (first | (go_at_call 46; refine (HPP.out _ ?cP).mono ?_; (case cP => (with_reducible repeat (first | exact gB.out | refine pw_below_drewN ?_ _ | refine below_drew1 ?_))); rintro e w' ⟨rfl, ⟨nd, rfl⟩⟩))
  replace r0 := r0.out
  replace gB := gB.out
  refine bodyPost_ret (results_ct rfl _ _ w.heap.size 41 _ (0, 0) _ rfl (put6 (by (with_reducible repeat (first | exact r0 | refine blk_drewN ?_ _ | refine blk_drew ?_))) _ _ _ _ _ _) hu41 rfl (by kernel_rfl)) rfl ?_; exact ⟨rfl, by (with_reducible repeat (first | exact gB | refine below_set ?_ (Nat.le_refl _) | refine pw_below_drewN ?_ _ | refine below_drew1 ?_))⟩
set_option maxRecDepth 100000 in
set_option maxHeartbeats 2000000 in
theorem line_4 (b o c : Nat) (w : World) (hb : b < w.heap.size) (hk : KC b o [⟨#[114, 101, 109, 111, 118, 101]⟩, ⟨#[97]⟩] w) (hc : 2 ≤ c) : Calls Tryd.prog 28 #[.slice (some ⟨b, o, none⟩) 2 c] w (ReadPost (4, ⟨#[97]⟩, ⟨#[]⟩, ⟨#[]⟩, 0, false, true) w) := by
  have h0 : w.cell? ⟨b, o, none⟩ = some (.string ⟨#[114, 101, 109, 111, 118, 101]⟩) := hk 0 _ rfl
  have h1 : w.cell? ⟨b, o + 1, none⟩ = some (.string ⟨#[97]⟩) := hk 1 _ rfl
  have hu41 := Tryd.underlying41
  have HK := Lib.hid hk
  clear hk
  have r0 := Lib.hid (heap_new' w (.cells #[.int .i64 0, .string ⟨#[]⟩, .string ⟨#[]⟩, .string ⟨#[]⟩, .int .i64 0, .bool false] 41))
  have gB := Lib.hid ((Below.refl w.heap.size w).alloc (Nat.le_refl _) (.cells #[.int .i64 0, .string ⟨#[]⟩, .string ⟨#[]⟩, .string ⟨#[]⟩, .int .i64 0, .bool false] 41))
  have hlt : b < (w.alloc (.cells #[.int .i64 0, .string ⟨#[]⟩, .string ⟨#[]⟩, .string ⟨#[]⟩, .int .i64 0, .bool false] 41)).heap.size := by simp; omega
  have HP : ∀ W : World, Below w.heap.size w W → Calls Tryd.prog 46 #[.slice (some ⟨b, o, none⟩) 2 c] W (fun e w' => e = .returned (.bool true) ∧ Drawn0 W w') := fun W hW =>
    L.haversackref17_plain.calls 20 (some ⟨b, o, none⟩) c [⟨#[114, 101, 109, 111, 118, 101]⟩, ⟨#[97]⟩] true W (C_of_cells (by decide) (KC_later (fun j y hj => HK.out j y (hj)) hb hW)) (show 2 ≤ c by omega) (by kernel_rfl)
  have HPP := Lib.hid HP
  clear HP
  go_enter Tryd.func28, Tryd.ntmps28
  go_wp2_with (first | (go_at_call 46; refine (HPP.out _ ?cP).mono ?_; (case cP => (with_reducible repeat (first | exact gB.out | refine pw_below_drewN ?_ _ | refine below_drew1 ?_))); rintro e w' ⟨rfl, ⟨nd, rfl⟩⟩))
  replace r0 := r0.out
  replace gB := gB.out
  refine bodyPost_ret (results_ct rfl _ _ w.heap.size 41 _ (0, 0) _ rfl (put6 (by (with_reducible repeat (first | exact r0 | refine blk_drewN ?_ _ | refine blk_drew ?_))) _ _ _ _ _ _) hu41 rfl (by kernel_rfl)) rfl ?_; exact ⟨rfl, by (with_reducible repeat (first | exact gB | refine below_set ?_ (Nat.le_refl _) | refine pw_below_drewN ?_ _ | refine below_drew1 ?_))⟩
set_option maxRecDepth 100000 in
set_option maxHeartbeats 2000000 in
theorem line_5 (b o c : Nat) (w : World) (hb : b < w.heap.size) (hk : KC b o [⟨#[114, 101, 110, 97, 109, 101]⟩, ⟨#[97]⟩, ⟨#[101]⟩] w) (hc : 3 ≤ c) : Calls Tryd.prog 28 #[.slice (some ⟨b, o, none⟩) 3 c] w (ReadPost (5, ⟨#[97]⟩, ⟨#[101]⟩, ⟨#[]⟩, 0, false, true) w) := by
  have h0 : w.cell? ⟨b, o, none⟩ = some (.string ⟨#[114, 101, 110, 97, 109, 101]⟩) := hk 0 _ rfl
  have h1 : w.cell? ⟨b, o + 1, none⟩ = some (.string ⟨#[97]⟩) := hk 1 _ rfl
  have h2 : w.cell? ⟨b, o + 2, none⟩ = some (.string ⟨#[101]⟩) := hk 2 _ rfl
  have hu41 := Tryd.underlying41
  have HK := Lib.hid hk
  clear hk
  have r0 := Lib.hid (heap_new' w (.cells #[.int .i64 0, .string ⟨#[]⟩, .string ⟨#[]⟩, .string ⟨#[]⟩, .int .i64 0, .bool false] 41))
  have gB := Lib.hid ((Below.refl w.heap.size w).alloc (Nat.le_refl _) (.cells #[.int .i64 0, .string ⟨#[]⟩, .string ⟨#[]⟩, .string ⟨#[]⟩, .int .i64 0, .bool false] 41))
  have hlt : b < (w.alloc (.cells #[.int .i64 0, .string ⟨#[]⟩, .string ⟨#[]⟩, .string ⟨#[]⟩, .int .i64 0, .bool false] 41)).heap.size := by simp; omega
  have HP : ∀ W : World, Below w.heap.size w W → Calls Tryd.prog 46 #[.slice (some ⟨b, o, none⟩) 3 c] W (fun e w' => e = .returned (.bool true) ∧ Drawn0 W w') := fun W hW =>
    L.haversackref17_plain.calls 20 (some ⟨b, o, none⟩) c [⟨#[114, 101, 110, 97, 109, 101]⟩, ⟨#[97]⟩, ⟨#[101]⟩] true W (C_of_cells (by decide) (KC_later (fun j y hj => HK.out j y (hj)) hb hW)) (show 3 ≤ c by omega) (by kernel_rfl)
  have HPP := Lib.hid HP
  clear HP
  go_enter Tryd.func28, Tryd.ntmps28
  go_wp2_with (first | (go_at_call 46; refine (HPP.out _ ?cP).mono ?_; (case cP => (with_reducible repeat (first | exact gB.out | refine pw_below_drewN ?_ _ | refine below_drew1 ?_))); rintro e w' ⟨rfl, ⟨nd, rfl⟩⟩))
  go_region
  all_goals
    go_wp2_with fail
    replace r0 := r0.out
    replace gB := gB.out
    refine bodyPost_ret (results_ct rfl _ _ w.heap.size 41 _ (0, 0) _ rfl (put6 (by (with_reducible repeat (first | exact r0 | refine blk_drewN ?_ _ | refine blk_drew ?_))) _ _ _ _ _ _) hu41 rfl (by kernel_rfl)) rfl ?_; exact ⟨rfl, by (with_reducible repeat (first | exact gB | refine below_set ?_ (Nat.le_refl _) | refine pw_below_drewN ?_ _ | refine below_drew1 ?_))⟩
set_option maxRecDepth 100000 in
set_option maxHeartbeats 2000000 in
theorem line_6 (b o c : Nat) (w : World) (hb : b < w.heap.size) (hk : KC b o [⟨#[115, 101, 116]⟩, ⟨#[118]⟩, ⟨#[34, 49]⟩] w) (hc : 3 ≤ c) : Calls Tryd.prog 28 #[.slice (some ⟨b, o, none⟩) 3 c] w (ReadPost (6, ⟨#[118]⟩, ⟨#[]⟩, ⟨#[49]⟩, 0, false, true) w) := by
  have h0 : w.cell? ⟨b, o, none⟩ = some (.string ⟨#[115, 101, 116]⟩) := hk 0 _ rfl
  have h1 : w.cell? ⟨b, o + 1, none⟩ = some (.string ⟨#[118]⟩) := hk 1 _ rfl
  have h2 : w.cell? ⟨b, o + 2, none⟩ = some (.string ⟨#[34, 49]⟩) := hk 2 _ rfl
  have hu41 := Tryd.underlying41
  have HK := Lib.hid hk
  clear hk
  have r0 := Lib.hid (heap_new' w (.cells #[.int .i64 0, .string ⟨#[]⟩, .string ⟨#[]⟩, .string ⟨#[]⟩, .int .i64 0, .bool false] 41))
  have gB := Lib.hid ((Below.refl w.heap.size w).alloc (Nat.le_refl _) (.cells #[.int .i64 0, .string ⟨#[]⟩, .string ⟨#[]⟩, .string ⟨#[]⟩, .int .i64 0, .bool false] 41))
  have hlt : b < (w.alloc (.cells #[.int .i64 0, .string ⟨#[]⟩, .string ⟨#[]⟩, .string ⟨#[]⟩, .int .i64 0, .bool false] 41)).heap.size := by simp; omega
  have HP : ∀ W : World, Below w.heap.size w W → Calls Tryd.prog 46 #[.slice (some ⟨b, o, none⟩) 2 c] W (fun e w' => e = .returned (.bool true) ∧ Drawn0 W w') := fun W hW =>
    L.haversackref17_plain.calls 20 (some ⟨b, o, none⟩) c [⟨#[115, 101, 116]⟩, ⟨#[118]⟩] true W (C_of_cells (by decide) (KC_later (fun j y hj => HK.out j y (by match j, hj with | 0, hj => exact hj | 1, hj => exact hj)) hb hW)) (show 2 ≤ c by omega) (by kernel_rfl)
  have HPP := Lib.hid HP
  clear HP
  have HQ := Lib.hid (fun W : World => L.haversackref17_quoted.calls ⟨#[34, 49]⟩ true W (by kernel_rfl))
  go_enter Tryd.func28, Tryd.ntmps28
  go_wp2_with (first | (go_at_call 46; refine (HPP.out _ ?cP).mono ?_; (case cP => (with_reducible repeat (first | exact gB.out | refine pw_below_drewN ?_ _ | refine below_drew1 ?_))); rintro e w' ⟨rfl, ⟨nd, rfl⟩⟩) | (go_at_call 47; refine (HQ.out _).mono ?_; rintro e w' ⟨rfl, ⟨nq, rfl⟩⟩))
  go_region
  all_goals
    go_wp2_with fail
    replace r0 := r0.out
    replace gB := gB.out
    refine bodyPost_ret (results_ct rfl _ _ w.heap.size 41 _ (0, 0) _ rfl (put6 (by (with_reducible repeat (first | exact r0 | refine blk_drewN ?_ _ | refine blk_drew ?_))) _ _ _ _ _ _) hu41 rfl (by kernel_rfl)) rfl ?_; exact ⟨rfl, by (with_reducible repeat (first | exact gB | refine below_set ?_ (Nat.le_refl _) | refine pw_below_drewN ?_ _ | refine below_drew1 ?_))⟩
set_option maxRecDepth 100000 in
set_option maxHeartbeats 2000000 in
theorem line_7 (b o c : Nat) (w : World) (hb : b < w.heap.size) (hk : KC b o [⟨#[105, 102]⟩, ⟨#[101, 120, 105, 115, 116, 115]⟩, ⟨#[97]⟩] w) (hc : 3 ≤ c) : Calls Tryd.prog 28 #[.slice (some ⟨b, o, none⟩) 3 c] w (ReadPost (7, ⟨#[97]⟩, ⟨#[]⟩, ⟨#[]⟩, 0, false, true) w) := by
  have h0 : w.cell? ⟨b, o, none⟩ = some (.string ⟨#[105, 102]⟩) := hk 0 _ rfl
  have h1 : w.cell? ⟨b, o + 1, none⟩ = some (.string ⟨#[101, 120, 105, 115, 116, 115]⟩) := hk 1 _ rfl
  have h2 : w.cell? ⟨b, o + 2, none⟩ = some (.string ⟨#[97]⟩) := hk 2 _ rfl
  have hu41 := Tryd.underlying41
  have HK := Lib.hid hk
  clear hk
  have r0 := Lib.hid (heap_new' w (.cells #[.int .i64 0, .string ⟨#[]⟩, .string ⟨#[]⟩, .string ⟨#[]⟩, .int .i64 0, .bool false] 41))
  have gB := Lib.hid ((Below.refl w.heap.size w).alloc (Nat.le_refl _) (.cells #[.int .i64 0, .string ⟨#[]⟩, .string ⟨#[]⟩, .string ⟨#[]⟩, .int .i64 0, .bool false] 41))
  have hlt : b < (w.alloc (.cells #[.int .i64 0, .string ⟨#[]⟩, .string ⟨#[]⟩, .string ⟨#[]⟩, .int .i64 0, .bool false] 41)).heap.size := by simp; omega
  have HP : ∀ W : World, Below w.heap.size w W → Calls Tryd.prog 46 #[.slice (some ⟨b, o, none⟩) 3 c] W (fun e w' => e = .returned (.bool true) ∧ Drawn0 W w') := fun W hW =>
    L.haversackref17_plain.calls 20 (some ⟨b, o, none⟩) c [⟨#[105, 102]⟩, ⟨#[101, 120, 105, 115, 116, 115]⟩, ⟨#[97]⟩] true W (C_of_cells (by decide) (KC_later (fun j y hj => HK.out j y (hj)) hb hW)) (show 3 ≤ c by omega) (by kernel_rfl)
  have HPP := Lib.hid HP
  clear HP
  go_enter Tryd.func28, Tryd.ntmps28
  go_wp2_with (first | (go_at_call 46; refine (HPP.out _ ?cP).mono ?_; (case cP => (with_reducible repeat (first | exact gB.out | refine pw_below_drewN ?_ _ | refine below_drew1 ?_))); rintro e w' ⟨rfl, ⟨nd, rfl⟩⟩))
  replace r0 := r0.out
  replace gB := gB.out
  refine bodyPost_ret (results_ct rfl _ _ w.heap.size 41 _ (0, 0) _ rfl (put6 (by (with_reducible repeat (first | exact r0 | refine blk_drewN ?_ _ | refine blk_drew ?_))) _ _ _ _ _ _) hu41 rfl (by kernel_rfl)) rfl ?_; exact ⟨rfl, by (with_reducible repeat (first | exact gB | refine below_set ?_ (Nat.le_refl _) | refine pw_below_drewN ?_ _ | refine below_drew1 ?_))⟩
set_option maxRecDepth 100000 in
set_option maxHeartbeats 2000000 in
theorem line_8 (b o c : Nat) (w : World) (hb : b < w.heap.size) (hk : KC b o [⟨#[105, 102]⟩, ⟨#[110, 111, 116]⟩, ⟨#[101, 120, 105, 115, 116, 115]⟩, ⟨#[97]⟩] w) (hc : 4 ≤ c) : Calls Tryd.prog 28 #[.slice (some ⟨b, o, none⟩) 4 c] w (ReadPost (7, ⟨#[97]⟩, ⟨#[]⟩, ⟨#[]⟩, 0, true, true) w) := by
  have h0 : w.cell? ⟨b, o, none⟩ = some (.string ⟨#[105, 102]⟩) := hk 0 _ rfl
  have h1 : w.cell? ⟨b, o + 1, none⟩ = some (.string ⟨#[110, 111, 116]⟩) := hk 1 _ rfl
  have h2 : w.cell? ⟨b, o + 2, none⟩ = some (.string ⟨#[101, 120, 105, 115, 116, 115]⟩) := hk 2 _ rfl
  have h3 : w.cell? ⟨b, o + 3, none⟩ = some (.string ⟨#[97]⟩) := hk 3 _ rfl
  have hu41 := Tryd.underlying41
  have HK := Lib.hid hk
  clear hk
  have r0 := Lib.hid (heap_new' w (.cells #[.int .i64 0, .string ⟨#[]⟩, .string ⟨#[]⟩, .string ⟨#[]⟩, .int .i64 0, .bool false] 41))
  have gB := Lib.hid ((Below.refl w.heap.size w).alloc (Nat.le_refl _) (.cells #[.int .i64 0, .string ⟨#[]⟩, .string ⟨#[]⟩, .string ⟨#[]⟩, .int .i64 0, .bool false] 41))
  have hlt : b < (w.alloc (.cells #[.int .i64 0, .string ⟨#[]⟩, .string ⟨#[]⟩, .string ⟨#[]⟩, .int .i64 0, .bool false] 41)).heap.size := by simp; omega
  have HP : ∀ W : World, Below w.heap.size w W → Calls Tryd.prog 46 #[.slice (some ⟨b, o, none⟩) 4 c] W (fun e w' => e = .returned (.bool true) ∧ Drawn0 W w') := fun W hW =>
    L.haversackref17_plain.calls 20 (some ⟨b, o, none⟩) c [⟨#[105, 102]⟩, ⟨#[110, 111, 116]⟩, ⟨#[101, 120, 105, 115, 116, 115]⟩, ⟨#[97]⟩] true W (C_of_cells (by decide) (KC_later (fun j y hj => HK.out j y (hj)) hb hW)) (show 4 ≤ c by omega) (by kernel_rfl)
  have HPP := Lib.hid HP
  clear HP
  go_enter Tryd.func28, Tryd.ntmps28
  go_wp2_with (first | (go_at_call 46; refine (HPP.out _ ?cP).mono ?_; (case cP => (with_reducible repeat (first | exact gB.out | refine pw_below_drewN ?_ _ | refine below_drew1 ?_))); rintro e w' ⟨rfl, ⟨nd, rfl⟩⟩))
  replace r0 := r0.out
  replace gB := gB.out
  refine bodyPost_ret (results_ct rfl _ _ w.heap.size 41 _ (0, 0) _ rfl (put6 (by (with_reducible repeat (first | exact r0 | refine blk_drewN ?_ _ | refine blk_drew ?_))) _ _ _ _ _ _) hu41 rfl (by kernel_rfl)) rfl ?_; exact ⟨rfl, by (with_reducible repeat (first | exact gB | refine below_set ?_ (Nat.le_refl _) | refine pw_below_drewN ?_ _ | refine below_drew1 ?_))⟩
set_option maxRecDepth 100000 in
set_option maxHeartbeats 2000000 in
theorem line_9 (b o c : Nat) (w : World) (hb : b < w.heap.size) (hk : KC b o [⟨#[101, 108, 115, 101]⟩] w) (hc : 1 ≤ c) : Calls Tryd.prog 28 #[.slice (some ⟨b, o, none⟩) 1 c] w (ReadPost (9, ⟨#[]⟩, ⟨#[]⟩, ⟨#[]⟩, 0, false, true) w) := by
  have h0 : w.cell? ⟨b, o, none⟩ = some (.string ⟨#[101, 108, 115, 101]⟩) := hk 0 _ rfl
  have hu41 := Tryd.underlying41
  have HK := Lib.hid hk
  clear hk
  have r0 := Lib.hid (heap_new' w (.cells #[.int .i64 0, .string ⟨#[]⟩, .string ⟨#[]⟩, .string ⟨#[]⟩, .int .i64 0, .bool false] 41))
  have gB := Lib.hid ((Below.refl w.heap.size w).alloc (Nat.le_refl _) (.cells #[.int .i64 0, .string ⟨#[]⟩, .string ⟨#[]⟩, .string ⟨#[]⟩, .int .i64 0, .bool false] 41))
  have hlt : b < (w.alloc (.cells #[.int .i64 0, .string ⟨#[]⟩, .string ⟨#[]⟩, .string ⟨#[]⟩, .int .i64 0, .bool false] 41)).heap.size := by simp; omega
  go_enter Tryd.func28, Tryd.ntmps28
  go_wp2_with (fail)
  refine bodyPost_ret (results_ct rfl _ _ w.heap.size 41 _ (0, 0) _ rfl (heap_new' _ _) hu41 rfl (by kernel_rfl)) rfl ?_; exact ⟨rfl, (Below.refl _ _).alloc (Nat.le_refl _) _⟩
set_option maxRecDepth 100000 in
set_option maxHeartbeats 2000000 in
theorem line_10 (b o c : Nat) (w : World) (hb : b < w.heap.size) (hk : KC b o [⟨#[101, 110, 100]⟩] w) (hc : 1 ≤ c) : Calls Tryd.prog 28 #[.slice (some ⟨b, o, none⟩) 1 c] w (ReadPost (10, ⟨#[]⟩, ⟨#[]⟩, ⟨#[]⟩, 0, false, true) w) := by
  have h0 : w.cell? ⟨b, o, none⟩ = some (.string ⟨#[101, 110, 100]⟩) := hk 0 _ rfl
  have hu41 := Tryd.underlying41
  have HK := Lib.hid hk
  clear hk
  have r0 := Lib.hid (heap_new' w (.cells #[.int .i64 0, .string ⟨#[]⟩, .string ⟨#[]⟩, .string ⟨#[]⟩, .int .i64 0, .bool false] 41))
  have gB := Lib.hid ((Below.refl w.heap.size w).alloc (Nat.le_refl _) (.cells #[.int .i64 0, .string ⟨#[]⟩, .string ⟨#[]⟩, .string ⟨#[]⟩, .int .i64 0, .bool false] 41))
  have hlt : b < (w.alloc (.cells #[.int .i64 0, .string ⟨#[]⟩, .string ⟨#[]⟩, .string ⟨#[]⟩, .int .i64 0, .bool false] 41)).heap.size := by simp; omega
  go_enter Tryd.func28, Tryd.ntmps28
  go_wp2_with (fail)
  refine bodyPost_ret (results_ct rfl _ _ w.heap.size 41 _ (0, 0) _ rfl (heap_new' _ _) hu41 rfl (by kernel_rfl)) rfl ?_; exact ⟨rfl, (Below.refl _ _).alloc (Nat.le_refl _) _⟩
set_option maxRecDepth 100000 in
set_option maxHeartbeats 2000000 in
theorem line_11 (b o c : Nat) (w : World) (hb : b < w.heap.size) (hk : KC b o [⟨#[102, 97, 105, 108]⟩, ⟨#[34, 110, 111]⟩] w) (hc : 2 ≤ c) : Calls Tryd.prog 28 #[.slice (some ⟨b, o, none⟩) 2 c] w (ReadPost (11, ⟨#[]⟩, ⟨#[]⟩, ⟨#[110, 111]⟩, 0, false, true) w) := by
  have h0 : w.cell? ⟨b, o, none⟩ = some (.string ⟨#[102, 97, 105, 108]⟩) := hk 0 _ rfl
  have h1 : w.cell? ⟨b, o + 1, none⟩ = some (.string ⟨#[34, 110, 111]⟩) := hk 1 _ rfl
  have hu41 := Tryd.underlying41
  have HK := Lib.hid hk
  clear hk
  have r0 := Lib.hid (heap_new' w (.cells #[.int .i64 0, .string ⟨#[]⟩, .string ⟨#[]⟩, .string ⟨#[]⟩, .int .i64 0, .bool false] 41))
  have gB := Lib.hid ((Below.refl w.heap.size w).alloc (Nat.le_refl _) (.cells #[.int .i64 0, .string ⟨#[]⟩, .string ⟨#[]⟩, .string ⟨#[]⟩, .int .i64 0, .bool false] 41))
  have hlt : b < (w.alloc (.cells #[.int .i64 0, .string ⟨#[]⟩, .string ⟨#[]⟩, .string ⟨#[]⟩, .int .i64 0, .bool false] 41)).heap.size := by simp; omega
  have HQ := Lib.hid (fun W : World => L.haversackref17_quoted.calls ⟨#[34, 110, 111]⟩ true W (by kernel_rfl))
  go_enter Tryd.func28, Tryd.ntmps28
  go_wp2_with (first | (go_at_call 47; refine (HQ.out _).mono ?_; rintro e w' ⟨rfl, ⟨nq, rfl⟩⟩))
  replace r0 := r0.out
  replace gB := gB.out
  refine bodyPost_ret (results_ct rfl _ _ w.heap.size 41 _ (0, 0) _ rfl (put6 (by (with_reducible repeat (first | exact r0 | refine blk_drewN ?_ _ | refine blk_drew ?_))) _ _ _ _ _ _) hu41 rfl (by kernel_rfl)) rfl ?_; exact ⟨rfl, by (with_reducible repeat (first | exact gB | refine below_set ?_ (Nat.le_refl _) | refine pw_below_drewN ?_ _ | refine below_drew1 ?_))⟩
set_option maxRecDepth 100000 in
set_option maxHeartbeats 2000000 in
theorem line_12 (b o c : Nat) (w : World) (hb : b < w.heap.size) (hk : KC b o [⟨#[99, 111, 112, 121]⟩, ⟨#[97]⟩] w) (hc : 2 ≤ c) : Calls Tryd.prog 28 #[.slice (some ⟨b, o, none⟩) 2 c] w (ReadPost (0, ⟨#[]⟩, ⟨#[]⟩, ⟨#[]⟩, 0, false, false) w) := by
  have h0 : w.cell? ⟨b, o, none⟩ = some (.string ⟨#[99, 111, 112, 121]⟩) := hk 0 _ rfl
  have h1 : w.cell? ⟨b, o + 1, none⟩ = some (.string ⟨#[97]⟩) := hk 1 _ rfl
  have hu41 := Tryd.underlying41
  have HK := Lib.hid hk
  clear hk
  have r0 := Lib.hid (heap_new' w (.cells #[.int .i64 0, .string ⟨#[]⟩, .string ⟨#[]⟩, .string ⟨#[]⟩, .int .i64 0, .bool false] 41))
  have gB := Lib.hid ((Below.refl w.heap.size w).alloc (Nat.le_refl _) (.cells #[.int .i64 0, .string ⟨#[]⟩, .string ⟨#[]⟩, .string ⟨#[]⟩, .int .i64 0, .bool false] 41))
  have hlt : b < (w.alloc (.cells #[.int .i64 0, .string ⟨#[]⟩, .string ⟨#[]⟩, .string ⟨#[]⟩, .int .i64 0, .bool false] 41)).heap.size := by simp; omega
  go_enter Tryd.func28, Tryd.ntmps28
  go_wp2_with (fail)
  refine bodyPost_ret (results_ct rfl _ _ w.heap.size 41 _ (0, 0) _ rfl (heap_new' _ _) hu41 rfl (by kernel_rfl)) rfl ?_; exact ⟨rfl, (Below.refl _ _).alloc (Nat.le_refl _) _⟩
set_option maxRecDepth 100000 in
set_option maxHeartbeats 2000000 in
theorem line_13 (b o c : Nat) (w : World) (hb : b < w.heap.size) (hk : KC b o [⟨#[115, 101, 116]⟩, ⟨#[118]⟩, ⟨#[49]⟩] w) (hc : 3 ≤ c) : Calls Tryd.prog 28 #[.slice (some ⟨b, o, none⟩) 3 c] w (ReadPost (0, ⟨#[]⟩, ⟨#[]⟩, ⟨#[]⟩, 0, false, false) w) := by
  have h0 : w.cell? ⟨b, o, none⟩ = some (.string ⟨#[115, 101, 116]⟩) := hk 0 _ rfl
  have h1 : w.cell? ⟨b, o + 1, none⟩ = some (.string ⟨#[118]⟩) := hk 1 _ rfl
  have h2 : w.cell? ⟨b, o + 2, none⟩ = some (.string ⟨#[49]⟩) := hk 2 _ rfl
  have hu41 := Tryd.underlying41
  have HK := Lib.hid hk
  clear hk
  have r0 := Lib.hid (heap_new' w (.cells #[.int .i64 0, .string ⟨#[]⟩, .string ⟨#[]⟩, .string ⟨#[]⟩, .int .i64 0, .bool false] 41))
  have gB := Lib.hid ((Below.refl w.heap.size w).alloc (Nat.le_refl _) (.cells #[.int .i64 0, .string ⟨#[]⟩, .string ⟨#[]⟩, .string ⟨#[]⟩, .int .i64 0, .bool false] 41))
  have hlt : b < (w.alloc (.cells #[.int .i64 0, .string ⟨#[]⟩, .string ⟨#[]⟩, .string ⟨#[]⟩, .int .i64 0, .bool false] 41)).heap.size := by simp; omega
  have HP : ∀ W : World, Below w.heap.size w W → Calls Tryd.prog 46 #[.slice (some ⟨b, o, none⟩) 2 c] W (fun e w' => e = .returned (.bool true) ∧ Drawn0 W w') := fun W hW =>
    L.haversackref17_plain.calls 20 (some ⟨b, o, none⟩) c [⟨#[115, 101, 116]⟩, ⟨#[118]⟩] true W (C_of_cells (by decide) (KC_later (fun j y hj => HK.out j y (by match j, hj with | 0, hj => exact hj | 1, hj => exact hj)) hb hW)) (show 2 ≤ c by omega) (by kernel_rfl)
  have HPP := Lib.hid HP
  clear HP
  have HQ := Lib.hid (fun W : World => L.haversackref17_quoted.calls ⟨#[49]⟩ false W (by kernel_rfl))
  go_enter Tryd.func28, Tryd.ntmps28
  go_wp2_with (first | (go_at_call 46; refine (HPP.out _ ?cP).mono ?_; (case cP => (with_reducible repeat (first | exact gB.out | refine pw_below_drewN ?_ _ | refine below_drew1 ?_))); rintro e w' ⟨rfl, ⟨nd, rfl⟩⟩) | (go_at_call 47; refine (HQ.out _).mono ?_; rintro e w' ⟨rfl, ⟨nq, rfl⟩⟩))
  replace r0 := r0.out
  replace gB := gB.out
  refine bodyPost_ret (results_ct rfl _ _ w.heap.size 41 _ (0, 0) _ rfl (put6 (by (with_reducible repeat (first | exact r0 | refine blk_drewN ?_ _ | refine blk_drew ?_))) _ _ _ _ _ _) hu41 rfl (by kernel_rfl)) rfl ?_; exact ⟨rfl, by (with_reducible repeat (first | exact gB | refine below_set ?_ (Nat.le_refl _) | refine pw_below_drewN ?_ _ | refine below_drew1 ?_))⟩
set_option maxRecDepth 100000 in
set_option maxHeartbeats 2000000 in
theorem line_14 (b o c : Nat) (w : World) (hb : b < w.heap.size) (hk : KC b o [⟨#[101, 110, 100]⟩, ⟨#[101, 110, 100]⟩] w) (hc : 2 ≤ c) : Calls Tryd.prog 28 #[.slice (some ⟨b, o, none⟩) 2 c] w (ReadPost (10, ⟨#[]⟩, ⟨#[]⟩, ⟨#[]⟩, 0, false, false) w) := by
  have h0 : w.cell? ⟨b, o, none⟩ = some (.string ⟨#[101, 110, 100]⟩) := hk 0 _ rfl
  have h1 : w.cell? ⟨b, o + 1, none⟩ = some (.string ⟨#[101, 110, 100]⟩) := hk 1 _ rfl
  have hu41 := Tryd.underlying41
  have HK := Lib.hid hk
  clear hk
  have r0 := Lib.hid (heap_new' w (.cells #[.int .i64 0, .string ⟨#[]⟩, .string ⟨#[]⟩, .string ⟨#[]⟩, .int .i64 0, .bool false] 41))
  have gB := Lib.hid ((Below.refl w.heap.size w).alloc (Nat.le_refl _) (.cells #[.int .i64 0, .string ⟨#[]⟩, .string ⟨#[]⟩, .string ⟨#[]⟩, .int .i64 0, .bool false] 41))
  have hlt : b < (w.alloc (.cells #[.int .i64 0, .string ⟨#[]⟩, .string ⟨#[]⟩, .string ⟨#[]⟩, .int .i64 0, .bool false] 41)).heap.size := by simp; omega
  go_enter Tryd.func28, Tryd.ntmps28
  go_wp2_with (fail)
  refine bodyPost_ret (results_ct rfl _ _ w.heap.size 41 _ (0, 0) _ rfl (heap_new' _ _) hu41 rfl (by kernel_rfl)) rfl ?_; exact ⟨rfl, (Below.refl _ _).alloc (Nat.le_refl _) _⟩
set_option maxRecDepth 100000 in
set_option maxHeartbeats 2000000 in
theorem line_15 (b o c : Nat) (w : World) (hb : b < w.heap.size) (hk : KC b o [⟨#[114, 101, 112, 101, 97, 116]⟩, ⟨#[50]⟩] w) (hc : 2 ≤ c) : Calls Tryd.prog 28 #[.slice (some ⟨b, o, none⟩) 2 c] w (ReadPost (8, ⟨#[]⟩, ⟨#[]⟩, ⟨#[]⟩, 2, false, true) w) := by
  have h0 : w.cell? ⟨b, o, none⟩ = some (.string ⟨#[114, 101, 112, 101, 97, 116]⟩) := hk 0 _ rfl
  have h1 : w.cell? ⟨b, o + 1, none⟩ = some (.string ⟨#[50]⟩) := hk 1 _ rfl
  have hu41 := Tryd.underlying41
  have HK := Lib.hid hk
  clear hk
  have r0 := Lib.hid (heap_new' w (.cells #[.int .i64 0, .string ⟨#[]⟩, .string ⟨#[]⟩, .string ⟨#[]⟩, .int .i64 0, .bool false] 41))
  have gB := Lib.hid ((Below.refl w.heap.size w).alloc (Nat.le_refl _) (.cells #[.int .i64 0, .string ⟨#[]⟩, .string ⟨#[]⟩, .string ⟨#[]⟩, .int .i64 0, .bool false] 41))
  have hlt : b < (w.alloc (.cells #[.int .i64 0, .string ⟨#[]⟩, .string ⟨#[]⟩, .string ⟨#[]⟩, .int .i64 0, .bool false] 41)).heap.size := by simp; omega
  go_enter Tryd.func28, Tryd.ntmps28
  go_wp2_with (fail)
  go_loop [8, 9] (fun v i => (v = .int .i64 0 ∧ i = .int .i64 0) ∨ (v = .int .i64 2 ∧ i = .int .i64 1)) (fun _ i => 1 - (intOf i).toNat)
  case atStart => exact .inl ⟨rfl, rfl⟩
  case round =>
    rcases hrel with ⟨rfl, rfl⟩ | ⟨rfl, rfl⟩
    all_goals (go_wp2; first | (go_round; (case rel => (repeat (first | exact ⟨rfl, rfl⟩ | exact .inl ⟨rfl, rfl⟩ | refine .inr ?_))); (case measure => simp [intOf])) | (refine bodyPost_ret (results_ct rfl _ _ w.heap.size 41 _ (0, 0) _ rfl (heap_new' _ _) hu41 rfl (by kernel_rfl)) rfl ?_; exact ⟨rfl, (Below.refl _ _).alloc (Nat.le_refl _) _⟩))
set_option maxRecDepth 100000 in
set_option maxHeartbeats 2000000 in
theorem line_16 (b o c : Nat) (w : World) (hb : b < w.heap.size) (hk : KC b o [⟨#[114, 101, 112, 101, 97, 116]⟩, ⟨#[49, 48, 48, 49]⟩] w) (hc : 2 ≤ c) : Calls Tryd.prog 28 #[.slice (some ⟨b, o, none⟩) 2 c] w (ReadPost (8, ⟨#[]⟩, ⟨#[]⟩, ⟨#[]⟩, 1001, false, false) w) := by
  have h0 : w.cell? ⟨b, o, none⟩ = some (.string ⟨#[114, 101, 112, 101, 97, 116]⟩) := hk 0 _ rfl
  have h1 : w.cell? ⟨b, o + 1, none⟩ = some (.string ⟨#[49, 48, 48, 49]⟩) := hk 1 _ rfl
  have hu41 := Tryd.underlying41
  have HK := Lib.hid hk
  clear hk
  have r0 := Lib.hid (heap_new' w (.cells #[.int .i64 0, .string ⟨#[]⟩, .string ⟨#[]⟩, .string ⟨#[]⟩, .int .i64 0, .bool false] 41))
  have gB := Lib.hid ((Below.refl w.heap.size w).alloc (Nat.le_refl _) (.cells #[.int .i64 0, .string ⟨#[]⟩, .string ⟨#[]⟩, .string ⟨#[]⟩, .int .i64 0, .bool false] 41))
  have hlt : b < (w.alloc (.cells #[.int .i64 0, .string ⟨#[]⟩, .string ⟨#[]⟩, .string ⟨#[]⟩, .int .i64 0, .bool false] 41)).heap.size := by simp; omega
  go_enter Tryd.func28, Tryd.ntmps28
  go_wp2_with (fail)
  go_loop [8, 9] (fun v i => (v = .int .i64 0 ∧ i = .int .i64 0) ∨ (v = .int .i64 1 ∧ i = .int .i64 1) ∨ (v = .int .i64 10 ∧ i = .int .i64 2) ∨ (v = .int .i64 100 ∧ i = .int .i64 3) ∨ (v = .int .i64 1001 ∧ i = .int .i64 4)) (fun _ i => 4 - (intOf i).toNat)
  case atStart => exact .inl ⟨rfl, rfl⟩
  case round =>
    rcases hrel with ⟨rfl, rfl⟩ | ⟨rfl, rfl⟩ | ⟨rfl, rfl⟩ | ⟨rfl, rfl⟩ | ⟨rfl, rfl⟩
    all_goals (go_wp2; first | (go_round; (case rel => (repeat (first | exact ⟨rfl, rfl⟩ | exact .inl ⟨rfl, rfl⟩ | refine .inr ?_))); (case measure => simp [intOf])) | (refine bodyPost_ret (results_ct rfl _ _ w.heap.size 41 _ (0, 0) _ rfl (heap_new' _ _) hu41 rfl (by kernel_rfl)) rfl ?_; exact ⟨rfl, (Below.refl _ _).alloc (Nat.le_refl _) _⟩))
/-- What line comes to at the laws' lists. -/
def lineT : List (List ByteArray × ReadR) := [([⟨#[99, 111, 112, 121]⟩, ⟨#[97]⟩, ⟨#[98]⟩], (0, ⟨#[97]⟩, ⟨#[98]⟩, ⟨#[]⟩, 0, false, true)),
  ([⟨#[119, 114, 105, 116, 101]⟩, ⟨#[97]⟩, ⟨#[34, 120]⟩], (1, ⟨#[97]⟩, ⟨#[]⟩, ⟨#[120]⟩, 0, false, true)),
  ([⟨#[97, 112, 112, 101, 110, 100]⟩, ⟨#[98, 47, 99]⟩, ⟨#[34, 36, 118, 10]⟩], (2, ⟨#[98, 47, 99]⟩, ⟨#[]⟩, ⟨#[36, 118, 10]⟩, 0, false, true)),
  ([⟨#[109, 107, 100, 105, 114]⟩, ⟨#[100]⟩], (3, ⟨#[100]⟩, ⟨#[]⟩, ⟨#[]⟩, 0, false, true)),
  ([⟨#[114, 101, 109, 111, 118, 101]⟩, ⟨#[97]⟩], (4, ⟨#[97]⟩, ⟨#[]⟩, ⟨#[]⟩, 0, false, true)),
  ([⟨#[114, 101, 110, 97, 109, 101]⟩, ⟨#[97]⟩, ⟨#[101]⟩], (5, ⟨#[97]⟩, ⟨#[101]⟩, ⟨#[]⟩, 0, false, true)),
  ([⟨#[115, 101, 116]⟩, ⟨#[118]⟩, ⟨#[34, 49]⟩], (6, ⟨#[118]⟩, ⟨#[]⟩, ⟨#[49]⟩, 0, false, true)),
  ([⟨#[105, 102]⟩, ⟨#[101, 120, 105, 115, 116, 115]⟩, ⟨#[97]⟩], (7, ⟨#[97]⟩, ⟨#[]⟩, ⟨#[]⟩, 0, false, true)),
  ([⟨#[105, 102]⟩, ⟨#[110, 111, 116]⟩, ⟨#[101, 120, 105, 115, 116, 115]⟩, ⟨#[97]⟩], (7, ⟨#[97]⟩, ⟨#[]⟩, ⟨#[]⟩, 0, true, true)),
  ([⟨#[101, 108, 115, 101]⟩], (9, ⟨#[]⟩, ⟨#[]⟩, ⟨#[]⟩, 0, false, true)),
  ([⟨#[101, 110, 100]⟩], (10, ⟨#[]⟩, ⟨#[]⟩, ⟨#[]⟩, 0, false, true)),
  ([⟨#[102, 97, 105, 108]⟩, ⟨#[34, 110, 111]⟩], (11, ⟨#[]⟩, ⟨#[]⟩, ⟨#[110, 111]⟩, 0, false, true)),
  ([⟨#[99, 111, 112, 121]⟩, ⟨#[97]⟩], (0, ⟨#[]⟩, ⟨#[]⟩, ⟨#[]⟩, 0, false, false)),
  ([⟨#[115, 101, 116]⟩, ⟨#[118]⟩, ⟨#[49]⟩], (0, ⟨#[]⟩, ⟨#[]⟩, ⟨#[]⟩, 0, false, false)),
  ([⟨#[101, 110, 100]⟩, ⟨#[101, 110, 100]⟩], (10, ⟨#[]⟩, ⟨#[]⟩, ⟨#[]⟩, 0, false, false)),
  ([⟨#[114, 101, 112, 101, 97, 116]⟩, ⟨#[50]⟩], (8, ⟨#[]⟩, ⟨#[]⟩, ⟨#[]⟩, 2, false, true)),
  ([⟨#[114, 101, 112, 101, 97, 116]⟩, ⟨#[49, 48, 48, 49]⟩], (8, ⟨#[]⟩, ⟨#[]⟩, ⟨#[]⟩, 1001, false, false))]
def haversackref17_line.f (k : Nat) (l : List ByteArray) : Option ReadR := (lineT.find? fun x => x.1 = l).map (·.2)
theorem haversackref17_line.mono : ∀ a0 k, LeO (haversackref17_line.f k a0) (haversackref17_line.f (k + 1) a0) := fun a0 k => by
  have : haversackref17_line.f k a0 = haversackref17_line.f (k + 1) a0 := rfl
  rw [this]
  exact LeO.refl _
theorem haversackref17_line.calls (k : Nat) (A0 : Option Addr) (c0 : Nat) (l0 : List ByteArray) (r1 : Int) (r2 : ByteArray) (r3 : ByteArray) (r4 : ByteArray) (r5 : Int) (r6 : Bool) (r7 : Bool) (w : World) (hr0 : Kd.C Kd.string w A0 l0.length l0) (hc0 : l0.length ≤ c0) (h : haversackref17_line.f k l0 = some (r1, r2, r3, r4, r5, r6, r7)) :
    Calls Tryd.prog 28 #[.slice A0 l0.length c0] w (ReadPost (r1, r2, r3, r4, r5, r6, r7) w) := by
  unfold haversackref17_line.f at h
  obtain ⟨x, hx, h2⟩ := Option.map_eq_some_iff.1 h
  have hm := List.mem_of_find?_eq_some hx
  have he : x.1 = l0 := by simpa using List.find?_some hx
  subst he
  rw [← h2]
  simp only [lineT, List.mem_cons, List.not_mem_nil, or_false] at hm
  clear hx h h2
  rcases hm with rfl | rfl | rfl | rfl | rfl | rfl | rfl | rfl | rfl | rfl | rfl | rfl | rfl | rfl | rfl | rfl | rfl
  · obtain ⟨b, o, rfl, hb, hcell⟩ := C_cells hr0 (by decide); exact line_0 b o c0 w hb hcell hc0
  · obtain ⟨b, o, rfl, hb, hcell⟩ := C_cells hr0 (by decide); exact line_1 b o c0 w hb hcell hc0
  · obtain ⟨b, o, rfl, hb, hcell⟩ := C_cells hr0 (by decide); exact line_2 b o c0 w hb hcell hc0
  · obtain ⟨b, o, rfl, hb, hcell⟩ := C_cells hr0 (by decide); exact line_3 b o c0 w hb hcell hc0
  · obtain ⟨b, o, rfl, hb, hcell⟩ := C_cells hr0 (by decide); exact line_4 b o c0 w hb hcell hc0
  · obtain ⟨b, o, rfl, hb, hcell⟩ := C_cells hr0 (by decide); exact line_5 b o c0 w hb hcell hc0
  · obtain ⟨b, o, rfl, hb, hcell⟩ := C_cells hr0 (by decide); exact line_6 b o c0 w hb hcell hc0
  · obtain ⟨b, o, rfl, hb, hcell⟩ := C_cells hr0 (by decide); exact line_7 b o c0 w hb hcell hc0
  · obtain ⟨b, o, rfl, hb, hcell⟩ := C_cells hr0 (by decide); exact line_8 b o c0 w hb hcell hc0
  · obtain ⟨b, o, rfl, hb, hcell⟩ := C_cells hr0 (by decide); exact line_9 b o c0 w hb hcell hc0
  · obtain ⟨b, o, rfl, hb, hcell⟩ := C_cells hr0 (by decide); exact line_10 b o c0 w hb hcell hc0
  · obtain ⟨b, o, rfl, hb, hcell⟩ := C_cells hr0 (by decide); exact line_11 b o c0 w hb hcell hc0
  · obtain ⟨b, o, rfl, hb, hcell⟩ := C_cells hr0 (by decide); exact line_12 b o c0 w hb hcell hc0
  · obtain ⟨b, o, rfl, hb, hcell⟩ := C_cells hr0 (by decide); exact line_13 b o c0 w hb hcell hc0
  · obtain ⟨b, o, rfl, hb, hcell⟩ := C_cells hr0 (by decide); exact line_14 b o c0 w hb hcell hc0
  · obtain ⟨b, o, rfl, hb, hcell⟩ := C_cells hr0 (by decide); exact line_15 b o c0 w hb hcell hc0
  · obtain ⟨b, o, rfl, hb, hcell⟩ := C_cells hr0 (by decide); exact line_16 b o c0 w hb hcell hc0
end Go.Proofs.YtkcemdfhhdjdaaaDoor.Ext
