-- by wip/xprint.py: printed out of the translation by this session's program.
import Derived.Test.YtkcemdfhhdjdaaaDoorParse
import Derived.Test.YtkcemdfhhdjdaaaDoorText
import Derived.Test.YtkcemdfhhdjdaaaDoorPx0
import Derived.Test.YtkcemdfhhdjdaaaDoorPx4
namespace Go.Proofs.YtkcemdfhhdjdaaaDoor.P
open Go.RowKit Go.Proofs.YtkcemdfhhdjdaaaDoor.Ext Go.Proofs.YtkcemdfhhdjdaaaDoorW.PrintWords Go.Proofs.YtkcemdfhhdjdaaaDoorW.PrintLast Go.Proofs.YtkcemdfhhdjdaaaDoorW.PrintMore
attribute [local go_sem] max2_int min2_int max_two min_two max_three min_three max_four min_four   -- for this text's walks alone
set_option linter.unusedVariables false
set_option linter.unusedSimpArgs false

/-! ### haversacklaw17_ScriptQuotes: function 6 -/
mutual
def haversacklaw17_ScriptQuotes.l0 : Nat → List ByteArray → ByteArray → Int → Option (Bool)
  | 0, _, _, _ => none
  | k + 1, x0, x3, x4 => if x4 < (x0.length : Int) then (if 0 ≤ x4 then (if ((rdOf ByteArray.empty x0 x4).size : Int) > 200 then (some true) else (haversacklaw17_ScriptQuotes.l1 k x0 x3 x4 (⟨#[]⟩ : ByteArray) 0)) else (none)) else ((script_Parse.f k x3).bind fun bt215 => (if bt215.2.2 = 0 then (if (bt215.1.length : Int) = (x0.length : Int) then ((script_Text.f k bt215.1).bind fun t220 => (haversacklaw17_ScriptQuotes.j3 k x0 bt215.1 (t220.toList != x3.toList))) else (haversacklaw17_ScriptQuotes.j3 k x0 bt215.1 true)) else (haversacklaw17_ScriptQuotes.j3 k x0 bt215.1 true)))
def haversacklaw17_ScriptQuotes.l1 : Nat → List ByteArray → ByteArray → Int → ByteArray → Int → Option (Bool)
  | 0, _, _, _, _, _ => none
  | k + 1, x0, x3, x4, x5, x6 => if 0 ≤ x4 then (if x4 < (x0.length : Int) then (if x6 < ((rdOf ByteArray.empty x0 x4).size : Int) then (if 0 ≤ x6 then (if (bt (rdOf ByteArray.empty x0 x4) x6) = 34 then (haversacklaw17_ScriptQuotes.j2 k x0 x3 x4 x5 x6 (bt (rdOf ByteArray.empty x0 x4) x6) ((bt (rdOf ByteArray.empty x0 x4) x6) == 34)) else (haversacklaw17_ScriptQuotes.j2 k x0 x3 x4 x5 x6 (bt (rdOf ByteArray.empty x0 x4) x6) ((bt (rdOf ByteArray.empty x0 x4) x6) == 92))) else (none)) else (if x3.size + 9 ≤ 9223372036854775807 then (if (x3 ++ (⟨#[119, 114, 105, 116, 101, 32, 102, 32, 34]⟩ : ByteArray)).size + x5.size ≤ 9223372036854775807 then (if ((x3 ++ (⟨#[119, 114, 105, 116, 101, 32, 102, 32, 34]⟩ : ByteArray)) ++ x5).size + 2 ≤ 9223372036854775807 then (haversacklaw17_ScriptQuotes.l0 k x0 (((x3 ++ (⟨#[119, 114, 105, 116, 101, 32, 102, 32, 34]⟩ : ByteArray)) ++ x5) ++ (⟨#[34, 10]⟩ : ByteArray)) (wrap64 (x4 + 1))) else (none)) else (none)) else (none))) else (none)) else (none)
def haversacklaw17_ScriptQuotes.j2 : Nat → List ByteArray → ByteArray → Int → ByteArray → Int → Int → Bool → Option (Bool)
  | 0, _, _, _, _, _, _, _ => none
  | k + 1, x0, x3, x4, x5, x6, x44, x55 => if x55 = true then (if x5.size + 1 ≤ 9223372036854775807 then (if 0 ≤ x4 then (if x4 < (x0.length : Int) then (if 0 ≤ x6 then (if x6 ≤ (wrap64 (x6 + 1)) then (if (wrap64 (x6 + 1)) ≤ ((rdOf ByteArray.empty x0 x4).size : Int) then (if (x5 ++ (⟨#[92]⟩ : ByteArray)).size + ((rdOf ByteArray.empty x0 x4).extract (x6 : Int).toNat ((wrap64 (x6 + 1)) : Int).toNat).size ≤ 9223372036854775807 then (haversacklaw17_ScriptQuotes.l1 k x0 x3 x4 ((x5 ++ (⟨#[92]⟩ : ByteArray)) ++ ((rdOf ByteArray.empty x0 x4).extract (x6 : Int).toNat ((wrap64 (x6 + 1)) : Int).toNat)) (wrap64 (x6 + 1))) else (none)) else (none)) else (none)) else (none)) else (none)) else (none)) else (none)) else (if x44 = 10 then (if x5.size + 2 ≤ 9223372036854775807 then (haversacklaw17_ScriptQuotes.l1 k x0 x3 x4 (x5 ++ (⟨#[92, 110]⟩ : ByteArray)) (wrap64 (x6 + 1))) else (none)) else (if 0 ≤ x4 then (if x4 < (x0.length : Int) then (if 0 ≤ x6 then (if x6 ≤ (wrap64 (x6 + 1)) then (if (wrap64 (x6 + 1)) ≤ ((rdOf ByteArray.empty x0 x4).size : Int) then (if x5.size + ((rdOf ByteArray.empty x0 x4).extract (x6 : Int).toNat ((wrap64 (x6 + 1)) : Int).toNat).size ≤ 9223372036854775807 then (haversacklaw17_ScriptQuotes.l1 k x0 x3 x4 (x5 ++ ((rdOf ByteArray.empty x0 x4).extract (x6 : Int).toNat ((wrap64 (x6 + 1)) : Int).toNat)) (wrap64 (x6 + 1))) else (none)) else (none)) else (none)) else (none)) else (none)) else (none)))
def haversacklaw17_ScriptQuotes.j3 : Nat → List ByteArray → List (S41) → Bool → Option (Bool)
  | 0, _, _, _ => none
  | k + 1, x0, x8, x98 => if x98 = true then (some false) else (haversacklaw17_ScriptQuotes.l2 k x0 x8 0)
def haversacklaw17_ScriptQuotes.l2 : Nat → List ByteArray → List (S41) → Int → Option (Bool)
  | 0, _, _, _ => none
  | k + 1, x0, x8, x11 => if x11 < (x8.length : Int) then (if 0 ≤ x11 then (if x11 < (x0.length : Int) then (if ((rd_T41 x8 x11).f3).toList = (rdOf ByteArray.empty x0 x11).toList then (if ((rd_T41 x8 x11).f1).toList = ([102] : List UInt8) then (haversacklaw17_ScriptQuotes.l2 k x0 x8 (wrap64 (x11 + 1))) else (some false)) else (some false)) else (none)) else (none)) else (some true)
end
def haversacklaw17_ScriptQuotes.f (k : Nat) (l0 : List ByteArray) : Option (Bool) := (haversacklaw17_known.f k).bind fun t209 => (if t209 = true then (if (l0.length : Int) > 10 then (some true) else (haversacklaw17_ScriptQuotes.l0 k l0 (⟨#[]⟩ : ByteArray) 0)) else (some false))
theorem haversacklaw17_ScriptQuotes.mono_l : ∀ k, (∀ y0 y1 y2, LeO (haversacklaw17_ScriptQuotes.l0 k y0 y1 y2) (haversacklaw17_ScriptQuotes.l0 (k + 1) y0 y1 y2)) ∧ (∀ y0 y1 y2 y3 y4, LeO (haversacklaw17_ScriptQuotes.l1 k y0 y1 y2 y3 y4) (haversacklaw17_ScriptQuotes.l1 (k + 1) y0 y1 y2 y3 y4)) ∧ (∀ y0 y1 y2 y3 y4 y5 y6, LeO (haversacklaw17_ScriptQuotes.j2 k y0 y1 y2 y3 y4 y5 y6) (haversacklaw17_ScriptQuotes.j2 (k + 1) y0 y1 y2 y3 y4 y5 y6)) ∧ (∀ y0 y1 y2, LeO (haversacklaw17_ScriptQuotes.j3 k y0 y1 y2) (haversacklaw17_ScriptQuotes.j3 (k + 1) y0 y1 y2)) ∧ (∀ y0 y1 y2, LeO (haversacklaw17_ScriptQuotes.l2 k y0 y1 y2) (haversacklaw17_ScriptQuotes.l2 (k + 1) y0 y1 y2))
  | 0 => ⟨fun _ _ _ r h => by simp [haversacklaw17_ScriptQuotes.l0] at h, fun _ _ _ _ _ r h => by simp [haversacklaw17_ScriptQuotes.l1] at h, fun _ _ _ _ _ _ _ r h => by simp [haversacklaw17_ScriptQuotes.j2] at h, fun _ _ _ r h => by simp [haversacklaw17_ScriptQuotes.j3] at h, fun _ _ _ r h => by simp [haversacklaw17_ScriptQuotes.l2] at h⟩
  | k + 1 => by
    obtain ⟨ih0, ih1, ih2, ih3, ih4⟩ := haversacklaw17_ScriptQuotes.mono_l k
    refine ⟨?_, ?_, ?_, ?_, ?_⟩
    · intro y0 y1 y2
      unfold haversacklaw17_ScriptQuotes.l0
      repeat' first
      | (with_reducible exact ih0 _ _ _)
      | (with_reducible exact ih1 _ _ _ _ _)
      | (with_reducible exact ih2 _ _ _ _ _ _ _)
      | (with_reducible exact ih3 _ _ _)
      | (with_reducible exact ih4 _ _ _)
      | (with_reducible exact haversacklaw17_known.mono _)
      | (with_reducible exact script_Parse.mono _ _)
      | (with_reducible exact script_Text.mono _ _)
      | (with_reducible exact LeO.refl _)
      | (with_reducible exact LeO.none _)
      | (with_reducible refine LeO.ite ?_ ?_)
      | (with_reducible refine LeO.bind ?_ (fun _ => ?_))
      | exact ih0 _ _ _
      | exact ih1 _ _ _ _ _
      | exact ih2 _ _ _ _ _ _ _
      | exact ih3 _ _ _
      | exact ih4 _ _ _
      | exact haversacklaw17_known.mono _
      | exact script_Parse.mono _ _
      | exact script_Text.mono _ _
      | exact LeO.none _
      | refine LeO.ite ?_ ?_
      | refine LeO.bind ?_ (fun _ => ?_)
    · intro y0 y1 y2 y3 y4
      unfold haversacklaw17_ScriptQuotes.l1
      repeat' first
      | (with_reducible exact ih0 _ _ _)
      | (with_reducible exact ih1 _ _ _ _ _)
      | (with_reducible exact ih2 _ _ _ _ _ _ _)
      | (with_reducible exact ih3 _ _ _)
      | (with_reducible exact ih4 _ _ _)
      | (with_reducible exact haversacklaw17_known.mono _)
      | (with_reducible exact script_Parse.mono _ _)
      | (with_reducible exact script_Text.mono _ _)
      | (with_reducible exact LeO.refl _)
      | (with_reducible exact LeO.none _)
      | (with_reducible refine LeO.ite ?_ ?_)
      | (with_reducible refine LeO.bind ?_ (fun _ => ?_))
      | exact ih0 _ _ _
      | exact ih1 _ _ _ _ _
      | exact ih2 _ _ _ _ _ _ _
      | exact ih3 _ _ _
      | exact ih4 _ _ _
      | exact haversacklaw17_known.mono _
      | exact script_Parse.mono _ _
      | exact script_Text.mono _ _
      | exact LeO.none _
      | refine LeO.ite ?_ ?_
      | refine LeO.bind ?_ (fun _ => ?_)
    · intro y0 y1 y2 y3 y4 y5 y6
      unfold haversacklaw17_ScriptQuotes.j2
      repeat' first
      | (with_reducible exact ih0 _ _ _)
      | (with_reducible exact ih1 _ _ _ _ _)
      | (with_reducible exact ih2 _ _ _ _ _ _ _)
      | (with_reducible exact ih3 _ _ _)
      | (with_reducible exact ih4 _ _ _)
      | (with_reducible exact haversacklaw17_known.mono _)
      | (with_reducible exact script_Parse.mono _ _)
      | (with_reducible exact script_Text.mono _ _)
      | (with_reducible exact LeO.refl _)
      | (with_reducible exact LeO.none _)
      | (with_reducible refine LeO.ite ?_ ?_)
      | (with_reducible refine LeO.bind ?_ (fun _ => ?_))
      | exact ih0 _ _ _
      | exact ih1 _ _ _ _ _
      | exact ih2 _ _ _ _ _ _ _
      | exact ih3 _ _ _
      | exact ih4 _ _ _
      | exact haversacklaw17_known.mono _
      | exact script_Parse.mono _ _
      | exact script_Text.mono _ _
      | exact LeO.none _
      | refine LeO.ite ?_ ?_
      | refine LeO.bind ?_ (fun _ => ?_)
    · intro y0 y1 y2
      unfold haversacklaw17_ScriptQuotes.j3
      repeat' first
      | (with_reducible exact ih0 _ _ _)
      | (with_reducible exact ih1 _ _ _ _ _)
      | (with_reducible exact ih2 _ _ _ _ _ _ _)
      | (with_reducible exact ih3 _ _ _)
      | (with_reducible exact ih4 _ _ _)
      | (with_reducible exact haversacklaw17_known.mono _)
      | (with_reducible exact script_Parse.mono _ _)
      | (with_reducible exact script_Text.mono _ _)
      | (with_reducible exact LeO.refl _)
      | (with_reducible exact LeO.none _)
      | (with_reducible refine LeO.ite ?_ ?_)
      | (with_reducible refine LeO.bind ?_ (fun _ => ?_))
      | exact ih0 _ _ _
      | exact ih1 _ _ _ _ _
      | exact ih2 _ _ _ _ _ _ _
      | exact ih3 _ _ _
      | exact ih4 _ _ _
      | exact haversacklaw17_known.mono _
      | exact script_Parse.mono _ _
      | exact script_Text.mono _ _
      | exact LeO.none _
      | refine LeO.ite ?_ ?_
      | refine LeO.bind ?_ (fun _ => ?_)
    · intro y0 y1 y2
      unfold haversacklaw17_ScriptQuotes.l2
      repeat' first
      | (with_reducible exact ih0 _ _ _)
      | (with_reducible exact ih1 _ _ _ _ _)
      | (with_reducible exact ih2 _ _ _ _ _ _ _)
      | (with_reducible exact ih3 _ _ _)
      | (with_reducible exact ih4 _ _ _)
      | (with_reducible exact haversacklaw17_known.mono _)
      | (with_reducible exact script_Parse.mono _ _)
      | (with_reducible exact script_Text.mono _ _)
      | (with_reducible exact LeO.refl _)
      | (with_reducible exact LeO.none _)
      | (with_reducible refine LeO.ite ?_ ?_)
      | (with_reducible refine LeO.bind ?_ (fun _ => ?_))
      | exact ih0 _ _ _
      | exact ih1 _ _ _ _ _
      | exact ih2 _ _ _ _ _ _ _
      | exact ih3 _ _ _
      | exact ih4 _ _ _
      | exact haversacklaw17_known.mono _
      | exact script_Parse.mono _ _
      | exact script_Text.mono _ _
      | exact LeO.none _
      | refine LeO.ite ?_ ?_
      | refine LeO.bind ?_ (fun _ => ?_)
theorem haversacklaw17_ScriptQuotes.mono : ∀ a0 k, LeO (haversacklaw17_ScriptQuotes.f k a0) (haversacklaw17_ScriptQuotes.f (k + 1) a0) := by
  intro a0 k
  obtain ⟨ih0, ih1, ih2, ih3, ih4⟩ := haversacklaw17_ScriptQuotes.mono_l k
  unfold haversacklaw17_ScriptQuotes.f
  repeat' first
      | (with_reducible exact ih0 _ _ _)
      | (with_reducible exact ih1 _ _ _ _ _)
      | (with_reducible exact ih2 _ _ _ _ _ _ _)
      | (with_reducible exact ih3 _ _ _)
      | (with_reducible exact ih4 _ _ _)
      | (with_reducible exact haversacklaw17_known.mono _)
      | (with_reducible exact script_Parse.mono _ _)
      | (with_reducible exact script_Text.mono _ _)
      | (with_reducible exact LeO.refl _)
      | (with_reducible exact LeO.none _)
      | (with_reducible refine LeO.ite ?_ ?_)
      | (with_reducible refine LeO.bind ?_ (fun _ => ?_))
      | exact ih0 _ _ _
      | exact ih1 _ _ _ _ _
      | exact ih2 _ _ _ _ _ _ _
      | exact ih3 _ _ _
      | exact ih4 _ _ _
      | exact haversacklaw17_known.mono _
      | exact script_Parse.mono _ _
      | exact script_Text.mono _ _
      | exact LeO.none _
      | refine LeO.ite ?_ ?_
      | refine LeO.bind ?_ (fun _ => ?_)
set_option maxHeartbeats 8000000 in
set_option maxRecDepth 100000 in
theorem haversacklaw17_ScriptQuotes.calls (k : Nat) (A0 : Option Addr) (c0 : Nat) (l0 : List ByteArray) (r : Bool) (w : World) (hr0 : Kd.C Kd.string w A0 l0.length l0) (hc0 : l0.length ≤ c0) (h : haversacklaw17_ScriptQuotes.f k l0 = some r) :
    Calls Tryd.prog 6 #[.slice A0 l0.length c0] w fun e w' => e = .returned (.bool r) ∧ Below w.heap.size w w' := by
  have HR0 := Aside0.mk hr0
  have HC0 := Aside0.mk hc0
  clear hr0 hc0
  have HB := Aside0.mk (Below.refl w.heap.size w)
  have H : ((haversacklaw17_known.f k).bind fun t209 => (if t209 = true then (if (l0.length : Int) > 10 then (some true) else (haversacklaw17_ScriptQuotes.l0 k l0 (⟨#[]⟩ : ByteArray) 0)) else (some false))) = some r := h
  clear h
  replace H := Option.bind_eq_some_iff.mp H
  obtain ⟨t209, A20, H⟩ := H
  replace H : (if t209 = true then (if (l0.length : Int) > 10 then (some true) else (haversacklaw17_ScriptQuotes.l0 k l0 (⟨#[]⟩ : ByteArray) 0)) else (some false)) = some r := H
  have A2 := Aside0.mk A20
  clear A20
  by_cases c3 : t209 = true
  · subst c3
    have H1 : (if (l0.length : Int) > 10 then (some true) else (haversacklaw17_ScriptQuotes.l0 k l0 (⟨#[]⟩ : ByteArray) 0)) = some r := by rw [if_pos rfl] at H; exact H
    clear H
    have H := H1
    clear H1
    by_cases c4 : (l0.length : Int) > 10
    · rw [if_pos c4] at H
      have c4b0 : decide (10 < (l0.length : Int)) = true := decide_eq_true c4
      have c4b1 : decide (10 < l0.length) = true := decide_eq_true (by omega)
      clear c4
      obtain rfl := Option.some.inj H
      go_enter Tryd.func6, Tryd.ntmps6
      go_wp2_with (first | (go_at_call 8; (with_reducible refine (haversacklaw17_known.calls k  true _ A2.out).mono ?_); rintro e w5 ⟨rfl, hb⟩; have n0_ := Aside0.mk (below_step (by repeat (first | (with_reducible first | exact HB.out | apply below_alloc | apply pw_below_drewN | apply below_drew1) | exact HB.out)) hb); clear HB; have HB := n0_; clear n0_; (try clear hb); (try clear hb2); (try clear hk); (try clear hi)))
      repeat (go_quiet (first | (go_at_call 8; (with_reducible refine (haversacklaw17_known.calls k  true _ A2.out).mono ?_); rintro e w5 ⟨rfl, hb⟩; have n0_ := Aside0.mk (below_step (by repeat (first | (with_reducible first | exact HB.out | apply below_alloc | apply pw_below_drewN | apply below_drew1) | exact HB.out)) hb); clear HB; have HB := n0_; clear n0_; (try clear hb); (try clear hb2); (try clear hk); (try clear hi))); try go_wp2_with (first | (go_at_call 8; (with_reducible refine (haversacklaw17_known.calls k  true _ A2.out).mono ?_); rintro e w5 ⟨rfl, hb⟩; have n0_ := Aside0.mk (below_step (by repeat (first | (with_reducible first | exact HB.out | apply below_alloc | apply pw_below_drewN | apply below_drew1) | exact HB.out)) hb); clear HB; have HB := n0_; clear n0_; (try clear hb); (try clear hb2); (try clear hk); (try clear hi))))
      go_ret
      exact ⟨by first | rfl | (simp [errW_none, errW_some] <;> rfl) | (simp [*, errW_none, errW_some] <;> rfl), by repeat (first | (with_reducible first | exact HB.out | apply below_alloc | apply pw_below_drewN | apply below_drew1) | exact HB.out)⟩
    · rw [if_neg c4] at H
      have c4b0 : decide (10 < (l0.length : Int)) = false := decide_eq_false c4
      have c4b1 : decide (10 < l0.length) = false := decide_eq_false (by omega)
      clear c4
      have H' := Aside0.mk H
      clear H
      go_enter Tryd.func6, Tryd.ntmps6
      go_wp2_with (first | (go_at_call 8; (with_reducible refine (haversacklaw17_known.calls k  true _ A2.out).mono ?_); rintro e w6 ⟨rfl, hb⟩; have n0_ := Aside0.mk (below_step (by repeat (first | (with_reducible first | exact HB.out | apply below_alloc | apply pw_below_drewN | apply below_drew1) | exact HB.out)) hb); clear HB; have HB := n0_; clear n0_; (try clear hb); (try clear hb2); (try clear hk); (try clear hi)))
      repeat (go_quiet (first | (go_at_call 8; (with_reducible refine (haversacklaw17_known.calls k  true _ A2.out).mono ?_); rintro e w6 ⟨rfl, hb⟩; have n0_ := Aside0.mk (below_step (by repeat (first | (with_reducible first | exact HB.out | apply below_alloc | apply pw_below_drewN | apply below_drew1) | exact HB.out)) hb); clear HB; have HB := n0_; clear n0_; (try clear hb); (try clear hb2); (try clear hk); (try clear hi))); try go_wp2_with (first | (go_at_call 8; (with_reducible refine (haversacklaw17_known.calls k  true _ A2.out).mono ?_); rintro e w6 ⟨rfl, hb⟩; have n0_ := Aside0.mk (below_step (by repeat (first | (with_reducible first | exact HB.out | apply below_alloc | apply pw_below_drewN | apply below_drew1) | exact HB.out)) hb); clear HB; have HB := n0_; clear n0_; (try clear hb); (try clear hb2); (try clear hk); (try clear hi))))
      go_loopg [3, 4] k (fun kq v3 v4 w' => ∃ (x3_1 : ByteArray) (x4_1 : Int), v3 = .string x3_1 ∧ v4 = .int .i64 x4_1 ∧ Aside0 (haversacklaw17_ScriptQuotes.l0 kq l0 x3_1 x4_1 = some r) ∧ Aside0 (kq ≤ k) ∧ Aside0 (Below w.heap.size w w'))
      case atStart => exact ⟨((⟨#[]⟩ : ByteArray)), (0), (by first | rfl | (simp; done) | (simp [*]; done)), (by first | rfl | (simp; done) | (simp [*]; done)), H', ⟨Nat.le_refl _⟩, ⟨by repeat (first | (with_reducible first | exact HB.out | apply below_alloc | apply pw_below_drewN | apply below_drew1) | exact HB.out)⟩⟩
      case round =>
        clear H'
        try clear p2
        try clear c3
        try clear c4
        try clear c4b0
        try clear c4b1
        try clear c6
        obtain ⟨x3_1, x4_1, rfl, rfl, HA, HK1, HB⟩ := hrel
        cases gk with
        | zero => exact absurd HA.out (by simp [haversacklaw17_ScriptQuotes.l0])
        | succ k1 =>
          have H := HA.out
          clear HA
          simp only [haversacklaw17_ScriptQuotes.l0] at H
          by_cases c7 : x4_1 < (l0.length : Int)
          · rw [if_pos c7] at H
            have c7b0 : decide (x4_1 < (l0.length : Int)) = true := decide_eq_true c7
            clear c7
            by_cases c8 : 0 ≤ x4_1
            · rw [if_pos c8] at H
              have c8b0 : decide (0 ≤ x4_1) = true := decide_eq_true c8
              clear c8
              by_cases c9 : ((rdOf ByteArray.empty l0 x4_1).size : Int) > 200
              · rw [if_pos c9] at H
                have c9b0 : decide (200 < ((rdOf ByteArray.empty l0 x4_1).size : Int)) = true := decide_eq_true c9
                have c9b1 : decide (200 < (rdOf ByteArray.empty l0 x4_1).size) = true := decide_eq_true (by omega)
                clear c9
                obtain rfl := Option.some.inj H
                have p210 : 0 ≤ (x4_1 : Int) := of_decide_eq_true (by first | (with_reducible assumption) | assumption)
                have q210 : x4_1 < (l0.length : Int) := of_decide_eq_true (by first | (with_reducible assumption) | assumption)
                obtain ⟨ad210, e210, hx210_0⟩ := Kd.at_string HR0.out x4_1 p210 q210
                cases e210
                replace hx210_0 := (HB.out.cell (World.block_lt_of_cell? w _ hx210_0)).trans hx210_0
                replace p210 := eq_true p210
                replace q210 := eq_true q210
                go_wp2
                repeat (go_quiet (fail); try go_wp2)
                go_ret
                exact ⟨by first | rfl | (simp [errW_none, errW_some] <;> rfl) | (simp [*, errW_none, errW_some] <;> rfl), by repeat (first | (with_reducible first | exact HB.out | apply below_alloc | apply pw_below_drewN | apply below_drew1) | exact HB.out)⟩
              · rw [if_neg c9] at H
                have c9b0 : decide (200 < ((rdOf ByteArray.empty l0 x4_1).size : Int)) = false := decide_eq_false c9
                have c9b1 : decide (200 < (rdOf ByteArray.empty l0 x4_1).size) = false := decide_eq_false (by omega)
                clear c9
                have H' := Aside0.mk H
                clear H
                have p210 : 0 ≤ (x4_1 : Int) := of_decide_eq_true (by first | (with_reducible assumption) | assumption)
                have q210 : x4_1 < (l0.length : Int) := of_decide_eq_true (by first | (with_reducible assumption) | assumption)
                obtain ⟨ad210, e210, hx210_0⟩ := Kd.at_string HR0.out x4_1 p210 q210
                cases e210
                replace hx210_0 := (HB.out.cell (World.block_lt_of_cell? w _ hx210_0)).trans hx210_0
                replace p210 := eq_true p210
                replace q210 := eq_true q210
                go_wp2
                repeat (go_quiet (fail); try go_wp2)
                go_loopg [5, 6] k1 (fun kq v5 v6 w' => ∃ (x5_2 : ByteArray) (x6_2 : Int), v5 = .string x5_2 ∧ v6 = .int .i64 x6_2 ∧ Aside0 (haversacklaw17_ScriptQuotes.l1 kq l0 x3_1 x4_1 x5_2 x6_2 = some r) ∧ Aside0 (kq ≤ k1) ∧ Aside0 (Below w.heap.size w w'))
                case atStart => exact ⟨((⟨#[]⟩ : ByteArray)), (0), (by first | rfl | (simp; done) | (simp [*]; done)), (by first | rfl | (simp; done) | (simp [*]; done)), H', ⟨Nat.le_refl _⟩, ⟨by repeat (first | (with_reducible first | exact HB.out | apply below_alloc | apply pw_below_drewN | apply below_drew1) | exact HB.out)⟩⟩
                case round =>
                  clear H'
                  try clear p2
                  try clear q2
                  try clear hx2
                  try clear c3
                  try clear c4
                  try clear c4b0
                  try clear c4b1
                  try clear c6
                  try clear c7
                  try clear c7b0
                  try clear c8
                  try clear c8b0
                  try clear c9
                  try clear c9b0
                  try clear c9b1
                  try clear hx210_0
                  try clear p2
                  try clear p210
                  try clear q210
                  obtain ⟨x5_2, x6_2, rfl, rfl, HA, HK2, HB⟩ := hrel
                  cases gk with
                  | zero => exact absurd HA.out (by simp [haversacklaw17_ScriptQuotes.l1])
                  | succ k2 =>
                    have H := HA.out
                    clear HA
                    simp only [haversacklaw17_ScriptQuotes.l1] at H
                    by_cases c10 : 0 ≤ x4_1
                    · rw [if_pos c10] at H
                      have c10b0 : decide (0 ≤ x4_1) = true := decide_eq_true c10
                      clear c10
                      by_cases c11 : x4_1 < (l0.length : Int)
                      · rw [if_pos c11] at H
                        have c11b0 : decide (x4_1 < (l0.length : Int)) = true := decide_eq_true c11
                        clear c11
                        by_cases c12 : x6_2 < ((rdOf ByteArray.empty l0 x4_1).size : Int)
                        · rw [if_pos c12] at H
                          have c12b0 : decide (x6_2 < ((rdOf ByteArray.empty l0 x4_1).size : Int)) = true := decide_eq_true c12
                          clear c12
                          by_cases c13 : 0 ≤ x6_2
                          · rw [if_pos c13] at H
                            have c13b0 : decide (0 ≤ x6_2) = true := decide_eq_true c13
                            clear c13
                            have HC15 := Aside0.mk H
                            clear H
                            have p211 : 0 ≤ (x4_1 : Int) := of_decide_eq_true (by first | (with_reducible assumption) | assumption)
                            have q211 : x4_1 < (l0.length : Int) := of_decide_eq_true (by first | (with_reducible assumption) | assumption)
                            obtain ⟨ad211, e211, hx211_0⟩ := Kd.at_string HR0.out x4_1 p211 q211
                            obtain rfl : ad210 = ad211 := (by injection e211)
                            replace hx211_0 := (HB.out.cell (World.block_lt_of_cell? w _ hx211_0)).trans hx211_0
                            replace p211 := eq_true p211
                            replace q211 := eq_true q211
                            have p212 : 0 ≤ (x4_1 : Int) := of_decide_eq_true (by first | (with_reducible assumption) | assumption)
                            have q212 : x4_1 < (l0.length : Int) := of_decide_eq_true (by first | (with_reducible assumption) | assumption)
                            obtain ⟨ad212, e212, hx212_0⟩ := Kd.at_string HR0.out x4_1 p212 q212
                            obtain rfl : ad210 = ad212 := (by injection e212)
                            replace hx212_0 := (HB.out.cell (World.block_lt_of_cell? w _ hx212_0)).trans hx212_0
                            replace p212 := eq_true p212
                            replace q212 := eq_true q212
                            have p14 : 0 ≤ (x6_2 : Int) := of_decide_eq_true (by first | (with_reducible assumption) | assumption)
                            have q14 : x6_2 < ((rdOf ByteArray.empty l0 x4_1).size : Int) := of_decide_eq_true (by first | (with_reducible assumption) | assumption)
                            have hx14 := bt_at (rdOf ByteArray.empty l0 x4_1) x6_2
                            replace p14 := eq_true p14
                            replace q14 := eq_true q14
                            go_upto_if 55 with (fail)
                            repeat (go_quiet (fail); go_upto_if 55 with (fail))
                            go_cut [55] (fun v55 wc => ∃ (kq : Nat) (x55_14 : Bool), v55 = .bool x55_14 ∧ Aside0 (haversacklaw17_ScriptQuotes.j2 kq l0 x3_1 x4_1 x5_2 x6_2 (bt (rdOf ByteArray.empty l0 x4_1) x6_2) x55_14 = some r) ∧ Aside0 (kq ≤ k2) ∧ Aside0 (Below w.heap.size w wc))
                            case first =>
                              have H := HC15.out
                              clear HC15
                              by_cases c16 : (bt (rdOf ByteArray.empty l0 x4_1) x6_2) = 34
                              · rw [if_pos c16] at H
                                have c16b0 : ((bt (rdOf ByteArray.empty l0 x4_1) x6_2) == 34) = true := beq_iff_eq.mpr c16
                                have c16b1 : ((bt (rdOf ByteArray.empty l0 x4_1) x6_2) != 34) = false := bne_eq_false_iff_eq.mpr c16
                                clear c16
                                (first | rw [c16b0] | (simp only [i64_w, i32_w]; rw [c16b0]) | skip)
                                have H' := Aside0.mk H
                                clear H
                                go_wp2
                                repeat (go_quiet (fail); try go_wp2)
                                go_meet
                                case rel => exact ⟨_, (((bt (rdOf ByteArray.empty l0 x4_1) x6_2) == 34)), (by first | rfl | (simp; done) | (simp [*]; done)), H', ⟨by have := HK1.out; have := HK2.out; first | omega | exact Nat.le_refl _⟩, ⟨by repeat (first | (with_reducible first | exact HB.out | apply below_alloc | apply pw_below_drewN | apply below_drew1) | exact HB.out)⟩⟩
                              · rw [if_neg c16] at H
                                have c16b0 : ((bt (rdOf ByteArray.empty l0 x4_1) x6_2) == 34) = false := beq_eq_false_iff_ne.mpr c16
                                have c16b1 : ((bt (rdOf ByteArray.empty l0 x4_1) x6_2) != 34) = true := bne_iff_ne.mpr c16
                                (first | rw [c16b0] | (simp only [i64_w, i32_w]; rw [c16b0]) | skip)
                                have H' := Aside0.mk H
                                clear H
                                go_wp2
                                repeat (go_quiet (fail); try go_wp2)
                                go_meet
                                case rel => exact ⟨_, (((bt (rdOf ByteArray.empty l0 x4_1) x6_2) == 92)), (by first | rfl | (simp; done) | (simp [*]; done)), H', ⟨by have := HK1.out; have := HK2.out; first | omega | exact Nat.le_refl _⟩, ⟨by repeat (first | (with_reducible first | exact HB.out | apply below_alloc | apply pw_below_drewN | apply below_drew1) | exact HB.out)⟩⟩
                            case rest =>
                              clear HC15
                              try clear c1
                              try clear p1
                              try clear q1
                              try clear hx1
                              try clear p2
                              try clear q2
                              try clear hx2
                              try clear c3
                              try clear c4
                              try clear c4b0
                              try clear c4b1
                              try clear c6
                              try clear c7
                              try clear c7b0
                              try clear c8
                              try clear c8b0
                              try clear c9
                              try clear c9b0
                              try clear c9b1
                              try clear c10
                              try clear c10b0
                              try clear c11
                              try clear c11b0
                              try clear c12
                              try clear c12b0
                              try clear c13
                              try clear c13b0
                              try clear p14
                              try clear q14
                              try clear hx14
                              try clear c16
                              try clear c16b0
                              try clear c16b1
                              try clear hx210_0
                              try clear hx211_0
                              try clear hx212_0
                              try clear p14
                              try clear p2
                              try clear p210
                              try clear p211
                              try clear p212
                              try clear q14
                              try clear q2
                              try clear q210
                              try clear q211
                              try clear q212
                              obtain ⟨kq, x55_14, rfl, HA, HJ14, HB⟩ := hcut
                              cases kq with
                              | zero => exact absurd HA.out (by simp [haversacklaw17_ScriptQuotes.j2])
                              | succ kj14 =>
                                have H := HA.out
                                clear HA
                                simp only [haversacklaw17_ScriptQuotes.j2] at H
                                by_cases c17 : x55_14 = true
                                · subst c17
                                  have H1 : (if x5_2.size + 1 ≤ 9223372036854775807 then (if 0 ≤ x4_1 then (if x4_1 < (l0.length : Int) then (if 0 ≤ x6_2 then (if x6_2 ≤ (wrap64 (x6_2 + 1)) then (if (wrap64 (x6_2 + 1)) ≤ ((rdOf ByteArray.empty l0 x4_1).size : Int) then (if (x5_2 ++ (⟨#[92]⟩ : ByteArray)).size + ((rdOf ByteArray.empty l0 x4_1).extract (x6_2 : Int).toNat ((wrap64 (x6_2 + 1)) : Int).toNat).size ≤ 9223372036854775807 then (haversacklaw17_ScriptQuotes.l1 kj14 l0 x3_1 x4_1 ((x5_2 ++ (⟨#[92]⟩ : ByteArray)) ++ ((rdOf ByteArray.empty l0 x4_1).extract (x6_2 : Int).toNat ((wrap64 (x6_2 + 1)) : Int).toNat)) (wrap64 (x6_2 + 1))) else (none)) else (none)) else (none)) else (none)) else (none)) else (none)) else (none)) = some r := by rw [if_pos rfl] at H; exact H
                                  clear H
                                  have H := H1
                                  clear H1
                                  by_cases c18 : x5_2.size + 1 ≤ 9223372036854775807
                                  · rw [if_pos c18] at H
                                    have c18b0 := eq_true c18
                                    have c18b1 : decide (x5_2.size + 1 ≤ 9223372036854775807) = true := decide_eq_true c18
                                    try have c18b2 : (9223372036854775807 < x5_2.size + 1) = False := eq_false (Nat.not_lt.2 c18)
                                    by_cases c19 : 0 ≤ x4_1
                                    · rw [if_pos c19] at H
                                      have c19b0 : decide (0 ≤ x4_1) = true := decide_eq_true c19
                                      clear c19
                                      by_cases c20 : x4_1 < (l0.length : Int)
                                      · rw [if_pos c20] at H
                                        have c20b0 : decide (x4_1 < (l0.length : Int)) = true := decide_eq_true c20
                                        clear c20
                                        by_cases c21 : 0 ≤ x6_2
                                        · rw [if_pos c21] at H
                                          have c21b0 := eq_true c21
                                          have c21b1 : decide (0 ≤ x6_2) = true := decide_eq_true c21
                                          clear c21
                                          by_cases c22 : x6_2 ≤ (wrap64 (x6_2 + 1))
                                          · rw [if_pos c22] at H
                                            have c22b0 := eq_true c22
                                            have c22b1 : decide (x6_2 ≤ (wrap64 (x6_2 + 1))) = true := decide_eq_true c22
                                            by_cases c23 : (wrap64 (x6_2 + 1)) ≤ ((rdOf ByteArray.empty l0 x4_1).size : Int)
                                            · rw [if_pos c23] at H
                                              have c23b0 := eq_true c23
                                              have c23b1 : decide ((wrap64 (x6_2 + 1)) ≤ ((rdOf ByteArray.empty l0 x4_1).size : Int)) = true := decide_eq_true c23
                                              by_cases c24 : (x5_2 ++ (⟨#[92]⟩ : ByteArray)).size + ((rdOf ByteArray.empty l0 x4_1).extract (x6_2 : Int).toNat ((wrap64 (x6_2 + 1)) : Int).toNat).size ≤ 9223372036854775807
                                              · rw [if_pos c24] at H
                                                have c24b0 := eq_true c24
                                                have c24b1 : decide ((x5_2 ++ (⟨#[92]⟩ : ByteArray)).size + ((rdOf ByteArray.empty l0 x4_1).extract (x6_2 : Int).toNat ((wrap64 (x6_2 + 1)) : Int).toNat).size ≤ 9223372036854775807) = true := decide_eq_true c24
                                                try have c24b2 : (9223372036854775807 < (x5_2 ++ (⟨#[92]⟩ : ByteArray)).size + ((rdOf ByteArray.empty l0 x4_1).extract (x6_2 : Int).toNat ((wrap64 (x6_2 + 1)) : Int).toNat).size) = False := eq_false (Nat.not_lt.2 c24)
                                                try (have c24b3 := c24b2; simp only [ByteArray.size_append] at c24b3)
                                                have H' := Aside0.mk H
                                                clear H
                                                have p213 : 0 ≤ (x4_1 : Int) := of_decide_eq_true (by first | (with_reducible assumption) | assumption)
                                                have q213 : x4_1 < (l0.length : Int) := of_decide_eq_true (by first | (with_reducible assumption) | assumption)
                                                obtain ⟨ad213, e213, hx213_0⟩ := Kd.at_string HR0.out x4_1 p213 q213
                                                obtain rfl : ad210 = ad213 := (by injection e213)
                                                replace hx213_0 := (HB.out.cell (World.block_lt_of_cell? w _ hx213_0)).trans hx213_0
                                                replace p213 := eq_true p213
                                                replace q213 := eq_true q213
                                                go_wp2
                                                repeat (go_quiet (fail); try go_wp2)
                                                go_roundg kj14
                                                case measure => have := HK1.out; have := HK2.out; have := HJ14.out; omega
                                                case rel => exact ⟨((x5_2 ++ (⟨#[92]⟩ : ByteArray)) ++ ((rdOf ByteArray.empty l0 x4_1).extract (x6_2 : Int).toNat ((wrap64 (x6_2 + 1)) : Int).toNat)), (wrap64 (x6_2 + 1)), (by first | rfl | (simp; done) | (simp [*]; done)), (by first | rfl | (simp; done) | (simp [*]; done)), H', ⟨by have := HK1.out; have := HK2.out; have := HJ14.out; omega⟩, ⟨by repeat (first | (with_reducible first | exact HB.out | apply below_alloc | apply pw_below_drewN | apply below_drew1) | exact HB.out)⟩⟩
                                              · rw [if_neg c24] at H
                                                exact absurd H (by simp)
                                            · rw [if_neg c23] at H
                                              exact absurd H (by simp)
                                          · rw [if_neg c22] at H
                                            exact absurd H (by simp)
                                        · rw [if_neg c21] at H
                                          exact absurd H (by simp)
                                      · rw [if_neg c20] at H
                                        exact absurd H (by simp)
                                    · rw [if_neg c19] at H
                                      exact absurd H (by simp)
                                  · rw [if_neg c18] at H
                                    exact absurd H (by simp)
                                · replace c17 := Bool.eq_false_iff.mpr c17
                                  subst c17
                                  have H1 : (if (bt (rdOf ByteArray.empty l0 x4_1) x6_2) = 10 then (if x5_2.size + 2 ≤ 9223372036854775807 then (haversacklaw17_ScriptQuotes.l1 kj14 l0 x3_1 x4_1 (x5_2 ++ (⟨#[92, 110]⟩ : ByteArray)) (wrap64 (x6_2 + 1))) else (none)) else (if 0 ≤ x4_1 then (if x4_1 < (l0.length : Int) then (if 0 ≤ x6_2 then (if x6_2 ≤ (wrap64 (x6_2 + 1)) then (if (wrap64 (x6_2 + 1)) ≤ ((rdOf ByteArray.empty l0 x4_1).size : Int) then (if x5_2.size + ((rdOf ByteArray.empty l0 x4_1).extract (x6_2 : Int).toNat ((wrap64 (x6_2 + 1)) : Int).toNat).size ≤ 9223372036854775807 then (haversacklaw17_ScriptQuotes.l1 kj14 l0 x3_1 x4_1 (x5_2 ++ ((rdOf ByteArray.empty l0 x4_1).extract (x6_2 : Int).toNat ((wrap64 (x6_2 + 1)) : Int).toNat)) (wrap64 (x6_2 + 1))) else (none)) else (none)) else (none)) else (none)) else (none)) else (none))) = some r := by rw [if_neg (show ¬ (false = true) by decide)] at H; exact H
                                  clear H
                                  have H := H1
                                  clear H1
                                  by_cases c25 : (bt (rdOf ByteArray.empty l0 x4_1) x6_2) = 10
                                  · rw [if_pos c25] at H
                                    have c25b0 : ((bt (rdOf ByteArray.empty l0 x4_1) x6_2) == 10) = true := beq_iff_eq.mpr c25
                                    have c25b1 : ((bt (rdOf ByteArray.empty l0 x4_1) x6_2) != 10) = false := bne_eq_false_iff_eq.mpr c25
                                    clear c25
                                    by_cases c26 : x5_2.size + 2 ≤ 9223372036854775807
                                    · rw [if_pos c26] at H
                                      have c26b0 := eq_true c26
                                      have c26b1 : decide (x5_2.size + 2 ≤ 9223372036854775807) = true := decide_eq_true c26
                                      try have c26b2 : (9223372036854775807 < x5_2.size + 2) = False := eq_false (Nat.not_lt.2 c26)
                                      have H' := Aside0.mk H
                                      clear H
                                      go_wp2
                                      repeat (go_quiet (fail); try go_wp2)
                                      go_roundg kj14
                                      case measure => have := HK1.out; have := HK2.out; have := HJ14.out; omega
                                      case rel => exact ⟨(x5_2 ++ (⟨#[92, 110]⟩ : ByteArray)), (wrap64 (x6_2 + 1)), (by first | rfl | (simp; done) | (simp [*]; done)), (by first | rfl | (simp; done) | (simp [*]; done)), H', ⟨by have := HK1.out; have := HK2.out; have := HJ14.out; omega⟩, ⟨by repeat (first | (with_reducible first | exact HB.out | apply below_alloc | apply pw_below_drewN | apply below_drew1) | exact HB.out)⟩⟩
                                    · rw [if_neg c26] at H
                                      exact absurd H (by simp)
                                  · rw [if_neg c25] at H
                                    have c25b0 : ((bt (rdOf ByteArray.empty l0 x4_1) x6_2) == 10) = false := beq_eq_false_iff_ne.mpr c25
                                    have c25b1 : ((bt (rdOf ByteArray.empty l0 x4_1) x6_2) != 10) = true := bne_iff_ne.mpr c25
                                    by_cases c27 : 0 ≤ x4_1
                                    · rw [if_pos c27] at H
                                      have c27b0 : decide (0 ≤ x4_1) = true := decide_eq_true c27
                                      clear c27
                                      by_cases c28 : x4_1 < (l0.length : Int)
                                      · rw [if_pos c28] at H
                                        have c28b0 : decide (x4_1 < (l0.length : Int)) = true := decide_eq_true c28
                                        clear c28
                                        by_cases c29 : 0 ≤ x6_2
                                        · rw [if_pos c29] at H
                                          have c29b0 := eq_true c29
                                          have c29b1 : decide (0 ≤ x6_2) = true := decide_eq_true c29
                                          clear c29
                                          by_cases c30 : x6_2 ≤ (wrap64 (x6_2 + 1))
                                          · rw [if_pos c30] at H
                                            have c30b0 := eq_true c30
                                            have c30b1 : decide (x6_2 ≤ (wrap64 (x6_2 + 1))) = true := decide_eq_true c30
                                            by_cases c31 : (wrap64 (x6_2 + 1)) ≤ ((rdOf ByteArray.empty l0 x4_1).size : Int)
                                            · rw [if_pos c31] at H
                                              have c31b0 := eq_true c31
                                              have c31b1 : decide ((wrap64 (x6_2 + 1)) ≤ ((rdOf ByteArray.empty l0 x4_1).size : Int)) = true := decide_eq_true c31
                                              by_cases c32 : x5_2.size + ((rdOf ByteArray.empty l0 x4_1).extract (x6_2 : Int).toNat ((wrap64 (x6_2 + 1)) : Int).toNat).size ≤ 9223372036854775807
                                              · rw [if_pos c32] at H
                                                have c32b0 := eq_true c32
                                                have c32b1 : decide (x5_2.size + ((rdOf ByteArray.empty l0 x4_1).extract (x6_2 : Int).toNat ((wrap64 (x6_2 + 1)) : Int).toNat).size ≤ 9223372036854775807) = true := decide_eq_true c32
                                                try have c32b2 : (9223372036854775807 < x5_2.size + ((rdOf ByteArray.empty l0 x4_1).extract (x6_2 : Int).toNat ((wrap64 (x6_2 + 1)) : Int).toNat).size) = False := eq_false (Nat.not_lt.2 c32)
                                                have H' := Aside0.mk H
                                                clear H
                                                have p214 : 0 ≤ (x4_1 : Int) := of_decide_eq_true (by first | (with_reducible assumption) | assumption)
                                                have q214 : x4_1 < (l0.length : Int) := of_decide_eq_true (by first | (with_reducible assumption) | assumption)
                                                obtain ⟨ad214, e214, hx214_0⟩ := Kd.at_string HR0.out x4_1 p214 q214
                                                obtain rfl : ad210 = ad214 := (by injection e214)
                                                replace hx214_0 := (HB.out.cell (World.block_lt_of_cell? w _ hx214_0)).trans hx214_0
                                                replace p214 := eq_true p214
                                                replace q214 := eq_true q214
                                                go_wp2
                                                repeat (go_quiet (fail); try go_wp2)
                                                go_roundg kj14
                                                case measure => have := HK1.out; have := HK2.out; have := HJ14.out; omega
                                                case rel => exact ⟨(x5_2 ++ ((rdOf ByteArray.empty l0 x4_1).extract (x6_2 : Int).toNat ((wrap64 (x6_2 + 1)) : Int).toNat)), (wrap64 (x6_2 + 1)), (by first | rfl | (simp; done) | (simp [*]; done)), (by first | rfl | (simp; done) | (simp [*]; done)), H', ⟨by have := HK1.out; have := HK2.out; have := HJ14.out; omega⟩, ⟨by repeat (first | (with_reducible first | exact HB.out | apply below_alloc | apply pw_below_drewN | apply below_drew1) | exact HB.out)⟩⟩
                                              · rw [if_neg c32] at H
                                                exact absurd H (by simp)
                                            · rw [if_neg c31] at H
                                              exact absurd H (by simp)
                                          · rw [if_neg c30] at H
                                            exact absurd H (by simp)
                                        · rw [if_neg c29] at H
                                          exact absurd H (by simp)
                                      · rw [if_neg c28] at H
                                        exact absurd H (by simp)
                                    · rw [if_neg c27] at H
                                      exact absurd H (by simp)
                          · rw [if_neg c13] at H
                            exact absurd H (by simp)
                        · rw [if_neg c12] at H
                          have c12b0 : decide (x6_2 < ((rdOf ByteArray.empty l0 x4_1).size : Int)) = false := decide_eq_false c12
                          clear c12
                          by_cases c33 : x3_1.size + 9 ≤ 9223372036854775807
                          · rw [if_pos c33] at H
                            have c33b0 := eq_true c33
                            have c33b1 : decide (x3_1.size + 9 ≤ 9223372036854775807) = true := decide_eq_true c33
                            try have c33b2 : (9223372036854775807 < x3_1.size + 9) = False := eq_false (Nat.not_lt.2 c33)
                            by_cases c34 : (x3_1 ++ (⟨#[119, 114, 105, 116, 101, 32, 102, 32, 34]⟩ : ByteArray)).size + x5_2.size ≤ 9223372036854775807
                            · rw [if_pos c34] at H
                              have c34b0 := eq_true c34
                              have c34b1 : decide ((x3_1 ++ (⟨#[119, 114, 105, 116, 101, 32, 102, 32, 34]⟩ : ByteArray)).size + x5_2.size ≤ 9223372036854775807) = true := decide_eq_true c34
                              try have c34b2 : (9223372036854775807 < (x3_1 ++ (⟨#[119, 114, 105, 116, 101, 32, 102, 32, 34]⟩ : ByteArray)).size + x5_2.size) = False := eq_false (Nat.not_lt.2 c34)
                              try (have c34b3 : (9223372036854775807 < x3_1.size + 9 + x5_2.size) = False := by have h_ := c34b2; simp only [ByteArray.size_append] at h_; exact h_)
                              by_cases c35 : ((x3_1 ++ (⟨#[119, 114, 105, 116, 101, 32, 102, 32, 34]⟩ : ByteArray)) ++ x5_2).size + 2 ≤ 9223372036854775807
                              · rw [if_pos c35] at H
                                have c35b0 := eq_true c35
                                have c35b1 : decide (((x3_1 ++ (⟨#[119, 114, 105, 116, 101, 32, 102, 32, 34]⟩ : ByteArray)) ++ x5_2).size + 2 ≤ 9223372036854775807) = true := decide_eq_true c35
                                try have c35b2 : (9223372036854775807 < ((x3_1 ++ (⟨#[119, 114, 105, 116, 101, 32, 102, 32, 34]⟩ : ByteArray)) ++ x5_2).size + 2) = False := eq_false (Nat.not_lt.2 c35)
                                try (have c35b3 : (9223372036854775807 < x3_1.size + 9 + x5_2.size + 2) = False := by have h_ := c35b2; simp only [ByteArray.size_append] at h_; exact h_)
                                have H' := Aside0.mk H
                                clear H
                                have p211 : 0 ≤ (x4_1 : Int) := of_decide_eq_true (by first | (with_reducible assumption) | assumption)
                                have q211 : x4_1 < (l0.length : Int) := of_decide_eq_true (by first | (with_reducible assumption) | assumption)
                                obtain ⟨ad211, e211, hx211_0⟩ := Kd.at_string HR0.out x4_1 p211 q211
                                obtain rfl : ad210 = ad211 := (by injection e211)
                                replace hx211_0 := (HB.out.cell (World.block_lt_of_cell? w _ hx211_0)).trans hx211_0
                                replace p211 := eq_true p211
                                replace q211 := eq_true q211
                                go_wp2
                                repeat (go_quiet (fail); try go_wp2)
                                go_roundg k2
                                case measure => have := HK1.out; have := HK2.out; omega
                                case rel => exact ⟨(((x3_1 ++ (⟨#[119, 114, 105, 116, 101, 32, 102, 32, 34]⟩ : ByteArray)) ++ x5_2) ++ (⟨#[34, 10]⟩ : ByteArray)), (wrap64 (x4_1 + 1)), (by first | rfl | (simp; done) | (simp [*]; done)), (by first | rfl | (simp; done) | (simp [*]; done)), H', ⟨by have := HK1.out; have := HK2.out; omega⟩, ⟨by repeat (first | (with_reducible first | exact HB.out | apply below_alloc | apply pw_below_drewN | apply below_drew1) | exact HB.out)⟩⟩
                              · rw [if_neg c35] at H
                                exact absurd H (by simp)
                            · rw [if_neg c34] at H
                              exact absurd H (by simp)
                          · rw [if_neg c33] at H
                            exact absurd H (by simp)
                      · rw [if_neg c11] at H
                        exact absurd H (by simp)
                    · rw [if_neg c10] at H
                      exact absurd H (by simp)
            · rw [if_neg c8] at H
              exact absurd H (by simp)
          · rw [if_neg c7] at H
            have c7b0 : decide (x4_1 < (l0.length : Int)) = false := decide_eq_false c7
            clear c7
            replace H := Option.bind_eq_some_iff.mp H
            obtain ⟨⟨t215, t216, t217⟩, A360, H⟩ := H
            replace H : (if t217 = 0 then (if (t215.length : Int) = (l0.length : Int) then ((script_Text.f k1 t215).bind fun t220 => (haversacklaw17_ScriptQuotes.j3 k1 l0 t215 (t220.toList != x3_1.toList))) else (haversacklaw17_ScriptQuotes.j3 k1 l0 t215 true)) else (haversacklaw17_ScriptQuotes.j3 k1 l0 t215 true)) = some r := H
            have A36 := Aside0.mk A360
            clear A360
            have HC37 := Aside0.mk H
            clear H
            go_upto_region 25 with (first | (go_at_call 12; (with_reducible refine (script_Parse.calls k1 x3_1 t215 t216 t217 _ A36.out).mono ?_); rintro e w38 ⟨v218, rfl, ho0, hb⟩; have n0_ := Aside0.mk (Kd.R_lower ho0 (below_size (by repeat (first | (with_reducible first | exact HB.out | apply below_alloc | apply pw_below_drewN | apply below_drew1) | exact HB.out)))); have n1_ := Aside0.mk (below_step (by repeat (first | (with_reducible first | exact HB.out | apply below_alloc | apply pw_below_drewN | apply below_drew1) | exact HB.out)) hb); clear HB; have HO219 := n0_; have HB := n1_; clear n0_ n1_; (try clear hb); (try clear hb2); (try clear hk); (try clear hi); (try clear ho0)))
            repeat (go_quiet (first | (go_at_call 12; (with_reducible refine (script_Parse.calls k1 x3_1 t215 t216 t217 _ A36.out).mono ?_); rintro e w38 ⟨v218, rfl, ho0, hb⟩; have n0_ := Aside0.mk (Kd.R_lower ho0 (below_size (by repeat (first | (with_reducible first | exact HB.out | apply below_alloc | apply pw_below_drewN | apply below_drew1) | exact HB.out)))); have n1_ := Aside0.mk (below_step (by repeat (first | (with_reducible first | exact HB.out | apply below_alloc | apply pw_below_drewN | apply below_drew1) | exact HB.out)) hb); clear HB; have HO219 := n0_; have HB := n1_; clear n0_ n1_; (try clear hb); (try clear hb2); (try clear hk); (try clear hi); (try clear ho0))); go_upto_region 25 with (first | (go_at_call 12; (with_reducible refine (script_Parse.calls k1 x3_1 t215 t216 t217 _ A36.out).mono ?_); rintro e w38 ⟨v218, rfl, ho0, hb⟩; have n0_ := Aside0.mk (Kd.R_lower ho0 (below_size (by repeat (first | (with_reducible first | exact HB.out | apply below_alloc | apply pw_below_drewN | apply below_drew1) | exact HB.out)))); have n1_ := Aside0.mk (below_step (by repeat (first | (with_reducible first | exact HB.out | apply below_alloc | apply pw_below_drewN | apply below_drew1) | exact HB.out)) hb); clear HB; have HO219 := n0_; have HB := n1_; clear n0_ n1_; (try clear hb); (try clear hb2); (try clear hk); (try clear hi); (try clear ho0))))
            (try simp only [Act.put, List.setIfInBounds_toArray, List.set_cons_zero, List.set_cons_succ])
            go_cut [98] (fun v98 wc => ∃ (kq : Nat) (x98_36 : Bool), v98 = .bool x98_36 ∧ Aside0 (haversacklaw17_ScriptQuotes.j3 kq l0 t215 x98_36 = some r) ∧ Aside0 (kq ≤ k1) ∧ Aside0 (Kd.R k41 41 wc w.heap.size (fun _ => True) v218 t215) ∧ Aside0 (Below w.heap.size w wc))
            case first =>
              have H := HC37.out
              clear HC37
              by_cases c39 : t217 = 0
              · rw [if_pos c39] at H
                have c39b0 : (t217 == 0) = true := beq_iff_eq.mpr c39
                have c39b1 : (t217 != 0) = false := bne_eq_false_iff_eq.mpr c39
                clear c39
                (first | rw [c39b0] | (simp only [i64_w, i32_w]; rw [c39b0]) | skip)
                by_cases c40 : (t215.length : Int) = (l0.length : Int)
                · rw [if_pos c40] at H
                  have c40b0 : ((t215.length : Int) == (l0.length : Int)) = true := beq_iff_eq.mpr c40
                  have c40b1 : ((t215.length : Int) != (l0.length : Int)) = false := bne_eq_false_iff_eq.mpr c40
                  have c40b2 : (t215.length == l0.length) = true := by first | simpa using c40 | (simp at c40 ⊢; omega)
                  clear c40
                  replace H := Option.bind_eq_some_iff.mp H
                  obtain ⟨t220, A410, H⟩ := H
                  replace H : (haversacklaw17_ScriptQuotes.j3 k1 l0 t215 (t220.toList != x3_1.toList)) = some r := H
                  have A41 := Aside0.mk A410
                  clear A410
                  have H' := Aside0.mk H
                  clear H
                  obtain ⟨Ao42, co42, eo42⟩ := Kd.R_slice HO219.out
                  subst eo42
                  go_wp2_with (first | (go_at_call 16; (with_reducible refine (script_Text.calls k1 _ _ t215 t220 _ ?side1 ?side2 A41.out).mono ?_); (case side1 => repeat (first | exact (Kd.R_reads' HO219.out).2.2 | (with_reducible refine Kd.C_alloc ?_ _) | (with_reducible refine Kd.C_drewN ?_ _) | (with_reducible refine Kd.C_drew ?_))); (case side2 => exact (Kd.R_reads' HO219.out).2.1); rintro e w43 ⟨rfl, hb⟩; have n0_ := Aside0.mk (Kd.R_below (by (with_reducible repeat (first | apply Kd.R_alloc | apply Kd.R_drewN | apply Kd.R_drew)); exact HO219.out) hb); have n1_ := Aside0.mk (below_step (by repeat (first | (with_reducible first | exact HB.out | apply below_alloc | apply pw_below_drewN | apply below_drew1) | exact HB.out)) hb); clear HO219; clear HB; have HO219 := n0_; have HB := n1_; clear n0_ n1_; (try clear hb); (try clear hb2); (try clear hk); (try clear hi)))
                  repeat (go_quiet (first | (go_at_call 16; (with_reducible refine (script_Text.calls k1 _ _ t215 t220 _ ?side1 ?side2 A41.out).mono ?_); (case side1 => repeat (first | exact (Kd.R_reads' HO219.out).2.2 | (with_reducible refine Kd.C_alloc ?_ _) | (with_reducible refine Kd.C_drewN ?_ _) | (with_reducible refine Kd.C_drew ?_))); (case side2 => exact (Kd.R_reads' HO219.out).2.1); rintro e w43 ⟨rfl, hb⟩; have n0_ := Aside0.mk (Kd.R_below (by (with_reducible repeat (first | apply Kd.R_alloc | apply Kd.R_drewN | apply Kd.R_drew)); exact HO219.out) hb); have n1_ := Aside0.mk (below_step (by repeat (first | (with_reducible first | exact HB.out | apply below_alloc | apply pw_below_drewN | apply below_drew1) | exact HB.out)) hb); clear HO219; clear HB; have HO219 := n0_; have HB := n1_; clear n0_ n1_; (try clear hb); (try clear hb2); (try clear hk); (try clear hi))); try go_wp2_with (first | (go_at_call 16; (with_reducible refine (script_Text.calls k1 _ _ t215 t220 _ ?side1 ?side2 A41.out).mono ?_); (case side1 => repeat (first | exact (Kd.R_reads' HO219.out).2.2 | (with_reducible refine Kd.C_alloc ?_ _) | (with_reducible refine Kd.C_drewN ?_ _) | (with_reducible refine Kd.C_drew ?_))); (case side2 => exact (Kd.R_reads' HO219.out).2.1); rintro e w43 ⟨rfl, hb⟩; have n0_ := Aside0.mk (Kd.R_below (by (with_reducible repeat (first | apply Kd.R_alloc | apply Kd.R_drewN | apply Kd.R_drew)); exact HO219.out) hb); have n1_ := Aside0.mk (below_step (by repeat (first | (with_reducible first | exact HB.out | apply below_alloc | apply pw_below_drewN | apply below_drew1) | exact HB.out)) hb); clear HO219; clear HB; have HO219 := n0_; have HB := n1_; clear n0_ n1_; (try clear hb); (try clear hb2); (try clear hk); (try clear hi))))
                  go_meet
                  case rel => exact ⟨_, ((t220.toList != x3_1.toList)), (by first | rfl | (simp; done) | (simp [*]; done)), H', ⟨by have := HK1.out; first | omega | exact Nat.le_refl _⟩, ⟨by (with_reducible repeat (first | apply Kd.R_alloc | apply Kd.R_drewN | apply Kd.R_drew)); first | exact HO219.out | exact Kd.R_mono HO219.out (fun _ hk e => hk (e.trans (own_len _ _ _ _)))⟩, ⟨by repeat (first | (with_reducible first | exact HB.out | apply below_alloc | apply pw_below_drewN | apply below_drew1) | exact HB.out)⟩⟩
                · rw [if_neg c40] at H
                  have c40b0 : ((t215.length : Int) == (l0.length : Int)) = false := beq_eq_false_iff_ne.mpr c40
                  have c40b1 : ((t215.length : Int) != (l0.length : Int)) = true := bne_iff_ne.mpr c40
                  have c40b2 : (t215.length == l0.length) = false := by first | simpa using c40 | (simp at c40 ⊢; omega)
                  have H' := Aside0.mk H
                  clear H
                  obtain ⟨Ao44, co44, eo44⟩ := Kd.R_slice HO219.out
                  subst eo44
                  go_wp2
                  repeat (go_quiet (fail); try go_wp2)
                  go_meet
                  case rel => exact ⟨_, (true), (by first | rfl | (simp; done) | (simp [*]; done)), H', ⟨by have := HK1.out; first | omega | exact Nat.le_refl _⟩, ⟨by (with_reducible repeat (first | apply Kd.R_alloc | apply Kd.R_drewN | apply Kd.R_drew)); first | exact HO219.out | exact Kd.R_mono HO219.out (fun _ hk e => hk (e.trans (own_len _ _ _ _)))⟩, ⟨by repeat (first | (with_reducible first | exact HB.out | apply below_alloc | apply pw_below_drewN | apply below_drew1) | exact HB.out)⟩⟩
              · rw [if_neg c39] at H
                have c39b0 : (t217 == 0) = false := beq_eq_false_iff_ne.mpr c39
                have c39b1 : (t217 != 0) = true := bne_iff_ne.mpr c39
                (first | rw [c39b0] | (simp only [i64_w, i32_w]; rw [c39b0]) | skip)
                have H' := Aside0.mk H
                clear H
                go_wp2
                repeat (go_quiet (fail); try go_wp2)
                go_meet
                case rel => exact ⟨_, (true), (by first | rfl | (simp; done) | (simp [*]; done)), H', ⟨by have := HK1.out; first | omega | exact Nat.le_refl _⟩, ⟨by (with_reducible repeat (first | apply Kd.R_alloc | apply Kd.R_drewN | apply Kd.R_drew)); first | exact HO219.out | exact Kd.R_mono HO219.out (fun _ hk e => hk (e.trans (own_len _ _ _ _)))⟩, ⟨by repeat (first | (with_reducible first | exact HB.out | apply below_alloc | apply pw_below_drewN | apply below_drew1) | exact HB.out)⟩⟩
            case rest =>
              clear HC37
              try clear c1
              try clear p1
              try clear q1
              try clear hx1
              try clear c2
              try clear p2
              try clear q2
              try clear hx2
              try clear c3
              try clear c4
              try clear c4b0
              try clear c4b1
              try clear c6
              try clear p6
              try clear c7
              try clear c7b0
              try clear c8
              try clear c8b0
              try clear c9
              try clear c9b0
              try clear c9b1
              try clear c10
              try clear c10b0
              try clear c11
              try clear c11b0
              try clear c12
              try clear c12b0
              try clear c13
              try clear c13b0
              try clear p14
              try clear q14
              try clear hx14
              try clear c16
              try clear c16b0
              try clear c16b1
              try clear c17
              try clear c18
              try clear c18b0
              try clear c18b1
              try clear c18b2
              try clear c19
              try clear c19b0
              try clear c20
              try clear c20b0
              try clear c21
              try clear c21b0
              try clear c21b1
              try clear p21
              try clear q21
              try clear hx21
              try clear c22
              try clear c22b0
              try clear c22b1
              try clear c23
              try clear c23b0
              try clear c23b1
              try clear c24
              try clear c24b0
              try clear c24b1
              try clear c24b2
              try clear c25
              try clear c25b0
              try clear c25b1
              try clear c26
              try clear c26b0
              try clear c26b1
              try clear c26b2
              try clear c27
              try clear c27b0
              try clear c28
              try clear c28b0
              try clear c29
              try clear c29b0
              try clear c29b1
              try clear c30
              try clear c30b0
              try clear c30b1
              try clear c31
              try clear c31b0
              try clear c31b1
              try clear c32
              try clear c32b0
              try clear c32b1
              try clear c32b2
              try clear c33
              try clear c33b0
              try clear c33b1
              try clear c33b2
              try clear c34
              try clear c34b0
              try clear c34b1
              try clear c34b2
              try clear c35
              try clear c35b0
              try clear c35b1
              try clear c35b2
              try clear c39
              try clear c39b0
              try clear c39b1
              try clear c40
              try clear c40b0
              try clear c40b1
              try clear c40b2
              try clear hx210_0
              try clear hx211_0
              try clear hx212_0
              try clear hx213_0
              try clear hx214_0
              try clear p1
              try clear p14
              try clear p2
              try clear p210
              try clear p211
              try clear p212
              try clear p213
              try clear p214
              try clear q1
              try clear q14
              try clear q2
              try clear q210
              try clear q211
              try clear q212
              try clear q213
              try clear q214
              obtain ⟨kq, x98_36, rfl, HA, HJ36, HO_8, HB⟩ := hcut
              cases kq with
              | zero => exact absurd HA.out (by simp [haversacklaw17_ScriptQuotes.j3])
              | succ kj36 =>
                have H := HA.out
                clear HA
                simp only [haversacklaw17_ScriptQuotes.j3] at H
                by_cases c45 : x98_36 = true
                · subst c45
                  have H1 : (some false) = some r := by rw [if_pos rfl] at H; exact H
                  clear H
                  have H := H1
                  clear H1
                  obtain rfl := Option.some.inj H
                  go_wp2
                  repeat (go_quiet (fail); try go_wp2)
                  go_ret
                  exact ⟨by first | rfl | (simp [errW_none, errW_some] <;> rfl) | (simp [*, errW_none, errW_some] <;> rfl), by repeat (first | (with_reducible first | exact HB.out | apply below_alloc | apply pw_below_drewN | apply below_drew1) | exact HB.out)⟩
                · replace c45 := Bool.eq_false_iff.mpr c45
                  subst c45
                  have H1 : (haversacklaw17_ScriptQuotes.l2 kj36 l0 t215 0) = some r := by rw [if_neg (show ¬ (false = true) by decide)] at H; exact H
                  clear H
                  have H := H1
                  clear H1
                  have H' := Aside0.mk H
                  clear H
                  go_wp2
                  repeat (go_quiet (fail); try go_wp2)
                  go_loopg [11] kj36 (fun kq v11 w' => ∃ (x11_3 : Int), v11 = .int .i64 x11_3 ∧ Aside0 (haversacklaw17_ScriptQuotes.l2 kq l0 t215 x11_3 = some r) ∧ Aside0 (kq ≤ kj36) ∧ Aside0 (Kd.R k41 41 w' w.heap.size (fun _ => True) v218 t215) ∧ Aside0 (Below w.heap.size w w'))
                  case atStart => exact ⟨(0), (by first | rfl | (simp; done) | (simp [*]; done)), H', ⟨Nat.le_refl _⟩, ⟨by (with_reducible repeat (first | apply Kd.R_alloc | apply Kd.R_drewN | apply Kd.R_drew)); first | exact HO_8.out | exact Kd.R_mono HO_8.out (fun _ hk e => hk (e.trans (own_len _ _ _ _)))⟩, ⟨by repeat (first | (with_reducible first | exact HB.out | apply below_alloc | apply pw_below_drewN | apply below_drew1) | exact HB.out)⟩⟩
                  case round =>
                    clear H'
                    try clear c1
                    try clear p1
                    try clear q1
                    try clear hx1
                    try clear c2
                    try clear p2
                    try clear q2
                    try clear hx2
                    try clear c3
                    try clear c4
                    try clear c4b0
                    try clear c4b1
                    try clear c6
                    try clear p6
                    try clear c7
                    try clear c7b0
                    try clear c8
                    try clear c8b0
                    try clear c9
                    try clear c9b0
                    try clear c9b1
                    try clear c10
                    try clear c10b0
                    try clear c11
                    try clear c11b0
                    try clear c12
                    try clear c12b0
                    try clear c13
                    try clear c13b0
                    try clear p14
                    try clear q14
                    try clear hx14
                    try clear c16
                    try clear c16b0
                    try clear c16b1
                    try clear c17
                    try clear c18
                    try clear c18b0
                    try clear c18b1
                    try clear c18b2
                    try clear c19
                    try clear c19b0
                    try clear c20
                    try clear c20b0
                    try clear c21
                    try clear c21b0
                    try clear c21b1
                    try clear p21
                    try clear q21
                    try clear hx21
                    try clear c22
                    try clear c22b0
                    try clear c22b1
                    try clear c23
                    try clear c23b0
                    try clear c23b1
                    try clear c24
                    try clear c24b0
                    try clear c24b1
                    try clear c24b2
                    try clear c25
                    try clear c25b0
                    try clear c25b1
                    try clear c26
                    try clear c26b0
                    try clear c26b1
                    try clear c26b2
                    try clear c27
                    try clear c27b0
                    try clear c28
                    try clear c28b0
                    try clear c29
                    try clear c29b0
                    try clear c29b1
                    try clear c30
                    try clear c30b0
                    try clear c30b1
                    try clear c31
                    try clear c31b0
                    try clear c31b1
                    try clear c32
                    try clear c32b0
                    try clear c32b1
                    try clear c32b2
                    try clear c33
                    try clear c33b0
                    try clear c33b1
                    try clear c33b2
                    try clear c34
                    try clear c34b0
                    try clear c34b1
                    try clear c34b2
                    try clear c35
                    try clear c35b0
                    try clear c35b1
                    try clear c35b2
                    try clear c39
                    try clear c39b0
                    try clear c39b1
                    try clear c40
                    try clear c40b0
                    try clear c40b1
                    try clear c40b2
                    try clear c45
                    try clear hx210_0
                    try clear hx211_0
                    try clear hx212_0
                    try clear hx213_0
                    try clear hx214_0
                    try clear p1
                    try clear p14
                    try clear p2
                    try clear p21
                    try clear p210
                    try clear p211
                    try clear p212
                    try clear p213
                    try clear p214
                    try clear p6
                    try clear q1
                    try clear q14
                    try clear q2
                    try clear q21
                    try clear q210
                    try clear q211
                    try clear q212
                    try clear q213
                    try clear q214
                    obtain ⟨x11_3, rfl, HA, HK3, HO_8, HB⟩ := hrel
                    cases gk with
                    | zero => exact absurd HA.out (by simp [haversacklaw17_ScriptQuotes.l2])
                    | succ k3 =>
                      have H := HA.out
                      clear HA
                      simp only [haversacklaw17_ScriptQuotes.l2] at H
                      by_cases c46 : x11_3 < (t215.length : Int)
                      · rw [if_pos c46] at H
                        have c46b0 : decide (x11_3 < (t215.length : Int)) = true := decide_eq_true c46
                        clear c46
                        by_cases c47 : 0 ≤ x11_3
                        · rw [if_pos c47] at H
                          have c47b0 : decide (0 ≤ x11_3) = true := decide_eq_true c47
                          clear c47
                          by_cases c48 : x11_3 < (l0.length : Int)
                          · rw [if_pos c48] at H
                            have c48b0 : decide (x11_3 < (l0.length : Int)) = true := decide_eq_true c48
                            clear c48
                            by_cases c49 : ((rd_T41 t215 x11_3).f3).toList = (rdOf ByteArray.empty l0 x11_3).toList
                            · rw [if_pos c49] at H
                              have c49b0 : (((rd_T41 t215 x11_3).f3).toList == (rdOf ByteArray.empty l0 x11_3).toList) = true := beq_iff_eq.mpr c49
                              have c49b1 : (((rd_T41 t215 x11_3).f3).toList != (rdOf ByteArray.empty l0 x11_3).toList) = false := bne_eq_false_iff_eq.mpr c49
                              clear c49
                              by_cases c50 : ((rd_T41 t215 x11_3).f1).toList = ([102] : List UInt8)
                              · rw [if_pos c50] at H
                                have c50b0 : (((rd_T41 t215 x11_3).f1).toList == ([102] : List UInt8)) = true := beq_iff_eq.mpr c50
                                have c50b1 : (((rd_T41 t215 x11_3).f1).toList != ([102] : List UInt8)) = false := bne_eq_false_iff_eq.mpr c50
                                clear c50
                                have H' := Aside0.mk H
                                clear H
                                obtain ⟨Ao51, co51, eo51⟩ := Kd.R_slice HO_8.out
                                subst eo51
                                have p221 : 0 ≤ (x11_3 : Int) := of_decide_eq_true (by first | (with_reducible assumption) | assumption)
                                have q221 : x11_3 < (t215.length : Int) := of_decide_eq_true (by first | (with_reducible assumption) | assumption)
                                obtain ⟨ad221, e221, hx221_0, hx221_1, hx221_2, hx221_3, hx221_4, hx221_5⟩ := at_T41 (Kd.R_reads' HO_8.out).2.2 x11_3 p221 q221
                                cases e221
                                replace p221 := eq_true p221
                                replace q221 := eq_true q221
                                have p222 : 0 ≤ (x11_3 : Int) := of_decide_eq_true (by first | (with_reducible assumption) | assumption)
                                have q222 : x11_3 < (l0.length : Int) := of_decide_eq_true (by first | (with_reducible assumption) | assumption)
                                obtain ⟨ad222, e222, hx222_0⟩ := Kd.at_string HR0.out x11_3 p222 q222
                                cases e222
                                replace hx222_0 := (HB.out.cell (World.block_lt_of_cell? w _ hx222_0)).trans hx222_0
                                replace p222 := eq_true p222
                                replace q222 := eq_true q222
                                have p223 : 0 ≤ (x11_3 : Int) := of_decide_eq_true (by first | (with_reducible assumption) | assumption)
                                have q223 : x11_3 < (t215.length : Int) := of_decide_eq_true (by first | (with_reducible assumption) | assumption)
                                obtain ⟨ad223, e223, hx223_0, hx223_1, hx223_2, hx223_3, hx223_4, hx223_5⟩ := at_T41 (Kd.R_reads' HO_8.out).2.2 x11_3 p223 q223
                                obtain rfl : ad221 = ad223 := (by injection e223)
                                replace p223 := eq_true p223
                                replace q223 := eq_true q223
                                go_wp2
                                repeat (go_quiet (fail); try go_wp2)
                                go_roundg k3
                                case measure => have := HK1.out; have := HJ36.out; have := HK3.out; omega
                                case rel => exact ⟨(wrap64 (x11_3 + 1)), (by first | rfl | (simp; done) | (simp [*]; done)), H', ⟨by have := HK1.out; have := HJ36.out; have := HK3.out; omega⟩, ⟨by (with_reducible repeat (first | apply Kd.R_alloc | apply Kd.R_drewN | apply Kd.R_drew)); first | exact HO_8.out | exact Kd.R_mono HO_8.out (fun _ hk e => hk (e.trans (own_len _ _ _ _)))⟩, ⟨by repeat (first | (with_reducible first | exact HB.out | apply below_alloc | apply pw_below_drewN | apply below_drew1) | exact HB.out)⟩⟩
                              · rw [if_neg c50] at H
                                have c50b0 : (((rd_T41 t215 x11_3).f1).toList == ([102] : List UInt8)) = false := beq_eq_false_iff_ne.mpr c50
                                have c50b1 : (((rd_T41 t215 x11_3).f1).toList != ([102] : List UInt8)) = true := bne_iff_ne.mpr c50
                                obtain rfl := Option.some.inj H
                                obtain ⟨Ao52, co52, eo52⟩ := Kd.R_slice HO_8.out
                                subst eo52
                                have p221 : 0 ≤ (x11_3 : Int) := of_decide_eq_true (by first | (with_reducible assumption) | assumption)
                                have q221 : x11_3 < (t215.length : Int) := of_decide_eq_true (by first | (with_reducible assumption) | assumption)
                                obtain ⟨ad221, e221, hx221_0, hx221_1, hx221_2, hx221_3, hx221_4, hx221_5⟩ := at_T41 (Kd.R_reads' HO_8.out).2.2 x11_3 p221 q221
                                cases e221
                                replace p221 := eq_true p221
                                replace q221 := eq_true q221
                                have p222 : 0 ≤ (x11_3 : Int) := of_decide_eq_true (by first | (with_reducible assumption) | assumption)
                                have q222 : x11_3 < (l0.length : Int) := of_decide_eq_true (by first | (with_reducible assumption) | assumption)
                                obtain ⟨ad222, e222, hx222_0⟩ := Kd.at_string HR0.out x11_3 p222 q222
                                cases e222
                                replace hx222_0 := (HB.out.cell (World.block_lt_of_cell? w _ hx222_0)).trans hx222_0
                                replace p222 := eq_true p222
                                replace q222 := eq_true q222
                                have p223 : 0 ≤ (x11_3 : Int) := of_decide_eq_true (by first | (with_reducible assumption) | assumption)
                                have q223 : x11_3 < (t215.length : Int) := of_decide_eq_true (by first | (with_reducible assumption) | assumption)
                                obtain ⟨ad223, e223, hx223_0, hx223_1, hx223_2, hx223_3, hx223_4, hx223_5⟩ := at_T41 (Kd.R_reads' HO_8.out).2.2 x11_3 p223 q223
                                obtain rfl : ad221 = ad223 := (by injection e223)
                                replace p223 := eq_true p223
                                replace q223 := eq_true q223
                                go_wp2
                                repeat (go_quiet (fail); try go_wp2)
                                go_ret
                                exact ⟨by first | rfl | (simp [errW_none, errW_some] <;> rfl) | (simp [*, errW_none, errW_some] <;> rfl), by repeat (first | (with_reducible first | exact HB.out | apply below_alloc | apply pw_below_drewN | apply below_drew1) | exact HB.out)⟩
                            · rw [if_neg c49] at H
                              have c49b0 : (((rd_T41 t215 x11_3).f3).toList == (rdOf ByteArray.empty l0 x11_3).toList) = false := beq_eq_false_iff_ne.mpr c49
                              have c49b1 : (((rd_T41 t215 x11_3).f3).toList != (rdOf ByteArray.empty l0 x11_3).toList) = true := bne_iff_ne.mpr c49
                              obtain rfl := Option.some.inj H
                              obtain ⟨Ao53, co53, eo53⟩ := Kd.R_slice HO_8.out
                              subst eo53
                              have p221 : 0 ≤ (x11_3 : Int) := of_decide_eq_true (by first | (with_reducible assumption) | assumption)
                              have q221 : x11_3 < (t215.length : Int) := of_decide_eq_true (by first | (with_reducible assumption) | assumption)
                              obtain ⟨ad221, e221, hx221_0, hx221_1, hx221_2, hx221_3, hx221_4, hx221_5⟩ := at_T41 (Kd.R_reads' HO_8.out).2.2 x11_3 p221 q221
                              cases e221
                              replace p221 := eq_true p221
                              replace q221 := eq_true q221
                              have p222 : 0 ≤ (x11_3 : Int) := of_decide_eq_true (by first | (with_reducible assumption) | assumption)
                              have q222 : x11_3 < (l0.length : Int) := of_decide_eq_true (by first | (with_reducible assumption) | assumption)
                              obtain ⟨ad222, e222, hx222_0⟩ := Kd.at_string HR0.out x11_3 p222 q222
                              cases e222
                              replace hx222_0 := (HB.out.cell (World.block_lt_of_cell? w _ hx222_0)).trans hx222_0
                              replace p222 := eq_true p222
                              replace q222 := eq_true q222
                              go_wp2
                              repeat (go_quiet (fail); try go_wp2)
                              go_ret
                              exact ⟨by first | rfl | (simp [errW_none, errW_some] <;> rfl) | (simp [*, errW_none, errW_some] <;> rfl), by repeat (first | (with_reducible first | exact HB.out | apply below_alloc | apply pw_below_drewN | apply below_drew1) | exact HB.out)⟩
                          · rw [if_neg c48] at H
                            exact absurd H (by simp)
                        · rw [if_neg c47] at H
                          exact absurd H (by simp)
                      · rw [if_neg c46] at H
                        have c46b0 : decide (x11_3 < (t215.length : Int)) = false := decide_eq_false c46
                        clear c46
                        obtain rfl := Option.some.inj H
                        obtain ⟨Ao54, co54, eo54⟩ := Kd.R_slice HO_8.out
                        subst eo54
                        go_wp2
                        repeat (go_quiet (fail); try go_wp2)
                        go_ret
                        exact ⟨by first | rfl | (simp [errW_none, errW_some] <;> rfl) | (simp [*, errW_none, errW_some] <;> rfl), by repeat (first | (with_reducible first | exact HB.out | apply below_alloc | apply pw_below_drewN | apply below_drew1) | exact HB.out)⟩
  · replace c3 := Bool.eq_false_iff.mpr c3
    subst c3
    have H1 : (some false) = some r := by rw [if_neg (show ¬ (false = true) by decide)] at H; exact H
    clear H
    have H := H1
    clear H1
    obtain rfl := Option.some.inj H
    go_enter Tryd.func6, Tryd.ntmps6
    go_wp2_with (first | (go_at_call 8; (with_reducible refine (haversacklaw17_known.calls k  false _ A2.out).mono ?_); rintro e w55 ⟨rfl, hb⟩; have n0_ := Aside0.mk (below_step (by repeat (first | (with_reducible first | exact HB.out | apply below_alloc | apply pw_below_drewN | apply below_drew1) | exact HB.out)) hb); clear HB; have HB := n0_; clear n0_; (try clear hb); (try clear hb2); (try clear hk); (try clear hi)))
    repeat (go_quiet (first | (go_at_call 8; (with_reducible refine (haversacklaw17_known.calls k  false _ A2.out).mono ?_); rintro e w55 ⟨rfl, hb⟩; have n0_ := Aside0.mk (below_step (by repeat (first | (with_reducible first | exact HB.out | apply below_alloc | apply pw_below_drewN | apply below_drew1) | exact HB.out)) hb); clear HB; have HB := n0_; clear n0_; (try clear hb); (try clear hb2); (try clear hk); (try clear hi))); try go_wp2_with (first | (go_at_call 8; (with_reducible refine (haversacklaw17_known.calls k  false _ A2.out).mono ?_); rintro e w55 ⟨rfl, hb⟩; have n0_ := Aside0.mk (below_step (by repeat (first | (with_reducible first | exact HB.out | apply below_alloc | apply pw_below_drewN | apply below_drew1) | exact HB.out)) hb); clear HB; have HB := n0_; clear n0_; (try clear hb); (try clear hb2); (try clear hk); (try clear hi))))
    go_ret
    exact ⟨by first | rfl | (simp [errW_none, errW_some] <;> rfl) | (simp [*, errW_none, errW_some] <;> rfl), by repeat (first | (with_reducible first | exact HB.out | apply below_alloc | apply pw_below_drewN | apply below_drew1) | exact HB.out)⟩

end Go.Proofs.YtkcemdfhhdjdaaaDoor.P
