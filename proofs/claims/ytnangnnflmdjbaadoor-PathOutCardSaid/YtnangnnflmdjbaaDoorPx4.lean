-- by wip/xprint.py: printed out of the translation by this session's program.
import Derived.Test.YtnangnnflmdjbaaDoorPx0
import Derived.Test.YtnangnnflmdjbaaDoorPx1
import Derived.Test.YtnangnnflmdjbaaDoorPx3
namespace Go.Proofs.YtnangnnflmdjbaaDoor.P
open Go.RowKit Go.Proofs.YtnangnnflmdjbaaDoor.Ext Go.Proofs.YtnangnnflmdjbaaDoorW.PrintWords Go.Proofs.YtnangnnflmdjbaaDoorW.PrintLast Go.Proofs.YtnangnnflmdjbaaDoorW.PrintMore
attribute [local go_sem] max2_int min2_int max_two min_two max_three min_three max_four min_four   -- for this text's walks alone
set_option linter.unusedVariables false
set_option linter.unusedSimpArgs false

/-! ### haversackref7_Within: function 20 -/
def haversackref7_Within.f (a0 : ByteArray) (a1 : ByteArray) : Option (Bool) := if a1.toList = ([] : List UInt8) then (some true) else (if a0.toList = a1.toList then (some true) else (if (a0.size : Int) > (a1.size : Int) then (if 0 ≤ (a1.size : Int) then (if (a1.size : Int) ≤ (a0.size : Int) then (if (a0.extract 0 a1.size).toList = a1.toList then (if (a1.size : Int) < (a0.size : Int) then (some ((bt a0 (a1.size : Int)) == 47)) else (none)) else (some false)) else (none)) else (none)) else (some false)))
set_option maxHeartbeats 8000000 in
set_option maxRecDepth 100000 in
theorem haversackref7_Within.calls (a0 : ByteArray) (a1 : ByteArray) (r : Bool) (w : World) (h : haversackref7_Within.f a0 a1 = some r) :
    Calls Tryd.prog 20 #[.string a0, .string a1] w fun e w' => e = .returned (.bool r) ∧ Drawn0 w w' := by
  have H : (if a1.toList = ([] : List UInt8) then (some true) else (if a0.toList = a1.toList then (some true) else (if (a0.size : Int) > (a1.size : Int) then (if 0 ≤ (a1.size : Int) then (if (a1.size : Int) ≤ (a0.size : Int) then (if (a0.extract 0 a1.size).toList = a1.toList then (if (a1.size : Int) < (a0.size : Int) then (some ((bt a0 (a1.size : Int)) == 47)) else (none)) else (some false)) else (none)) else (none)) else (some false)))) = some r := h
  clear h
  by_cases c3 : a1.toList = ([] : List UInt8)
  · rw [if_pos c3] at H
    have c3b0 : (a1.toList == ([] : List UInt8)) = true := beq_iff_eq.mpr c3
    have c3e : a1.toList.isEmpty = true := emp_true c3b0
    have c3b1 : (a1.toList != ([] : List UInt8)) = false := bne_eq_false_iff_eq.mpr c3
    clear c3
    obtain rfl := Option.some.inj H
    go_enter Tryd.func20, Tryd.ntmps20
    go_wp2
    go_ret
    exact ⟨by first | rfl | (simp; done) | (simp [*]; done), by repeat (first | exact Drawn0.refl _ | apply Drawn0.step)⟩
  · rw [if_neg c3] at H
    have c3b0 : (a1.toList == ([] : List UInt8)) = false := beq_eq_false_iff_ne.mpr c3
    have c3e : a1.toList.isEmpty = false := emp_false c3b0
    have c3b1 : (a1.toList != ([] : List UInt8)) = true := bne_iff_ne.mpr c3
    by_cases c4 : a0.toList = a1.toList
    · rw [if_pos c4] at H
      have c4b0 : (a0.toList == a1.toList) = true := beq_iff_eq.mpr c4
      have c4b1 : (a0.toList != a1.toList) = false := bne_eq_false_iff_eq.mpr c4
      clear c4
      obtain rfl := Option.some.inj H
      go_enter Tryd.func20, Tryd.ntmps20
      go_wp2
      go_ret
      exact ⟨by first | rfl | (simp; done) | (simp [*]; done), by repeat (first | exact Drawn0.refl _ | apply Drawn0.step)⟩
    · rw [if_neg c4] at H
      have c4b0 : (a0.toList == a1.toList) = false := beq_eq_false_iff_ne.mpr c4
      have c4b1 : (a0.toList != a1.toList) = true := bne_iff_ne.mpr c4
      by_cases c5 : (a0.size : Int) > (a1.size : Int)
      · rw [if_pos c5] at H
        have c5b0 : decide ((a1.size : Int) < (a0.size : Int)) = true := decide_eq_true c5
        have c5b1 : decide (a1.size < a0.size) = true := decide_eq_true (Int.ofNat_lt.mp c5)
        clear c5
        by_cases c6 : 0 ≤ (a1.size : Int)
        · rw [if_pos c6] at H
          have c6b0 := eq_true c6
          have c6b1 : decide (0 ≤ (a1.size : Int)) = true := decide_eq_true c6
          clear c6
          by_cases c7 : (a1.size : Int) ≤ (a0.size : Int)
          · rw [if_pos c7] at H
            have c7b0 := eq_true c7
            have c7b1 : decide ((a1.size : Int) ≤ (a0.size : Int)) = true := decide_eq_true c7
            clear c7
            by_cases c8 : (a0.extract 0 a1.size).toList = a1.toList
            · rw [if_pos c8] at H
              have c8b0 : ((a0.extract 0 a1.size).toList == a1.toList) = true := beq_iff_eq.mpr c8
              have c8b1 : ((a0.extract 0 a1.size).toList != a1.toList) = false := bne_eq_false_iff_eq.mpr c8
              clear c8
              by_cases c9 : (a1.size : Int) < (a0.size : Int)
              · rw [if_pos c9] at H
                have c9b0 : decide ((a1.size : Int) < (a0.size : Int)) = true := decide_eq_true c9
                have c9b1 : decide (a1.size < a0.size) = true := decide_eq_true (Int.ofNat_lt.mp c9)
                clear c9
                obtain rfl := Option.some.inj H
                have p10 : 0 ≤ ((a1.size : Int) : Int) := of_decide_eq_true (by first | (with_reducible assumption) | assumption)
                have q10 : (a1.size : Int) < (a0.size : Int) := of_decide_eq_true (by first | (with_reducible assumption) | assumption)
                have hx10 := bt_at a0 (a1.size : Int)
                simp only [Int.toNat_natCast] at hx10; replace hx10 := hx10 (by omega)
                replace p10 := eq_true p10
                replace q10 := eq_true q10
                go_enter Tryd.func20, Tryd.ntmps20
                go_wp2
                go_ret
                exact ⟨by first | rfl | (simp; done) | (simp [*]; done), by repeat (first | exact Drawn0.refl _ | apply Drawn0.step)⟩
              · rw [if_neg c9] at H
                exact absurd H (by simp)
            · rw [if_neg c8] at H
              have c8b0 : ((a0.extract 0 a1.size).toList == a1.toList) = false := beq_eq_false_iff_ne.mpr c8
              have c8b1 : ((a0.extract 0 a1.size).toList != a1.toList) = true := bne_iff_ne.mpr c8
              obtain rfl := Option.some.inj H
              go_enter Tryd.func20, Tryd.ntmps20
              go_wp2
              go_ret
              exact ⟨by first | rfl | (simp; done) | (simp [*]; done), by repeat (first | exact Drawn0.refl _ | apply Drawn0.step)⟩
          · rw [if_neg c7] at H
            exact absurd H (by simp)
        · rw [if_neg c6] at H
          exact absurd H (by simp)
      · rw [if_neg c5] at H
        have c5b0 : decide ((a1.size : Int) < (a0.size : Int)) = false := decide_eq_false c5
        have c5b1 : decide (a1.size < a0.size) = false := decide_eq_false (fun h => c5 (Int.ofNat_lt.mpr h))
        clear c5
        obtain rfl := Option.some.inj H
        go_enter Tryd.func20, Tryd.ntmps20
        go_wp2
        go_ret
        exact ⟨by first | rfl | (simp; done) | (simp [*]; done), by repeat (first | exact Drawn0.refl _ | apply Drawn0.step)⟩

/-! ### haversacklaw7_PathParts: function 4 -/
mutual
def haversacklaw7_PathParts.j0 : Nat → ByteArray → ByteArray → Bool → Option (Bool)
  | 0, _, _, _ => none
  | k + 1, x0, x1, x22 => if x22 = true then (some true) else ((haversackref7_Clean.f k x0).bind fun bt182 => ((haversackref7_Clean.f k x1).bind fun bt184 => (if bt182.2 = 0 then (haversacklaw7_PathParts.j1 k bt182.1 bt184.1 (bt184.2 != 0)) else (haversacklaw7_PathParts.j1 k bt182.1 bt184.1 true))))
def haversacklaw7_PathParts.j1 : Nat → ByteArray → ByteArray → Bool → Option (Bool)
  | 0, _, _, _ => none
  | k + 1, x5, x7, x38 => if x38 = true then (some true) else ((path_Clean.f x5).bind fun bt186 => ((path_Parts.f x5).bind fun t188 => (if bt186.1.toList = x5.toList then (if bt186.2 = 0 then ((haversackref7_Parts.f k x5).bind fun t191 => ((haversackhelp_Strings.f k t188 t191).bind fun t194 => (if t194 = true then ((path_Parent.f k x5).bind fun t195 => ((haversackref7_Parent.f k x5).bind fun t196 => (if t195.toList = t196.toList then ((path_Base.f k x5).bind fun t197 => ((haversackref7_Base.f k x5).bind fun t198 => (haversacklaw7_PathParts.j2 k x5 x7 (t197.toList != t198.toList)))) else (haversacklaw7_PathParts.j2 k x5 x7 true)))) else (haversacklaw7_PathParts.j2 k x5 x7 true)))) else (haversacklaw7_PathParts.j2 k x5 x7 true)) else (haversacklaw7_PathParts.j2 k x5 x7 true))))
def haversacklaw7_PathParts.j2 : Nat → ByteArray → ByteArray → Bool → Option (Bool)
  | 0, _, _, _ => none
  | k + 1, x5, x7, x73 => if x73 = true then (some false) else ((path_Parent.f k x5).bind fun t199 => (if t199.toList = ([] : List UInt8) then (haversacklaw7_PathParts.j3 k x5 x7 t199) else (if t199.size + 1 ≤ 9223372036854775807 then (haversacklaw7_PathParts.j3 k x5 x7 (t199 ++ (⟨#[47]⟩ : ByteArray))) else (none))))
def haversacklaw7_PathParts.j3 : Nat → ByteArray → ByteArray → ByteArray → Option (Bool)
  | 0, _, _, _ => none
  | k + 1, x5, x7, x12 => (path_Base.f k x5).bind fun t200 => (if x12.size + t200.size ≤ 9223372036854775807 then (if (x12 ++ t200).toList = x5.toList then ((path_Within.f x5 x7).bind fun t201 => ((haversackref7_Within.f x5 x7).bind fun t202 => (if (t201 == t202) = true then ((path_Parent.f k x5).bind fun t203 => ((path_Within.f x5 t203).bind fun t204 => (if t204 = true then ((path_Within.f x5 (⟨#[]⟩ : ByteArray)).bind fun t205 => (some t205)) else (some false)))) else (some false)))) else (some false)) else (none))
end
def haversacklaw7_PathParts.f (k : Nat) (a0 : ByteArray) (a1 : ByteArray) : Option (Bool) := (haversacklaw7_known.f k).bind fun t181 => (if t181 = true then (if (a0.size : Int) > 300 then (haversacklaw7_PathParts.j0 k a0 a1 true) else (haversacklaw7_PathParts.j0 k a0 a1 (decide ((a1.size : Int) > 300)))) else (some false))
theorem haversacklaw7_PathParts.mono_l : ∀ k, (∀ y0 y1 y2, LeO (haversacklaw7_PathParts.j0 k y0 y1 y2) (haversacklaw7_PathParts.j0 (k + 1) y0 y1 y2)) ∧ (∀ y0 y1 y2, LeO (haversacklaw7_PathParts.j1 k y0 y1 y2) (haversacklaw7_PathParts.j1 (k + 1) y0 y1 y2)) ∧ (∀ y0 y1 y2, LeO (haversacklaw7_PathParts.j2 k y0 y1 y2) (haversacklaw7_PathParts.j2 (k + 1) y0 y1 y2)) ∧ (∀ y0 y1 y2, LeO (haversacklaw7_PathParts.j3 k y0 y1 y2) (haversacklaw7_PathParts.j3 (k + 1) y0 y1 y2))
  | 0 => ⟨fun _ _ _ r h => by simp [haversacklaw7_PathParts.j0] at h, fun _ _ _ r h => by simp [haversacklaw7_PathParts.j1] at h, fun _ _ _ r h => by simp [haversacklaw7_PathParts.j2] at h, fun _ _ _ r h => by simp [haversacklaw7_PathParts.j3] at h⟩
  | k + 1 => by
    obtain ⟨ih0, ih1, ih2, ih3⟩ := haversacklaw7_PathParts.mono_l k
    refine ⟨?_, ?_, ?_, ?_⟩
    · intro y0 y1 y2
      unfold haversacklaw7_PathParts.j0
      repeat' first
      | (with_reducible exact ih0 _ _ _)
      | (with_reducible exact ih1 _ _ _)
      | (with_reducible exact ih2 _ _ _)
      | (with_reducible exact ih3 _ _ _)
      | (with_reducible exact haversackhelp_Strings.mono _ _ _)
      | (with_reducible exact haversacklaw7_known.mono _)
      | (with_reducible exact haversackref7_Base.mono _ _)
      | (with_reducible exact haversackref7_Clean.mono _ _)
      | (with_reducible exact haversackref7_Parent.mono _ _)
      | (with_reducible exact haversackref7_Parts.mono _ _)
      | (with_reducible exact path_Base.mono _ _)
      | (with_reducible exact path_Parent.mono _ _)
      | (with_reducible exact LeO.refl _)
      | (with_reducible exact LeO.none _)
      | (with_reducible refine LeO.ite ?_ ?_)
      | (with_reducible refine LeO.bind ?_ (fun _ => ?_))
      | exact ih0 _ _ _
      | exact ih1 _ _ _
      | exact ih2 _ _ _
      | exact ih3 _ _ _
      | exact haversackhelp_Strings.mono _ _ _
      | exact haversacklaw7_known.mono _
      | exact haversackref7_Base.mono _ _
      | exact haversackref7_Clean.mono _ _
      | exact haversackref7_Parent.mono _ _
      | exact haversackref7_Parts.mono _ _
      | exact path_Base.mono _ _
      | exact path_Parent.mono _ _
      | exact LeO.none _
      | refine LeO.ite ?_ ?_
      | refine LeO.bind ?_ (fun _ => ?_)
    · intro y0 y1 y2
      unfold haversacklaw7_PathParts.j1
      repeat' first
      | (with_reducible exact ih0 _ _ _)
      | (with_reducible exact ih1 _ _ _)
      | (with_reducible exact ih2 _ _ _)
      | (with_reducible exact ih3 _ _ _)
      | (with_reducible exact haversackhelp_Strings.mono _ _ _)
      | (with_reducible exact haversacklaw7_known.mono _)
      | (with_reducible exact haversackref7_Base.mono _ _)
      | (with_reducible exact haversackref7_Clean.mono _ _)
      | (with_reducible exact haversackref7_Parent.mono _ _)
      | (with_reducible exact haversackref7_Parts.mono _ _)
      | (with_reducible exact path_Base.mono _ _)
      | (with_reducible exact path_Parent.mono _ _)
      | (with_reducible exact LeO.refl _)
      | (with_reducible exact LeO.none _)
      | (with_reducible refine LeO.ite ?_ ?_)
      | (with_reducible refine LeO.bind ?_ (fun _ => ?_))
      | exact ih0 _ _ _
      | exact ih1 _ _ _
      | exact ih2 _ _ _
      | exact ih3 _ _ _
      | exact haversackhelp_Strings.mono _ _ _
      | exact haversacklaw7_known.mono _
      | exact haversackref7_Base.mono _ _
      | exact haversackref7_Clean.mono _ _
      | exact haversackref7_Parent.mono _ _
      | exact haversackref7_Parts.mono _ _
      | exact path_Base.mono _ _
      | exact path_Parent.mono _ _
      | exact LeO.none _
      | refine LeO.ite ?_ ?_
      | refine LeO.bind ?_ (fun _ => ?_)
    · intro y0 y1 y2
      unfold haversacklaw7_PathParts.j2
      repeat' first
      | (with_reducible exact ih0 _ _ _)
      | (with_reducible exact ih1 _ _ _)
      | (with_reducible exact ih2 _ _ _)
      | (with_reducible exact ih3 _ _ _)
      | (with_reducible exact haversackhelp_Strings.mono _ _ _)
      | (with_reducible exact haversacklaw7_known.mono _)
      | (with_reducible exact haversackref7_Base.mono _ _)
      | (with_reducible exact haversackref7_Clean.mono _ _)
      | (with_reducible exact haversackref7_Parent.mono _ _)
      | (with_reducible exact haversackref7_Parts.mono _ _)
      | (with_reducible exact path_Base.mono _ _)
      | (with_reducible exact path_Parent.mono _ _)
      | (with_reducible exact LeO.refl _)
      | (with_reducible exact LeO.none _)
      | (with_reducible refine LeO.ite ?_ ?_)
      | (with_reducible refine LeO.bind ?_ (fun _ => ?_))
      | exact ih0 _ _ _
      | exact ih1 _ _ _
      | exact ih2 _ _ _
      | exact ih3 _ _ _
      | exact haversackhelp_Strings.mono _ _ _
      | exact haversacklaw7_known.mono _
      | exact haversackref7_Base.mono _ _
      | exact haversackref7_Clean.mono _ _
      | exact haversackref7_Parent.mono _ _
      | exact haversackref7_Parts.mono _ _
      | exact path_Base.mono _ _
      | exact path_Parent.mono _ _
      | exact LeO.none _
      | refine LeO.ite ?_ ?_
      | refine LeO.bind ?_ (fun _ => ?_)
    · intro y0 y1 y2
      unfold haversacklaw7_PathParts.j3
      repeat' first
      | (with_reducible exact ih0 _ _ _)
      | (with_reducible exact ih1 _ _ _)
      | (with_reducible exact ih2 _ _ _)
      | (with_reducible exact ih3 _ _ _)
      | (with_reducible exact haversackhelp_Strings.mono _ _ _)
      | (with_reducible exact haversacklaw7_known.mono _)
      | (with_reducible exact haversackref7_Base.mono _ _)
      | (with_reducible exact haversackref7_Clean.mono _ _)
      | (with_reducible exact haversackref7_Parent.mono _ _)
      | (with_reducible exact haversackref7_Parts.mono _ _)
      | (with_reducible exact path_Base.mono _ _)
      | (with_reducible exact path_Parent.mono _ _)
      | (with_reducible exact LeO.refl _)
      | (with_reducible exact LeO.none _)
      | (with_reducible refine LeO.ite ?_ ?_)
      | (with_reducible refine LeO.bind ?_ (fun _ => ?_))
      | exact ih0 _ _ _
      | exact ih1 _ _ _
      | exact ih2 _ _ _
      | exact ih3 _ _ _
      | exact haversackhelp_Strings.mono _ _ _
      | exact haversacklaw7_known.mono _
      | exact haversackref7_Base.mono _ _
      | exact haversackref7_Clean.mono _ _
      | exact haversackref7_Parent.mono _ _
      | exact haversackref7_Parts.mono _ _
      | exact path_Base.mono _ _
      | exact path_Parent.mono _ _
      | exact LeO.none _
      | refine LeO.ite ?_ ?_
      | refine LeO.bind ?_ (fun _ => ?_)
theorem haversacklaw7_PathParts.mono : ∀ a0 a1 k, LeO (haversacklaw7_PathParts.f k a0 a1) (haversacklaw7_PathParts.f (k + 1) a0 a1) := by
  intro a0 a1 k
  obtain ⟨ih0, ih1, ih2, ih3⟩ := haversacklaw7_PathParts.mono_l k
  unfold haversacklaw7_PathParts.f
  repeat' first
      | (with_reducible exact ih0 _ _ _)
      | (with_reducible exact ih1 _ _ _)
      | (with_reducible exact ih2 _ _ _)
      | (with_reducible exact ih3 _ _ _)
      | (with_reducible exact haversackhelp_Strings.mono _ _ _)
      | (with_reducible exact haversacklaw7_known.mono _)
      | (with_reducible exact haversackref7_Base.mono _ _)
      | (with_reducible exact haversackref7_Clean.mono _ _)
      | (with_reducible exact haversackref7_Parent.mono _ _)
      | (with_reducible exact haversackref7_Parts.mono _ _)
      | (with_reducible exact path_Base.mono _ _)
      | (with_reducible exact path_Parent.mono _ _)
      | (with_reducible exact LeO.refl _)
      | (with_reducible exact LeO.none _)
      | (with_reducible refine LeO.ite ?_ ?_)
      | (with_reducible refine LeO.bind ?_ (fun _ => ?_))
      | exact ih0 _ _ _
      | exact ih1 _ _ _
      | exact ih2 _ _ _
      | exact ih3 _ _ _
      | exact haversackhelp_Strings.mono _ _ _
      | exact haversacklaw7_known.mono _
      | exact haversackref7_Base.mono _ _
      | exact haversackref7_Clean.mono _ _
      | exact haversackref7_Parent.mono _ _
      | exact haversackref7_Parts.mono _ _
      | exact path_Base.mono _ _
      | exact path_Parent.mono _ _
      | exact LeO.none _
      | refine LeO.ite ?_ ?_
      | refine LeO.bind ?_ (fun _ => ?_)
set_option maxHeartbeats 8000000 in
set_option maxRecDepth 100000 in
theorem haversacklaw7_PathParts.calls (k : Nat) (a0 : ByteArray) (a1 : ByteArray) (r : Bool) (w : World) (h : haversacklaw7_PathParts.f k a0 a1 = some r) :
    Calls Tryd.prog 4 #[.string a0, .string a1] w fun e w' => e = .returned (.bool r) ∧ Below w.heap.size w w' := by
  have HB := Aside0.mk (Below.refl w.heap.size w)
  have H : ((haversacklaw7_known.f k).bind fun t181 => (if t181 = true then (if (a0.size : Int) > 300 then (haversacklaw7_PathParts.j0 k a0 a1 true) else (haversacklaw7_PathParts.j0 k a0 a1 (decide ((a1.size : Int) > 300)))) else (some false))) = some r := h
  clear h
  replace H := Option.bind_eq_some_iff.mp H
  obtain ⟨t181, A30, H⟩ := H
  replace H : (if t181 = true then (if (a0.size : Int) > 300 then (haversacklaw7_PathParts.j0 k a0 a1 true) else (haversacklaw7_PathParts.j0 k a0 a1 (decide ((a1.size : Int) > 300)))) else (some false)) = some r := H
  have A3 := Aside0.mk A30
  clear A30
  by_cases c4 : t181 = true
  · subst c4
    have H1 : (if (a0.size : Int) > 300 then (haversacklaw7_PathParts.j0 k a0 a1 true) else (haversacklaw7_PathParts.j0 k a0 a1 (decide ((a1.size : Int) > 300)))) = some r := by rw [if_pos rfl] at H; exact H
    clear H
    have H := H1
    clear H1
    have HC5 := Aside0.mk H
    clear H
    go_enter Tryd.func4, Tryd.ntmps4
    go_upto_region 3 with (first | ((with_reducible refine gate_callee (f := 9) rfl ?_); refine goesL_ (some 13) rfl rfl Tryd.func9 (by kernel_rfl) rfl #[] rfl (by (try simp only [List.map_toArray, List.map_cons, List.map_nil]); first | done | rfl | (simp only [List.length_drop, List.length_take]; rfl)) ?_; (with_reducible refine (haversacklaw7_known.calls k  true _ A3.out).mono ?_); rintro e w6 ⟨rfl, hb⟩; refine ⟨_, rfl, ?_⟩; have n0_ := Aside0.mk (below_step (by repeat (first | (with_reducible first | exact HB.out | apply below_alloc | apply pw_below_drewN | apply below_drew1) | exact HB.out)) hb); clear HB; have HB := n0_; clear n0_; (try clear hb); (try clear hb2); (try clear hk); (try clear hi)))
    (try simp only [Act.put, List.setIfInBounds_toArray, List.set_cons_zero, List.set_cons_succ])
    go_cut [22] (fun v22 wc => ∃ (kq : Nat) (x22_4 : Bool), v22 = .bool x22_4 ∧ Aside0 (haversacklaw7_PathParts.j0 kq a0 a1 x22_4 = some r) ∧ Aside0 (kq ≤ k) ∧ Aside0 (Below w.heap.size w wc))
    case first =>
      have H := HC5.out
      clear HC5
      by_cases c7 : (a0.size : Int) > 300
      · rw [if_pos c7] at H
        have c7b0 : decide (300 < (a0.size : Int)) = true := decide_eq_true c7
        have c7b1 : decide (300 < a0.size) = true := decide_eq_true (by omega)
        clear c7
        (first | rw [c7b0] | (simp only [i64_w, i32_w]; rw [c7b0]) | skip)
        have H' := Aside0.mk H
        clear H
        go_wp2
        go_meet
        case rel => exact ⟨_, (true), (by first | rfl | (simp; done) | (simp [*]; done)), H', ⟨by first | omega | exact Nat.le_refl _⟩, ⟨by repeat (first | (with_reducible first | exact HB.out | apply below_alloc | apply pw_below_drewN | apply below_drew1) | exact HB.out)⟩⟩
      · rw [if_neg c7] at H
        have c7b0 : decide (300 < (a0.size : Int)) = false := decide_eq_false c7
        have c7b1 : decide (300 < a0.size) = false := decide_eq_false (by omega)
        clear c7
        (first | rw [c7b0] | (simp only [i64_w, i32_w]; rw [c7b0]) | skip)
        have H' := Aside0.mk H
        clear H
        go_wp2
        go_meet
        case rel => exact ⟨_, (decide ((a1.size : Int) > 300)), (by first | rfl | (simp; done) | (simp [*]; done)), H', ⟨by first | omega | exact Nat.le_refl _⟩, ⟨by repeat (first | (with_reducible first | exact HB.out | apply below_alloc | apply pw_below_drewN | apply below_drew1) | exact HB.out)⟩⟩
    case rest =>
      clear HC5
      try clear p2
      try clear c4
      try clear c7
      try clear c7b0
      try clear c7b1
      obtain ⟨kq, x22_4, rfl, HA, HJ4, HB⟩ := hcut
      cases kq with
      | zero => exact absurd HA.out (by simp [haversacklaw7_PathParts.j0])
      | succ kj4 =>
        have H := HA.out
        clear HA
        simp only [haversacklaw7_PathParts.j0] at H
        by_cases c8 : x22_4 = true
        · subst c8
          have H1 : (some true) = some r := by rw [if_pos rfl] at H; exact H
          clear H
          have H := H1
          clear H1
          obtain rfl := Option.some.inj H
          go_wp2
          go_ret
          exact ⟨by first | rfl | (simp [errW_none, errW_some] <;> rfl) | (simp [*, errW_none, errW_some] <;> rfl), by repeat (first | (with_reducible first | exact HB.out | apply below_alloc | apply pw_below_drewN | apply below_drew1) | exact HB.out)⟩
        · replace c8 := Bool.eq_false_iff.mpr c8
          subst c8
          have H1 : ((haversackref7_Clean.f kj4 a0).bind fun bt182 => ((haversackref7_Clean.f kj4 a1).bind fun bt184 => (if bt182.2 = 0 then (haversacklaw7_PathParts.j1 kj4 bt182.1 bt184.1 (bt184.2 != 0)) else (haversacklaw7_PathParts.j1 kj4 bt182.1 bt184.1 true)))) = some r := by rw [if_neg (show ¬ (false = true) by decide)] at H; exact H
          clear H
          have H := H1
          clear H1
          replace H := Option.bind_eq_some_iff.mp H
          obtain ⟨⟨t182, t183⟩, A90, H⟩ := H
          replace H : ((haversackref7_Clean.f kj4 a1).bind fun bt184 => (if t183 = 0 then (haversacklaw7_PathParts.j1 kj4 t182 bt184.1 (bt184.2 != 0)) else (haversacklaw7_PathParts.j1 kj4 t182 bt184.1 true))) = some r := H
          have A9 := Aside0.mk A90
          clear A90
          replace H := Option.bind_eq_some_iff.mp H
          obtain ⟨⟨t184, t185⟩, A100, H⟩ := H
          replace H : (if t183 = 0 then (haversacklaw7_PathParts.j1 kj4 t182 t184 (t185 != 0)) else (haversacklaw7_PathParts.j1 kj4 t182 t184 true)) = some r := H
          have A10 := Aside0.mk A100
          clear A100
          have HC11 := Aside0.mk H
          clear H
          go_upto_region 7 with (first | ((with_reducible refine gate_callee (f := 11) rfl ?_); refine goesL_ (some 25) rfl rfl Tryd.func11 (by kernel_rfl) rfl #[.string a0] rfl (by (try simp only [List.map_toArray, List.map_cons, List.map_nil]); first | done | rfl | (simp only [List.length_drop, List.length_take]; rfl)) ?_; (with_reducible refine (haversackref7_Clean.calls kj4 a0 t182 t183 _ A9.out).mono ?_); rintro e w12 ⟨rfl, hb⟩; refine ⟨_, rfl, ?_⟩; have n0_ := Aside0.mk (below_step (by repeat (first | (with_reducible first | exact HB.out | apply below_alloc | apply pw_below_drewN | apply below_drew1) | exact HB.out)) hb); clear HB; have HB := n0_; clear n0_; (try clear hb); (try clear hb2); (try clear hk); (try clear hi)) | ((with_reducible refine gate_callee (f := 11) rfl ?_); refine goesL_ (some 30) rfl rfl Tryd.func11 (by kernel_rfl) rfl #[.string a1] rfl (by (try simp only [List.map_toArray, List.map_cons, List.map_nil]); first | done | rfl | (simp only [List.length_drop, List.length_take]; rfl)) ?_; (with_reducible refine (haversackref7_Clean.calls kj4 a1 t184 t185 _ A10.out).mono ?_); rintro e w13 ⟨rfl, hb⟩; refine ⟨_, rfl, ?_⟩; have n0_ := Aside0.mk (below_step (by repeat (first | (with_reducible first | exact HB.out | apply below_alloc | apply pw_below_drewN | apply below_drew1) | exact HB.out)) hb); clear HB; have HB := n0_; clear n0_; (try clear hb); (try clear hb2); (try clear hk); (try clear hi)))
          (try simp only [Act.put, List.setIfInBounds_toArray, List.set_cons_zero, List.set_cons_succ])
          go_cut [38] (fun v38 wc => ∃ (kq : Nat) (x38_10 : Bool), v38 = .bool x38_10 ∧ Aside0 (haversacklaw7_PathParts.j1 kq t182 t184 x38_10 = some r) ∧ Aside0 (kq ≤ kj4) ∧ Aside0 (Below w.heap.size w wc))
          case first =>
            have H := HC11.out
            clear HC11
            by_cases c14 : t183 = 0
            · rw [if_pos c14] at H
              have c14b0 : (t183 == 0) = true := beq_iff_eq.mpr c14
              have c14b1 : (t183 != 0) = false := bne_eq_false_iff_eq.mpr c14
              clear c14
              (first | rw [c14b0] | (simp only [i64_w, i32_w]; rw [c14b0]) | skip)
              have H' := Aside0.mk H
              clear H
              go_wp2
              go_meet
              case rel => exact ⟨_, ((t185 != 0)), (by first | rfl | (simp; done) | (simp [*]; done)), H', ⟨by have := HJ4.out; first | omega | exact Nat.le_refl _⟩, ⟨by repeat (first | (with_reducible first | exact HB.out | apply below_alloc | apply pw_below_drewN | apply below_drew1) | exact HB.out)⟩⟩
            · rw [if_neg c14] at H
              have c14b0 : (t183 == 0) = false := beq_eq_false_iff_ne.mpr c14
              have c14b1 : (t183 != 0) = true := bne_iff_ne.mpr c14
              (first | rw [c14b0] | (simp only [i64_w, i32_w]; rw [c14b0]) | skip)
              have H' := Aside0.mk H
              clear H
              go_wp2
              go_meet
              case rel => exact ⟨_, (true), (by first | rfl | (simp; done) | (simp [*]; done)), H', ⟨by have := HJ4.out; first | omega | exact Nat.le_refl _⟩, ⟨by repeat (first | (with_reducible first | exact HB.out | apply below_alloc | apply pw_below_drewN | apply below_drew1) | exact HB.out)⟩⟩
          case rest =>
            clear HC11
            try clear c1
            try clear p2
            try clear c4
            try clear c7
            try clear c7b0
            try clear c7b1
            try clear c8
            try clear c9
            try clear c11
            try clear c14
            try clear c14b0
            try clear c14b1
            try clear p2
            obtain ⟨kq, x38_10, rfl, HA, HJ10, HB⟩ := hcut
            cases kq with
            | zero => exact absurd HA.out (by simp [haversacklaw7_PathParts.j1])
            | succ kj10 =>
              have H := HA.out
              clear HA
              simp only [haversacklaw7_PathParts.j1] at H
              by_cases c15 : x38_10 = true
              · subst c15
                have H1 : (some true) = some r := by rw [if_pos rfl] at H; exact H
                clear H
                have H := H1
                clear H1
                obtain rfl := Option.some.inj H
                go_wp2
                go_ret
                exact ⟨by first | rfl | (simp [errW_none, errW_some] <;> rfl) | (simp [*, errW_none, errW_some] <;> rfl), by repeat (first | (with_reducible first | exact HB.out | apply below_alloc | apply pw_below_drewN | apply below_drew1) | exact HB.out)⟩
              · replace c15 := Bool.eq_false_iff.mpr c15
                subst c15
                have H1 : ((path_Clean.f t182).bind fun bt186 => ((path_Parts.f t182).bind fun t188 => (if bt186.1.toList = t182.toList then (if bt186.2 = 0 then ((haversackref7_Parts.f kj10 t182).bind fun t191 => ((haversackhelp_Strings.f kj10 t188 t191).bind fun t194 => (if t194 = true then ((path_Parent.f kj10 t182).bind fun t195 => ((haversackref7_Parent.f kj10 t182).bind fun t196 => (if t195.toList = t196.toList then ((path_Base.f kj10 t182).bind fun t197 => ((haversackref7_Base.f kj10 t182).bind fun t198 => (haversacklaw7_PathParts.j2 kj10 t182 t184 (t197.toList != t198.toList)))) else (haversacklaw7_PathParts.j2 kj10 t182 t184 true)))) else (haversacklaw7_PathParts.j2 kj10 t182 t184 true)))) else (haversacklaw7_PathParts.j2 kj10 t182 t184 true)) else (haversacklaw7_PathParts.j2 kj10 t182 t184 true)))) = some r := by rw [if_neg (show ¬ (false = true) by decide)] at H; exact H
                clear H
                have H := H1
                clear H1
                replace H := Option.bind_eq_some_iff.mp H
                obtain ⟨⟨t186, t187⟩, A160, H⟩ := H
                replace H : ((path_Parts.f t182).bind fun t188 => (if t186.toList = t182.toList then (if t187 = 0 then ((haversackref7_Parts.f kj10 t182).bind fun t191 => ((haversackhelp_Strings.f kj10 t188 t191).bind fun t194 => (if t194 = true then ((path_Parent.f kj10 t182).bind fun t195 => ((haversackref7_Parent.f kj10 t182).bind fun t196 => (if t195.toList = t196.toList then ((path_Base.f kj10 t182).bind fun t197 => ((haversackref7_Base.f kj10 t182).bind fun t198 => (haversacklaw7_PathParts.j2 kj10 t182 t184 (t197.toList != t198.toList)))) else (haversacklaw7_PathParts.j2 kj10 t182 t184 true)))) else (haversacklaw7_PathParts.j2 kj10 t182 t184 true)))) else (haversacklaw7_PathParts.j2 kj10 t182 t184 true)) else (haversacklaw7_PathParts.j2 kj10 t182 t184 true))) = some r := H
                have A16 := Aside0.mk A160
                clear A160
                replace H := Option.bind_eq_some_iff.mp H
                obtain ⟨t188, A170, H⟩ := H
                replace H : (if t186.toList = t182.toList then (if t187 = 0 then ((haversackref7_Parts.f kj10 t182).bind fun t191 => ((haversackhelp_Strings.f kj10 t188 t191).bind fun t194 => (if t194 = true then ((path_Parent.f kj10 t182).bind fun t195 => ((haversackref7_Parent.f kj10 t182).bind fun t196 => (if t195.toList = t196.toList then ((path_Base.f kj10 t182).bind fun t197 => ((haversackref7_Base.f kj10 t182).bind fun t198 => (haversacklaw7_PathParts.j2 kj10 t182 t184 (t197.toList != t198.toList)))) else (haversacklaw7_PathParts.j2 kj10 t182 t184 true)))) else (haversacklaw7_PathParts.j2 kj10 t182 t184 true)))) else (haversacklaw7_PathParts.j2 kj10 t182 t184 true)) else (haversacklaw7_PathParts.j2 kj10 t182 t184 true)) = some r := H
                have A17 := Aside0.mk A170
                clear A170
                have HC18 := Aside0.mk H
                clear H
                go_upto_region 11 with (first | ((with_reducible refine gate_callee (f := 10) rfl ?_); refine goesL_ (some 41) rfl rfl Tryd.func10 (by kernel_rfl) rfl #[.string t182] rfl (by (try simp only [List.map_toArray, List.map_cons, List.map_nil]); first | done | rfl | (simp only [List.length_drop, List.length_take]; rfl)) ?_; (with_reducible refine (path_Clean.calls t182 t186 t187 _ A16.out).mono ?_); rintro e w19 ⟨rfl, hb⟩; refine ⟨_, rfl, ?_⟩; have n0_ := Aside0.mk (below_step (by repeat (first | (with_reducible first | exact HB.out | apply below_alloc | apply pw_below_drewN | apply below_drew1) | exact HB.out)) hb); clear HB; have HB := n0_; clear n0_; (try clear hb); (try clear hb2); (try clear hk); (try clear hi)) | ((with_reducible refine gate_callee (f := 12) rfl ?_); refine goesL_ (some 45) rfl rfl Tryd.func12 (by kernel_rfl) rfl #[.string t182] rfl (by (try simp only [List.map_toArray, List.map_cons, List.map_nil]); first | done | rfl | (simp only [List.length_drop, List.length_take]; rfl)) ?_; (with_reducible refine (path_Parts.calls t182 t188 _ A17.out).mono ?_); rintro e w20 ⟨v189, rfl, ho0, hb⟩; refine ⟨_, rfl, ?_⟩; have n0_ := Aside0.mk (Kd.R_lower ho0 (below_size (by repeat (first | (with_reducible first | exact HB.out | apply below_alloc | apply pw_below_drewN | apply below_drew1) | exact HB.out)))); have n1_ := Aside0.mk (below_step (by repeat (first | (with_reducible first | exact HB.out | apply below_alloc | apply pw_below_drewN | apply below_drew1) | exact HB.out)) hb); clear HB; have HO190 := n0_; have HB := n1_; clear n0_ n1_; (try clear hb); (try clear hb2); (try clear hk); (try clear hi); (try clear ho0)))
                (try simp only [Act.put, List.setIfInBounds_toArray, List.set_cons_zero, List.set_cons_succ])
                go_cut [73] (fun v73 wc => ∃ (kq : Nat) (x73_17 : Bool), v73 = .bool x73_17 ∧ Aside0 (haversacklaw7_PathParts.j2 kq t182 t184 x73_17 = some r) ∧ Aside0 (kq ≤ kj10) ∧ Aside0 (Below w.heap.size w wc))
                case first =>
                  have H := HC18.out
                  clear HC18
                  by_cases c21 : t186.toList = t182.toList
                  · rw [if_pos c21] at H
                    have c21b0 : (t186.toList == t182.toList) = true := beq_iff_eq.mpr c21
                    have c21b1 : (t186.toList != t182.toList) = false := bne_eq_false_iff_eq.mpr c21
                    clear c21
                    (first | rw [c21b0] | (simp only [i64_w, i32_w]; rw [c21b0]) | skip)
                    by_cases c22 : t187 = 0
                    · rw [if_pos c22] at H
                      have c22b0 : (t187 == 0) = true := beq_iff_eq.mpr c22
                      have c22b1 : (t187 != 0) = false := bne_eq_false_iff_eq.mpr c22
                      clear c22
                      replace H := Option.bind_eq_some_iff.mp H
                      obtain ⟨t191, A230, H⟩ := H
                      replace H : ((haversackhelp_Strings.f kj10 t188 t191).bind fun t194 => (if t194 = true then ((path_Parent.f kj10 t182).bind fun t195 => ((haversackref7_Parent.f kj10 t182).bind fun t196 => (if t195.toList = t196.toList then ((path_Base.f kj10 t182).bind fun t197 => ((haversackref7_Base.f kj10 t182).bind fun t198 => (haversacklaw7_PathParts.j2 kj10 t182 t184 (t197.toList != t198.toList)))) else (haversacklaw7_PathParts.j2 kj10 t182 t184 true)))) else (haversacklaw7_PathParts.j2 kj10 t182 t184 true))) = some r := H
                      have A23 := Aside0.mk A230
                      clear A230
                      replace H := Option.bind_eq_some_iff.mp H
                      obtain ⟨t194, A240, H⟩ := H
                      replace H : (if t194 = true then ((path_Parent.f kj10 t182).bind fun t195 => ((haversackref7_Parent.f kj10 t182).bind fun t196 => (if t195.toList = t196.toList then ((path_Base.f kj10 t182).bind fun t197 => ((haversackref7_Base.f kj10 t182).bind fun t198 => (haversacklaw7_PathParts.j2 kj10 t182 t184 (t197.toList != t198.toList)))) else (haversacklaw7_PathParts.j2 kj10 t182 t184 true)))) else (haversacklaw7_PathParts.j2 kj10 t182 t184 true)) = some r := H
                      have A24 := Aside0.mk A240
                      clear A240
                      by_cases c25 : t194 = true
                      · subst c25
                        have H1 : ((path_Parent.f kj10 t182).bind fun t195 => ((haversackref7_Parent.f kj10 t182).bind fun t196 => (if t195.toList = t196.toList then ((path_Base.f kj10 t182).bind fun t197 => ((haversackref7_Base.f kj10 t182).bind fun t198 => (haversacklaw7_PathParts.j2 kj10 t182 t184 (t197.toList != t198.toList)))) else (haversacklaw7_PathParts.j2 kj10 t182 t184 true)))) = some r := by rw [if_pos rfl] at H; exact H
                        clear H
                        have H := H1
                        clear H1
                        replace H := Option.bind_eq_some_iff.mp H
                        obtain ⟨t195, A260, H⟩ := H
                        replace H : ((haversackref7_Parent.f kj10 t182).bind fun t196 => (if t195.toList = t196.toList then ((path_Base.f kj10 t182).bind fun t197 => ((haversackref7_Base.f kj10 t182).bind fun t198 => (haversacklaw7_PathParts.j2 kj10 t182 t184 (t197.toList != t198.toList)))) else (haversacklaw7_PathParts.j2 kj10 t182 t184 true))) = some r := H
                        have A26 := Aside0.mk A260
                        clear A260
                        replace H := Option.bind_eq_some_iff.mp H
                        obtain ⟨t196, A270, H⟩ := H
                        replace H : (if t195.toList = t196.toList then ((path_Base.f kj10 t182).bind fun t197 => ((haversackref7_Base.f kj10 t182).bind fun t198 => (haversacklaw7_PathParts.j2 kj10 t182 t184 (t197.toList != t198.toList)))) else (haversacklaw7_PathParts.j2 kj10 t182 t184 true)) = some r := H
                        have A27 := Aside0.mk A270
                        clear A270
                        by_cases c28 : t195.toList = t196.toList
                        · rw [if_pos c28] at H
                          have c28b0 : (t195.toList == t196.toList) = true := beq_iff_eq.mpr c28
                          have c28b1 : (t195.toList != t196.toList) = false := bne_eq_false_iff_eq.mpr c28
                          clear c28
                          replace H := Option.bind_eq_some_iff.mp H
                          obtain ⟨t197, A290, H⟩ := H
                          replace H : ((haversackref7_Base.f kj10 t182).bind fun t198 => (haversacklaw7_PathParts.j2 kj10 t182 t184 (t197.toList != t198.toList))) = some r := H
                          have A29 := Aside0.mk A290
                          clear A290
                          replace H := Option.bind_eq_some_iff.mp H
                          obtain ⟨t198, A300, H⟩ := H
                          replace H : (haversacklaw7_PathParts.j2 kj10 t182 t184 (t197.toList != t198.toList)) = some r := H
                          have A30 := Aside0.mk A300
                          clear A300
                          have H' := Aside0.mk H
                          clear H
                          go_wp2_with (first | (go_at_call 14; (with_reducible refine (haversackref7_Parts.calls kj10 t182 t191 _ A23.out).mono ?_); rintro e w31 ⟨v192, rfl, ho0, hb⟩; have n0_ := Aside0.mk (Kd.R_elder' (by (with_reducible repeat (first | apply Kd.R_alloc | apply Kd.R_drewN | apply Kd.R_drew)); exact HO190.out) (Kd.R_base ho0) hb); have n1_ := Aside0.mk (Kd.R_lower (Kd.R_new' ho0 (Kd.R_lt (by (with_reducible repeat (first | apply Kd.R_alloc | apply Kd.R_drewN | apply Kd.R_drew)); exact HO190.out))) (below_size (by repeat (first | (with_reducible first | exact HB.out | apply below_alloc | apply pw_below_drewN | apply below_drew1) | exact HB.out)))); have n2_ := Aside0.mk (below_step (by repeat (first | (with_reducible first | exact HB.out | apply below_alloc | apply pw_below_drewN | apply below_drew1) | exact HB.out)) hb); clear HO190; clear HB; have HO190 := n0_; have HO193 := n1_; have HB := n2_; clear n0_ n1_ n2_; (try clear hb); (try clear hb2); (try clear hk); (try clear hi); (try clear ho0); obtain ⟨Ao32, co32, eo32⟩ := Kd.R_slice HO190.out; subst eo32; obtain ⟨Ao33, co33, eo33⟩ := Kd.R_slice HO193.out; subst eo33) | (go_at_call 13; (with_reducible refine (haversackhelp_Strings.calls kj10 _ _ t188 _ _ t191 true _ ?side1 ?side2 ?side3 ?side4 A24.out).mono ?_); (case side1 => repeat (first | exact (Kd.R_reads' HO190.out).2.2 | (with_reducible refine Kd.C_alloc ?_ _) | (with_reducible refine Kd.C_drewN ?_ _) | (with_reducible refine Kd.C_drew ?_))); (case side2 => exact (Kd.R_reads' HO190.out).2.1); (case side3 => repeat (first | exact (Kd.R_reads' HO193.out).2.2 | (with_reducible refine Kd.C_alloc ?_ _) | (with_reducible refine Kd.C_drewN ?_ _) | (with_reducible refine Kd.C_drew ?_))); (case side4 => exact (Kd.R_reads' HO193.out).2.1); rintro e w' ⟨rfl, ⟨nd, rfl⟩⟩) | (go_at_call 15; (with_reducible refine (path_Parent.calls kj10 t182 t195 _ A26.out).mono ?_); rintro e w34 ⟨rfl, hb⟩; have n0_ := Aside0.mk (Kd.R_below (by (with_reducible repeat (first | apply Kd.R_alloc | apply Kd.R_drewN | apply Kd.R_drew)); exact HO190.out) hb); have n1_ := Aside0.mk (Kd.R_below (by (with_reducible repeat (first | apply Kd.R_alloc | apply Kd.R_drewN | apply Kd.R_drew)); exact HO193.out) hb); have n2_ := Aside0.mk (below_step (by repeat (first | (with_reducible first | exact HB.out | apply below_alloc | apply pw_below_drewN | apply below_drew1) | exact HB.out)) hb); clear HO190; clear HO193; clear HB; have HO190 := n0_; have HO193 := n1_; have HB := n2_; clear n0_ n1_ n2_; (try clear hb); (try clear hb2); (try clear hk); (try clear hi)) | (go_at_call 16; (with_reducible refine (haversackref7_Parent.calls kj10 t182 t196 _ A27.out).mono ?_); rintro e w35 ⟨rfl, hb⟩; have n0_ := Aside0.mk (Kd.R_below (by (with_reducible repeat (first | apply Kd.R_alloc | apply Kd.R_drewN | apply Kd.R_drew)); exact HO190.out) hb); have n1_ := Aside0.mk (Kd.R_below (by (with_reducible repeat (first | apply Kd.R_alloc | apply Kd.R_drewN | apply Kd.R_drew)); exact HO193.out) hb); have n2_ := Aside0.mk (below_step (by repeat (first | (with_reducible first | exact HB.out | apply below_alloc | apply pw_below_drewN | apply below_drew1) | exact HB.out)) hb); clear HO190; clear HO193; clear HB; have HO190 := n0_; have HO193 := n1_; have HB := n2_; clear n0_ n1_ n2_; (try clear hb); (try clear hb2); (try clear hk); (try clear hi)) | (go_at_call 17; (with_reducible refine (path_Base.calls kj10 t182 t197 _ A29.out).mono ?_); rintro e w' ⟨rfl, ⟨nd, rfl⟩⟩) | (go_at_call 18; (with_reducible refine (haversackref7_Base.calls kj10 t182 t198 _ A30.out).mono ?_); rintro e w36 ⟨rfl, hb⟩; have n0_ := Aside0.mk (Kd.R_below (by (with_reducible repeat (first | apply Kd.R_alloc | apply Kd.R_drewN | apply Kd.R_drew)); exact HO190.out) hb); have n1_ := Aside0.mk (Kd.R_below (by (with_reducible repeat (first | apply Kd.R_alloc | apply Kd.R_drewN | apply Kd.R_drew)); exact HO193.out) hb); have n2_ := Aside0.mk (below_step (by repeat (first | (with_reducible first | exact HB.out | apply below_alloc | apply pw_below_drewN | apply below_drew1) | exact HB.out)) hb); clear HO190; clear HO193; clear HB; have HO190 := n0_; have HO193 := n1_; have HB := n2_; clear n0_ n1_ n2_; (try clear hb); (try clear hb2); (try clear hk); (try clear hi)))
                          go_meet
                          case rel => exact ⟨_, ((t197.toList != t198.toList)), (by first | rfl | (simp; done) | (simp [*]; done)), H', ⟨by have := HJ4.out; have := HJ10.out; first | omega | exact Nat.le_refl _⟩, ⟨by repeat (first | (with_reducible first | exact HB.out | apply below_alloc | apply pw_below_drewN | apply below_drew1) | exact HB.out)⟩⟩
                        · rw [if_neg c28] at H
                          have c28b0 : (t195.toList == t196.toList) = false := beq_eq_false_iff_ne.mpr c28
                          have c28b1 : (t195.toList != t196.toList) = true := bne_iff_ne.mpr c28
                          have H' := Aside0.mk H
                          clear H
                          go_wp2_with (first | (go_at_call 14; (with_reducible refine (haversackref7_Parts.calls kj10 t182 t191 _ A23.out).mono ?_); rintro e w37 ⟨v192, rfl, ho0, hb⟩; have n0_ := Aside0.mk (Kd.R_elder' (by (with_reducible repeat (first | apply Kd.R_alloc | apply Kd.R_drewN | apply Kd.R_drew)); exact HO190.out) (Kd.R_base ho0) hb); have n1_ := Aside0.mk (Kd.R_lower (Kd.R_new' ho0 (Kd.R_lt (by (with_reducible repeat (first | apply Kd.R_alloc | apply Kd.R_drewN | apply Kd.R_drew)); exact HO190.out))) (below_size (by repeat (first | (with_reducible first | exact HB.out | apply below_alloc | apply pw_below_drewN | apply below_drew1) | exact HB.out)))); have n2_ := Aside0.mk (below_step (by repeat (first | (with_reducible first | exact HB.out | apply below_alloc | apply pw_below_drewN | apply below_drew1) | exact HB.out)) hb); clear HO190; clear HB; have HO190 := n0_; have HO193 := n1_; have HB := n2_; clear n0_ n1_ n2_; (try clear hb); (try clear hb2); (try clear hk); (try clear hi); (try clear ho0); obtain ⟨Ao38, co38, eo38⟩ := Kd.R_slice HO190.out; subst eo38; obtain ⟨Ao39, co39, eo39⟩ := Kd.R_slice HO193.out; subst eo39) | (go_at_call 13; (with_reducible refine (haversackhelp_Strings.calls kj10 _ _ t188 _ _ t191 true _ ?side1 ?side2 ?side3 ?side4 A24.out).mono ?_); (case side1 => repeat (first | exact (Kd.R_reads' HO190.out).2.2 | (with_reducible refine Kd.C_alloc ?_ _) | (with_reducible refine Kd.C_drewN ?_ _) | (with_reducible refine Kd.C_drew ?_))); (case side2 => exact (Kd.R_reads' HO190.out).2.1); (case side3 => repeat (first | exact (Kd.R_reads' HO193.out).2.2 | (with_reducible refine Kd.C_alloc ?_ _) | (with_reducible refine Kd.C_drewN ?_ _) | (with_reducible refine Kd.C_drew ?_))); (case side4 => exact (Kd.R_reads' HO193.out).2.1); rintro e w' ⟨rfl, ⟨nd, rfl⟩⟩) | (go_at_call 15; (with_reducible refine (path_Parent.calls kj10 t182 t195 _ A26.out).mono ?_); rintro e w40 ⟨rfl, hb⟩; have n0_ := Aside0.mk (Kd.R_below (by (with_reducible repeat (first | apply Kd.R_alloc | apply Kd.R_drewN | apply Kd.R_drew)); exact HO190.out) hb); have n1_ := Aside0.mk (Kd.R_below (by (with_reducible repeat (first | apply Kd.R_alloc | apply Kd.R_drewN | apply Kd.R_drew)); exact HO193.out) hb); have n2_ := Aside0.mk (below_step (by repeat (first | (with_reducible first | exact HB.out | apply below_alloc | apply pw_below_drewN | apply below_drew1) | exact HB.out)) hb); clear HO190; clear HO193; clear HB; have HO190 := n0_; have HO193 := n1_; have HB := n2_; clear n0_ n1_ n2_; (try clear hb); (try clear hb2); (try clear hk); (try clear hi)) | (go_at_call 16; (with_reducible refine (haversackref7_Parent.calls kj10 t182 t196 _ A27.out).mono ?_); rintro e w41 ⟨rfl, hb⟩; have n0_ := Aside0.mk (Kd.R_below (by (with_reducible repeat (first | apply Kd.R_alloc | apply Kd.R_drewN | apply Kd.R_drew)); exact HO190.out) hb); have n1_ := Aside0.mk (Kd.R_below (by (with_reducible repeat (first | apply Kd.R_alloc | apply Kd.R_drewN | apply Kd.R_drew)); exact HO193.out) hb); have n2_ := Aside0.mk (below_step (by repeat (first | (with_reducible first | exact HB.out | apply below_alloc | apply pw_below_drewN | apply below_drew1) | exact HB.out)) hb); clear HO190; clear HO193; clear HB; have HO190 := n0_; have HO193 := n1_; have HB := n2_; clear n0_ n1_ n2_; (try clear hb); (try clear hb2); (try clear hk); (try clear hi)))
                          go_meet
                          case rel => exact ⟨_, (true), (by first | rfl | (simp; done) | (simp [*]; done)), H', ⟨by have := HJ4.out; have := HJ10.out; first | omega | exact Nat.le_refl _⟩, ⟨by repeat (first | (with_reducible first | exact HB.out | apply below_alloc | apply pw_below_drewN | apply below_drew1) | exact HB.out)⟩⟩
                      · replace c25 := Bool.eq_false_iff.mpr c25
                        subst c25
                        have H1 : (haversacklaw7_PathParts.j2 kj10 t182 t184 true) = some r := by rw [if_neg (show ¬ (false = true) by decide)] at H; exact H
                        clear H
                        have H := H1
                        clear H1
                        have H' := Aside0.mk H
                        clear H
                        go_wp2_with (first | (go_at_call 14; (with_reducible refine (haversackref7_Parts.calls kj10 t182 t191 _ A23.out).mono ?_); rintro e w42 ⟨v192, rfl, ho0, hb⟩; have n0_ := Aside0.mk (Kd.R_elder' (by (with_reducible repeat (first | apply Kd.R_alloc | apply Kd.R_drewN | apply Kd.R_drew)); exact HO190.out) (Kd.R_base ho0) hb); have n1_ := Aside0.mk (Kd.R_lower (Kd.R_new' ho0 (Kd.R_lt (by (with_reducible repeat (first | apply Kd.R_alloc | apply Kd.R_drewN | apply Kd.R_drew)); exact HO190.out))) (below_size (by repeat (first | (with_reducible first | exact HB.out | apply below_alloc | apply pw_below_drewN | apply below_drew1) | exact HB.out)))); have n2_ := Aside0.mk (below_step (by repeat (first | (with_reducible first | exact HB.out | apply below_alloc | apply pw_below_drewN | apply below_drew1) | exact HB.out)) hb); clear HO190; clear HB; have HO190 := n0_; have HO193 := n1_; have HB := n2_; clear n0_ n1_ n2_; (try clear hb); (try clear hb2); (try clear hk); (try clear hi); (try clear ho0); obtain ⟨Ao43, co43, eo43⟩ := Kd.R_slice HO190.out; subst eo43; obtain ⟨Ao44, co44, eo44⟩ := Kd.R_slice HO193.out; subst eo44) | (go_at_call 13; (with_reducible refine (haversackhelp_Strings.calls kj10 _ _ t188 _ _ t191 false _ ?side1 ?side2 ?side3 ?side4 A24.out).mono ?_); (case side1 => repeat (first | exact (Kd.R_reads' HO190.out).2.2 | (with_reducible refine Kd.C_alloc ?_ _) | (with_reducible refine Kd.C_drewN ?_ _) | (with_reducible refine Kd.C_drew ?_))); (case side2 => exact (Kd.R_reads' HO190.out).2.1); (case side3 => repeat (first | exact (Kd.R_reads' HO193.out).2.2 | (with_reducible refine Kd.C_alloc ?_ _) | (with_reducible refine Kd.C_drewN ?_ _) | (with_reducible refine Kd.C_drew ?_))); (case side4 => exact (Kd.R_reads' HO193.out).2.1); rintro e w' ⟨rfl, ⟨nd, rfl⟩⟩))
                        go_meet
                        case rel => exact ⟨_, (true), (by first | rfl | (simp; done) | (simp [*]; done)), H', ⟨by have := HJ4.out; have := HJ10.out; first | omega | exact Nat.le_refl _⟩, ⟨by repeat (first | (with_reducible first | exact HB.out | apply below_alloc | apply pw_below_drewN | apply below_drew1) | exact HB.out)⟩⟩
                    · rw [if_neg c22] at H
                      have c22b0 : (t187 == 0) = false := beq_eq_false_iff_ne.mpr c22
                      have c22b1 : (t187 != 0) = true := bne_iff_ne.mpr c22
                      have H' := Aside0.mk H
                      clear H
                      go_wp2
                      go_meet
                      case rel => exact ⟨_, (true), (by first | rfl | (simp; done) | (simp [*]; done)), H', ⟨by have := HJ4.out; have := HJ10.out; first | omega | exact Nat.le_refl _⟩, ⟨by repeat (first | (with_reducible first | exact HB.out | apply below_alloc | apply pw_below_drewN | apply below_drew1) | exact HB.out)⟩⟩
                  · rw [if_neg c21] at H
                    have c21b0 : (t186.toList == t182.toList) = false := beq_eq_false_iff_ne.mpr c21
                    have c21b1 : (t186.toList != t182.toList) = true := bne_iff_ne.mpr c21
                    (first | rw [c21b0] | (simp only [i64_w, i32_w]; rw [c21b0]) | skip)
                    have H' := Aside0.mk H
                    clear H
                    go_wp2
                    go_meet
                    case rel => exact ⟨_, (true), (by first | rfl | (simp; done) | (simp [*]; done)), H', ⟨by have := HJ4.out; have := HJ10.out; first | omega | exact Nat.le_refl _⟩, ⟨by repeat (first | (with_reducible first | exact HB.out | apply below_alloc | apply pw_below_drewN | apply below_drew1) | exact HB.out)⟩⟩
                case rest =>
                  clear HC18
                  try clear c1
                  try clear c2
                  try clear p2
                  try clear c4
                  try clear c7
                  try clear c7b0
                  try clear c7b1
                  try clear c8
                  try clear c9
                  try clear c10
                  try clear c11
                  try clear c12
                  try clear c14
                  try clear c14b0
                  try clear c14b1
                  try clear c15
                  try clear c21
                  try clear c21b0
                  try clear c21b1
                  try clear c22
                  try clear c22b0
                  try clear c22b1
                  try clear c25
                  try clear c28
                  try clear c28b0
                  try clear c28b1
                  try clear p2
                  obtain ⟨kq, x73_17, rfl, HA, HJ17, HB⟩ := hcut
                  cases kq with
                  | zero => exact absurd HA.out (by simp [haversacklaw7_PathParts.j2])
                  | succ kj17 =>
                    have H := HA.out
                    clear HA
                    simp only [haversacklaw7_PathParts.j2] at H
                    by_cases c45 : x73_17 = true
                    · subst c45
                      have H1 : (some false) = some r := by rw [if_pos rfl] at H; exact H
                      clear H
                      have H := H1
                      clear H1
                      obtain rfl := Option.some.inj H
                      go_wp2
                      go_ret
                      exact ⟨by first | rfl | (simp [errW_none, errW_some] <;> rfl) | (simp [*, errW_none, errW_some] <;> rfl), by repeat (first | (with_reducible first | exact HB.out | apply below_alloc | apply pw_below_drewN | apply below_drew1) | exact HB.out)⟩
                    · replace c45 := Bool.eq_false_iff.mpr c45
                      subst c45
                      have H1 : ((path_Parent.f kj17 t182).bind fun t199 => (if t199.toList = ([] : List UInt8) then (haversacklaw7_PathParts.j3 kj17 t182 t184 t199) else (if t199.size + 1 ≤ 9223372036854775807 then (haversacklaw7_PathParts.j3 kj17 t182 t184 (t199 ++ (⟨#[47]⟩ : ByteArray))) else (none)))) = some r := by rw [if_neg (show ¬ (false = true) by decide)] at H; exact H
                      clear H
                      have H := H1
                      clear H1
                      replace H := Option.bind_eq_some_iff.mp H
                      obtain ⟨t199, A460, H⟩ := H
                      replace H : (if t199.toList = ([] : List UInt8) then (haversacklaw7_PathParts.j3 kj17 t182 t184 t199) else (if t199.size + 1 ≤ 9223372036854775807 then (haversacklaw7_PathParts.j3 kj17 t182 t184 (t199 ++ (⟨#[47]⟩ : ByteArray))) else (none))) = some r := H
                      have A46 := Aside0.mk A460
                      clear A460
                      have HC47 := Aside0.mk H
                      clear H
                      go_upto_if 77 with (first | ((with_reducible refine gate_callee (f := 15) rfl ?_); refine goesL_ (some 75) rfl rfl Tryd.func15 (by kernel_rfl) rfl #[.string t182] rfl (by (try simp only [List.map_toArray, List.map_cons, List.map_nil]); first | done | rfl | (simp only [List.length_drop, List.length_take]; rfl)) ?_; (with_reducible refine (path_Parent.calls kj17 t182 t199 _ A46.out).mono ?_); rintro e w48 ⟨rfl, hb⟩; refine ⟨_, rfl, ?_⟩; have n0_ := Aside0.mk (below_step (by repeat (first | (with_reducible first | exact HB.out | apply below_alloc | apply pw_below_drewN | apply below_drew1) | exact HB.out)) hb); clear HB; have HB := n0_; clear n0_; (try clear hb); (try clear hb2); (try clear hk); (try clear hi)))
                      (try simp only [Act.put, List.setIfInBounds_toArray, List.set_cons_zero, List.set_cons_succ])
                      go_cut [12] (fun v12 wc => ∃ (kq : Nat) (x12_46 : ByteArray), v12 = .string x12_46 ∧ Aside0 (haversacklaw7_PathParts.j3 kq t182 t184 x12_46 = some r) ∧ Aside0 (kq ≤ kj17) ∧ Aside0 (Below w.heap.size w wc))
                      case first =>
                        have H := HC47.out
                        clear HC47
                        by_cases c49 : t199.toList = ([] : List UInt8)
                        · rw [if_pos c49] at H
                          have c49b0 : (t199.toList == ([] : List UInt8)) = true := beq_iff_eq.mpr c49
                          have c49e : t199.toList.isEmpty = true := emp_true c49b0
                          have c49b1 : (t199.toList != ([] : List UInt8)) = false := bne_eq_false_iff_eq.mpr c49
                          clear c49
                          (first | rw [c49b0] | (simp only [i64_w, i32_w]; rw [c49b0]) | skip)
                          (try simp only [c49e, Bool.not_true, Bool.not_false])
                          have H' := Aside0.mk H
                          clear H
                          go_wp2
                          go_meet
                          case rel => exact ⟨_, (t199), (by first | rfl | (simp; done) | (simp [*]; done)), H', ⟨by have := HJ4.out; have := HJ10.out; have := HJ17.out; first | omega | exact Nat.le_refl _⟩, ⟨by repeat (first | (with_reducible first | exact HB.out | apply below_alloc | apply pw_below_drewN | apply below_drew1) | exact HB.out)⟩⟩
                        · rw [if_neg c49] at H
                          have c49b0 : (t199.toList == ([] : List UInt8)) = false := beq_eq_false_iff_ne.mpr c49
                          have c49e : t199.toList.isEmpty = false := emp_false c49b0
                          have c49b1 : (t199.toList != ([] : List UInt8)) = true := bne_iff_ne.mpr c49
                          (first | rw [c49b0] | (simp only [i64_w, i32_w]; rw [c49b0]) | skip)
                          (try simp only [c49e, Bool.not_true, Bool.not_false])
                          by_cases c50 : t199.size + 1 ≤ 9223372036854775807
                          · rw [if_pos c50] at H
                            have c50b0 := eq_true c50
                            have c50b1 : decide (t199.size + 1 ≤ 9223372036854775807) = true := decide_eq_true c50
                            try have c50b2 : (9223372036854775807 < t199.size + 1) = False := eq_false (Nat.not_lt.2 c50)
                            have H' := Aside0.mk H
                            clear H
                            go_wp2
                            go_meet
                            case rel => exact ⟨_, (t199 ++ (⟨#[47]⟩ : ByteArray)), (by first | rfl | (simp; done) | (simp [*]; done)), H', ⟨by have := HJ4.out; have := HJ10.out; have := HJ17.out; first | omega | exact Nat.le_refl _⟩, ⟨by repeat (first | (with_reducible first | exact HB.out | apply below_alloc | apply pw_below_drewN | apply below_drew1) | exact HB.out)⟩⟩
                          · rw [if_neg c50] at H
                            exact absurd H (by simp)
                      case rest =>
                        clear HC47
                        try clear c1
                        try clear c2
                        try clear p2
                        try clear c4
                        try clear c5
                        try clear c7
                        try clear c7b0
                        try clear c7b1
                        try clear c8
                        try clear c9
                        try clear c10
                        try clear c11
                        try clear c12
                        try clear c14
                        try clear c14b0
                        try clear c14b1
                        try clear c15
                        try clear c21
                        try clear c21b0
                        try clear c21b1
                        try clear c22
                        try clear c22b0
                        try clear c22b1
                        try clear c25
                        try clear c28
                        try clear c28b0
                        try clear c28b1
                        try clear c45
                        try clear c49
                        try clear c49b0
                        try clear c49b1
                        try clear c50
                        try clear c50b0
                        try clear c50b1
                        try clear c50b2
                        try clear p2
                        obtain ⟨kq, x12_46, rfl, HA, HJ46, HB⟩ := hcut
                        cases kq with
                        | zero => exact absurd HA.out (by simp [haversacklaw7_PathParts.j3])
                        | succ kj46 =>
                          have H := HA.out
                          clear HA
                          simp only [haversacklaw7_PathParts.j3] at H
                          replace H := Option.bind_eq_some_iff.mp H
                          obtain ⟨t200, A510, H⟩ := H
                          replace H : (if x12_46.size + t200.size ≤ 9223372036854775807 then (if (x12_46 ++ t200).toList = t182.toList then ((path_Within.f t182 t184).bind fun t201 => ((haversackref7_Within.f t182 t184).bind fun t202 => (if (t201 == t202) = true then ((path_Parent.f kj46 t182).bind fun t203 => ((path_Within.f t182 t203).bind fun t204 => (if t204 = true then ((path_Within.f t182 (⟨#[]⟩ : ByteArray)).bind fun t205 => (some t205)) else (some false)))) else (some false)))) else (some false)) else (none)) = some r := H
                          have A51 := Aside0.mk A510
                          clear A510
                          by_cases c52 : x12_46.size + t200.size ≤ 9223372036854775807
                          · rw [if_pos c52] at H
                            have c52b0 := eq_true c52
                            have c52b1 : decide (x12_46.size + t200.size ≤ 9223372036854775807) = true := decide_eq_true c52
                            try have c52b2 : (9223372036854775807 < x12_46.size + t200.size) = False := eq_false (Nat.not_lt.2 c52)
                            by_cases c53 : (x12_46 ++ t200).toList = t182.toList
                            · rw [if_pos c53] at H
                              have c53b0 : ((x12_46 ++ t200).toList == t182.toList) = true := beq_iff_eq.mpr c53
                              have c53b1 : ((x12_46 ++ t200).toList != t182.toList) = false := bne_eq_false_iff_eq.mpr c53
                              clear c53
                              replace H := Option.bind_eq_some_iff.mp H
                              obtain ⟨t201, A540, H⟩ := H
                              replace H : ((haversackref7_Within.f t182 t184).bind fun t202 => (if (t201 == t202) = true then ((path_Parent.f kj46 t182).bind fun t203 => ((path_Within.f t182 t203).bind fun t204 => (if t204 = true then ((path_Within.f t182 (⟨#[]⟩ : ByteArray)).bind fun t205 => (some t205)) else (some false)))) else (some false))) = some r := H
                              have A54 := Aside0.mk A540
                              clear A540
                              replace H := Option.bind_eq_some_iff.mp H
                              obtain ⟨t202, A550, H⟩ := H
                              replace H : (if (t201 == t202) = true then ((path_Parent.f kj46 t182).bind fun t203 => ((path_Within.f t182 t203).bind fun t204 => (if t204 = true then ((path_Within.f t182 (⟨#[]⟩ : ByteArray)).bind fun t205 => (some t205)) else (some false)))) else (some false)) = some r := H
                              have A55 := Aside0.mk A550
                              clear A550
                              by_cases c56 : (t201 == t202) = true
                              · rw [if_pos c56] at H
                                have c56b0 : (t201 == t202) = true := c56
                                (try (have c56b1 : decide (t201 = t202) = true := by simpa using c56))
                                (try (have c56b2 : (t201 == t202) = true := by simpa using c56))
                                clear c56
                                replace H := Option.bind_eq_some_iff.mp H
                                obtain ⟨t203, A570, H⟩ := H
                                replace H : ((path_Within.f t182 t203).bind fun t204 => (if t204 = true then ((path_Within.f t182 (⟨#[]⟩ : ByteArray)).bind fun t205 => (some t205)) else (some false))) = some r := H
                                have A57 := Aside0.mk A570
                                clear A570
                                replace H := Option.bind_eq_some_iff.mp H
                                obtain ⟨t204, A580, H⟩ := H
                                replace H : (if t204 = true then ((path_Within.f t182 (⟨#[]⟩ : ByteArray)).bind fun t205 => (some t205)) else (some false)) = some r := H
                                have A58 := Aside0.mk A580
                                clear A580
                                by_cases c59 : t204 = true
                                · subst c59
                                  have H1 : ((path_Within.f t182 (⟨#[]⟩ : ByteArray)).bind fun t205 => (some t205)) = some r := by rw [if_pos rfl] at H; exact H
                                  clear H
                                  have H := H1
                                  clear H1
                                  replace H := Option.bind_eq_some_iff.mp H
                                  obtain ⟨t205, A600, H⟩ := H
                                  replace H : (some t205) = some r := H
                                  have A60 := Aside0.mk A600
                                  clear A600
                                  obtain rfl := Option.some.inj H
                                  go_wp2_with (first | ((with_reducible refine gate_callee (f := 17) rfl ?_); refine goesL_ (some 82) rfl rfl Tryd.func17 (by kernel_rfl) rfl #[.string t182] rfl (by (try simp only [List.map_toArray, List.map_cons, List.map_nil]); first | done | rfl | (simp only [List.length_drop, List.length_take]; rfl)) ?_; (with_reducible refine (path_Base.calls kj46 t182 t200 _ A51.out).mono ?_); rintro e w' ⟨rfl, ⟨nd, rfl⟩⟩; refine ⟨_, rfl, ?_⟩) | (go_at_call 19; (with_reducible refine (path_Within.calls t182 t184 t201 _ A54.out).mono ?_); rintro e w' ⟨rfl, ⟨nd, rfl⟩⟩) | (go_at_call 20; (with_reducible refine (haversackref7_Within.calls t182 t184 t202 _ A55.out).mono ?_); rintro e w' ⟨rfl, ⟨nd, rfl⟩⟩) | (go_at_call 15; (with_reducible refine (path_Parent.calls kj46 t182 t203 _ A57.out).mono ?_); rintro e w61 ⟨rfl, hb⟩; have n0_ := Aside0.mk (below_step (by repeat (first | (with_reducible first | exact HB.out | apply below_alloc | apply pw_below_drewN | apply below_drew1) | exact HB.out)) hb); clear HB; have HB := n0_; clear n0_; (try clear hb); (try clear hb2); (try clear hk); (try clear hi)) | (go_at_call 19; (with_reducible refine (path_Within.calls t182 t203 true _ A58.out).mono ?_); rintro e w' ⟨rfl, ⟨nd, rfl⟩⟩) | (go_at_call 19; (with_reducible refine (path_Within.calls t182 (⟨#[]⟩ : ByteArray) t205 _ A60.out).mono ?_); rintro e w' ⟨rfl, ⟨nd, rfl⟩⟩))
                                  go_ret
                                  exact ⟨by first | rfl | (simp [errW_none, errW_some] <;> rfl) | (simp [*, errW_none, errW_some] <;> rfl), by repeat (first | (with_reducible first | exact HB.out | apply below_alloc | apply pw_below_drewN | apply below_drew1) | exact HB.out)⟩
                                · replace c59 := Bool.eq_false_iff.mpr c59
                                  subst c59
                                  have H1 : (some false) = some r := by rw [if_neg (show ¬ (false = true) by decide)] at H; exact H
                                  clear H
                                  have H := H1
                                  clear H1
                                  obtain rfl := Option.some.inj H
                                  go_wp2_with (first | ((with_reducible refine gate_callee (f := 17) rfl ?_); refine goesL_ (some 82) rfl rfl Tryd.func17 (by kernel_rfl) rfl #[.string t182] rfl (by (try simp only [List.map_toArray, List.map_cons, List.map_nil]); first | done | rfl | (simp only [List.length_drop, List.length_take]; rfl)) ?_; (with_reducible refine (path_Base.calls kj46 t182 t200 _ A51.out).mono ?_); rintro e w' ⟨rfl, ⟨nd, rfl⟩⟩; refine ⟨_, rfl, ?_⟩) | (go_at_call 19; (with_reducible refine (path_Within.calls t182 t184 t201 _ A54.out).mono ?_); rintro e w' ⟨rfl, ⟨nd, rfl⟩⟩) | (go_at_call 20; (with_reducible refine (haversackref7_Within.calls t182 t184 t202 _ A55.out).mono ?_); rintro e w' ⟨rfl, ⟨nd, rfl⟩⟩) | (go_at_call 15; (with_reducible refine (path_Parent.calls kj46 t182 t203 _ A57.out).mono ?_); rintro e w62 ⟨rfl, hb⟩; have n0_ := Aside0.mk (below_step (by repeat (first | (with_reducible first | exact HB.out | apply below_alloc | apply pw_below_drewN | apply below_drew1) | exact HB.out)) hb); clear HB; have HB := n0_; clear n0_; (try clear hb); (try clear hb2); (try clear hk); (try clear hi)) | (go_at_call 19; (with_reducible refine (path_Within.calls t182 t203 false _ A58.out).mono ?_); rintro e w' ⟨rfl, ⟨nd, rfl⟩⟩))
                                  go_ret
                                  exact ⟨by first | rfl | (simp [errW_none, errW_some] <;> rfl) | (simp [*, errW_none, errW_some] <;> rfl), by repeat (first | (with_reducible first | exact HB.out | apply below_alloc | apply pw_below_drewN | apply below_drew1) | exact HB.out)⟩
                              · rw [if_neg c56] at H
                                have c56b0 : (t201 == t202) = false := by simpa using c56
                                (try (have c56b1 : decide (t201 = t202) = false := by simpa using c56))
                                (try (have c56b2 : (t201 == t202) = false := by simpa using c56))
                                (try (have c56b3 : ¬ (t201 = t202) := by simpa using c56))
                                clear c56
                                obtain rfl := Option.some.inj H
                                go_wp2_with (first | ((with_reducible refine gate_callee (f := 17) rfl ?_); refine goesL_ (some 82) rfl rfl Tryd.func17 (by kernel_rfl) rfl #[.string t182] rfl (by (try simp only [List.map_toArray, List.map_cons, List.map_nil]); first | done | rfl | (simp only [List.length_drop, List.length_take]; rfl)) ?_; (with_reducible refine (path_Base.calls kj46 t182 t200 _ A51.out).mono ?_); rintro e w' ⟨rfl, ⟨nd, rfl⟩⟩; refine ⟨_, rfl, ?_⟩) | (go_at_call 19; (with_reducible refine (path_Within.calls t182 t184 t201 _ A54.out).mono ?_); rintro e w' ⟨rfl, ⟨nd, rfl⟩⟩) | (go_at_call 20; (with_reducible refine (haversackref7_Within.calls t182 t184 t202 _ A55.out).mono ?_); rintro e w' ⟨rfl, ⟨nd, rfl⟩⟩))
                                go_ret
                                exact ⟨by first | rfl | (simp [errW_none, errW_some] <;> rfl) | (simp [*, errW_none, errW_some] <;> rfl), by repeat (first | (with_reducible first | exact HB.out | apply below_alloc | apply pw_below_drewN | apply below_drew1) | exact HB.out)⟩
                            · rw [if_neg c53] at H
                              have c53b0 : ((x12_46 ++ t200).toList == t182.toList) = false := beq_eq_false_iff_ne.mpr c53
                              have c53b1 : ((x12_46 ++ t200).toList != t182.toList) = true := bne_iff_ne.mpr c53
                              obtain rfl := Option.some.inj H
                              go_wp2_with (first | ((with_reducible refine gate_callee (f := 17) rfl ?_); refine goesL_ (some 82) rfl rfl Tryd.func17 (by kernel_rfl) rfl #[.string t182] rfl (by (try simp only [List.map_toArray, List.map_cons, List.map_nil]); first | done | rfl | (simp only [List.length_drop, List.length_take]; rfl)) ?_; (with_reducible refine (path_Base.calls kj46 t182 t200 _ A51.out).mono ?_); rintro e w' ⟨rfl, ⟨nd, rfl⟩⟩; refine ⟨_, rfl, ?_⟩))
                              go_ret
                              exact ⟨by first | rfl | (simp [errW_none, errW_some] <;> rfl) | (simp [*, errW_none, errW_some] <;> rfl), by repeat (first | (with_reducible first | exact HB.out | apply below_alloc | apply pw_below_drewN | apply below_drew1) | exact HB.out)⟩
                          · rw [if_neg c52] at H
                            exact absurd H (by simp)
  · replace c4 := Bool.eq_false_iff.mpr c4
    subst c4
    have H1 : (some false) = some r := by rw [if_neg (show ¬ (false = true) by decide)] at H; exact H
    clear H
    have H := H1
    clear H1
    obtain rfl := Option.some.inj H
    go_enter Tryd.func4, Tryd.ntmps4
    go_wp2_with (first | ((with_reducible refine gate_callee (f := 9) rfl ?_); refine goesL_ (some 13) rfl rfl Tryd.func9 (by kernel_rfl) rfl #[] rfl (by (try simp only [List.map_toArray, List.map_cons, List.map_nil]); first | done | rfl | (simp only [List.length_drop, List.length_take]; rfl)) ?_; (with_reducible refine (haversacklaw7_known.calls k  false _ A3.out).mono ?_); rintro e w63 ⟨rfl, hb⟩; refine ⟨_, rfl, ?_⟩; have n0_ := Aside0.mk (below_step (by repeat (first | (with_reducible first | exact HB.out | apply below_alloc | apply pw_below_drewN | apply below_drew1) | exact HB.out)) hb); clear HB; have HB := n0_; clear n0_; (try clear hb); (try clear hb2); (try clear hk); (try clear hi)))
    go_ret
    exact ⟨by first | rfl | (simp [errW_none, errW_some] <;> rfl) | (simp [*, errW_none, errW_some] <;> rfl), by repeat (first | (with_reducible first | exact HB.out | apply below_alloc | apply pw_below_drewN | apply below_drew1) | exact HB.out)⟩

/-- THE ONE PURE STATEMENT of haversacklaw7_PathParts: yours. -/
def haversacklaw7_PathParts.Pure : Prop := ∀ (a0 : ByteArray) (a1 : ByteArray), a0.size ≤ 140737488351232 → a1.size ≤ 140737488351232 → ∃ k, haversacklaw7_PathParts.f k a0 a1 = some true
theorem haversacklaw7_PathParts.walk (P : haversacklaw7_PathParts.Pure) (a0 : ByteArray) (a1 : ByteArray) (w : World) (w0 : a0.size ≤ 140737488351232) (w1 : a1.size ≤ 140737488351232) :
    Calls Tryd.prog 4 #[.string a0, .string a1] w fun e w' => e = .returned (.bool true) ∧ Below w.heap.size w w' := by
  obtain ⟨k, h⟩ := P a0 a1 w0 w1
  refine (haversacklaw7_PathParts.calls k a0 a1 true w h).mono ?_
  rintro e w' ⟨rfl, hd⟩
  exact ⟨rfl, hd⟩

end Go.Proofs.YtnangnnflmdjbaaDoor.P
