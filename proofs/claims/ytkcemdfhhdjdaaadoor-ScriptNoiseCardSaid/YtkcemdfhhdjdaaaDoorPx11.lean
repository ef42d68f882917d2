-- by wip/xprint.py: printed out of the translation by this session's program.
import Derived.Test.YtkcemdfhhdjdaaaDoorParse
import Derived.Test.YtkcemdfhhdjdaaaDoorText
import Derived.Test.YtkcemdfhhdjdaaaDoorPx0
import Derived.Test.YtkcemdfhhdjdaaaDoorPx4
import Derived.Test.YtkcemdfhhdjdaaaDoorPx8
import Derived.Test.YtkcemdfhhdjdaaaDoorPx9
import Derived.Test.YtkcemdfhhdjdaaaDoorPx10
namespace Go.Proofs.YtkcemdfhhdjdaaaDoor.P
open Go.RowKit Go.Proofs.YtkcemdfhhdjdaaaDoor.Ext Go.Proofs.YtkcemdfhhdjdaaaDoorW.PrintWords Go.Proofs.YtkcemdfhhdjdaaaDoorW.PrintLast Go.Proofs.YtkcemdfhhdjdaaaDoorW.PrintMore
attribute [local go_sem] max2_int min2_int max_two min_two max_three min_three max_four min_four   -- for this text's walks alone
set_option linter.unusedVariables false
set_option linter.unusedSimpArgs false

/-! ### haversacklaw17_ScriptNoise: function 7 -/
mutual
def haversacklaw17_ScriptNoise.j0 : Nat → List Int → List Int → Bool → Option (Bool)
  | 0, _, _, _ => none
  | k + 1, x0, x1, x29 => if x29 = true then (some true) else (haversacklaw17_ScriptNoise.l0 k x0 x1 (⟨#[]⟩ : ByteArray) (⟨#[]⟩ : ByteArray) 0)
def haversacklaw17_ScriptNoise.l0 : Nat → List Int → List Int → ByteArray → ByteArray → Int → Option (Bool)
  | 0, _, _, _, _, _ => none
  | k + 1, x0, x1, x5, x6, x7 => if x7 < (x0.length : Int) then (if 0 ≤ x7 then ((haversacklaw17_text.f (Int.tmod (rd x0 x7) 13)).bind fun t313 => (if x5.size + t313.size ≤ 9223372036854775807 then (if (x5 ++ t313).size + 1 ≤ 9223372036854775807 then ((some (([(⟨#[]⟩ : ByteArray), (⟨#[10]⟩ : ByteArray), (⟨#[35, 32, 34, 10]⟩ : ByteArray), (⟨#[32, 32, 9]⟩ : ByteArray), (⟨#[9, 35, 32, 120, 10, 32, 32, 32]⟩ : ByteArray)] : List ByteArray) : List ByteArray)).bind fun y314 => (if x7 < (x1.length : Int) then (if 0 ≤ (Int.tmod (rd x1 x7) 5) then (if (Int.tmod (rd x1 x7) 5) < (y314.length : Int) then (if x6.size + (rdOf ByteArray.empty y314 (Int.tmod (rd x1 x7) 5)).size ≤ 9223372036854775807 then (if (x6 ++ (rdOf ByteArray.empty y314 (Int.tmod (rd x1 x7) 5))).size + t313.size ≤ 9223372036854775807 then ((some (([(⟨#[]⟩ : ByteArray), (⟨#[32]⟩ : ByteArray), (⟨#[9, 32]⟩ : ByteArray)] : List ByteArray) : List ByteArray)).bind fun y319 => (if 0 ≤ (Int.tmod (rd x1 x7) 3) then (if (Int.tmod (rd x1 x7) 3) < (y319.length : Int) then (if ((x6 ++ (rdOf ByteArray.empty y314 (Int.tmod (rd x1 x7) 5))) ++ t313).size + (rdOf ByteArray.empty y319 (Int.tmod (rd x1 x7) 3)).size ≤ 9223372036854775807 then (if (((x6 ++ (rdOf ByteArray.empty y314 (Int.tmod (rd x1 x7) 5))) ++ t313) ++ (rdOf ByteArray.empty y319 (Int.tmod (rd x1 x7) 3))).size + 1 ≤ 9223372036854775807 then (haversacklaw17_ScriptNoise.l0 k x0 x1 ((x5 ++ t313) ++ (⟨#[10]⟩ : ByteArray)) ((((x6 ++ (rdOf ByteArray.empty y314 (Int.tmod (rd x1 x7) 5))) ++ t313) ++ (rdOf ByteArray.empty y319 (Int.tmod (rd x1 x7) 3))) ++ (⟨#[10]⟩ : ByteArray)) (wrap64 (x7 + 1))) else (none)) else (none)) else (none)) else (none))) else (none)) else (none)) else (none)) else (none)) else (none))) else (none)) else (none))) else (none)) else ((script_Parse.f k x5).bind fun bt324 => ((script_Parse.f k x6).bind fun bt329 => ((haversackref17_Parse.f k x5).bind fun bt334 => (if bt324.2.2 = bt334.2.2 then (if bt329.2.2 = bt334.2.2 then ((haversackhelp_Lines.f k bt324.1 bt334.1).bind fun t339 => (if t339 = true then ((haversackhelp_Lines.f k bt329.1 bt334.1).bind fun t340 => (some t340)) else (some false))) else (some false)) else (some false)))))
end
def haversacklaw17_ScriptNoise.f (k : Nat) (l0 : List Int) (l1 : List Int) : Option (Bool) := (haversacklaw17_known.f k).bind fun t311 => (if t311 = true then (if (l0.length : Int) > 20 then (haversacklaw17_ScriptNoise.j0 k l0 l1 true) else (haversacklaw17_ScriptNoise.j0 k l0 l1 (decide ((l1.length : Int) < (l0.length : Int))))) else (some false))
theorem haversacklaw17_ScriptNoise.mono_l : ∀ k, (∀ y0 y1 y2, LeO (haversacklaw17_ScriptNoise.j0 k y0 y1 y2) (haversacklaw17_ScriptNoise.j0 (k + 1) y0 y1 y2)) ∧ (∀ y0 y1 y2 y3 y4, LeO (haversacklaw17_ScriptNoise.l0 k y0 y1 y2 y3 y4) (haversacklaw17_ScriptNoise.l0 (k + 1) y0 y1 y2 y3 y4))
  | 0 => ⟨fun _ _ _ r h => by simp [haversacklaw17_ScriptNoise.j0] at h, fun _ _ _ _ _ r h => by simp [haversacklaw17_ScriptNoise.l0] at h⟩
  | k + 1 => by
    obtain ⟨ih0, ih1⟩ := haversacklaw17_ScriptNoise.mono_l k
    refine ⟨?_, ?_⟩
    · intro y0 y1 y2
      unfold haversacklaw17_ScriptNoise.j0
      repeat' first
      | (with_reducible exact ih0 _ _ _)
      | (with_reducible exact ih1 _ _ _ _ _)
      | (with_reducible exact haversackhelp_Lines.mono _ _ _)
      | (with_reducible exact haversacklaw17_known.mono _)
      | (with_reducible exact haversackref17_Parse.mono _ _)
      | (with_reducible exact script_Parse.mono _ _)
      | (with_reducible exact LeO.refl _)
      | (with_reducible exact LeO.none _)
      | (with_reducible refine LeO.ite ?_ ?_)
      | (with_reducible refine LeO.bind ?_ (fun _ => ?_))
      | exact ih0 _ _ _
      | exact ih1 _ _ _ _ _
      | exact haversackhelp_Lines.mono _ _ _
      | exact haversacklaw17_known.mono _
      | exact haversackref17_Parse.mono _ _
      | exact script_Parse.mono _ _
      | exact LeO.none _
      | refine LeO.ite ?_ ?_
      | refine LeO.bind ?_ (fun _ => ?_)
    · intro y0 y1 y2 y3 y4
      unfold haversacklaw17_ScriptNoise.l0
      repeat' first
      | (with_reducible exact ih0 _ _ _)
      | (with_reducible exact ih1 _ _ _ _ _)
      | (with_reducible exact haversackhelp_Lines.mono _ _ _)
      | (with_reducible exact haversacklaw17_known.mono _)
      | (with_reducible exact haversackref17_Parse.mono _ _)
      | (with_reducible exact script_Parse.mono _ _)
      | (with_reducible exact LeO.refl _)
      | (with_reducible exact LeO.none _)
      | (with_reducible refine LeO.ite ?_ ?_)
      | (with_reducible refine LeO.bind ?_ (fun _ => ?_))
      | exact ih0 _ _ _
      | exact ih1 _ _ _ _ _
      | exact haversackhelp_Lines.mono _ _ _
      | exact haversacklaw17_known.mono _
      | exact haversackref17_Parse.mono _ _
      | exact script_Parse.mono _ _
      | exact LeO.none _
      | refine LeO.ite ?_ ?_
      | refine LeO.bind ?_ (fun _ => ?_)
theorem haversacklaw17_ScriptNoise.mono : ∀ a0 a1 k, LeO (haversacklaw17_ScriptNoise.f k a0 a1) (haversacklaw17_ScriptNoise.f (k + 1) a0 a1) := by
  intro a0 a1 k
  obtain ⟨ih0, ih1⟩ := haversacklaw17_ScriptNoise.mono_l k
  unfold haversacklaw17_ScriptNoise.f
  repeat' first
      | (with_reducible exact ih0 _ _ _)
      | (with_reducible exact ih1 _ _ _ _ _)
      | (with_reducible exact haversackhelp_Lines.mono _ _ _)
      | (with_reducible exact haversacklaw17_known.mono _)
      | (with_reducible exact haversackref17_Parse.mono _ _)
      | (with_reducible exact script_Parse.mono _ _)
      | (with_reducible exact LeO.refl _)
      | (with_reducible exact LeO.none _)
      | (with_reducible refine LeO.ite ?_ ?_)
      | (with_reducible refine LeO.bind ?_ (fun _ => ?_))
      | exact ih0 _ _ _
      | exact ih1 _ _ _ _ _
      | exact haversackhelp_Lines.mono _ _ _
      | exact haversacklaw17_known.mono _
      | exact haversackref17_Parse.mono _ _
      | exact script_Parse.mono _ _
      | exact LeO.none _
      | refine LeO.ite ?_ ?_
      | refine LeO.bind ?_ (fun _ => ?_)
def haversacklaw17_ScriptNoise.T11 : Bool × List (List Nat × List Nat) := (true, [([], []), ([], []), ([], []), ([], []), ([2, 3], [2, 3]), ([4], [4]), ([5], [5]), ([1, 6], [1, 6]), ([7], [7]), ([0, 8], [0, 8]), ([], []), ([9, 10], [9, 10]), ([], []), ([], []), ([], []), ([13, 14], [13, 14]), ([15], [15]), ([16], [16]), ([12, 17], [12, 17]), ([18], [18]), ([11, 19], [11, 19]), ([20], [20]), ([21, 0, 1, 2, 3, 4, 5, 6, 7, 8, 9, 10, 11, 12, 13, 14, 15, 16, 17, 18, 19, 20, 21], [0, 21])])
def haversacklaw17_ScriptNoise.B11 : List Nat := [0, 0, 0, 0, 12, 28, 60, 126, 254, 511, 0, 2047, 0, 0, 0, 24576, 57344, 122880, 258048, 520192, 1048575, 2097151, 4194303]
theorem haversacklaw17_ScriptNoise.tab11 : rtab .any (opsOf Tryd.f7 11) = haversacklaw17_ScriptNoise.T11 := by kernel_rfl
theorem haversacklaw17_ScriptNoise.bits11 : waitsOk haversacklaw17_ScriptNoise.T11.2 haversacklaw17_ScriptNoise.B11 = true := by kernel_rfl
set_option maxHeartbeats 8000000 in
set_option maxRecDepth 100000 in
theorem haversacklaw17_ScriptNoise.calls (k : Nat) (A0 : Option Addr) (c0 : Nat) (l0 : List Int) (A1 : Option Addr) (c1 : Nat) (l1 : List Int) (r : Bool) (w : World) (hr0 : Kd.C (Kd.int .u8) w A0 l0.length l0) (hc0 : l0.length ≤ c0) (hr1 : Kd.C (Kd.int .u8) w A1 l1.length l1) (hc1 : l1.length ≤ c1) (h : haversacklaw17_ScriptNoise.f k l0 l1 = some r) :
    Calls Tryd.prog 7 #[.slice A0 l0.length c0, .slice A1 l1.length c1] w fun e w' => e = .returned (.bool r) ∧ Below w.heap.size w w' := by
  have HR0 := Aside0.mk hr0
  have HC0 := Aside0.mk hc0
  clear hr0 hc0
  have HR1 := Aside0.mk hr1
  have HC1 := Aside0.mk hc1
  clear hr1 hc1
  have HB := Aside0.mk (Below.refl w.heap.size w)
  have H : ((haversacklaw17_known.f k).bind fun t311 => (if t311 = true then (if (l0.length : Int) > 20 then (haversacklaw17_ScriptNoise.j0 k l0 l1 true) else (haversacklaw17_ScriptNoise.j0 k l0 l1 (decide ((l1.length : Int) < (l0.length : Int))))) else (some false))) = some r := h
  clear h
  replace H := Option.bind_eq_some_iff.mp H
  obtain ⟨t311, A30, H⟩ := H
  replace H : (if t311 = true then (if (l0.length : Int) > 20 then (haversacklaw17_ScriptNoise.j0 k l0 l1 true) else (haversacklaw17_ScriptNoise.j0 k l0 l1 (decide ((l1.length : Int) < (l0.length : Int))))) else (some false)) = some r := H
  have A3 := Aside0.mk A30
  clear A30
  by_cases c4 : t311 = true
  · subst c4
    have H1 : (if (l0.length : Int) > 20 then (haversacklaw17_ScriptNoise.j0 k l0 l1 true) else (haversacklaw17_ScriptNoise.j0 k l0 l1 (decide ((l1.length : Int) < (l0.length : Int))))) = some r := by rw [if_pos rfl] at H; exact H
    clear H
    have H := H1
    clear H1
    have HC5 := Aside0.mk H
    clear H
    go_enter Tryd.func7, Tryd.ntmps7
    go_upto_region 3 with (first | ((with_reducible refine gate_callee (f := 8) rfl ?_); refine goesL_ (some 18) rfl rfl Tryd.func8 (by kernel_rfl) rfl #[] rfl (by (try simp only [List.map_toArray, List.map_cons, List.map_nil]); first | done | rfl | (simp only [List.length_drop, List.length_take]; rfl)) ?_; (with_reducible refine (haversacklaw17_known.calls k  true _ A3.out).mono ?_); rintro e w6 ⟨rfl, hb⟩; refine ⟨_, rfl, ?_⟩; have n0_ := Aside0.mk (below_step (by repeat (first | (with_reducible first | exact HB.out | apply below_alloc | apply pw_below_drewN | apply below_drew1) | exact HB.out)) hb); clear HB; have HB := n0_; clear n0_; (try clear hb); (try clear hb2); (try clear hk); (try clear hi)))
    (try simp only [Act.put, List.setIfInBounds_toArray, List.set_cons_zero, List.set_cons_succ])
    go_cut [29] (fun v29 wc => ∃ (kq : Nat) (x29_4 : Bool), v29 = .bool x29_4 ∧ Aside0 (haversacklaw17_ScriptNoise.j0 kq l0 l1 x29_4 = some r) ∧ Aside0 (kq ≤ k) ∧ Aside0 (Below w.heap.size w wc))
    case first =>
      have H := HC5.out
      clear HC5
      by_cases c7 : (l0.length : Int) > 20
      · rw [if_pos c7] at H
        have c7b0 : decide (20 < (l0.length : Int)) = true := decide_eq_true c7
        have c7b1 : decide (20 < l0.length) = true := decide_eq_true (by omega)
        clear c7
        (first | rw [c7b0] | (simp only [i64_w, i32_w]; rw [c7b0]) | skip)
        have H' := Aside0.mk H
        clear H
        go_wp2
        go_meet
        case rel => exact ⟨_, (true), (by first | rfl | (simp; done) | (simp [*]; done)), H', ⟨by first | omega | exact Nat.le_refl _⟩, ⟨by repeat (first | (with_reducible first | exact HB.out | apply below_alloc | apply pw_below_drewN | apply below_drew1) | exact HB.out)⟩⟩
      · rw [if_neg c7] at H
        have c7b0 : decide (20 < (l0.length : Int)) = false := decide_eq_false c7
        have c7b1 : decide (20 < l0.length) = false := decide_eq_false (by omega)
        clear c7
        (first | rw [c7b0] | (simp only [i64_w, i32_w]; rw [c7b0]) | skip)
        have H' := Aside0.mk H
        clear H
        go_wp2
        go_meet
        case rel => exact ⟨_, (decide ((l1.length : Int) < (l0.length : Int))), (by first | rfl | (simp; done) | (simp [*]; done)), H', ⟨by first | omega | exact Nat.le_refl _⟩, ⟨by repeat (first | (with_reducible first | exact HB.out | apply below_alloc | apply pw_below_drewN | apply below_drew1) | exact HB.out)⟩⟩
    case rest =>
      clear HC5
      try clear c1
      try clear p2
      try clear c4
      try clear c7
      try clear c7b0
      try clear c7b1
      obtain ⟨kq, x29_4, rfl, HA, HJ4, HB⟩ := hcut
      cases kq with
      | zero => exact absurd HA.out (by simp [haversacklaw17_ScriptNoise.j0])
      | succ kj4 =>
        have H := HA.out
        clear HA
        simp only [haversacklaw17_ScriptNoise.j0] at H
        by_cases c8 : x29_4 = true
        · subst c8
          have H1 : (some true) = some r := by rw [if_pos rfl] at H; exact H
          clear H
          have H := H1
          clear H1
          obtain rfl := Option.some.inj H
          go_wp2
          go_ret
          exact ⟨by first | rfl | (simp [errW_none, errW_some] <;> rfl) | (simp [*, errW_none, errW_some] <;> rfl), by repeat (first | (with_reducible first | exact HB.out | apply below_alloc | apply pw_below_drewN | apply below_drew1) | exact HB.out)⟩
        · replace c8 := Bool.eq_false_iff.mpr c8
          subst c8
          have H1 : (haversacklaw17_ScriptNoise.l0 kj4 l0 l1 (⟨#[]⟩ : ByteArray) (⟨#[]⟩ : ByteArray) 0) = some r := by rw [if_neg (show ¬ (false = true) by decide)] at H; exact H
          clear H
          have H := H1
          clear H1
          have H' := Aside0.mk H
          clear H
          go_wp2
          go_loopg [5, 6, 7] kj4 (fun kq v5 v6 v7 w' => ∃ (x5_2 : ByteArray) (x6_2 : ByteArray) (x7_2 : Int), v5 = .string x5_2 ∧ v6 = .string x6_2 ∧ v7 = .int .i64 x7_2 ∧ Aside0 (haversacklaw17_ScriptNoise.l0 kq l0 l1 x5_2 x6_2 x7_2 = some r) ∧ Aside0 (kq ≤ kj4) ∧ Aside0 (Below w.heap.size w w'))
          case atStart => exact ⟨((⟨#[]⟩ : ByteArray)), ((⟨#[]⟩ : ByteArray)), (0), (by first | rfl | (simp; done) | (simp [*]; done)), (by first | rfl | (simp; done) | (simp [*]; done)), (by first | rfl | (simp; done) | (simp [*]; done)), H', ⟨Nat.le_refl _⟩, ⟨by repeat (first | (with_reducible first | exact HB.out | apply below_alloc | apply pw_below_drewN | apply below_drew1) | exact HB.out)⟩⟩
          case round =>
            clear H'
            try clear c1
            try clear p2
            try clear c4
            try clear c7
            try clear c7b0
            try clear c7b1
            try clear c8
            try clear p2
            obtain ⟨x5_2, x6_2, x7_2, rfl, rfl, rfl, HA, HK2, HB⟩ := hrel
            cases gk with
            | zero => exact absurd HA.out (by simp [haversacklaw17_ScriptNoise.l0])
            | succ k2 =>
              have H := HA.out
              clear HA
              simp only [haversacklaw17_ScriptNoise.l0] at H
              by_cases c9 : x7_2 < (l0.length : Int)
              · rw [if_pos c9] at H
                have c9b0 : decide (x7_2 < (l0.length : Int)) = true := decide_eq_true c9
                clear c9
                by_cases c10 : 0 ≤ x7_2
                · rw [if_pos c10] at H
                  have c10b0 : decide (0 ≤ x7_2) = true := decide_eq_true c10
                  clear c10
                  replace H := Option.bind_eq_some_iff.mp H
                  obtain ⟨t313, A110, H⟩ := H
                  replace H : (if x5_2.size + t313.size ≤ 9223372036854775807 then (if (x5_2 ++ t313).size + 1 ≤ 9223372036854775807 then ((some (([(⟨#[]⟩ : ByteArray), (⟨#[10]⟩ : ByteArray), (⟨#[35, 32, 34, 10]⟩ : ByteArray), (⟨#[32, 32, 9]⟩ : ByteArray), (⟨#[9, 35, 32, 120, 10, 32, 32, 32]⟩ : ByteArray)] : List ByteArray) : List ByteArray)).bind fun y314 => (if x7_2 < (l1.length : Int) then (if 0 ≤ (Int.tmod (rd l1 x7_2) 5) then (if (Int.tmod (rd l1 x7_2) 5) < (y314.length : Int) then (if x6_2.size + (rdOf ByteArray.empty y314 (Int.tmod (rd l1 x7_2) 5)).size ≤ 9223372036854775807 then (if (x6_2 ++ (rdOf ByteArray.empty y314 (Int.tmod (rd l1 x7_2) 5))).size + t313.size ≤ 9223372036854775807 then ((some (([(⟨#[]⟩ : ByteArray), (⟨#[32]⟩ : ByteArray), (⟨#[9, 32]⟩ : ByteArray)] : List ByteArray) : List ByteArray)).bind fun y319 => (if 0 ≤ (Int.tmod (rd l1 x7_2) 3) then (if (Int.tmod (rd l1 x7_2) 3) < (y319.length : Int) then (if ((x6_2 ++ (rdOf ByteArray.empty y314 (Int.tmod (rd l1 x7_2) 5))) ++ t313).size + (rdOf ByteArray.empty y319 (Int.tmod (rd l1 x7_2) 3)).size ≤ 9223372036854775807 then (if (((x6_2 ++ (rdOf ByteArray.empty y314 (Int.tmod (rd l1 x7_2) 5))) ++ t313) ++ (rdOf ByteArray.empty y319 (Int.tmod (rd l1 x7_2) 3))).size + 1 ≤ 9223372036854775807 then (haversacklaw17_ScriptNoise.l0 k2 l0 l1 ((x5_2 ++ t313) ++ (⟨#[10]⟩ : ByteArray)) ((((x6_2 ++ (rdOf ByteArray.empty y314 (Int.tmod (rd l1 x7_2) 5))) ++ t313) ++ (rdOf ByteArray.empty y319 (Int.tmod (rd l1 x7_2) 3))) ++ (⟨#[10]⟩ : ByteArray)) (wrap64 (x7_2 + 1))) else (none)) else (none)) else (none)) else (none))) else (none)) else (none)) else (none)) else (none)) else (none))) else (none)) else (none)) = some r := H
                  have A11 := Aside0.mk A110
                  clear A110
                  by_cases c12 : x5_2.size + t313.size ≤ 9223372036854775807
                  · rw [if_pos c12] at H
                    have c12b0 := eq_true c12
                    have c12b1 : decide (x5_2.size + t313.size ≤ 9223372036854775807) = true := decide_eq_true c12
                    try have c12b2 : (9223372036854775807 < x5_2.size + t313.size) = False := eq_false (Nat.not_lt.2 c12)
                    by_cases c13 : (x5_2 ++ t313).size + 1 ≤ 9223372036854775807
                    · rw [if_pos c13] at H
                      have c13b0 := eq_true c13
                      have c13b1 : decide ((x5_2 ++ t313).size + 1 ≤ 9223372036854775807) = true := decide_eq_true c13
                      try have c13b2 : (9223372036854775807 < (x5_2 ++ t313).size + 1) = False := eq_false (Nat.not_lt.2 c13)
                      try (have c13b3 : (9223372036854775807 < x5_2.size + t313.size + 1) = False := by have h_ := c13b2; simp only [ByteArray.size_append] at h_; exact h_)
                      obtain ⟨y314, hy314⟩ : ∃ y_ : List ByteArray, y_ = (([(⟨#[]⟩ : ByteArray), (⟨#[10]⟩ : ByteArray), (⟨#[35, 32, 34, 10]⟩ : ByteArray), (⟨#[32, 32, 9]⟩ : ByteArray), (⟨#[9, 35, 32, 120, 10, 32, 32, 32]⟩ : ByteArray)] : List ByteArray)) := ⟨_, rfl⟩
                      replace H : (if x7_2 < (l1.length : Int) then (if 0 ≤ (Int.tmod (rd l1 x7_2) 5) then (if (Int.tmod (rd l1 x7_2) 5) < (y314.length : Int) then (if x6_2.size + (rdOf ByteArray.empty y314 (Int.tmod (rd l1 x7_2) 5)).size ≤ 9223372036854775807 then (if (x6_2 ++ (rdOf ByteArray.empty y314 (Int.tmod (rd l1 x7_2) 5))).size + t313.size ≤ 9223372036854775807 then ((some (([(⟨#[]⟩ : ByteArray), (⟨#[32]⟩ : ByteArray), (⟨#[9, 32]⟩ : ByteArray)] : List ByteArray) : List ByteArray)).bind fun y319 => (if 0 ≤ (Int.tmod (rd l1 x7_2) 3) then (if (Int.tmod (rd l1 x7_2) 3) < (y319.length : Int) then (if ((x6_2 ++ (rdOf ByteArray.empty y314 (Int.tmod (rd l1 x7_2) 5))) ++ t313).size + (rdOf ByteArray.empty y319 (Int.tmod (rd l1 x7_2) 3)).size ≤ 9223372036854775807 then (if (((x6_2 ++ (rdOf ByteArray.empty y314 (Int.tmod (rd l1 x7_2) 5))) ++ t313) ++ (rdOf ByteArray.empty y319 (Int.tmod (rd l1 x7_2) 3))).size + 1 ≤ 9223372036854775807 then (haversacklaw17_ScriptNoise.l0 k2 l0 l1 ((x5_2 ++ t313) ++ (⟨#[10]⟩ : ByteArray)) ((((x6_2 ++ (rdOf ByteArray.empty y314 (Int.tmod (rd l1 x7_2) 5))) ++ t313) ++ (rdOf ByteArray.empty y319 (Int.tmod (rd l1 x7_2) 3))) ++ (⟨#[10]⟩ : ByteArray)) (wrap64 (x7_2 + 1))) else (none)) else (none)) else (none)) else (none))) else (none)) else (none)) else (none)) else (none)) else (none)) = some r := by first | (rw [hy314]; with_reducible exact H) | (have H2_ := (Option.bind_some _ _).symm.trans H; rw [hy314]; with_reducible exact H2_) | (have H2_ := (Option.bind_some _ _).symm.trans H; with_reducible exact H2_) | with_reducible exact H | (rw [hy314]; exact H) | exact H
                      have Ny314 := Aside0.mk hy314
                      clear hy314
                      by_cases c14 : x7_2 < (l1.length : Int)
                      · rw [if_pos c14] at H
                        have c14b0 : decide (x7_2 < (l1.length : Int)) = true := decide_eq_true c14
                        clear c14
                        obtain ⟨ji15, hji15⟩ : ∃ j_ : Int, (Int.tmod (rd l1 x7_2) 5) = j_ := ⟨_, rfl⟩
                        replace H : (if 0 ≤ (ji15) then (if (ji15) < (y314.length : Int) then (if x6_2.size + (rdOf ByteArray.empty y314 (ji15)).size ≤ 9223372036854775807 then (if (x6_2 ++ (rdOf ByteArray.empty y314 (ji15))).size + t313.size ≤ 9223372036854775807 then ((some (([(⟨#[]⟩ : ByteArray), (⟨#[32]⟩ : ByteArray), (⟨#[9, 32]⟩ : ByteArray)] : List ByteArray) : List ByteArray)).bind fun y319 => (if 0 ≤ (Int.tmod (rd l1 x7_2) 3) then (if (Int.tmod (rd l1 x7_2) 3) < (y319.length : Int) then (if ((x6_2 ++ (rdOf ByteArray.empty y314 (ji15))) ++ t313).size + (rdOf ByteArray.empty y319 (Int.tmod (rd l1 x7_2) 3)).size ≤ 9223372036854775807 then (if (((x6_2 ++ (rdOf ByteArray.empty y314 (ji15))) ++ t313) ++ (rdOf ByteArray.empty y319 (Int.tmod (rd l1 x7_2) 3))).size + 1 ≤ 9223372036854775807 then (haversacklaw17_ScriptNoise.l0 k2 l0 l1 ((x5_2 ++ t313) ++ (⟨#[10]⟩ : ByteArray)) ((((x6_2 ++ (rdOf ByteArray.empty y314 (ji15))) ++ t313) ++ (rdOf ByteArray.empty y319 (Int.tmod (rd l1 x7_2) 3))) ++ (⟨#[10]⟩ : ByteArray)) (wrap64 (x7_2 + 1))) else (none)) else (none)) else (none)) else (none))) else (none)) else (none)) else (none)) else (none)) = some r := by first | (rw [hji15] at H; exact H) | (simp only [hji15] at H ⊢; exact H)
                        (try rw [hji15] at A11)
                        by_cases c16 : 0 ≤ (ji15)
                        · rw [if_pos c16] at H
                          have c16b0 : decide (0 ≤ (ji15)) = true := decide_eq_true c16
                          clear c16
                          by_cases c17 : (ji15) < (y314.length : Int)
                          · rw [if_pos c17] at H
                            have c17b0 : decide ((ji15) < (y314.length : Int)) = true := decide_eq_true c17
                            clear c17
                            by_cases c18 : x6_2.size + (rdOf ByteArray.empty y314 (ji15)).size ≤ 9223372036854775807
                            · rw [if_pos c18] at H
                              have c18b0 := eq_true c18
                              have c18b1 : decide (x6_2.size + (rdOf ByteArray.empty y314 (ji15)).size ≤ 9223372036854775807) = true := decide_eq_true c18
                              try have c18b2 : (9223372036854775807 < x6_2.size + (rdOf ByteArray.empty y314 (ji15)).size) = False := eq_false (Nat.not_lt.2 c18)
                              by_cases c19 : (x6_2 ++ (rdOf ByteArray.empty y314 (ji15))).size + t313.size ≤ 9223372036854775807
                              · rw [if_pos c19] at H
                                have c19b0 := eq_true c19
                                have c19b1 : decide ((x6_2 ++ (rdOf ByteArray.empty y314 (ji15))).size + t313.size ≤ 9223372036854775807) = true := decide_eq_true c19
                                try have c19b2 : (9223372036854775807 < (x6_2 ++ (rdOf ByteArray.empty y314 (ji15))).size + t313.size) = False := eq_false (Nat.not_lt.2 c19)
                                try (have c19b3 := c19b2; simp only [ByteArray.size_append] at c19b3)
                                obtain ⟨y319, hy319⟩ : ∃ y_ : List ByteArray, y_ = (([(⟨#[]⟩ : ByteArray), (⟨#[32]⟩ : ByteArray), (⟨#[9, 32]⟩ : ByteArray)] : List ByteArray)) := ⟨_, rfl⟩
                                replace H : (if 0 ≤ (Int.tmod (rd l1 x7_2) 3) then (if (Int.tmod (rd l1 x7_2) 3) < (y319.length : Int) then (if ((x6_2 ++ (rdOf ByteArray.empty y314 (ji15))) ++ t313).size + (rdOf ByteArray.empty y319 (Int.tmod (rd l1 x7_2) 3)).size ≤ 9223372036854775807 then (if (((x6_2 ++ (rdOf ByteArray.empty y314 (ji15))) ++ t313) ++ (rdOf ByteArray.empty y319 (Int.tmod (rd l1 x7_2) 3))).size + 1 ≤ 9223372036854775807 then (haversacklaw17_ScriptNoise.l0 k2 l0 l1 ((x5_2 ++ t313) ++ (⟨#[10]⟩ : ByteArray)) ((((x6_2 ++ (rdOf ByteArray.empty y314 (ji15))) ++ t313) ++ (rdOf ByteArray.empty y319 (Int.tmod (rd l1 x7_2) 3))) ++ (⟨#[10]⟩ : ByteArray)) (wrap64 (x7_2 + 1))) else (none)) else (none)) else (none)) else (none)) = some r := by first | (rw [hy319]; with_reducible exact H) | (have H2_ := (Option.bind_some _ _).symm.trans H; rw [hy319]; with_reducible exact H2_) | (have H2_ := (Option.bind_some _ _).symm.trans H; with_reducible exact H2_) | with_reducible exact H | (rw [hy319]; exact H) | exact H
                                have Ny319 := Aside0.mk hy319
                                clear hy319
                                obtain ⟨ji20, hji20⟩ : ∃ j_ : Int, (Int.tmod (rd l1 x7_2) 3) = j_ := ⟨_, rfl⟩
                                replace H : (if 0 ≤ (ji20) then (if (ji20) < (y319.length : Int) then (if ((x6_2 ++ (rdOf ByteArray.empty y314 (ji15))) ++ t313).size + (rdOf ByteArray.empty y319 (ji20)).size ≤ 9223372036854775807 then (if (((x6_2 ++ (rdOf ByteArray.empty y314 (ji15))) ++ t313) ++ (rdOf ByteArray.empty y319 (ji20))).size + 1 ≤ 9223372036854775807 then (haversacklaw17_ScriptNoise.l0 k2 l0 l1 ((x5_2 ++ t313) ++ (⟨#[10]⟩ : ByteArray)) ((((x6_2 ++ (rdOf ByteArray.empty y314 (ji15))) ++ t313) ++ (rdOf ByteArray.empty y319 (ji20))) ++ (⟨#[10]⟩ : ByteArray)) (wrap64 (x7_2 + 1))) else (none)) else (none)) else (none)) else (none)) = some r := by first | (rw [hji20] at H; exact H) | (simp only [hji20] at H ⊢; exact H)
                                (try rw [hji20] at A11)
                                by_cases c21 : 0 ≤ (ji20)
                                · rw [if_pos c21] at H
                                  have c21b0 : decide (0 ≤ (ji20)) = true := decide_eq_true c21
                                  clear c21
                                  by_cases c22 : (ji20) < (y319.length : Int)
                                  · rw [if_pos c22] at H
                                    have c22b0 : decide ((ji20) < (y319.length : Int)) = true := decide_eq_true c22
                                    clear c22
                                    by_cases c23 : ((x6_2 ++ (rdOf ByteArray.empty y314 (ji15))) ++ t313).size + (rdOf ByteArray.empty y319 (ji20)).size ≤ 9223372036854775807
                                    · rw [if_pos c23] at H
                                      have c23b0 := eq_true c23
                                      have c23b1 : decide (((x6_2 ++ (rdOf ByteArray.empty y314 (ji15))) ++ t313).size + (rdOf ByteArray.empty y319 (ji20)).size ≤ 9223372036854775807) = true := decide_eq_true c23
                                      try have c23b2 : (9223372036854775807 < ((x6_2 ++ (rdOf ByteArray.empty y314 (ji15))) ++ t313).size + (rdOf ByteArray.empty y319 (ji20)).size) = False := eq_false (Nat.not_lt.2 c23)
                                      try (have c23b3 := c23b2; simp only [ByteArray.size_append] at c23b3)
                                      by_cases c24 : (((x6_2 ++ (rdOf ByteArray.empty y314 (ji15))) ++ t313) ++ (rdOf ByteArray.empty y319 (ji20))).size + 1 ≤ 9223372036854775807
                                      · rw [if_pos c24] at H
                                        have c24b0 := eq_true c24
                                        have c24b1 : decide ((((x6_2 ++ (rdOf ByteArray.empty y314 (ji15))) ++ t313) ++ (rdOf ByteArray.empty y319 (ji20))).size + 1 ≤ 9223372036854775807) = true := decide_eq_true c24
                                        try have c24b2 : (9223372036854775807 < (((x6_2 ++ (rdOf ByteArray.empty y314 (ji15))) ++ t313) ++ (rdOf ByteArray.empty y319 (ji20))).size + 1) = False := eq_false (Nat.not_lt.2 c24)
                                        try (have c24b3 := c24b2; simp only [ByteArray.size_append] at c24b3)
                                        have H' := Aside0.mk H
                                        clear H
                                        have p312 : 0 ≤ (x7_2 : Int) := of_decide_eq_true (by first | (with_reducible assumption) | assumption)
                                        have q312 : x7_2 < (l0.length : Int) := of_decide_eq_true (by first | (with_reducible assumption) | assumption)
                                        obtain ⟨ad312, e312, hx312_0⟩ := Kd.at_int HR0.out x7_2 p312 q312
                                        cases e312
                                        replace hx312_0 := (HB.out.cell (World.block_lt_of_cell? w _ hx312_0)).trans hx312_0
                                        replace p312 := eq_true p312
                                        replace q312 := eq_true q312
                                        try go_wp2_with (first | ((with_reducible refine gate_callee (f := 17) rfl ?_); refine goesL_ (some 41) rfl rfl Tryd.func17 (by kernel_rfl) rfl #[.int .u8 (Int.tmod (rd l0 x7_2) 13)] rfl (by (try simp only [List.map_toArray, List.map_cons, List.map_nil]); first | done | rfl | (simp only [List.length_drop, List.length_take]; rfl)) ?_; (with_reducible refine (haversacklaw17_text.calls (Int.tmod (rd l0 x7_2) 13) t313 _ A11.out).mono ?_); rintro e w25 ⟨rfl, hb⟩; refine ⟨_, rfl, ?_⟩; have n0_ := Aside0.mk (below_step (by repeat (first | (with_reducible first | exact HB.out | apply below_alloc | apply pw_below_drewN | apply below_drew1) | exact HB.out)) hb); clear HB; have HB := n0_; clear n0_; (try clear hb); (try clear hb2); (try clear hk); (try clear hi)))
                                        have pi318 : (0 ≤ ((ji15) : Int)) = True := eq_true (of_decide_eq_true (by first | (with_reducible assumption) | assumption))
                                        have qi318 : ((ji15) < (y314.length : Int)) = True := eq_true (of_decide_eq_true (by first | (with_reducible assumption) | assumption))
                                        have pi323 : (0 ≤ ((ji20) : Int)) = True := eq_true (of_decide_eq_true (by first | (with_reducible assumption) | assumption))
                                        have qi323 : ((ji20) < (y319.length : Int)) = True := eq_true (of_decide_eq_true (by first | (with_reducible assumption) | assumption))
                                        have n0_ := Aside0.mk (below_drew1 HB.out)
                                        clear HB
                                        have HB := n0_
                                        clear n0_
                                        have p317 : 0 ≤ (x7_2 : Int) := of_decide_eq_true (by first | (with_reducible assumption) | assumption)
                                        have q317 : x7_2 < (l1.length : Int) := of_decide_eq_true (by first | (with_reducible assumption) | assumption)
                                        obtain ⟨ad317, e317, hx317_0⟩ := Kd.at_int HR1.out x7_2 p317 q317
                                        have hw317_0 := hx317_0
                                        cases e317
                                        replace hx317_0 := (HB.out.cell (World.block_lt_of_cell? w _ hx317_0)).trans hx317_0
                                        replace p317 := eq_true p317
                                        replace q317 := eq_true q317
                                        have p322 : 0 ≤ (x7_2 : Int) := of_decide_eq_true (by first | (with_reducible assumption) | assumption)
                                        have q322 : x7_2 < (l1.length : Int) := of_decide_eq_true (by first | (with_reducible assumption) | assumption)
                                        obtain ⟨ad322, e322, hx322_0⟩ := Kd.at_int HR1.out x7_2 p322 q322
                                        have hw322_0 := hx322_0
                                        obtain rfl : ad317 = ad322 := (by injection e322)
                                        replace hx322_0 := (HB.out.cell (World.block_lt_of_cell? w _ hx322_0)).trans hx322_0
                                        replace p322 := eq_true p322
                                        replace q322 := eq_true q322
                                        refine start_ (n := 23) (S := fun w' => True) (ds := []) #[false, false, false, false, false, false, false, false, false, false, false, false, false, false, false, false, false, false, false, false, false, false, false] (by kernel_rfl) rfl rfl trivial (fun hHeld => ?_); refine with_tabW haversacklaw17_ScriptNoise.tab11 haversacklaw17_ScriptNoise.bits11 (fun HT_ HW_ => ?_)
                                        generalize w25.drew = w26 at HB hx317_0 hx322_0 hHeld ⊢
                                        refine pure_ (i := 0) (N := some 46) (v := ?_) (a' := ?_) #[true, false, false, false, false, false, false, false, false, false, false, false, false, false, false, false, false, false, false, false, false, false, false] rfl rfl (any_of HT_.out (by kernel_rfl)) (fun _ _ _ h => h) (Or.inl ⟨by rfl, ?_⟩) ?_ ?_
                                        rotate_left
                                        · intro w'
                                          go_simp
                                          with_reducible rfl
                                        rotate_left
                                        · simp only [Act.put, List.setIfInBounds_toArray, List.set_cons_zero, List.set_cons_succ, i64_w, i32_w]
                                          rfl
                                        refine pure_ (i := 2) (N := some 48) (v := ?_) (a' := ?_) #[true, false, true, false, false, false, false, false, false, false, false, false, false, false, false, false, false, false, false, false, false, false, false] rfl rfl (any_of HT_.out (by kernel_rfl)) (fun _ _ _ h => h) (Or.inl ⟨by rfl, ?_⟩) ?_ ?_
                                        rotate_left
                                        · intro w'
                                          go_simp
                                          with_reducible rfl
                                        rotate_left
                                        · simp only [Act.put, List.setIfInBounds_toArray, List.set_cons_zero, List.set_cons_succ, i64_w, i32_w]
                                          rfl
                                        refine pure_ (i := 3) (N := some 49) (v := ?_) (a' := ?_) #[true, false, true, true, false, false, false, false, false, false, false, false, false, false, false, false, false, false, false, false, false, false, false] rfl rfl (any_of HT_.out (by kernel_rfl)) (fun _ _ _ h => h) (Or.inl ⟨by rfl, ?_⟩) ?_ ?_
                                        rotate_left
                                        · intro w'
                                          go_simp
                                          with_reducible rfl
                                        rotate_left
                                        · simp only [Act.put, List.setIfInBounds_toArray, List.set_cons_zero, List.set_cons_succ, i64_w, i32_w]
                                          rfl
                                        refine pure_ (i := 10) (N := some 56) (v := ?_) (a' := ?_) #[true, false, true, true, false, false, false, false, false, false, true, false, false, false, false, false, false, false, false, false, false, false, false] rfl rfl (any_of HT_.out (by kernel_rfl)) (fun _ _ _ h => h) (Or.inl ⟨by rfl, ?_⟩) ?_ ?_
                                        rotate_left
                                        · intro w'
                                          go_simp
                                          with_reducible rfl
                                        rotate_left
                                        · simp only [Act.put, List.setIfInBounds_toArray, List.set_cons_zero, List.set_cons_succ, i64_w, i32_w]
                                          rfl
                                        refine pure_ (i := 13) (N := some 59) (v := ?_) (a' := ?_) #[true, false, true, true, false, false, false, false, false, false, true, false, false, true, false, false, false, false, false, false, false, false, false] rfl rfl (any_of HT_.out (by kernel_rfl)) (fun _ _ _ h => h) (Or.inl ⟨by rfl, ?_⟩) ?_ ?_
                                        rotate_left
                                        · intro w'
                                          go_simp
                                          with_reducible rfl
                                        rotate_left
                                        · simp only [Act.put, List.setIfInBounds_toArray, List.set_cons_zero, List.set_cons_succ, i64_w, i32_w]
                                          rfl
                                        refine pure_ (i := 14) (N := some 60) (v := ?_) (a' := ?_) #[true, false, true, true, false, false, false, false, false, false, true, false, false, true, true, false, false, false, false, false, false, false, false] rfl rfl (any_of HT_.out (by kernel_rfl)) (fun _ _ _ h => h) (Or.inl ⟨by rfl, ?_⟩) ?_ ?_
                                        rotate_left
                                        · intro w'
                                          go_simp
                                          with_reducible rfl
                                        rotate_left
                                        · simp only [Act.put, List.setIfInBounds_toArray, List.set_cons_zero, List.set_cons_succ, i64_w, i32_w]
                                          rfl
                                        refine inv_at [1, 4, 5, 6, 7, 8, 9, 11, 12, 15, 16, 17, 18, 19, 20, 21, 22] (fun a0_ b a w' => ∃ (v315 : Value) (adz_v315 : Addr) (v320 : Value) (adz_v320 : Addr) (m7_ : Value) (m18_ : Value), a = putSel a0_ b [(1, 47, v315), (4, 50, .pointer (some (ad317.add (x7_2).toNat))), (5, 51, .int .u8 (rd l1 x7_2)), (6, 52, .int .u8 ji15), (7, 53, m7_), (8, 54, .string (rdOf ByteArray.empty y314 (ji15))), (9, 55, .string (x6_2 ++ (rdOf ByteArray.empty y314 (ji15)))), (11, 57, .string ((x6_2 ++ (rdOf ByteArray.empty y314 (ji15))) ++ t313)), (12, 58, v320), (15, 61, .pointer (some (ad317.add (x7_2).toNat))), (16, 62, .int .u8 (rd l1 x7_2)), (17, 63, .int .u8 ji20), (18, 64, m18_), (19, 65, .string (rdOf ByteArray.empty y319 (ji20))), (20, 66, .string (((x6_2 ++ (rdOf ByteArray.empty y314 (ji15))) ++ t313) ++ (rdOf ByteArray.empty y319 (ji20)))), (21, 67, .string ((((x6_2 ++ (rdOf ByteArray.empty y314 (ji15))) ++ t313) ++ (rdOf ByteArray.empty y319 (ji20))) ++ (⟨#[10]⟩ : ByteArray))), (22, 6, .string ((((x6_2 ++ (rdOf ByteArray.empty y314 (ji15))) ++ t313) ++ (rdOf ByteArray.empty y319 (ji20))) ++ (⟨#[10]⟩ : ByteArray)))] ∧ (Below w.heap.size w w') ∧ (b 1 = true → Kd.R Kd.string 9 w' w.heap.size (fun _ => True) v315 y314) ∧ (b 1 = true → ∃ c_, (v315 : Value) = .slice (some adz_v315) y314.length c_) ∧ (b 12 = true → Kd.R Kd.string 9 w' w.heap.size (fun _ => True) v320 y319) ∧ (b 12 = true → ∃ c_, (v320 : Value) = .slice (some adz_v320) y319.length c_) ∧ (b 7 = true → (m7_ : Value) = .pointer (some (adz_v315.add ((ji15)).toNat))) ∧ (b 18 = true → (m18_ : Value) = .pointer (some (adz_v320.add ((ji20)).toNat)))) HT_.out HW_.out (by kernel_rfl) (by kernel_rfl) ?_ ?_ ?_
                                        · exact ⟨.bool false, ⟨0, 0, none⟩, .bool false, ⟨0, 0, none⟩, .bool false, .bool false, by simp only [putSel, Bool.false_eq_true, if_false], HB.out, fun h_ => absurd h_ (by decide), fun h_ => absurd h_ (by decide), fun h_ => absurd h_ (by decide), fun h_ => absurd h_ (by decide), fun h_ => absurd h_ (by decide), fun h_ => absurd h_ (by decide)⟩
                                        · skip
                                          clear HB
                                          refine steps_cons ?_ ?_
                                          · rintro b a w' ⟨v315, adz_v315, v320, adz_v320, m7_, m18_, ha, Q_HB, Q_HO316, Q_HA_HO316, Q_HO321, Q_HA_HO321, Q_X7_, Q_X18_⟩ hb_ hon hoff
                                            refine ⟨_, rfl, fun K hK => ?_⟩
                                            replace ha := Aside0.mk ha
                                            have HB := Aside0.mk Q_HB
                                            refine Kd.R_lit_step Kd.string _ 9 ?hg (N := 47) ?hd (xs := ([(⟨#[]⟩ : ByteArray), (⟨#[10]⟩ : ByteArray), (⟨#[35, 32, 34, 10]⟩ : ByteArray), (⟨#[32, 32, 9]⟩ : ByteArray), (⟨#[9, 35, 32, 120, 10, 32, 32, 32]⟩ : ByteArray)] : List ByteArray)) (inner := [.string (⟨#[]⟩ : ByteArray), .string (⟨#[10]⟩ : ByteArray), .string (⟨#[35, 32, 34, 10]⟩ : ByteArray), .string (⟨#[32, 32, 9]⟩ : ByteArray), .string (⟨#[9, 35, 32, 120, 10, 32, 32, 32]⟩ : ByteArray)]) (ok := fun _ => True) (okp := fun _ => True) ?hr ?hp (fun _ hk => hk) trivial (Below.refl _ _) (Nat.le_refl _) (by simp) ?_; (case hd => rfl); (case hg => rfl); (case hr => first | (go_simp; done) | (go_simp; rfl)); (case hp => exact (Reps.one (show Kd.M Kd.string _ _ _ (⟨#[]⟩ : ByteArray) [.string (⟨#[]⟩ : ByteArray)] from rfl) (Reps.one (show Kd.M Kd.string _ _ _ (⟨#[10]⟩ : ByteArray) [.string (⟨#[10]⟩ : ByteArray)] from rfl) (Reps.one (show Kd.M Kd.string _ _ _ (⟨#[35, 32, 34, 10]⟩ : ByteArray) [.string (⟨#[35, 32, 34, 10]⟩ : ByteArray)] from rfl) (Reps.one (show Kd.M Kd.string _ _ _ (⟨#[32, 32, 9]⟩ : ByteArray) [.string (⟨#[32, 32, 9]⟩ : ByteArray)] from rfl) (Reps.one (show Kd.M Kd.string _ _ _ (⟨#[9, 35, 32, 120, 10, 32, 32, 32]⟩ : ByteArray) [.string (⟨#[9, 35, 32, 120, 10, 32, 32, 32]⟩ : ByteArray)] from rfl) (Reps.none _ _)))))))
                                            intro v315 w27 ho28 hb hg_ hnew_
                                            clear hg_ hnew_
                                            (first | rw [← Ny314.out] at ho28 | (simp only [Int.reduceToNat] at ho28; rw [← Ny314.out] at ho28))
                                            have n0_ := Aside0.mk (Kd.R_lower ho28 (below_size (by repeat (first | (with_reducible first | exact HB.out | apply below_alloc | apply pw_below_drewN | apply below_drew1) | exact HB.out))))
                                            have n1_ := Aside0.mk (below_step (by repeat (first | (with_reducible first | exact HB.out | apply below_alloc | apply pw_below_drewN | apply below_drew1) | exact HB.out)) hb)
                                            have z_HO321 := fun (h0_ : b 12 = true) => (show Kd.R Kd.string 9 w27 w.heap.size (fun _ => True) v320 y319 from by first | exact (Kd.R_elder' (by (with_reducible repeat (first | apply Kd.R_alloc | apply Kd.R_drewN | apply Kd.R_drew)); exact (Q_HO321 h0_)) (Kd.R_base ho28) hb) | exact Kd.R_mono (Kd.R_elder' (by (with_reducible repeat (first | apply Kd.R_alloc | apply Kd.R_drewN | apply Kd.R_drew)); exact (Q_HO321 h0_)) (Kd.R_base ho28) hb) (fun _ h_ => by first | trivial | exact h_ | exact h_.1))
                                            clear HB
                                            have HO316 := n0_
                                            have HB := n1_
                                            clear n0_ n1_
                                            clear hb ho28
                                            obtain ⟨Ao29, co29, eo29⟩ := Kd.R_slice HO316.out
                                            subst eo29
                                            obtain ⟨ado29, fo29, _⟩ := Kd.at_string (Kd.R_reads' HO316.out).2.2 0 (by decide) (by rw [Ny314.out]; simp)
                                            cases fo29
                                            refine hK.out _ _ ⟨.slice (some ado29) y314.length co29, ado29, v320, adz_v320, m7_, m18_, (by rw [ha.out]; exact putSel_upk 0 hb_ rfl rfl rfl), (by repeat (first | (with_reducible first | exact HB.out | apply below_alloc | apply pw_below_drewN | apply below_drew1) | exact HB.out)), fun _ => (by (with_reducible repeat (first | apply Kd.R_alloc | apply Kd.R_drewN | apply Kd.R_drew)); exact HO316.out), fun _ => ⟨_, rfl⟩, z_HO321, Q_HA_HO321, fun h0_ => absurd ((hoff 7 (by kernel_rfl)).symm.trans h0_) (by decide), Q_X18_⟩
                                          refine steps_cons ?_ ?_
                                          · rintro b a w' ⟨v315, adz_v315, v320, adz_v320, m7_, m18_, ha, Q_HB, Q_HO316, Q_HA_HO316, Q_HO321, Q_HA_HO321, Q_X7_, Q_X18_⟩ hb_ hon hoff
                                            refine ⟨_, rfl, fun K hK => ?_⟩
                                            have e48 : a.tmps[48]? = some (.slice (some ad317) l1.length c1) := by rw [ha]; exact (putSel_off rfl).trans rfl
                                            have e49 : a.tmps[49]? = some (.int .i64 x7_2) := by rw [ha]; exact (putSel_off rfl).trans rfl
                                            replace ha := Aside0.mk ha
                                            have HB := Aside0.mk Q_HB
                                            have hs0_ : w'.cell? (ad317.add (x7_2).toNat) = some (.int .u8 (rd l1 x7_2)) := ((HB.out.cell (World.block_lt_of_cell? w _ hw317_0)).trans hw317_0)
                                            refine value_ (w1 := w') (v := .pointer (some (ad317.add (x7_2).toNat))) (by rfl) rfl ?_ ?_
                                            · go_simp
                                              (try simp only [i64_w])
                                              try rfl
                                            refine hK.out _ _ ⟨v315, adz_v315, v320, adz_v320, m7_, m18_, (by rw [ha.out]; exact putSel_upk 1 hb_ rfl rfl rfl), Q_HB, Q_HO316, Q_HA_HO316, Q_HO321, Q_HA_HO321, fun h0_ => absurd ((hoff 7 (by kernel_rfl)).symm.trans h0_) (by decide), Q_X18_⟩
                                          refine steps_cons ?_ ?_
                                          · rintro b a w' ⟨v315, adz_v315, v320, adz_v320, m7_, m18_, ha, Q_HB, Q_HO316, Q_HA_HO316, Q_HO321, Q_HA_HO321, Q_X7_, Q_X18_⟩ hb_ hon hoff
                                            refine ⟨_, rfl, fun K hK => ?_⟩
                                            have e50 : a.tmps[50]? = some (.pointer (some (ad317.add (x7_2).toNat))) := by rw [ha]; exact putSel_on (e := (4, 50, .pointer (some (ad317.add (x7_2).toNat)))) 1 rfl rfl (hon 4 (by kernel_rfl)) rfl
                                            replace ha := Aside0.mk ha
                                            have HB := Aside0.mk Q_HB
                                            have hs0_ : w'.cell? (ad317.add (x7_2).toNat) = some (.int .u8 (rd l1 x7_2)) := ((HB.out.cell (World.block_lt_of_cell? w _ hw317_0)).trans hw317_0)
                                            refine value_ (w1 := w') (v := .int .u8 (rd l1 x7_2)) (by rfl) rfl ?_ ?_
                                            · go_simp
                                              (try simp only [i64_w])
                                              try rfl
                                            refine hK.out _ _ ⟨v315, adz_v315, v320, adz_v320, m7_, m18_, (by rw [ha.out]; exact putSel_upk 2 hb_ rfl rfl rfl), Q_HB, Q_HO316, Q_HA_HO316, Q_HO321, Q_HA_HO321, fun h0_ => absurd ((hoff 7 (by kernel_rfl)).symm.trans h0_) (by decide), Q_X18_⟩
                                          refine steps_cons ?_ ?_
                                          · rintro b a w' ⟨v315, adz_v315, v320, adz_v320, m7_, m18_, ha, Q_HB, Q_HO316, Q_HA_HO316, Q_HO321, Q_HA_HO321, Q_X7_, Q_X18_⟩ hb_ hon hoff
                                            refine ⟨_, rfl, fun K hK => ?_⟩
                                            have e51 : a.tmps[51]? = some (.int .u8 (rd l1 x7_2)) := by rw [ha]; exact putSel_on (e := (5, 51, .int .u8 (rd l1 x7_2))) 2 rfl rfl (hon 5 (by kernel_rfl)) rfl
                                            replace ha := Aside0.mk ha
                                            have HB := Aside0.mk Q_HB
                                            refine value_ (w1 := w') (v := .int .u8 ji15) (by rfl) rfl ?_ ?_
                                            · go_simp
                                              (try simp only [i64_w])
                                              try rfl
                                            refine hK.out _ _ ⟨v315, adz_v315, v320, adz_v320, m7_, m18_, (by rw [ha.out]; exact putSel_upk 3 hb_ rfl rfl rfl), Q_HB, Q_HO316, Q_HA_HO316, Q_HO321, Q_HA_HO321, fun h0_ => absurd ((hoff 7 (by kernel_rfl)).symm.trans h0_) (by decide), Q_X18_⟩
                                          refine steps_cons ?_ ?_
                                          · rintro b a w' ⟨v315, adz_v315, v320, adz_v320, m7_, m18_, ha, Q_HB, Q_HO316, Q_HA_HO316, Q_HO321, Q_HA_HO321, Q_X7_, Q_X18_⟩ hb_ hon hoff
                                            refine ⟨_, rfl, fun K hK => ?_⟩
                                            have e47 : a.tmps[47]? = some (v315) := by rw [ha]; exact putSel_on (e := (1, 47, v315)) 0 rfl rfl (hon 1 (by kernel_rfl)) rfl
                                            have e52 : a.tmps[52]? = some (.int .u8 ji15) := by rw [ha]; exact putSel_on (e := (6, 52, .int .u8 ji15)) 3 rfl rfl (hon 6 (by kernel_rfl)) rfl
                                            replace ha := Aside0.mk ha
                                            have HB := Aside0.mk Q_HB
                                            have HO316 := Aside0.mk (Q_HO316 (hon 1 (by kernel_rfl)))
                                            have HA_HO316 := Aside0.mk (Q_HA_HO316 (hon 1 (by kernel_rfl)))
                                            obtain ⟨c_, hv_⟩ := HA_HO316.out
                                            rw [hv_] at e47
                                            refine value_ (w1 := w') (v := .pointer (some (adz_v315.add ((ji15)).toNat))) (by rfl) rfl ?_ ?_
                                            · go_simp
                                              (try simp only [i64_w])
                                              try rfl
                                            refine hK.out _ _ ⟨v315, adz_v315, v320, adz_v320, (.pointer (some (adz_v315.add ((ji15)).toNat))), m18_, (by rw [ha.out]; exact putSel_upk 4 hb_ rfl rfl rfl), Q_HB, Q_HO316, Q_HA_HO316, Q_HO321, Q_HA_HO321, fun _ => rfl, Q_X18_⟩
                                          refine steps_cons ?_ ?_
                                          · rintro b a w' ⟨v315, adz_v315, v320, adz_v320, m7_, m18_, ha, Q_HB, Q_HO316, Q_HA_HO316, Q_HO321, Q_HA_HO321, Q_X7_, Q_X18_⟩ hb_ hon hoff
                                            refine ⟨_, rfl, fun K hK => ?_⟩
                                            have e53 : a.tmps[53]? = some (m7_) := by rw [ha]; exact putSel_on (e := (7, 53, m7_)) 4 rfl rfl (hon 7 (by kernel_rfl)) rfl
                                            rw [Q_X7_ (hon 7 (by kernel_rfl))] at e53
                                            replace ha := Aside0.mk ha
                                            have HB := Aside0.mk Q_HB
                                            have HO316 := Aside0.mk (Q_HO316 (hon 1 (by kernel_rfl)))
                                            have HA_HO316 := Aside0.mk (Q_HA_HO316 (hon 1 (by kernel_rfl)))
                                            obtain ⟨c_, hv_⟩ := HA_HO316.out
                                            have hF_ := HO316.out
                                            rw [hv_] at hF_
                                            obtain ⟨ad_, ea_, hx_⟩ := Kd.at_string (Kd.R_reads' hF_).2.2 (ji15) (of_eq_true pi318) (of_eq_true qi318)
                                            cases ea_
                                            refine value_ (w1 := w') (v := .string (rdOf ByteArray.empty y314 (ji15))) (by rfl) rfl ?_ ?_
                                            · go_simp
                                              (try simp only [i64_w])
                                              try rfl
                                            refine hK.out _ _ ⟨v315, adz_v315, v320, adz_v320, m7_, m18_, (by rw [ha.out]; exact putSel_upk 5 hb_ rfl rfl rfl), Q_HB, Q_HO316, Q_HA_HO316, Q_HO321, Q_HA_HO321, Q_X7_, Q_X18_⟩
                                          refine steps_cons ?_ ?_
                                          · rintro b a w' ⟨v315, adz_v315, v320, adz_v320, m7_, m18_, ha, Q_HB, Q_HO316, Q_HA_HO316, Q_HO321, Q_HA_HO321, Q_X7_, Q_X18_⟩ hb_ hon hoff
                                            refine ⟨_, rfl, fun K hK => ?_⟩
                                            have e46 : a.tmps[46]? = some (.string x6_2) := by rw [ha]; exact (putSel_off rfl).trans rfl
                                            have e54 : a.tmps[54]? = some (.string (rdOf ByteArray.empty y314 (ji15))) := by rw [ha]; exact putSel_on (e := (8, 54, .string (rdOf ByteArray.empty y314 (ji15)))) 5 rfl rfl (hon 8 (by kernel_rfl)) rfl
                                            replace ha := Aside0.mk ha
                                            have HB := Aside0.mk Q_HB
                                            have HO316 := Aside0.mk (Q_HO316 (hon 1 (by kernel_rfl)))
                                            have HA_HO316 := Aside0.mk (Q_HA_HO316 (hon 1 (by kernel_rfl)))
                                            refine value_ (w1 := w') (v := .string (x6_2 ++ (rdOf ByteArray.empty y314 (ji15)))) (by rfl) rfl ?_ ?_
                                            · go_simp
                                              (try simp only [i64_w])
                                              try rfl
                                            refine hK.out _ _ ⟨v315, adz_v315, v320, adz_v320, m7_, m18_, (by rw [ha.out]; exact putSel_upk 6 hb_ rfl rfl rfl), Q_HB, Q_HO316, Q_HA_HO316, Q_HO321, Q_HA_HO321, Q_X7_, Q_X18_⟩
                                          refine steps_cons ?_ ?_
                                          · rintro b a w' ⟨v315, adz_v315, v320, adz_v320, m7_, m18_, ha, Q_HB, Q_HO316, Q_HA_HO316, Q_HO321, Q_HA_HO321, Q_X7_, Q_X18_⟩ hb_ hon hoff
                                            refine ⟨_, rfl, fun K hK => ?_⟩
                                            have e55 : a.tmps[55]? = some (.string (x6_2 ++ (rdOf ByteArray.empty y314 (ji15)))) := by rw [ha]; exact putSel_on (e := (9, 55, .string (x6_2 ++ (rdOf ByteArray.empty y314 (ji15))))) 6 rfl rfl (hon 9 (by kernel_rfl)) rfl
                                            have e56 : a.tmps[56]? = some (.string t313) := by rw [ha]; exact (putSel_off rfl).trans rfl
                                            replace ha := Aside0.mk ha
                                            have HB := Aside0.mk Q_HB
                                            have HO316 := Aside0.mk (Q_HO316 (hon 1 (by kernel_rfl)))
                                            have HA_HO316 := Aside0.mk (Q_HA_HO316 (hon 1 (by kernel_rfl)))
                                            refine value_ (w1 := w') (v := .string ((x6_2 ++ (rdOf ByteArray.empty y314 (ji15))) ++ t313)) (by rfl) rfl ?_ ?_
                                            · go_simp
                                              (try simp only [i64_w])
                                              try rfl
                                            refine hK.out _ _ ⟨v315, adz_v315, v320, adz_v320, m7_, m18_, (by rw [ha.out]; exact putSel_upk 7 hb_ rfl rfl rfl), Q_HB, Q_HO316, Q_HA_HO316, Q_HO321, Q_HA_HO321, Q_X7_, Q_X18_⟩
                                          refine steps_cons ?_ ?_
                                          · rintro b a w' ⟨v315, adz_v315, v320, adz_v320, m7_, m18_, ha, Q_HB, Q_HO316, Q_HA_HO316, Q_HO321, Q_HA_HO321, Q_X7_, Q_X18_⟩ hb_ hon hoff
                                            refine ⟨_, rfl, fun K hK => ?_⟩
                                            replace ha := Aside0.mk ha
                                            have HB := Aside0.mk Q_HB
                                            refine Kd.R_lit_step Kd.string _ 9 ?hg (N := 58) ?hd (xs := ([(⟨#[]⟩ : ByteArray), (⟨#[32]⟩ : ByteArray), (⟨#[9, 32]⟩ : ByteArray)] : List ByteArray)) (inner := [.string (⟨#[]⟩ : ByteArray), .string (⟨#[32]⟩ : ByteArray), .string (⟨#[9, 32]⟩ : ByteArray)]) (ok := fun _ => True) (okp := fun _ => True) ?hr ?hp (fun _ hk => hk) trivial (Below.refl _ _) (Nat.le_refl _) (by simp) ?_; (case hd => rfl); (case hg => rfl); (case hr => first | (go_simp; done) | (go_simp; rfl)); (case hp => exact (Reps.one (show Kd.M Kd.string _ _ _ (⟨#[]⟩ : ByteArray) [.string (⟨#[]⟩ : ByteArray)] from rfl) (Reps.one (show Kd.M Kd.string _ _ _ (⟨#[32]⟩ : ByteArray) [.string (⟨#[32]⟩ : ByteArray)] from rfl) (Reps.one (show Kd.M Kd.string _ _ _ (⟨#[9, 32]⟩ : ByteArray) [.string (⟨#[9, 32]⟩ : ByteArray)] from rfl) (Reps.none _ _)))))
                                            intro v320 w27 ho28 hb hg_ hnew_
                                            clear hg_ hnew_
                                            (first | rw [← Ny319.out] at ho28 | (simp only [Int.reduceToNat] at ho28; rw [← Ny319.out] at ho28))
                                            have n0_ := Aside0.mk (Kd.R_lower ho28 (below_size (by repeat (first | (with_reducible first | exact HB.out | apply below_alloc | apply pw_below_drewN | apply below_drew1) | exact HB.out))))
                                            have n1_ := Aside0.mk (below_step (by repeat (first | (with_reducible first | exact HB.out | apply below_alloc | apply pw_below_drewN | apply below_drew1) | exact HB.out)) hb)
                                            have z_HO316 := fun (h0_ : b 1 = true) => (show Kd.R Kd.string 9 w27 w.heap.size (fun _ => True) v315 y314 from by first | exact (Kd.R_elder' (by (with_reducible repeat (first | apply Kd.R_alloc | apply Kd.R_drewN | apply Kd.R_drew)); exact (Q_HO316 h0_)) (Kd.R_base ho28) hb) | exact Kd.R_mono (Kd.R_elder' (by (with_reducible repeat (first | apply Kd.R_alloc | apply Kd.R_drewN | apply Kd.R_drew)); exact (Q_HO316 h0_)) (Kd.R_base ho28) hb) (fun _ h_ => by first | trivial | exact h_ | exact h_.1))
                                            clear HB
                                            have HO321 := n0_
                                            have HB := n1_
                                            clear n0_ n1_
                                            clear hb ho28
                                            obtain ⟨Ao29, co29, eo29⟩ := Kd.R_slice HO321.out
                                            subst eo29
                                            obtain ⟨ado29, fo29, _⟩ := Kd.at_string (Kd.R_reads' HO321.out).2.2 0 (by decide) (by rw [Ny319.out]; simp)
                                            cases fo29
                                            refine hK.out _ _ ⟨v315, adz_v315, .slice (some ado29) y319.length co29, ado29, m7_, m18_, (by rw [ha.out]; exact putSel_upk 8 hb_ rfl rfl rfl), (by repeat (first | (with_reducible first | exact HB.out | apply below_alloc | apply pw_below_drewN | apply below_drew1) | exact HB.out)), z_HO316, Q_HA_HO316, fun _ => (by (with_reducible repeat (first | apply Kd.R_alloc | apply Kd.R_drewN | apply Kd.R_drew)); exact HO321.out), fun _ => ⟨_, rfl⟩, Q_X7_, fun h0_ => absurd ((hoff 18 (by kernel_rfl)).symm.trans h0_) (by decide)⟩
                                          refine steps_cons ?_ ?_
                                          · rintro b a w' ⟨v315, adz_v315, v320, adz_v320, m7_, m18_, ha, Q_HB, Q_HO316, Q_HA_HO316, Q_HO321, Q_HA_HO321, Q_X7_, Q_X18_⟩ hb_ hon hoff
                                            refine ⟨_, rfl, fun K hK => ?_⟩
                                            have e59 : a.tmps[59]? = some (.slice (some ad317) l1.length c1) := by rw [ha]; exact (putSel_off rfl).trans rfl
                                            have e60 : a.tmps[60]? = some (.int .i64 x7_2) := by rw [ha]; exact (putSel_off rfl).trans rfl
                                            replace ha := Aside0.mk ha
                                            have HB := Aside0.mk Q_HB
                                            have hs1_ : w'.cell? (ad317.add (x7_2).toNat) = some (.int .u8 (rd l1 x7_2)) := ((HB.out.cell (World.block_lt_of_cell? w _ hw322_0)).trans hw322_0)
                                            refine value_ (w1 := w') (v := .pointer (some (ad317.add (x7_2).toNat))) (by rfl) rfl ?_ ?_
                                            · go_simp
                                              (try simp only [i64_w])
                                              try rfl
                                            refine hK.out _ _ ⟨v315, adz_v315, v320, adz_v320, m7_, m18_, (by rw [ha.out]; exact putSel_upk 9 hb_ rfl rfl rfl), Q_HB, Q_HO316, Q_HA_HO316, Q_HO321, Q_HA_HO321, Q_X7_, fun h0_ => absurd ((hoff 18 (by kernel_rfl)).symm.trans h0_) (by decide)⟩
                                          refine steps_cons ?_ ?_
                                          · rintro b a w' ⟨v315, adz_v315, v320, adz_v320, m7_, m18_, ha, Q_HB, Q_HO316, Q_HA_HO316, Q_HO321, Q_HA_HO321, Q_X7_, Q_X18_⟩ hb_ hon hoff
                                            refine ⟨_, rfl, fun K hK => ?_⟩
                                            have e61 : a.tmps[61]? = some (.pointer (some (ad317.add (x7_2).toNat))) := by rw [ha]; exact putSel_on (e := (15, 61, .pointer (some (ad317.add (x7_2).toNat)))) 9 rfl rfl (hon 15 (by kernel_rfl)) rfl
                                            replace ha := Aside0.mk ha
                                            have HB := Aside0.mk Q_HB
                                            have hs1_ : w'.cell? (ad317.add (x7_2).toNat) = some (.int .u8 (rd l1 x7_2)) := ((HB.out.cell (World.block_lt_of_cell? w _ hw322_0)).trans hw322_0)
                                            refine value_ (w1 := w') (v := .int .u8 (rd l1 x7_2)) (by rfl) rfl ?_ ?_
                                            · go_simp
                                              (try simp only [i64_w])
                                              try rfl
                                            refine hK.out _ _ ⟨v315, adz_v315, v320, adz_v320, m7_, m18_, (by rw [ha.out]; exact putSel_upk 10 hb_ rfl rfl rfl), Q_HB, Q_HO316, Q_HA_HO316, Q_HO321, Q_HA_HO321, Q_X7_, fun h0_ => absurd ((hoff 18 (by kernel_rfl)).symm.trans h0_) (by decide)⟩
                                          refine steps_cons ?_ ?_
                                          · rintro b a w' ⟨v315, adz_v315, v320, adz_v320, m7_, m18_, ha, Q_HB, Q_HO316, Q_HA_HO316, Q_HO321, Q_HA_HO321, Q_X7_, Q_X18_⟩ hb_ hon hoff
                                            refine ⟨_, rfl, fun K hK => ?_⟩
                                            have e62 : a.tmps[62]? = some (.int .u8 (rd l1 x7_2)) := by rw [ha]; exact putSel_on (e := (16, 62, .int .u8 (rd l1 x7_2))) 10 rfl rfl (hon 16 (by kernel_rfl)) rfl
                                            replace ha := Aside0.mk ha
                                            have HB := Aside0.mk Q_HB
                                            refine value_ (w1 := w') (v := .int .u8 ji20) (by rfl) rfl ?_ ?_
                                            · go_simp
                                              (try simp only [i64_w])
                                              try rfl
                                            refine hK.out _ _ ⟨v315, adz_v315, v320, adz_v320, m7_, m18_, (by rw [ha.out]; exact putSel_upk 11 hb_ rfl rfl rfl), Q_HB, Q_HO316, Q_HA_HO316, Q_HO321, Q_HA_HO321, Q_X7_, fun h0_ => absurd ((hoff 18 (by kernel_rfl)).symm.trans h0_) (by decide)⟩
                                          refine steps_cons ?_ ?_
                                          · rintro b a w' ⟨v315, adz_v315, v320, adz_v320, m7_, m18_, ha, Q_HB, Q_HO316, Q_HA_HO316, Q_HO321, Q_HA_HO321, Q_X7_, Q_X18_⟩ hb_ hon hoff
                                            refine ⟨_, rfl, fun K hK => ?_⟩
                                            have e58 : a.tmps[58]? = some (v320) := by rw [ha]; exact putSel_on (e := (12, 58, v320)) 8 rfl rfl (hon 12 (by kernel_rfl)) rfl
                                            have e63 : a.tmps[63]? = some (.int .u8 ji20) := by rw [ha]; exact putSel_on (e := (17, 63, .int .u8 ji20)) 11 rfl rfl (hon 17 (by kernel_rfl)) rfl
                                            replace ha := Aside0.mk ha
                                            have HB := Aside0.mk Q_HB
                                            have HO321 := Aside0.mk (Q_HO321 (hon 12 (by kernel_rfl)))
                                            have HA_HO321 := Aside0.mk (Q_HA_HO321 (hon 12 (by kernel_rfl)))
                                            obtain ⟨c_, hv_⟩ := HA_HO321.out
                                            rw [hv_] at e58
                                            refine value_ (w1 := w') (v := .pointer (some (adz_v320.add ((ji20)).toNat))) (by rfl) rfl ?_ ?_
                                            · go_simp
                                              (try simp only [i64_w])
                                              try rfl
                                            refine hK.out _ _ ⟨v315, adz_v315, v320, adz_v320, m7_, (.pointer (some (adz_v320.add ((ji20)).toNat))), (by rw [ha.out]; exact putSel_upk 12 hb_ rfl rfl rfl), Q_HB, Q_HO316, Q_HA_HO316, Q_HO321, Q_HA_HO321, Q_X7_, fun _ => rfl⟩
                                          refine steps_cons ?_ ?_
                                          · rintro b a w' ⟨v315, adz_v315, v320, adz_v320, m7_, m18_, ha, Q_HB, Q_HO316, Q_HA_HO316, Q_HO321, Q_HA_HO321, Q_X7_, Q_X18_⟩ hb_ hon hoff
                                            refine ⟨_, rfl, fun K hK => ?_⟩
                                            have e64 : a.tmps[64]? = some (m18_) := by rw [ha]; exact putSel_on (e := (18, 64, m18_)) 12 rfl rfl (hon 18 (by kernel_rfl)) rfl
                                            rw [Q_X18_ (hon 18 (by kernel_rfl))] at e64
                                            replace ha := Aside0.mk ha
                                            have HB := Aside0.mk Q_HB
                                            have HO321 := Aside0.mk (Q_HO321 (hon 12 (by kernel_rfl)))
                                            have HA_HO321 := Aside0.mk (Q_HA_HO321 (hon 12 (by kernel_rfl)))
                                            obtain ⟨c_, hv_⟩ := HA_HO321.out
                                            have hF_ := HO321.out
                                            rw [hv_] at hF_
                                            obtain ⟨ad_, ea_, hx_⟩ := Kd.at_string (Kd.R_reads' hF_).2.2 (ji20) (of_eq_true pi323) (of_eq_true qi323)
                                            cases ea_
                                            refine value_ (w1 := w') (v := .string (rdOf ByteArray.empty y319 (ji20))) (by rfl) rfl ?_ ?_
                                            · go_simp
                                              (try simp only [i64_w])
                                              try rfl
                                            refine hK.out _ _ ⟨v315, adz_v315, v320, adz_v320, m7_, m18_, (by rw [ha.out]; exact putSel_upk 13 hb_ rfl rfl rfl), Q_HB, Q_HO316, Q_HA_HO316, Q_HO321, Q_HA_HO321, Q_X7_, Q_X18_⟩
                                          refine steps_cons ?_ ?_
                                          · rintro b a w' ⟨v315, adz_v315, v320, adz_v320, m7_, m18_, ha, Q_HB, Q_HO316, Q_HA_HO316, Q_HO321, Q_HA_HO321, Q_X7_, Q_X18_⟩ hb_ hon hoff
                                            refine ⟨_, rfl, fun K hK => ?_⟩
                                            have e57 : a.tmps[57]? = some (.string ((x6_2 ++ (rdOf ByteArray.empty y314 (ji15))) ++ t313)) := by rw [ha]; exact putSel_on (e := (11, 57, .string ((x6_2 ++ (rdOf ByteArray.empty y314 (ji15))) ++ t313))) 7 rfl rfl (hon 11 (by kernel_rfl)) rfl
                                            have e65 : a.tmps[65]? = some (.string (rdOf ByteArray.empty y319 (ji20))) := by rw [ha]; exact putSel_on (e := (19, 65, .string (rdOf ByteArray.empty y319 (ji20)))) 13 rfl rfl (hon 19 (by kernel_rfl)) rfl
                                            replace ha := Aside0.mk ha
                                            have HB := Aside0.mk Q_HB
                                            have HO316 := Aside0.mk (Q_HO316 (hon 1 (by kernel_rfl)))
                                            have HA_HO316 := Aside0.mk (Q_HA_HO316 (hon 1 (by kernel_rfl)))
                                            have HO321 := Aside0.mk (Q_HO321 (hon 12 (by kernel_rfl)))
                                            have HA_HO321 := Aside0.mk (Q_HA_HO321 (hon 12 (by kernel_rfl)))
                                            refine value_ (w1 := w') (v := .string (((x6_2 ++ (rdOf ByteArray.empty y314 (ji15))) ++ t313) ++ (rdOf ByteArray.empty y319 (ji20)))) (by rfl) rfl ?_ ?_
                                            · go_simp
                                              (try simp only [i64_w])
                                              try rfl
                                            refine hK.out _ _ ⟨v315, adz_v315, v320, adz_v320, m7_, m18_, (by rw [ha.out]; exact putSel_upk 14 hb_ rfl rfl rfl), Q_HB, Q_HO316, Q_HA_HO316, Q_HO321, Q_HA_HO321, Q_X7_, Q_X18_⟩
                                          refine steps_cons ?_ ?_
                                          · rintro b a w' ⟨v315, adz_v315, v320, adz_v320, m7_, m18_, ha, Q_HB, Q_HO316, Q_HA_HO316, Q_HO321, Q_HA_HO321, Q_X7_, Q_X18_⟩ hb_ hon hoff
                                            refine ⟨_, rfl, fun K hK => ?_⟩
                                            have e66 : a.tmps[66]? = some (.string (((x6_2 ++ (rdOf ByteArray.empty y314 (ji15))) ++ t313) ++ (rdOf ByteArray.empty y319 (ji20)))) := by rw [ha]; exact putSel_on (e := (20, 66, .string (((x6_2 ++ (rdOf ByteArray.empty y314 (ji15))) ++ t313) ++ (rdOf ByteArray.empty y319 (ji20))))) 14 rfl rfl (hon 20 (by kernel_rfl)) rfl
                                            replace ha := Aside0.mk ha
                                            have HB := Aside0.mk Q_HB
                                            have HO316 := Aside0.mk (Q_HO316 (hon 1 (by kernel_rfl)))
                                            have HA_HO316 := Aside0.mk (Q_HA_HO316 (hon 1 (by kernel_rfl)))
                                            have HO321 := Aside0.mk (Q_HO321 (hon 12 (by kernel_rfl)))
                                            have HA_HO321 := Aside0.mk (Q_HA_HO321 (hon 12 (by kernel_rfl)))
                                            refine value_ (w1 := w') (v := .string ((((x6_2 ++ (rdOf ByteArray.empty y314 (ji15))) ++ t313) ++ (rdOf ByteArray.empty y319 (ji20))) ++ (⟨#[10]⟩ : ByteArray))) (by rfl) rfl ?_ ?_
                                            · go_simp
                                              (try simp only [i64_w])
                                              try rfl
                                            refine hK.out _ _ ⟨v315, adz_v315, v320, adz_v320, m7_, m18_, (by rw [ha.out]; exact putSel_upk 15 hb_ rfl rfl rfl), Q_HB, Q_HO316, Q_HA_HO316, Q_HO321, Q_HA_HO321, Q_X7_, Q_X18_⟩
                                          refine steps_cons ?_ ?_
                                          · rintro b a w' ⟨v315, adz_v315, v320, adz_v320, m7_, m18_, ha, Q_HB, Q_HO316, Q_HA_HO316, Q_HO321, Q_HA_HO321, Q_X7_, Q_X18_⟩ hb_ hon hoff
                                            refine ⟨_, rfl, fun K hK => ?_⟩
                                            have e67 : a.tmps[67]? = some (.string ((((x6_2 ++ (rdOf ByteArray.empty y314 (ji15))) ++ t313) ++ (rdOf ByteArray.empty y319 (ji20))) ++ (⟨#[10]⟩ : ByteArray))) := by rw [ha]; exact putSel_on (e := (21, 67, .string ((((x6_2 ++ (rdOf ByteArray.empty y314 (ji15))) ++ t313) ++ (rdOf ByteArray.empty y319 (ji20))) ++ (⟨#[10]⟩ : ByteArray)))) 15 rfl rfl (hon 21 (by kernel_rfl)) rfl
                                            replace ha := Aside0.mk ha
                                            have HB := Aside0.mk Q_HB
                                            have HO316 := Aside0.mk (Q_HO316 (hon 1 (by kernel_rfl)))
                                            have HA_HO316 := Aside0.mk (Q_HA_HO316 (hon 1 (by kernel_rfl)))
                                            have HO321 := Aside0.mk (Q_HO321 (hon 12 (by kernel_rfl)))
                                            have HA_HO321 := Aside0.mk (Q_HA_HO321 (hon 12 (by kernel_rfl)))
                                            refine value_ (w1 := w') (v := .string ((((x6_2 ++ (rdOf ByteArray.empty y314 (ji15))) ++ t313) ++ (rdOf ByteArray.empty y319 (ji20))) ++ (⟨#[10]⟩ : ByteArray))) (by rfl) rfl ?_ ?_
                                            · go_simp
                                              (try simp only [i64_w])
                                              try rfl
                                            refine hK.out _ _ ⟨v315, adz_v315, v320, adz_v320, m7_, m18_, (by rw [ha.out]; exact putSel_upk 16 hb_ rfl rfl rfl), Q_HB, Q_HO316, Q_HA_HO316, Q_HO321, Q_HA_HO321, Q_X7_, Q_X18_⟩
                                          exact steps_nil
                                        rintro b a w33 hall ⟨v315, adz_v315, v320, adz_v320, m7_, m18_, ha, Q_HB, Q_HO316, Q_HA_HO316, Q_HO321, Q_HA_HO321, Q_X7_, Q_X18_⟩
                                        clear HB
                                        have hb1_ := hall 1 (by kernel_rfl)
                                        have hb4_ := hall 4 (by kernel_rfl)
                                        have hb5_ := hall 5 (by kernel_rfl)
                                        have hb6_ := hall 6 (by kernel_rfl)
                                        have hb7_ := hall 7 (by kernel_rfl)
                                        have hb8_ := hall 8 (by kernel_rfl)
                                        have hb9_ := hall 9 (by kernel_rfl)
                                        have hb11_ := hall 11 (by kernel_rfl)
                                        have hb12_ := hall 12 (by kernel_rfl)
                                        have hb15_ := hall 15 (by kernel_rfl)
                                        have hb16_ := hall 16 (by kernel_rfl)
                                        have hb17_ := hall 17 (by kernel_rfl)
                                        have hb18_ := hall 18 (by kernel_rfl)
                                        have hb19_ := hall 19 (by kernel_rfl)
                                        have hb20_ := hall 20 (by kernel_rfl)
                                        have hb21_ := hall 21 (by kernel_rfl)
                                        have hb22_ := hall 22 (by kernel_rfl)
                                        subst ha
                                        obtain rfl := Q_X7_ hb7_
                                        obtain rfl := Q_X18_ hb18_
                                        simp only [putSel, hb1_, hb4_, hb5_, hb6_, hb7_, hb8_, hb9_, hb11_, hb12_, hb15_, hb16_, hb17_, hb18_, hb19_, hb20_, hb21_, hb22_, if_true, Act.put, List.setIfInBounds_toArray, List.set_cons_zero, List.set_cons_succ]
                                        have HB := Aside0.mk Q_HB
                                        clear Q_HB
                                        have HO316 := Aside0.mk (Q_HO316 hb1_)
                                        clear Q_HO316
                                        have HA_HO316 := Aside0.mk (Q_HA_HO316 hb1_)
                                        clear Q_HA_HO316
                                        have HO321 := Aside0.mk (Q_HO321 hb12_)
                                        clear Q_HO321
                                        have HA_HO321 := Aside0.mk (Q_HA_HO321 hb12_)
                                        clear Q_HA_HO321
                                        clear hall hb1_ hb4_ hb5_ hb6_ hb7_ hb8_ hb9_ hb11_ hb12_ hb15_ hb16_ hb17_ hb18_ hb19_ hb20_ hb21_ hb22_
                                        obtain ⟨co34, eo34⟩ := HA_HO316.out
                                        clear HA_HO316
                                        subst eo34
                                        obtain ⟨co35, eo35⟩ := HA_HO321.out
                                        clear HA_HO321
                                        subst eo35
                                        try go_wp2
                                        go_roundg k2
                                        case measure => have := HJ4.out; have := HK2.out; omega
                                        case rel => exact ⟨((x5_2 ++ t313) ++ (⟨#[10]⟩ : ByteArray)), ((((x6_2 ++ (rdOf ByteArray.empty y314 (ji15))) ++ t313) ++ (rdOf ByteArray.empty y319 (ji20))) ++ (⟨#[10]⟩ : ByteArray)), (wrap64 (x7_2 + 1)), (by first | rfl | (simp; done) | (simp [*]; done)), (by first | rfl | (refine congrArg Value.bool (Eq.symm ?_); assumption) | (simp; done) | (simp only [← hji15, ← hji20] <;> (first | rfl | simp)) | (simp [*]; done)), (by first | rfl | (simp; done) | (simp [*]; done)), H', ⟨by have := HJ4.out; have := HK2.out; omega⟩, ⟨by repeat (first | (with_reducible first | exact HB.out | apply below_alloc | apply pw_below_drewN | apply below_drew1) | exact HB.out)⟩⟩
                                      · rw [if_neg c24] at H
                                        exact absurd H (by simp)
                                    · rw [if_neg c23] at H
                                      exact absurd H (by simp)
                                  · rw [if_neg c22] at H
                                    exact absurd H (by simp)
                                · rw [if_neg c21] at H
                                  exact absurd H (by simp)
                              · rw [if_neg c19] at H
                                exact absurd H (by simp)
                            · rw [if_neg c18] at H
                              exact absurd H (by simp)
                          · rw [if_neg c17] at H
                            exact absurd H (by simp)
                        · rw [if_neg c16] at H
                          exact absurd H (by simp)
                      · rw [if_neg c14] at H
                        exact absurd H (by simp)
                    · rw [if_neg c13] at H
                      exact absurd H (by simp)
                  · rw [if_neg c12] at H
                    exact absurd H (by simp)
                · rw [if_neg c10] at H
                  exact absurd H (by simp)
              · rw [if_neg c9] at H
                have c9b0 : decide (x7_2 < (l0.length : Int)) = false := decide_eq_false c9
                clear c9
                replace H := Option.bind_eq_some_iff.mp H
                obtain ⟨⟨t324, t325, t326⟩, A360, H⟩ := H
                replace H : ((script_Parse.f k2 x6_2).bind fun bt329 => ((haversackref17_Parse.f k2 x5_2).bind fun bt334 => (if t326 = bt334.2.2 then (if bt329.2.2 = bt334.2.2 then ((haversackhelp_Lines.f k2 t324 bt334.1).bind fun t339 => (if t339 = true then ((haversackhelp_Lines.f k2 bt329.1 bt334.1).bind fun t340 => (some t340)) else (some false))) else (some false)) else (some false)))) = some r := H
                have A36 := Aside0.mk A360
                clear A360
                replace H := Option.bind_eq_some_iff.mp H
                obtain ⟨⟨t329, t330, t331⟩, A370, H⟩ := H
                replace H : ((haversackref17_Parse.f k2 x5_2).bind fun bt334 => (if t326 = bt334.2.2 then (if t331 = bt334.2.2 then ((haversackhelp_Lines.f k2 t324 bt334.1).bind fun t339 => (if t339 = true then ((haversackhelp_Lines.f k2 t329 bt334.1).bind fun t340 => (some t340)) else (some false))) else (some false)) else (some false))) = some r := H
                have A37 := Aside0.mk A370
                clear A370
                replace H := Option.bind_eq_some_iff.mp H
                obtain ⟨⟨t334, t335, t336⟩, A380, H⟩ := H
                replace H : (if t326 = t336 then (if t331 = t336 then ((haversackhelp_Lines.f k2 t324 t334).bind fun t339 => (if t339 = true then ((haversackhelp_Lines.f k2 t329 t334).bind fun t340 => (some t340)) else (some false))) else (some false)) else (some false)) = some r := H
                have A38 := Aside0.mk A380
                clear A380
                by_cases c39 : t326 = t336
                · rw [if_pos c39] at H
                  have c39b0 : (t326 == t336) = true := beq_iff_eq.mpr c39
                  have c39b1 : (t326 != t336) = false := bne_eq_false_iff_eq.mpr c39
                  clear c39
                  by_cases c40 : t331 = t336
                  · rw [if_pos c40] at H
                    have c40b0 : (t331 == t336) = true := beq_iff_eq.mpr c40
                    have c40b1 : (t331 != t336) = false := bne_eq_false_iff_eq.mpr c40
                    clear c40
                    replace H := Option.bind_eq_some_iff.mp H
                    obtain ⟨t339, A410, H⟩ := H
                    replace H : (if t339 = true then ((haversackhelp_Lines.f k2 t329 t334).bind fun t340 => (some t340)) else (some false)) = some r := H
                    have A41 := Aside0.mk A410
                    clear A410
                    by_cases c42 : t339 = true
                    · subst c42
                      have H1 : ((haversackhelp_Lines.f k2 t329 t334).bind fun t340 => (some t340)) = some r := by rw [if_pos rfl] at H; exact H
                      clear H
                      have H := H1
                      clear H1
                      replace H := Option.bind_eq_some_iff.mp H
                      obtain ⟨t340, A430, H⟩ := H
                      replace H : (some t340) = some r := H
                      have A43 := Aside0.mk A430
                      clear A430
                      obtain rfl := Option.some.inj H
                      go_wp2_with (first | ((with_reducible refine gate_callee (f := 12) rfl ?_); refine goesL_ (some 70) rfl rfl Tryd.func12 (by kernel_rfl) rfl #[.string x5_2] rfl (by (try simp only [List.map_toArray, List.map_cons, List.map_nil]); first | done | rfl | (simp only [List.length_drop, List.length_take]; rfl)) ?_; (with_reducible refine (script_Parse.calls k2 x5_2 t324 t325 t326 _ A36.out).mono ?_); rintro e w44 ⟨v327, rfl, ho0, hb⟩; refine ⟨_, rfl, ?_⟩; have n0_ := Aside0.mk (Kd.R_lower ho0 (below_size (by repeat (first | (with_reducible first | exact HB.out | apply below_alloc | apply pw_below_drewN | apply below_drew1) | exact HB.out)))); have n1_ := Aside0.mk (below_step (by repeat (first | (with_reducible first | exact HB.out | apply below_alloc | apply pw_below_drewN | apply below_drew1) | exact HB.out)) hb); clear HB; have HO328 := n0_; have HB := n1_; clear n0_ n1_; (try clear hb); (try clear hb2); (try clear hk); (try clear hi); (try clear ho0)) | ((with_reducible refine gate_callee (f := 12) rfl ?_); refine goesL_ (some 76) rfl rfl Tryd.func12 (by kernel_rfl) rfl #[.string x6_2] rfl (by (try simp only [List.map_toArray, List.map_cons, List.map_nil]); first | done | rfl | (simp only [List.length_drop, List.length_take]; rfl)) ?_; (with_reducible refine (script_Parse.calls k2 x6_2 t329 t330 t331 _ A37.out).mono ?_); rintro e w45 ⟨v332, rfl, ho0, hb⟩; refine ⟨_, rfl, ?_⟩; have n0_ := Aside0.mk (Kd.R_elder' (by (with_reducible repeat (first | apply Kd.R_alloc | apply Kd.R_drewN | apply Kd.R_drew)); exact HO328.out) (Kd.R_base ho0) hb); have n1_ := Aside0.mk (Kd.R_lower (Kd.R_new' ho0 (Kd.R_lt (by (with_reducible repeat (first | apply Kd.R_alloc | apply Kd.R_drewN | apply Kd.R_drew)); exact HO328.out))) (below_size (by repeat (first | (with_reducible first | exact HB.out | apply below_alloc | apply pw_below_drewN | apply below_drew1) | exact HB.out)))); have n2_ := Aside0.mk (below_step (by repeat (first | (with_reducible first | exact HB.out | apply below_alloc | apply pw_below_drewN | apply below_drew1) | exact HB.out)) hb); clear HO328; clear HB; have HO328 := n0_; have HO333 := n1_; have HB := n2_; clear n0_ n1_ n2_; (try clear hb); (try clear hb2); (try clear hk); (try clear hi); (try clear ho0)) | ((with_reducible refine gate_callee (f := 14) rfl ?_); refine goesL_ (some 82) rfl rfl Tryd.func14 (by kernel_rfl) rfl #[.string x5_2] rfl (by (try simp only [List.map_toArray, List.map_cons, List.map_nil]); first | done | rfl | (simp only [List.length_drop, List.length_take]; rfl)) ?_; (with_reducible refine (haversackref17_Parse.calls k2 x5_2 t334 t335 t336 _ A38.out).mono ?_); rintro e w46 ⟨v337, rfl, ho0, hb⟩; refine ⟨_, rfl, ?_⟩; have n0_ := Aside0.mk (Kd.R_elder' (by (with_reducible repeat (first | apply Kd.R_alloc | apply Kd.R_drewN | apply Kd.R_drew)); exact HO328.out) (Kd.R_base ho0) hb); have n1_ := Aside0.mk (Kd.R_elder' (by (with_reducible repeat (first | apply Kd.R_alloc | apply Kd.R_drewN | apply Kd.R_drew)); exact HO333.out) (Kd.R_base ho0) hb); have n2_ := Aside0.mk (Kd.R_lower (Kd.R_new' (Kd.R_new' ho0 (Kd.R_lt (by (with_reducible repeat (first | apply Kd.R_alloc | apply Kd.R_drewN | apply Kd.R_drew)); exact HO328.out))) (Kd.R_lt (by (with_reducible repeat (first | apply Kd.R_alloc | apply Kd.R_drewN | apply Kd.R_drew)); exact HO333.out))) (below_size (by repeat (first | (with_reducible first | exact HB.out | apply below_alloc | apply pw_below_drewN | apply below_drew1) | exact HB.out)))); have n3_ := Aside0.mk (below_step (by repeat (first | (with_reducible first | exact HB.out | apply below_alloc | apply pw_below_drewN | apply below_drew1) | exact HB.out)) hb); clear HO328; clear HO333; clear HB; have HO328 := n0_; have HO333 := n1_; have HO338 := n2_; have HB := n3_; clear n0_ n1_ n2_ n3_; (try clear hb); (try clear hb2); (try clear hk); (try clear hi); (try clear ho0); obtain ⟨Ao47, co47, eo47⟩ := Kd.R_slice HO328.out; subst eo47; obtain ⟨Ao48, co48, eo48⟩ := Kd.R_slice HO338.out; subst eo48) | (go_at_call 15; (with_reducible refine (haversackhelp_Lines.calls k2 _ _ t324 _ _ t334 true _ ?side1 ?side2 ?side3 ?side4 A41.out).mono ?_); (case side1 => repeat (first | exact (Kd.R_reads' HO328.out).2.2 | (with_reducible refine Kd.C_alloc ?_ _) | (with_reducible refine Kd.C_drewN ?_ _) | (with_reducible refine Kd.C_drew ?_))); (case side2 => exact (Kd.R_reads' HO328.out).2.1); (case side3 => repeat (first | exact (Kd.R_reads' HO338.out).2.2 | (with_reducible refine Kd.C_alloc ?_ _) | (with_reducible refine Kd.C_drewN ?_ _) | (with_reducible refine Kd.C_drew ?_))); (case side4 => exact (Kd.R_reads' HO338.out).2.1); rintro e w' ⟨rfl, ⟨nd, rfl⟩⟩; obtain ⟨Ao49, co49, eo49⟩ := Kd.R_slice HO333.out; subst eo49) | (go_at_call 15; (with_reducible refine (haversackhelp_Lines.calls k2 _ _ t329 _ _ t334 t340 _ ?side1 ?side2 ?side3 ?side4 A43.out).mono ?_); (case side1 => repeat (first | exact (Kd.R_reads' HO333.out).2.2 | (with_reducible refine Kd.C_alloc ?_ _) | (with_reducible refine Kd.C_drewN ?_ _) | (with_reducible refine Kd.C_drew ?_))); (case side2 => exact (Kd.R_reads' HO333.out).2.1); (case side3 => repeat (first | exact (Kd.R_reads' HO338.out).2.2 | (with_reducible refine Kd.C_alloc ?_ _) | (with_reducible refine Kd.C_drewN ?_ _) | (with_reducible refine Kd.C_drew ?_))); (case side4 => exact (Kd.R_reads' HO338.out).2.1); rintro e w' ⟨rfl, ⟨nd, rfl⟩⟩))
                      go_ret
                      exact ⟨by first | rfl | (simp [errW_none, errW_some] <;> rfl) | (simp [*, errW_none, errW_some] <;> rfl), by repeat (first | (with_reducible first | exact HB.out | apply below_alloc | apply pw_below_drewN | apply below_drew1) | exact HB.out)⟩
                    · replace c42 := Bool.eq_false_iff.mpr c42
                      subst c42
                      have H1 : (some false) = some r := by rw [if_neg (show ¬ (false = true) by decide)] at H; exact H
                      clear H
                      have H := H1
                      clear H1
                      obtain rfl := Option.some.inj H
                      go_wp2_with (first | ((with_reducible refine gate_callee (f := 12) rfl ?_); refine goesL_ (some 70) rfl rfl Tryd.func12 (by kernel_rfl) rfl #[.string x5_2] rfl (by (try simp only [List.map_toArray, List.map_cons, List.map_nil]); first | done | rfl | (simp only [List.length_drop, List.length_take]; rfl)) ?_; (with_reducible refine (script_Parse.calls k2 x5_2 t324 t325 t326 _ A36.out).mono ?_); rintro e w50 ⟨v327, rfl, ho0, hb⟩; refine ⟨_, rfl, ?_⟩; have n0_ := Aside0.mk (Kd.R_lower ho0 (below_size (by repeat (first | (with_reducible first | exact HB.out | apply below_alloc | apply pw_below_drewN | apply below_drew1) | exact HB.out)))); have n1_ := Aside0.mk (below_step (by repeat (first | (with_reducible first | exact HB.out | apply below_alloc | apply pw_below_drewN | apply below_drew1) | exact HB.out)) hb); clear HB; have HO328 := n0_; have HB := n1_; clear n0_ n1_; (try clear hb); (try clear hb2); (try clear hk); (try clear hi); (try clear ho0)) | ((with_reducible refine gate_callee (f := 12) rfl ?_); refine goesL_ (some 76) rfl rfl Tryd.func12 (by kernel_rfl) rfl #[.string x6_2] rfl (by (try simp only [List.map_toArray, List.map_cons, List.map_nil]); first | done | rfl | (simp only [List.length_drop, List.length_take]; rfl)) ?_; (with_reducible refine (script_Parse.calls k2 x6_2 t329 t330 t331 _ A37.out).mono ?_); rintro e w51 ⟨v332, rfl, ho0, hb⟩; refine ⟨_, rfl, ?_⟩; have n0_ := Aside0.mk (Kd.R_elder' (by (with_reducible repeat (first | apply Kd.R_alloc | apply Kd.R_drewN | apply Kd.R_drew)); exact HO328.out) (Kd.R_base ho0) hb); have n1_ := Aside0.mk (Kd.R_lower (Kd.R_new' ho0 (Kd.R_lt (by (with_reducible repeat (first | apply Kd.R_alloc | apply Kd.R_drewN | apply Kd.R_drew)); exact HO328.out))) (below_size (by repeat (first | (with_reducible first | exact HB.out | apply below_alloc | apply pw_below_drewN | apply below_drew1) | exact HB.out)))); have n2_ := Aside0.mk (below_step (by repeat (first | (with_reducible first | exact HB.out | apply below_alloc | apply pw_below_drewN | apply below_drew1) | exact HB.out)) hb); clear HO328; clear HB; have HO328 := n0_; have HO333 := n1_; have HB := n2_; clear n0_ n1_ n2_; (try clear hb); (try clear hb2); (try clear hk); (try clear hi); (try clear ho0)) | ((with_reducible refine gate_callee (f := 14) rfl ?_); refine goesL_ (some 82) rfl rfl Tryd.func14 (by kernel_rfl) rfl #[.string x5_2] rfl (by (try simp only [List.map_toArray, List.map_cons, List.map_nil]); first | done | rfl | (simp only [List.length_drop, List.length_take]; rfl)) ?_; (with_reducible refine (haversackref17_Parse.calls k2 x5_2 t334 t335 t336 _ A38.out).mono ?_); rintro e w52 ⟨v337, rfl, ho0, hb⟩; refine ⟨_, rfl, ?_⟩; have n0_ := Aside0.mk (Kd.R_elder' (by (with_reducible repeat (first | apply Kd.R_alloc | apply Kd.R_drewN | apply Kd.R_drew)); exact HO328.out) (Kd.R_base ho0) hb); have n1_ := Aside0.mk (Kd.R_elder' (by (with_reducible repeat (first | apply Kd.R_alloc | apply Kd.R_drewN | apply Kd.R_drew)); exact HO333.out) (Kd.R_base ho0) hb); have n2_ := Aside0.mk (Kd.R_lower (Kd.R_new' (Kd.R_new' ho0 (Kd.R_lt (by (with_reducible repeat (first | apply Kd.R_alloc | apply Kd.R_drewN | apply Kd.R_drew)); exact HO328.out))) (Kd.R_lt (by (with_reducible repeat (first | apply Kd.R_alloc | apply Kd.R_drewN | apply Kd.R_drew)); exact HO333.out))) (below_size (by repeat (first | (with_reducible first | exact HB.out | apply below_alloc | apply pw_below_drewN | apply below_drew1) | exact HB.out)))); have n3_ := Aside0.mk (below_step (by repeat (first | (with_reducible first | exact HB.out | apply below_alloc | apply pw_below_drewN | apply below_drew1) | exact HB.out)) hb); clear HO328; clear HO333; clear HB; have HO328 := n0_; have HO333 := n1_; have HO338 := n2_; have HB := n3_; clear n0_ n1_ n2_ n3_; (try clear hb); (try clear hb2); (try clear hk); (try clear hi); (try clear ho0); obtain ⟨Ao53, co53, eo53⟩ := Kd.R_slice HO328.out; subst eo53; obtain ⟨Ao54, co54, eo54⟩ := Kd.R_slice HO338.out; subst eo54) | (go_at_call 15; (with_reducible refine (haversackhelp_Lines.calls k2 _ _ t324 _ _ t334 false _ ?side1 ?side2 ?side3 ?side4 A41.out).mono ?_); (case side1 => repeat (first | exact (Kd.R_reads' HO328.out).2.2 | (with_reducible refine Kd.C_alloc ?_ _) | (with_reducible refine Kd.C_drewN ?_ _) | (with_reducible refine Kd.C_drew ?_))); (case side2 => exact (Kd.R_reads' HO328.out).2.1); (case side3 => repeat (first | exact (Kd.R_reads' HO338.out).2.2 | (with_reducible refine Kd.C_alloc ?_ _) | (with_reducible refine Kd.C_drewN ?_ _) | (with_reducible refine Kd.C_drew ?_))); (case side4 => exact (Kd.R_reads' HO338.out).2.1); rintro e w' ⟨rfl, ⟨nd, rfl⟩⟩))
                      go_ret
                      exact ⟨by first | rfl | (simp [errW_none, errW_some] <;> rfl) | (simp [*, errW_none, errW_some] <;> rfl), by repeat (first | (with_reducible first | exact HB.out | apply below_alloc | apply pw_below_drewN | apply below_drew1) | exact HB.out)⟩
                  · rw [if_neg c40] at H
                    have c40b0 : (t331 == t336) = false := beq_eq_false_iff_ne.mpr c40
                    have c40b1 : (t331 != t336) = true := bne_iff_ne.mpr c40
                    obtain rfl := Option.some.inj H
                    go_wp2_with (first | ((with_reducible refine gate_callee (f := 12) rfl ?_); refine goesL_ (some 70) rfl rfl Tryd.func12 (by kernel_rfl) rfl #[.string x5_2] rfl (by (try simp only [List.map_toArray, List.map_cons, List.map_nil]); first | done | rfl | (simp only [List.length_drop, List.length_take]; rfl)) ?_; (with_reducible refine (script_Parse.calls k2 x5_2 t324 t325 t326 _ A36.out).mono ?_); rintro e w55 ⟨v327, rfl, ho0, hb⟩; refine ⟨_, rfl, ?_⟩; have n0_ := Aside0.mk (Kd.R_lower ho0 (below_size (by repeat (first | (with_reducible first | exact HB.out | apply below_alloc | apply pw_below_drewN | apply below_drew1) | exact HB.out)))); have n1_ := Aside0.mk (below_step (by repeat (first | (with_reducible first | exact HB.out | apply below_alloc | apply pw_below_drewN | apply below_drew1) | exact HB.out)) hb); clear HB; have HO328 := n0_; have HB := n1_; clear n0_ n1_; (try clear hb); (try clear hb2); (try clear hk); (try clear hi); (try clear ho0)) | ((with_reducible refine gate_callee (f := 12) rfl ?_); refine goesL_ (some 76) rfl rfl Tryd.func12 (by kernel_rfl) rfl #[.string x6_2] rfl (by (try simp only [List.map_toArray, List.map_cons, List.map_nil]); first | done | rfl | (simp only [List.length_drop, List.length_take]; rfl)) ?_; (with_reducible refine (script_Parse.calls k2 x6_2 t329 t330 t331 _ A37.out).mono ?_); rintro e w56 ⟨v332, rfl, ho0, hb⟩; refine ⟨_, rfl, ?_⟩; have n0_ := Aside0.mk (Kd.R_elder' (by (with_reducible repeat (first | apply Kd.R_alloc | apply Kd.R_drewN | apply Kd.R_drew)); exact HO328.out) (Kd.R_base ho0) hb); have n1_ := Aside0.mk (Kd.R_lower (Kd.R_new' ho0 (Kd.R_lt (by (with_reducible repeat (first | apply Kd.R_alloc | apply Kd.R_drewN | apply Kd.R_drew)); exact HO328.out))) (below_size (by repeat (first | (with_reducible first | exact HB.out | apply below_alloc | apply pw_below_drewN | apply below_drew1) | exact HB.out)))); have n2_ := Aside0.mk (below_step (by repeat (first | (with_reducible first | exact HB.out | apply below_alloc | apply pw_below_drewN | apply below_drew1) | exact HB.out)) hb); clear HO328; clear HB; have HO328 := n0_; have HO333 := n1_; have HB := n2_; clear n0_ n1_ n2_; (try clear hb); (try clear hb2); (try clear hk); (try clear hi); (try clear ho0)) | ((with_reducible refine gate_callee (f := 14) rfl ?_); refine goesL_ (some 82) rfl rfl Tryd.func14 (by kernel_rfl) rfl #[.string x5_2] rfl (by (try simp only [List.map_toArray, List.map_cons, List.map_nil]); first | done | rfl | (simp only [List.length_drop, List.length_take]; rfl)) ?_; (with_reducible refine (haversackref17_Parse.calls k2 x5_2 t334 t335 t336 _ A38.out).mono ?_); rintro e w57 ⟨v337, rfl, ho0, hb⟩; refine ⟨_, rfl, ?_⟩; have n0_ := Aside0.mk (Kd.R_elder' (by (with_reducible repeat (first | apply Kd.R_alloc | apply Kd.R_drewN | apply Kd.R_drew)); exact HO328.out) (Kd.R_base ho0) hb); have n1_ := Aside0.mk (Kd.R_elder' (by (with_reducible repeat (first | apply Kd.R_alloc | apply Kd.R_drewN | apply Kd.R_drew)); exact HO333.out) (Kd.R_base ho0) hb); have n2_ := Aside0.mk (Kd.R_lower (Kd.R_new' (Kd.R_new' ho0 (Kd.R_lt (by (with_reducible repeat (first | apply Kd.R_alloc | apply Kd.R_drewN | apply Kd.R_drew)); exact HO328.out))) (Kd.R_lt (by (with_reducible repeat (first | apply Kd.R_alloc | apply Kd.R_drewN | apply Kd.R_drew)); exact HO333.out))) (below_size (by repeat (first | (with_reducible first | exact HB.out | apply below_alloc | apply pw_below_drewN | apply below_drew1) | exact HB.out)))); have n3_ := Aside0.mk (below_step (by repeat (first | (with_reducible first | exact HB.out | apply below_alloc | apply pw_below_drewN | apply below_drew1) | exact HB.out)) hb); clear HO328; clear HO333; clear HB; have HO328 := n0_; have HO333 := n1_; have HO338 := n2_; have HB := n3_; clear n0_ n1_ n2_ n3_; (try clear hb); (try clear hb2); (try clear hk); (try clear hi); (try clear ho0)))
                    go_ret
                    exact ⟨by first | rfl | (simp [errW_none, errW_some] <;> rfl) | (simp [*, errW_none, errW_some] <;> rfl), by repeat (first | (with_reducible first | exact HB.out | apply below_alloc | apply pw_below_drewN | apply below_drew1) | exact HB.out)⟩
                · rw [if_neg c39] at H
                  have c39b0 : (t326 == t336) = false := beq_eq_false_iff_ne.mpr c39
                  have c39b1 : (t326 != t336) = true := bne_iff_ne.mpr c39
                  obtain rfl := Option.some.inj H
                  go_wp2_with (first | ((with_reducible refine gate_callee (f := 12) rfl ?_); refine goesL_ (some 70) rfl rfl Tryd.func12 (by kernel_rfl) rfl #[.string x5_2] rfl (by (try simp only [List.map_toArray, List.map_cons, List.map_nil]); first | done | rfl | (simp only [List.length_drop, List.length_take]; rfl)) ?_; (with_reducible refine (script_Parse.calls k2 x5_2 t324 t325 t326 _ A36.out).mono ?_); rintro e w58 ⟨v327, rfl, ho0, hb⟩; refine ⟨_, rfl, ?_⟩; have n0_ := Aside0.mk (Kd.R_lower ho0 (below_size (by repeat (first | (with_reducible first | exact HB.out | apply below_alloc | apply pw_below_drewN | apply below_drew1) | exact HB.out)))); have n1_ := Aside0.mk (below_step (by repeat (first | (with_reducible first | exact HB.out | apply below_alloc | apply pw_below_drewN | apply below_drew1) | exact HB.out)) hb); clear HB; have HO328 := n0_; have HB := n1_; clear n0_ n1_; (try clear hb); (try clear hb2); (try clear hk); (try clear hi); (try clear ho0)) | ((with_reducible refine gate_callee (f := 12) rfl ?_); refine goesL_ (some 76) rfl rfl Tryd.func12 (by kernel_rfl) rfl #[.string x6_2] rfl (by (try simp only [List.map_toArray, List.map_cons, List.map_nil]); first | done | rfl | (simp only [List.length_drop, List.length_take]; rfl)) ?_; (with_reducible refine (script_Parse.calls k2 x6_2 t329 t330 t331 _ A37.out).mono ?_); rintro e w59 ⟨v332, rfl, ho0, hb⟩; refine ⟨_, rfl, ?_⟩; have n0_ := Aside0.mk (Kd.R_elder' (by (with_reducible repeat (first | apply Kd.R_alloc | apply Kd.R_drewN | apply Kd.R_drew)); exact HO328.out) (Kd.R_base ho0) hb); have n1_ := Aside0.mk (Kd.R_lower (Kd.R_new' ho0 (Kd.R_lt (by (with_reducible repeat (first | apply Kd.R_alloc | apply Kd.R_drewN | apply Kd.R_drew)); exact HO328.out))) (below_size (by repeat (first | (with_reducible first | exact HB.out | apply below_alloc | apply pw_below_drewN | apply below_drew1) | exact HB.out)))); have n2_ := Aside0.mk (below_step (by repeat (first | (with_reducible first | exact HB.out | apply below_alloc | apply pw_below_drewN | apply below_drew1) | exact HB.out)) hb); clear HO328; clear HB; have HO328 := n0_; have HO333 := n1_; have HB := n2_; clear n0_ n1_ n2_; (try clear hb); (try clear hb2); (try clear hk); (try clear hi); (try clear ho0)) | ((with_reducible refine gate_callee (f := 14) rfl ?_); refine goesL_ (some 82) rfl rfl Tryd.func14 (by kernel_rfl) rfl #[.string x5_2] rfl (by (try simp only [List.map_toArray, List.map_cons, List.map_nil]); first | done | rfl | (simp only [List.length_drop, List.length_take]; rfl)) ?_; (with_reducible refine (haversackref17_Parse.calls k2 x5_2 t334 t335 t336 _ A38.out).mono ?_); rintro e w60 ⟨v337, rfl, ho0, hb⟩; refine ⟨_, rfl, ?_⟩; have n0_ := Aside0.mk (Kd.R_elder' (by (with_reducible repeat (first | apply Kd.R_alloc | apply Kd.R_drewN | apply Kd.R_drew)); exact HO328.out) (Kd.R_base ho0) hb); have n1_ := Aside0.mk (Kd.R_elder' (by (with_reducible repeat (first | apply Kd.R_alloc | apply Kd.R_drewN | apply Kd.R_drew)); exact HO333.out) (Kd.R_base ho0) hb); have n2_ := Aside0.mk (Kd.R_lower (Kd.R_new' (Kd.R_new' ho0 (Kd.R_lt (by (with_reducible repeat (first | apply Kd.R_alloc | apply Kd.R_drewN | apply Kd.R_drew)); exact HO328.out))) (Kd.R_lt (by (with_reducible repeat (first | apply Kd.R_alloc | apply Kd.R_drewN | apply Kd.R_drew)); exact HO333.out))) (below_size (by repeat (first | (with_reducible first | exact HB.out | apply below_alloc | apply pw_below_drewN | apply below_drew1) | exact HB.out)))); have n3_ := Aside0.mk (below_step (by repeat (first | (with_reducible first | exact HB.out | apply below_alloc | apply pw_below_drewN | apply below_drew1) | exact HB.out)) hb); clear HO328; clear HO333; clear HB; have HO328 := n0_; have HO333 := n1_; have HO338 := n2_; have HB := n3_; clear n0_ n1_ n2_ n3_; (try clear hb); (try clear hb2); (try clear hk); (try clear hi); (try clear ho0)))
                  go_ret
                  exact ⟨by first | rfl | (simp [errW_none, errW_some] <;> rfl) | (simp [*, errW_none, errW_some] <;> rfl), by repeat (first | (with_reducible first | exact HB.out | apply below_alloc | apply pw_below_drewN | apply below_drew1) | exact HB.out)⟩
  · replace c4 := Bool.eq_false_iff.mpr c4
    subst c4
    have H1 : (some false) = some r := by rw [if_neg (show ¬ (false = true) by decide)] at H; exact H
    clear H
    have H := H1
    clear H1
    obtain rfl := Option.some.inj H
    go_enter Tryd.func7, Tryd.ntmps7
    go_wp2_with (first | ((with_reducible refine gate_callee (f := 8) rfl ?_); refine goesL_ (some 18) rfl rfl Tryd.func8 (by kernel_rfl) rfl #[] rfl (by (try simp only [List.map_toArray, List.map_cons, List.map_nil]); first | done | rfl | (simp only [List.length_drop, List.length_take]; rfl)) ?_; (with_reducible refine (haversacklaw17_known.calls k  false _ A3.out).mono ?_); rintro e w61 ⟨rfl, hb⟩; refine ⟨_, rfl, ?_⟩; have n0_ := Aside0.mk (below_step (by repeat (first | (with_reducible first | exact HB.out | apply below_alloc | apply pw_below_drewN | apply below_drew1) | exact HB.out)) hb); clear HB; have HB := n0_; clear n0_; (try clear hb); (try clear hb2); (try clear hk); (try clear hi)))
    go_ret
    exact ⟨by first | rfl | (simp [errW_none, errW_some] <;> rfl) | (simp [*, errW_none, errW_some] <;> rfl), by repeat (first | (with_reducible first | exact HB.out | apply below_alloc | apply pw_below_drewN | apply below_drew1) | exact HB.out)⟩

/-- THE ONE PURE STATEMENT of haversacklaw17_ScriptNoise: yours. -/
def haversacklaw17_ScriptNoise.Pure : Prop := ∀ (l0 : List Int) (l1 : List Int), l0.length ≤ maxLen → l0.length * 1 ≤ 140737488351232 → (∀ x ∈ l0, (Lit.int .u8 x).wf = true) → l1.length ≤ maxLen → l1.length * 1 ≤ 140737488351232 → (∀ x ∈ l1, (Lit.int .u8 x).wf = true) → ∃ k, haversacklaw17_ScriptNoise.f k l0 l1 = some true
theorem haversacklaw17_ScriptNoise.walk (P : haversacklaw17_ScriptNoise.Pure) (a0 : Option Addr) (len0 cap0 : Nat) (z0 : List Int) (a1 : Option Addr) (len1 cap1 : Nat) (z1 : List Int) (w : World) (w0 : (a0 = none ∧ len0 = 0 ∧ cap0 = 0 ∧ z0 = []) ∨ ∃ x, a0 = some x ∧ len0 ≤ cap0 ∧ cap0 ≤ maxLen ∧ z0.length = cap0 ∧ (∀ i, i < z0.length → w.cell? (x.add i) = some (.int .u8 (z0.getD i 0))) ∧ ∀ n ∈ z0, (Lit.int .u8 n).wf = true) (y0 : len0 * 1 ≤ 140737488351232) (w1 : (a1 = none ∧ len1 = 0 ∧ cap1 = 0 ∧ z1 = []) ∨ ∃ x, a1 = some x ∧ len1 ≤ cap1 ∧ cap1 ≤ maxLen ∧ z1.length = cap1 ∧ (∀ i, i < z1.length → w.cell? (x.add i) = some (.int .u8 (z1.getD i 0))) ∧ ∀ n ∈ z1, (Lit.int .u8 n).wf = true) (y1 : len1 * 1 ≤ 140737488351232) :
    Calls Tryd.prog 7 #[.slice a0 len0 cap0, .slice a1 len1 cap1] w fun e w' => e = .returned (.bool true) ∧ Below w.heap.size w w' := by
  obtain ⟨l0, rfl, hr0, hm0, hw0, hc0⟩ := ReadsInt.ofRowC w0
  obtain ⟨l1, rfl, hr1, hm1, hw1, hc1⟩ := ReadsInt.ofRowC w1
  obtain ⟨k, h⟩ := P l0 l1 hm0 y0 hw0 hm1 y1 hw1
  refine (haversacklaw17_ScriptNoise.calls k _ _ l0 _ _ l1 true w (Kd.C_of_reads (d := (0 : Int)) (h1 := fun _ => rfl) hr0) hc0 (Kd.C_of_reads (d := (0 : Int)) (h1 := fun _ => rfl) hr1) hc1 h).mono ?_
  rintro e w' ⟨rfl, hd⟩
  exact ⟨rfl, hd⟩

end Go.Proofs.YtkcemdfhhdjdaaaDoor.P
