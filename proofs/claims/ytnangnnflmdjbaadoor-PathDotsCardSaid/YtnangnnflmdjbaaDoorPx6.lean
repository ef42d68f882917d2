-- by wip/xprint.py: printed out of the translation by this session's program.
import Derived.Test.YtnangnnflmdjbaaDoorPx0
import Derived.Test.YtnangnnflmdjbaaDoorPx1
import Derived.Test.YtnangnnflmdjbaaDoorPx3
namespace Go.Proofs.YtnangnnflmdjbaaDoor.P
open Go.RowKit Go.Proofs.YtnangnnflmdjbaaDoor.Ext Go.Proofs.YtnangnnflmdjbaaDoorW.PrintWords Go.Proofs.YtnangnnflmdjbaaDoorW.PrintLast Go.Proofs.YtnangnnflmdjbaaDoorW.PrintMore
attribute [local go_sem] max2_int min2_int max_two min_two max_three min_three max_four min_four   -- for this text's walks alone
set_option linter.unusedVariables false
set_option linter.unusedSimpArgs false

/-! ### haversacklaw7_PathDots: function 7 -/
mutual
def haversacklaw7_PathDots.j0 : Nat → List Int → List Int → Bool → Option (Bool)
  | 0, _, _, _ => none
  | k + 1, x0, x1, x27 => if x27 = true then (some true) else (haversacklaw7_PathDots.l0 k x0 x1 (⟨#[]⟩ : ByteArray) (⟨#[]⟩ : ByteArray) 0)
def haversacklaw7_PathDots.l0 : Nat → List Int → List Int → ByteArray → ByteArray → Int → Option (Bool)
  | 0, _, _, _, _, _ => none
  | k + 1, x0, x1, x5, x6, x7 => if x7 < (x0.length : Int) then (if 0 ≤ x7 then (if 0 ≤ (Int.tmod (rd x0 x7) 8) then (if (Int.tmod (rd x0 x7) 8) ≤ (((Int.tmod (rd x0 x7) 8) + 1) % 256) then (if (((Int.tmod (rd x0 x7) 8) + 1) % 256) ≤ 8 then (if x7 > 0 then (if x5.size + 1 ≤ 9223372036854775807 then (if x6.size + 1 ≤ 9223372036854775807 then (if (x5 ++ (⟨#[47]⟩ : ByteArray)).size + ((⟨#[97, 98, 99, 100, 101, 102, 103, 104]⟩ : ByteArray).extract ((Int.tmod (rd x0 x7) 8) : Int).toNat ((((Int.tmod (rd x0 x7) 8) + 1) % 256) : Int).toNat).size ≤ 9223372036854775807 then ((some (([(⟨#[]⟩ : ByteArray), (⟨#[46, 47]⟩ : ByteArray), (⟨#[47]⟩ : ByteArray), (⟨#[120, 47, 46, 46, 47]⟩ : ByteArray), (⟨#[121, 47, 122, 47, 46, 46, 47, 46, 46, 47]⟩ : ByteArray)] : List ByteArray) : List ByteArray)).bind fun y227 => (if x7 < (x1.length : Int) then (if 0 ≤ (Int.tmod (rd x1 x7) 5) then (if (Int.tmod (rd x1 x7) 5) < (y227.length : Int) then (if (x6 ++ (⟨#[47]⟩ : ByteArray)).size + (rdOf ByteArray.empty y227 (Int.tmod (rd x1 x7) 5)).size ≤ 9223372036854775807 then (if ((x6 ++ (⟨#[47]⟩ : ByteArray)) ++ (rdOf ByteArray.empty y227 (Int.tmod (rd x1 x7) 5))).size + ((⟨#[97, 98, 99, 100, 101, 102, 103, 104]⟩ : ByteArray).extract ((Int.tmod (rd x0 x7) 8) : Int).toNat ((((Int.tmod (rd x0 x7) 8) + 1) % 256) : Int).toNat).size ≤ 9223372036854775807 then (haversacklaw7_PathDots.l0 k x0 x1 ((x5 ++ (⟨#[47]⟩ : ByteArray)) ++ ((⟨#[97, 98, 99, 100, 101, 102, 103, 104]⟩ : ByteArray).extract ((Int.tmod (rd x0 x7) 8) : Int).toNat ((((Int.tmod (rd x0 x7) 8) + 1) % 256) : Int).toNat)) (((x6 ++ (⟨#[47]⟩ : ByteArray)) ++ (rdOf ByteArray.empty y227 (Int.tmod (rd x1 x7) 5))) ++ ((⟨#[97, 98, 99, 100, 101, 102, 103, 104]⟩ : ByteArray).extract ((Int.tmod (rd x0 x7) 8) : Int).toNat ((((Int.tmod (rd x0 x7) 8) + 1) % 256) : Int).toNat)) (wrap64 (x7 + 1))) else (none)) else (none)) else (none)) else (none)) else (none))) else (none)) else (none)) else (none)) else (if x5.size + ((⟨#[97, 98, 99, 100, 101, 102, 103, 104]⟩ : ByteArray).extract ((Int.tmod (rd x0 x7) 8) : Int).toNat ((((Int.tmod (rd x0 x7) 8) + 1) % 256) : Int).toNat).size ≤ 9223372036854775807 then ((some (([(⟨#[]⟩ : ByteArray), (⟨#[46, 47]⟩ : ByteArray), (⟨#[47]⟩ : ByteArray), (⟨#[120, 47, 46, 46, 47]⟩ : ByteArray), (⟨#[121, 47, 122, 47, 46, 46, 47, 46, 46, 47]⟩ : ByteArray)] : List ByteArray) : List ByteArray)).bind fun y232 => (if x7 < (x1.length : Int) then (if 0 ≤ (Int.tmod (rd x1 x7) 5) then (if (Int.tmod (rd x1 x7) 5) < (y232.length : Int) then (if x6.size + (rdOf ByteArray.empty y232 (Int.tmod (rd x1 x7) 5)).size ≤ 9223372036854775807 then (if (x6 ++ (rdOf ByteArray.empty y232 (Int.tmod (rd x1 x7) 5))).size + ((⟨#[97, 98, 99, 100, 101, 102, 103, 104]⟩ : ByteArray).extract ((Int.tmod (rd x0 x7) 8) : Int).toNat ((((Int.tmod (rd x0 x7) 8) + 1) % 256) : Int).toNat).size ≤ 9223372036854775807 then (haversacklaw7_PathDots.l0 k x0 x1 (x5 ++ ((⟨#[97, 98, 99, 100, 101, 102, 103, 104]⟩ : ByteArray).extract ((Int.tmod (rd x0 x7) 8) : Int).toNat ((((Int.tmod (rd x0 x7) 8) + 1) % 256) : Int).toNat)) ((x6 ++ (rdOf ByteArray.empty y232 (Int.tmod (rd x1 x7) 5))) ++ ((⟨#[97, 98, 99, 100, 101, 102, 103, 104]⟩ : ByteArray).extract ((Int.tmod (rd x0 x7) 8) : Int).toNat ((((Int.tmod (rd x0 x7) 8) + 1) % 256) : Int).toNat)) (wrap64 (x7 + 1))) else (none)) else (none)) else (none)) else (none)) else (none))) else (none))) else (none)) else (none)) else (none)) else (none)) else (if (x0.length : Int) > 0 then (if 0 < (x1.length : Int) then (haversacklaw7_PathDots.j2 k x5 x6 ((Int.tmod (rd x1 0) 5) == 2)) else (none)) else (haversacklaw7_PathDots.j2 k x5 x6 false))
def haversacklaw7_PathDots.j2 : Nat → ByteArray → ByteArray → Bool → Option (Bool)
  | 0, _, _, _ => none
  | k + 1, x5, x6, x76 => if x76 = true then ((path_Clean.f x6).bind fun bt238 => (some (bt238.2 == 51))) else ((path_Clean.f x6).bind fun bt240 => (if x5.toList = ([] : List UInt8) then (haversacklaw7_PathDots.j3 k x5 bt240.1 bt240.2 (⟨#[46, 47]⟩ : ByteArray)) else (haversacklaw7_PathDots.j3 k x5 bt240.1 bt240.2 (⟨#[47]⟩ : ByteArray))))
def haversacklaw7_PathDots.j3 : Nat → ByteArray → ByteArray → Int → ByteArray → Option (Bool)
  | 0, _, _, _, _ => none
  | k + 1, x5, x11, x12, x13 => if x5.size + x13.size ≤ 9223372036854775807 then ((path_Clean.f (x5 ++ x13)).bind fun bt242 => (if x12 = 0 then (if x11.toList = x5.toList then (if bt242.2 = 0 then (if bt242.1.toList = x5.toList then ((path_Parts.f x11).bind fun t244 => ((haversackref7_Parts.f k x5).bind fun t247 => ((haversackhelp_Strings.f k t244 t247).bind fun t250 => (some t250)))) else (some false)) else (some false)) else (some false)) else (some false))) else (none)
end
def haversacklaw7_PathDots.f (k : Nat) (l0 : List Int) (l1 : List Int) : Option (Bool) := (haversacklaw7_known.f k).bind fun t224 => (if t224 = true then (if (l0.length : Int) > 8 then (haversacklaw7_PathDots.j0 k l0 l1 true) else (haversacklaw7_PathDots.j0 k l0 l1 (decide ((l1.length : Int) < (l0.length : Int))))) else (some false))
theorem haversacklaw7_PathDots.mono_l : ∀ k, (∀ y0 y1 y2, LeO (haversacklaw7_PathDots.j0 k y0 y1 y2) (haversacklaw7_PathDots.j0 (k + 1) y0 y1 y2)) ∧ (∀ y0 y1 y2 y3 y4, LeO (haversacklaw7_PathDots.l0 k y0 y1 y2 y3 y4) (haversacklaw7_PathDots.l0 (k + 1) y0 y1 y2 y3 y4)) ∧ (∀ y0 y1 y2, LeO (haversacklaw7_PathDots.j2 k y0 y1 y2) (haversacklaw7_PathDots.j2 (k + 1) y0 y1 y2)) ∧ (∀ y0 y1 y2 y3, LeO (haversacklaw7_PathDots.j3 k y0 y1 y2 y3) (haversacklaw7_PathDots.j3 (k + 1) y0 y1 y2 y3))
  | 0 => ⟨fun _ _ _ r h => by simp [haversacklaw7_PathDots.j0] at h, fun _ _ _ _ _ r h => by simp [haversacklaw7_PathDots.l0] at h, fun _ _ _ r h => by simp [haversacklaw7_PathDots.j2] at h, fun _ _ _ _ r h => by simp [haversacklaw7_PathDots.j3] at h⟩
  | k + 1 => by
    obtain ⟨ih0, ih1, ih2, ih3⟩ := haversacklaw7_PathDots.mono_l k
    refine ⟨?_, ?_, ?_, ?_⟩
    · intro y0 y1 y2
      unfold haversacklaw7_PathDots.j0
      repeat' first
      | (with_reducible exact ih0 _ _ _)
      | (with_reducible exact ih1 _ _ _ _ _)
      | (with_reducible exact ih2 _ _ _)
      | (with_reducible exact ih3 _ _ _ _)
      | (with_reducible exact haversackhelp_Strings.mono _ _ _)
      | (with_reducible exact haversacklaw7_known.mono _)
      | (with_reducible exact haversackref7_Parts.mono _ _)
      | (with_reducible exact LeO.refl _)
      | (with_reducible exact LeO.none _)
      | (with_reducible refine LeO.ite ?_ ?_)
      | (with_reducible refine LeO.bind ?_ (fun _ => ?_))
      | exact ih0 _ _ _
      | exact ih1 _ _ _ _ _
      | exact ih2 _ _ _
      | exact ih3 _ _ _ _
      | exact haversackhelp_Strings.mono _ _ _
      | exact haversacklaw7_known.mono _
      | exact haversackref7_Parts.mono _ _
      | exact LeO.none _
      | refine LeO.ite ?_ ?_
      | refine LeO.bind ?_ (fun _ => ?_)
    · intro y0 y1 y2 y3 y4
      unfold haversacklaw7_PathDots.l0
      repeat' first
      | (with_reducible exact ih0 _ _ _)
      | (with_reducible exact ih1 _ _ _ _ _)
      | (with_reducible exact ih2 _ _ _)
      | (with_reducible exact ih3 _ _ _ _)
      | (with_reducible exact haversackhelp_Strings.mono _ _ _)
      | (with_reducible exact haversacklaw7_known.mono _)
      | (with_reducible exact haversackref7_Parts.mono _ _)
      | (with_reducible exact LeO.refl _)
      | (with_reducible exact LeO.none _)
      | (with_reducible refine LeO.ite ?_ ?_)
      | (with_reducible refine LeO.bind ?_ (fun _ => ?_))
      | exact ih0 _ _ _
      | exact ih1 _ _ _ _ _
      | exact ih2 _ _ _
      | exact ih3 _ _ _ _
      | exact haversackhelp_Strings.mono _ _ _
      | exact haversacklaw7_known.mono _
      | exact haversackref7_Parts.mono _ _
      | exact LeO.none _
      | refine LeO.ite ?_ ?_
      | refine LeO.bind ?_ (fun _ => ?_)
    · intro y0 y1 y2
      unfold haversacklaw7_PathDots.j2
      repeat' first
      | (with_reducible exact ih0 _ _ _)
      | (with_reducible exact ih1 _ _ _ _ _)
      | (with_reducible exact ih2 _ _ _)
      | (with_reducible exact ih3 _ _ _ _)
      | (with_reducible exact haversackhelp_Strings.mono _ _ _)
      | (with_reducible exact haversacklaw7_known.mono _)
      | (with_reducible exact haversackref7_Parts.mono _ _)
      | (with_reducible exact LeO.refl _)
      | (with_reducible exact LeO.none _)
      | (with_reducible refine LeO.ite ?_ ?_)
      | (with_reducible refine LeO.bind ?_ (fun _ => ?_))
      | exact ih0 _ _ _
      | exact ih1 _ _ _ _ _
      | exact ih2 _ _ _
      | exact ih3 _ _ _ _
      | exact haversackhelp_Strings.mono _ _ _
      | exact haversacklaw7_known.mono _
      | exact haversackref7_Parts.mono _ _
      | exact LeO.none _
      | refine LeO.ite ?_ ?_
      | refine LeO.bind ?_ (fun _ => ?_)
    · intro y0 y1 y2 y3
      unfold haversacklaw7_PathDots.j3
      repeat' first
      | (with_reducible exact ih0 _ _ _)
      | (with_reducible exact ih1 _ _ _ _ _)
      | (with_reducible exact ih2 _ _ _)
      | (with_reducible exact ih3 _ _ _ _)
      | (with_reducible exact haversackhelp_Strings.mono _ _ _)
      | (with_reducible exact haversacklaw7_known.mono _)
      | (with_reducible exact haversackref7_Parts.mono _ _)
      | (with_reducible exact LeO.refl _)
      | (with_reducible exact LeO.none _)
      | (with_reducible refine LeO.ite ?_ ?_)
      | (with_reducible refine LeO.bind ?_ (fun _ => ?_))
      | exact ih0 _ _ _
      | exact ih1 _ _ _ _ _
      | exact ih2 _ _ _
      | exact ih3 _ _ _ _
      | exact haversackhelp_Strings.mono _ _ _
      | exact haversacklaw7_known.mono _
      | exact haversackref7_Parts.mono _ _
      | exact LeO.none _
      | refine LeO.ite ?_ ?_
      | refine LeO.bind ?_ (fun _ => ?_)
theorem haversacklaw7_PathDots.mono : ∀ a0 a1 k, LeO (haversacklaw7_PathDots.f k a0 a1) (haversacklaw7_PathDots.f (k + 1) a0 a1) := by
  intro a0 a1 k
  obtain ⟨ih0, ih1, ih2, ih3⟩ := haversacklaw7_PathDots.mono_l k
  unfold haversacklaw7_PathDots.f
  repeat' first
      | (with_reducible exact ih0 _ _ _)
      | (with_reducible exact ih1 _ _ _ _ _)
      | (with_reducible exact ih2 _ _ _)
      | (with_reducible exact ih3 _ _ _ _)
      | (with_reducible exact haversackhelp_Strings.mono _ _ _)
      | (with_reducible exact haversacklaw7_known.mono _)
      | (with_reducible exact haversackref7_Parts.mono _ _)
      | (with_reducible exact LeO.refl _)
      | (with_reducible exact LeO.none _)
      | (with_reducible refine LeO.ite ?_ ?_)
      | (with_reducible refine LeO.bind ?_ (fun _ => ?_))
      | exact ih0 _ _ _
      | exact ih1 _ _ _ _ _
      | exact ih2 _ _ _
      | exact ih3 _ _ _ _
      | exact haversackhelp_Strings.mono _ _ _
      | exact haversacklaw7_known.mono _
      | exact haversackref7_Parts.mono _ _
      | exact LeO.none _
      | refine LeO.ite ?_ ?_
      | refine LeO.bind ?_ (fun _ => ?_)
set_option maxHeartbeats 8000000 in
set_option maxRecDepth 100000 in
theorem haversacklaw7_PathDots.calls (k : Nat) (A0 : Option Addr) (c0 : Nat) (l0 : List Int) (A1 : Option Addr) (c1 : Nat) (l1 : List Int) (r : Bool) (w : World) (hr0 : Kd.C (Kd.int .u8) w A0 l0.length l0) (hc0 : l0.length ≤ c0) (hr1 : Kd.C (Kd.int .u8) w A1 l1.length l1) (hc1 : l1.length ≤ c1) (h : haversacklaw7_PathDots.f k l0 l1 = some r) :
    Calls Tryd.prog 7 #[.slice A0 l0.length c0, .slice A1 l1.length c1] w fun e w' => e = .returned (.bool r) ∧ Below w.heap.size w w' := by
  have HR0 := Aside0.mk hr0
  have HC0 := Aside0.mk hc0
  clear hr0 hc0
  have HR1 := Aside0.mk hr1
  have HC1 := Aside0.mk hc1
  clear hr1 hc1
  have HB := Aside0.mk (Below.refl w.heap.size w)
  have H : ((haversacklaw7_known.f k).bind fun t224 => (if t224 = true then (if (l0.length : Int) > 8 then (haversacklaw7_PathDots.j0 k l0 l1 true) else (haversacklaw7_PathDots.j0 k l0 l1 (decide ((l1.length : Int) < (l0.length : Int))))) else (some false))) = some r := h
  clear h
  replace H := Option.bind_eq_some_iff.mp H
  obtain ⟨t224, A30, H⟩ := H
  replace H : (if t224 = true then (if (l0.length : Int) > 8 then (haversacklaw7_PathDots.j0 k l0 l1 true) else (haversacklaw7_PathDots.j0 k l0 l1 (decide ((l1.length : Int) < (l0.length : Int))))) else (some false)) = some r := H
  have A3 := Aside0.mk A30
  clear A30
  by_cases c4 : t224 = true
  · subst c4
    have H1 : (if (l0.length : Int) > 8 then (haversacklaw7_PathDots.j0 k l0 l1 true) else (haversacklaw7_PathDots.j0 k l0 l1 (decide ((l1.length : Int) < (l0.length : Int))))) = some r := by rw [if_pos rfl] at H; exact H
    clear H
    have H := H1
    clear H1
    have HC5 := Aside0.mk H
    clear H
    go_enter Tryd.func7, Tryd.ntmps7
    go_upto_region 3 with (first | (go_at_call 9; (with_reducible refine (haversacklaw7_known.calls k  true _ A3.out).mono ?_); rintro e w6 ⟨rfl, hb⟩; have n0_ := Aside0.mk (below_step (by repeat (first | (with_reducible first | exact HB.out | apply below_alloc | apply pw_below_drewN | apply below_drew1) | exact HB.out)) hb); clear HB; have HB := n0_; clear n0_; (try clear hb); (try clear hb2); (try clear hk); (try clear hi)))
    repeat (go_quiet (first | (go_at_call 9; (with_reducible refine (haversacklaw7_known.calls k  true _ A3.out).mono ?_); rintro e w6 ⟨rfl, hb⟩; have n0_ := Aside0.mk (below_step (by repeat (first | (with_reducible first | exact HB.out | apply below_alloc | apply pw_below_drewN | apply below_drew1) | exact HB.out)) hb); clear HB; have HB := n0_; clear n0_; (try clear hb); (try clear hb2); (try clear hk); (try clear hi))); go_upto_region 3 with (first | (go_at_call 9; (with_reducible refine (haversacklaw7_known.calls k  true _ A3.out).mono ?_); rintro e w6 ⟨rfl, hb⟩; have n0_ := Aside0.mk (below_step (by repeat (first | (with_reducible first | exact HB.out | apply below_alloc | apply pw_below_drewN | apply below_drew1) | exact HB.out)) hb); clear HB; have HB := n0_; clear n0_; (try clear hb); (try clear hb2); (try clear hk); (try clear hi))))
    (try simp only [Act.put, List.setIfInBounds_toArray, List.set_cons_zero, List.set_cons_succ])
    go_cut [27] (fun v27 wc => ∃ (kq : Nat) (x27_4 : Bool), v27 = .bool x27_4 ∧ Aside0 (haversacklaw7_PathDots.j0 kq l0 l1 x27_4 = some r) ∧ Aside0 (kq ≤ k) ∧ Aside0 (Below w.heap.size w wc))
    case first =>
      have H := HC5.out
      clear HC5
      by_cases c7 : (l0.length : Int) > 8
      · rw [if_pos c7] at H
        have c7b0 : decide (8 < (l0.length : Int)) = true := decide_eq_true c7
        have c7b1 : decide (8 < l0.length) = true := decide_eq_true (by omega)
        clear c7
        (first | rw [c7b0] | (simp only [i64_w, i32_w]; rw [c7b0]) | skip)
        have H' := Aside0.mk H
        clear H
        go_wp2
        repeat (go_quiet (fail); try go_wp2)
        go_meet
        case rel => exact ⟨_, (true), (by first | rfl | (simp; done) | (simp [*]; done)), H', ⟨by first | omega | exact Nat.le_refl _⟩, ⟨by repeat (first | (with_reducible first | exact HB.out | apply below_alloc | apply pw_below_drewN | apply below_drew1) | exact HB.out)⟩⟩
      · rw [if_neg c7] at H
        have c7b0 : decide (8 < (l0.length : Int)) = false := decide_eq_false c7
        have c7b1 : decide (8 < l0.length) = false := decide_eq_false (by omega)
        clear c7
        (first | rw [c7b0] | (simp only [i64_w, i32_w]; rw [c7b0]) | skip)
        have H' := Aside0.mk H
        clear H
        go_wp2
        repeat (go_quiet (fail); try go_wp2)
        go_meet
        case rel => exact ⟨_, (decide ((l1.length : Int) < (l0.length : Int))), (by first | rfl | (simp; done) | (simp [*]; done)), H', ⟨by first | omega | exact Nat.le_refl _⟩, ⟨by repeat (first | (with_reducible first | exact HB.out | apply below_alloc | apply pw_below_drewN | apply below_drew1) | exact HB.out)⟩⟩
    case rest =>
      clear HC5
      try clear c1
      try clear p2
      try clear c4
      try clear c7
      try clear c7b0
      try clear c7b1
      obtain ⟨kq, x27_4, rfl, HA, HJ4, HB⟩ := hcut
      cases kq with
      | zero => exact absurd HA.out (by simp [haversacklaw7_PathDots.j0])
      | succ kj4 =>
        have H := HA.out
        clear HA
        simp only [haversacklaw7_PathDots.j0] at H
        by_cases c8 : x27_4 = true
        · subst c8
          have H1 : (some true) = some r := by rw [if_pos rfl] at H; exact H
          clear H
          have H := H1
          clear H1
          obtain rfl := Option.some.inj H
          go_wp2
          repeat (go_quiet (fail); try go_wp2)
          go_ret
          exact ⟨by first | rfl | (simp [errW_none, errW_some] <;> rfl) | (simp [*, errW_none, errW_some] <;> rfl), by repeat (first | (with_reducible first | exact HB.out | apply below_alloc | apply pw_below_drewN | apply below_drew1) | exact HB.out)⟩
        · replace c8 := Bool.eq_false_iff.mpr c8
          subst c8
          have H1 : (haversacklaw7_PathDots.l0 kj4 l0 l1 (⟨#[]⟩ : ByteArray) (⟨#[]⟩ : ByteArray) 0) = some r := by rw [if_neg (show ¬ (false = true) by decide)] at H; exact H
          clear H
          have H := H1
          clear H1
          have H' := Aside0.mk H
          clear H
          go_wp2
          repeat (go_quiet (fail); try go_wp2)
          go_loopg [5, 6, 7] kj4 (fun kq v5 v6 v7 w' => ∃ (x5_2 : ByteArray) (x6_2 : ByteArray) (x7_2 : Int), v5 = .string x5_2 ∧ v6 = .string x6_2 ∧ v7 = .int .i64 x7_2 ∧ Aside0 (haversacklaw7_PathDots.l0 kq l0 l1 x5_2 x6_2 x7_2 = some r) ∧ Aside0 (kq ≤ kj4) ∧ Aside0 (Below w.heap.size w w'))
          case atStart => exact ⟨((⟨#[]⟩ : ByteArray)), ((⟨#[]⟩ : ByteArray)), (0), (by first | rfl | (simp; done) | (simp [*]; done)), (by first | rfl | (simp; done) | (simp [*]; done)), (by first | rfl | (simp; done) | (simp [*]; done)), H', ⟨Nat.le_refl _⟩, ⟨by repeat (first | (with_reducible first | exact HB.out | apply below_alloc | apply pw_below_drewN | apply below_drew1) | exact HB.out)⟩⟩
          case round =>
            clear H'
            try clear c1
            try clear p2
            try clear c4
            try clear c7
            try clear c7b0
            try clear c7b1
            try clear c8
            try clear p2
            obtain ⟨x5_2, x6_2, x7_2, rfl, rfl, rfl, HA, HK2, HB⟩ := hrel
            cases gk with
            | zero => exact absurd HA.out (by simp [haversacklaw7_PathDots.l0])
            | succ k2 =>
              have H := HA.out
              clear HA
              simp only [haversacklaw7_PathDots.l0] at H
              by_cases c9 : x7_2 < (l0.length : Int)
              · rw [if_pos c9] at H
                have c9b0 : decide (x7_2 < (l0.length : Int)) = true := decide_eq_true c9
                clear c9
                by_cases c10 : 0 ≤ x7_2
                · rw [if_pos c10] at H
                  have c10b0 : decide (0 ≤ x7_2) = true := decide_eq_true c10
                  clear c10
                  obtain ⟨ji11, hji11⟩ : ∃ j_ : Int, (Int.tmod (rd l0 x7_2) 8) = j_ := ⟨_, rfl⟩
                  replace H : (if 0 ≤ (ji11) then (if (ji11) ≤ (((ji11) + 1) % 256) then (if (((ji11) + 1) % 256) ≤ 8 then (if x7_2 > 0 then (if x5_2.size + 1 ≤ 9223372036854775807 then (if x6_2.size + 1 ≤ 9223372036854775807 then (if (x5_2 ++ (⟨#[47]⟩ : ByteArray)).size + ((⟨#[97, 98, 99, 100, 101, 102, 103, 104]⟩ : ByteArray).extract ((ji11) : Int).toNat ((((ji11) + 1) % 256) : Int).toNat).size ≤ 9223372036854775807 then ((some (([(⟨#[]⟩ : ByteArray), (⟨#[46, 47]⟩ : ByteArray), (⟨#[47]⟩ : ByteArray), (⟨#[120, 47, 46, 46, 47]⟩ : ByteArray), (⟨#[121, 47, 122, 47, 46, 46, 47, 46, 46, 47]⟩ : ByteArray)] : List ByteArray) : List ByteArray)).bind fun y227 => (if x7_2 < (l1.length : Int) then (if 0 ≤ (Int.tmod (rd l1 x7_2) 5) then (if (Int.tmod (rd l1 x7_2) 5) < (y227.length : Int) then (if (x6_2 ++ (⟨#[47]⟩ : ByteArray)).size + (rdOf ByteArray.empty y227 (Int.tmod (rd l1 x7_2) 5)).size ≤ 9223372036854775807 then (if ((x6_2 ++ (⟨#[47]⟩ : ByteArray)) ++ (rdOf ByteArray.empty y227 (Int.tmod (rd l1 x7_2) 5))).size + ((⟨#[97, 98, 99, 100, 101, 102, 103, 104]⟩ : ByteArray).extract ((ji11) : Int).toNat ((((ji11) + 1) % 256) : Int).toNat).size ≤ 9223372036854775807 then (haversacklaw7_PathDots.l0 k2 l0 l1 ((x5_2 ++ (⟨#[47]⟩ : ByteArray)) ++ ((⟨#[97, 98, 99, 100, 101, 102, 103, 104]⟩ : ByteArray).extract ((ji11) : Int).toNat ((((ji11) + 1) % 256) : Int).toNat)) (((x6_2 ++ (⟨#[47]⟩ : ByteArray)) ++ (rdOf ByteArray.empty y227 (Int.tmod (rd l1 x7_2) 5))) ++ ((⟨#[97, 98, 99, 100, 101, 102, 103, 104]⟩ : ByteArray).extract ((ji11) : Int).toNat ((((ji11) + 1) % 256) : Int).toNat)) (wrap64 (x7_2 + 1))) else (none)) else (none)) else (none)) else (none)) else (none))) else (none)) else (none)) else (none)) else (if x5_2.size + ((⟨#[97, 98, 99, 100, 101, 102, 103, 104]⟩ : ByteArray).extract ((ji11) : Int).toNat ((((ji11) + 1) % 256) : Int).toNat).size ≤ 9223372036854775807 then ((some (([(⟨#[]⟩ : ByteArray), (⟨#[46, 47]⟩ : ByteArray), (⟨#[47]⟩ : ByteArray), (⟨#[120, 47, 46, 46, 47]⟩ : ByteArray), (⟨#[121, 47, 122, 47, 46, 46, 47, 46, 46, 47]⟩ : ByteArray)] : List ByteArray) : List ByteArray)).bind fun y232 => (if x7_2 < (l1.length : Int) then (if 0 ≤ (Int.tmod (rd l1 x7_2) 5) then (if (Int.tmod (rd l1 x7_2) 5) < (y232.length : Int) then (if x6_2.size + (rdOf ByteArray.empty y232 (Int.tmod (rd l1 x7_2) 5)).size ≤ 9223372036854775807 then (if (x6_2 ++ (rdOf ByteArray.empty y232 (Int.tmod (rd l1 x7_2) 5))).size + ((⟨#[97, 98, 99, 100, 101, 102, 103, 104]⟩ : ByteArray).extract ((ji11) : Int).toNat ((((ji11) + 1) % 256) : Int).toNat).size ≤ 9223372036854775807 then (haversacklaw7_PathDots.l0 k2 l0 l1 (x5_2 ++ ((⟨#[97, 98, 99, 100, 101, 102, 103, 104]⟩ : ByteArray).extract ((ji11) : Int).toNat ((((ji11) + 1) % 256) : Int).toNat)) ((x6_2 ++ (rdOf ByteArray.empty y232 (Int.tmod (rd l1 x7_2) 5))) ++ ((⟨#[97, 98, 99, 100, 101, 102, 103, 104]⟩ : ByteArray).extract ((ji11) : Int).toNat ((((ji11) + 1) % 256) : Int).toNat)) (wrap64 (x7_2 + 1))) else (none)) else (none)) else (none)) else (none)) else (none))) else (none))) else (none)) else (none)) else (none)) = some r := by first | (rw [hji11] at H; exact H) | (simp only [hji11] at H ⊢; exact H)
                  by_cases c12 : 0 ≤ (ji11)
                  · rw [if_pos c12] at H
                    have c12b0 := eq_true c12
                    have c12b1 : decide (0 ≤ (ji11)) = true := decide_eq_true c12
                    clear c12
                    by_cases c13 : (ji11) ≤ (((ji11) + 1) % 256)
                    · rw [if_pos c13] at H
                      have c13b0 := eq_true c13
                      have c13b1 : decide ((ji11) ≤ (((ji11) + 1) % 256)) = true := decide_eq_true c13
                      by_cases c14 : (((ji11) + 1) % 256) ≤ 8
                      · rw [if_pos c14] at H
                        have c14b0 := eq_true c14
                        have c14b1 : decide ((((ji11) + 1) % 256) ≤ 8) = true := decide_eq_true c14
                        by_cases c15 : x7_2 > 0
                        · rw [if_pos c15] at H
                          have c15b0 : decide (0 < x7_2) = true := decide_eq_true c15
                          clear c15
                          by_cases c16 : x5_2.size + 1 ≤ 9223372036854775807
                          · rw [if_pos c16] at H
                            have c16b0 := eq_true c16
                            have c16b1 : decide (x5_2.size + 1 ≤ 9223372036854775807) = true := decide_eq_true c16
                            try have c16b2 : (9223372036854775807 < x5_2.size + 1) = False := eq_false (Nat.not_lt.2 c16)
                            by_cases c17 : x6_2.size + 1 ≤ 9223372036854775807
                            · rw [if_pos c17] at H
                              have c17b0 := eq_true c17
                              have c17b1 : decide (x6_2.size + 1 ≤ 9223372036854775807) = true := decide_eq_true c17
                              try have c17b2 : (9223372036854775807 < x6_2.size + 1) = False := eq_false (Nat.not_lt.2 c17)
                              by_cases c18 : (x5_2 ++ (⟨#[47]⟩ : ByteArray)).size + ((⟨#[97, 98, 99, 100, 101, 102, 103, 104]⟩ : ByteArray).extract ((ji11) : Int).toNat ((((ji11) + 1) % 256) : Int).toNat).size ≤ 9223372036854775807
                              · rw [if_pos c18] at H
                                have c18b0 := eq_true c18
                                have c18b1 : decide ((x5_2 ++ (⟨#[47]⟩ : ByteArray)).size + ((⟨#[97, 98, 99, 100, 101, 102, 103, 104]⟩ : ByteArray).extract ((ji11) : Int).toNat ((((ji11) + 1) % 256) : Int).toNat).size ≤ 9223372036854775807) = true := decide_eq_true c18
                                try have c18b2 : (9223372036854775807 < (x5_2 ++ (⟨#[47]⟩ : ByteArray)).size + ((⟨#[97, 98, 99, 100, 101, 102, 103, 104]⟩ : ByteArray).extract ((ji11) : Int).toNat ((((ji11) + 1) % 256) : Int).toNat).size) = False := eq_false (Nat.not_lt.2 c18)
                                obtain ⟨y227, hy227⟩ : ∃ y_ : List ByteArray, y_ = (([(⟨#[]⟩ : ByteArray), (⟨#[46, 47]⟩ : ByteArray), (⟨#[47]⟩ : ByteArray), (⟨#[120, 47, 46, 46, 47]⟩ : ByteArray), (⟨#[121, 47, 122, 47, 46, 46, 47, 46, 46, 47]⟩ : ByteArray)] : List ByteArray)) := ⟨_, rfl⟩
                                replace H : (if x7_2 < (l1.length : Int) then (if 0 ≤ (Int.tmod (rd l1 x7_2) 5) then (if (Int.tmod (rd l1 x7_2) 5) < (y227.length : Int) then (if (x6_2 ++ (⟨#[47]⟩ : ByteArray)).size + (rdOf ByteArray.empty y227 (Int.tmod (rd l1 x7_2) 5)).size ≤ 9223372036854775807 then (if ((x6_2 ++ (⟨#[47]⟩ : ByteArray)) ++ (rdOf ByteArray.empty y227 (Int.tmod (rd l1 x7_2) 5))).size + ((⟨#[97, 98, 99, 100, 101, 102, 103, 104]⟩ : ByteArray).extract ((ji11) : Int).toNat ((((ji11) + 1) % 256) : Int).toNat).size ≤ 9223372036854775807 then (haversacklaw7_PathDots.l0 k2 l0 l1 ((x5_2 ++ (⟨#[47]⟩ : ByteArray)) ++ ((⟨#[97, 98, 99, 100, 101, 102, 103, 104]⟩ : ByteArray).extract ((ji11) : Int).toNat ((((ji11) + 1) % 256) : Int).toNat)) (((x6_2 ++ (⟨#[47]⟩ : ByteArray)) ++ (rdOf ByteArray.empty y227 (Int.tmod (rd l1 x7_2) 5))) ++ ((⟨#[97, 98, 99, 100, 101, 102, 103, 104]⟩ : ByteArray).extract ((ji11) : Int).toNat ((((ji11) + 1) % 256) : Int).toNat)) (wrap64 (x7_2 + 1))) else (none)) else (none)) else (none)) else (none)) else (none)) = some r := by first | (rw [hy227]; with_reducible exact H) | (have H2_ := (Option.bind_some _ _).symm.trans H; rw [hy227]; with_reducible exact H2_) | (have H2_ := (Option.bind_some _ _).symm.trans H; with_reducible exact H2_) | with_reducible exact H | (rw [hy227]; exact H) | exact H
                                have Ny227 := Aside0.mk hy227
                                clear hy227
                                by_cases c19 : x7_2 < (l1.length : Int)
                                · rw [if_pos c19] at H
                                  have c19b0 : decide (x7_2 < (l1.length : Int)) = true := decide_eq_true c19
                                  clear c19
                                  obtain ⟨ji20, hji20⟩ : ∃ j_ : Int, (Int.tmod (rd l1 x7_2) 5) = j_ := ⟨_, rfl⟩
                                  replace H : (if 0 ≤ (ji20) then (if (ji20) < (y227.length : Int) then (if (x6_2 ++ (⟨#[47]⟩ : ByteArray)).size + (rdOf ByteArray.empty y227 (ji20)).size ≤ 9223372036854775807 then (if ((x6_2 ++ (⟨#[47]⟩ : ByteArray)) ++ (rdOf ByteArray.empty y227 (ji20))).size + ((⟨#[97, 98, 99, 100, 101, 102, 103, 104]⟩ : ByteArray).extract ((ji11) : Int).toNat ((((ji11) + 1) % 256) : Int).toNat).size ≤ 9223372036854775807 then (haversacklaw7_PathDots.l0 k2 l0 l1 ((x5_2 ++ (⟨#[47]⟩ : ByteArray)) ++ ((⟨#[97, 98, 99, 100, 101, 102, 103, 104]⟩ : ByteArray).extract ((ji11) : Int).toNat ((((ji11) + 1) % 256) : Int).toNat)) (((x6_2 ++ (⟨#[47]⟩ : ByteArray)) ++ (rdOf ByteArray.empty y227 (ji20))) ++ ((⟨#[97, 98, 99, 100, 101, 102, 103, 104]⟩ : ByteArray).extract ((ji11) : Int).toNat ((((ji11) + 1) % 256) : Int).toNat)) (wrap64 (x7_2 + 1))) else (none)) else (none)) else (none)) else (none)) = some r := by first | (rw [hji20] at H; exact H) | (simp only [hji20] at H ⊢; exact H)
                                  by_cases c21 : 0 ≤ (ji20)
                                  · rw [if_pos c21] at H
                                    have c21b0 : decide (0 ≤ (ji20)) = true := decide_eq_true c21
                                    clear c21
                                    by_cases c22 : (ji20) < (y227.length : Int)
                                    · rw [if_pos c22] at H
                                      have c22b0 : decide ((ji20) < (y227.length : Int)) = true := decide_eq_true c22
                                      clear c22
                                      by_cases c23 : (x6_2 ++ (⟨#[47]⟩ : ByteArray)).size + (rdOf ByteArray.empty y227 (ji20)).size ≤ 9223372036854775807
                                      · rw [if_pos c23] at H
                                        have c23b0 := eq_true c23
                                        have c23b1 : decide ((x6_2 ++ (⟨#[47]⟩ : ByteArray)).size + (rdOf ByteArray.empty y227 (ji20)).size ≤ 9223372036854775807) = true := decide_eq_true c23
                                        try have c23b2 : (9223372036854775807 < (x6_2 ++ (⟨#[47]⟩ : ByteArray)).size + (rdOf ByteArray.empty y227 (ji20)).size) = False := eq_false (Nat.not_lt.2 c23)
                                        by_cases c24 : ((x6_2 ++ (⟨#[47]⟩ : ByteArray)) ++ (rdOf ByteArray.empty y227 (ji20))).size + ((⟨#[97, 98, 99, 100, 101, 102, 103, 104]⟩ : ByteArray).extract ((ji11) : Int).toNat ((((ji11) + 1) % 256) : Int).toNat).size ≤ 9223372036854775807
                                        · rw [if_pos c24] at H
                                          have c24b0 := eq_true c24
                                          have c24b1 : decide (((x6_2 ++ (⟨#[47]⟩ : ByteArray)) ++ (rdOf ByteArray.empty y227 (ji20))).size + ((⟨#[97, 98, 99, 100, 101, 102, 103, 104]⟩ : ByteArray).extract ((ji11) : Int).toNat ((((ji11) + 1) % 256) : Int).toNat).size ≤ 9223372036854775807) = true := decide_eq_true c24
                                          try have c24b2 : (9223372036854775807 < ((x6_2 ++ (⟨#[47]⟩ : ByteArray)) ++ (rdOf ByteArray.empty y227 (ji20))).size + ((⟨#[97, 98, 99, 100, 101, 102, 103, 104]⟩ : ByteArray).extract ((ji11) : Int).toNat ((((ji11) + 1) % 256) : Int).toNat).size) = False := eq_false (Nat.not_lt.2 c24)
                                          have H' := Aside0.mk H
                                          clear H
                                          have p225 : 0 ≤ (x7_2 : Int) := of_decide_eq_true (by first | (with_reducible assumption) | assumption)
                                          have q225 : x7_2 < (l0.length : Int) := of_decide_eq_true (by first | (with_reducible assumption) | assumption)
                                          obtain ⟨ad225, e225, hx225_0⟩ := Kd.at_int HR0.out x7_2 p225 q225
                                          cases e225
                                          replace hx225_0 := (HB.out.cell (World.block_lt_of_cell? w _ hx225_0)).trans hx225_0
                                          replace p225 := eq_true p225
                                          replace q225 := eq_true q225
                                          have p226 : 0 ≤ (x7_2 : Int) := of_decide_eq_true (by first | (with_reducible assumption) | assumption)
                                          have q226 : x7_2 < (l0.length : Int) := of_decide_eq_true (by first | (with_reducible assumption) | assumption)
                                          obtain ⟨ad226, e226, hx226_0⟩ := Kd.at_int HR0.out x7_2 p226 q226
                                          obtain rfl : ad225 = ad226 := (by injection e226)
                                          replace hx226_0 := (HB.out.cell (World.block_lt_of_cell? w _ hx226_0)).trans hx226_0
                                          replace p226 := eq_true p226
                                          replace q226 := eq_true q226
                                          go_wp2_with (first | ((with_reducible refine gate_dst (N := 56) rfl ?_); (try (refine gate_guard (by rfl) ?_; dsimp only)); refine Kd.R_lit Kd.string _ 9 ?hg (N := 56) ?hd (xs := ([(⟨#[]⟩ : ByteArray), (⟨#[46, 47]⟩ : ByteArray), (⟨#[47]⟩ : ByteArray), (⟨#[120, 47, 46, 46, 47]⟩ : ByteArray), (⟨#[121, 47, 122, 47, 46, 46, 47, 46, 46, 47]⟩ : ByteArray)] : List ByteArray)) (inner := [.string (⟨#[]⟩ : ByteArray), .string (⟨#[46, 47]⟩ : ByteArray), .string (⟨#[47]⟩ : ByteArray), .string (⟨#[120, 47, 46, 46, 47]⟩ : ByteArray), .string (⟨#[121, 47, 122, 47, 46, 46, 47, 46, 46, 47]⟩ : ByteArray)]) (ok := fun _ => True) (okp := fun _ => True) ?hr ?hp (fun _ hk => hk) trivial (Below.refl _ _) (Nat.le_refl _) (by simp) ?_; (case hd => rfl); (case hg => rfl); (case hr => first | (go_simp; done) | (go_simp; rfl)); (case hp => exact (Reps.one (show Kd.M Kd.string _ _ _ (⟨#[]⟩ : ByteArray) [.string (⟨#[]⟩ : ByteArray)] from rfl) (Reps.one (show Kd.M Kd.string _ _ _ (⟨#[46, 47]⟩ : ByteArray) [.string (⟨#[46, 47]⟩ : ByteArray)] from rfl) (Reps.one (show Kd.M Kd.string _ _ _ (⟨#[47]⟩ : ByteArray) [.string (⟨#[47]⟩ : ByteArray)] from rfl) (Reps.one (show Kd.M Kd.string _ _ _ (⟨#[120, 47, 46, 46, 47]⟩ : ByteArray) [.string (⟨#[120, 47, 46, 46, 47]⟩ : ByteArray)] from rfl) (Reps.one (show Kd.M Kd.string _ _ _ (⟨#[121, 47, 122, 47, 46, 46, 47, 46, 46, 47]⟩ : ByteArray) [.string (⟨#[121, 47, 122, 47, 46, 46, 47, 46, 46, 47]⟩ : ByteArray)] from rfl) (Reps.none _ _))))))); intro v228 w25 ho26 hb hg_ hnew_; clear hg_ hnew_; (first | rw [← Ny227.out] at ho26 | (simp only [Int.reduceToNat] at ho26; rw [← Ny227.out] at ho26)); have n0_ := Aside0.mk (Kd.R_lower ho26 (below_size (by repeat (first | (with_reducible first | exact HB.out | apply below_alloc | apply pw_below_drewN | apply below_drew1) | exact HB.out)))); have n1_ := Aside0.mk (below_step (by repeat (first | (with_reducible first | exact HB.out | apply below_alloc | apply pw_below_drewN | apply below_drew1) | exact HB.out)) hb); clear HB; have HO229 := n0_; have HB := n1_; clear n0_ n1_; clear hb ho26; have p230 : 0 ≤ (x7_2 : Int) := of_decide_eq_true (by first | (with_reducible assumption) | assumption); have q230 : x7_2 < (l1.length : Int) := of_decide_eq_true (by first | (with_reducible assumption) | assumption); obtain ⟨ad230, e230, hx230_0⟩ := Kd.at_int HR1.out x7_2 p230 q230; cases e230; replace hx230_0 := (HB.out.cell (World.block_lt_of_cell? w _ hx230_0)).trans hx230_0; replace p230 := eq_true p230; replace q230 := eq_true q230; obtain ⟨Ao27, co27, eo27⟩ := Kd.R_slice HO229.out; subst eo27; have p231 : 0 ≤ ((ji20) : Int) := of_decide_eq_true (by first | (with_reducible assumption) | assumption); have q231 : (ji20) < (y227.length : Int) := of_decide_eq_true (by first | (with_reducible assumption) | assumption); obtain ⟨ad231, e231, hx231_0⟩ := Kd.at_string (Kd.R_reads' HO229.out).2.2 (ji20) p231 q231; cases e231; replace p231 := eq_true p231; replace q231 := eq_true q231))
                                          repeat (go_quiet (first | ((with_reducible refine gate_dst (N := 56) rfl ?_); (try (refine gate_guard (by rfl) ?_; dsimp only)); refine Kd.R_lit Kd.string _ 9 ?hg (N := 56) ?hd (xs := ([(⟨#[]⟩ : ByteArray), (⟨#[46, 47]⟩ : ByteArray), (⟨#[47]⟩ : ByteArray), (⟨#[120, 47, 46, 46, 47]⟩ : ByteArray), (⟨#[121, 47, 122, 47, 46, 46, 47, 46, 46, 47]⟩ : ByteArray)] : List ByteArray)) (inner := [.string (⟨#[]⟩ : ByteArray), .string (⟨#[46, 47]⟩ : ByteArray), .string (⟨#[47]⟩ : ByteArray), .string (⟨#[120, 47, 46, 46, 47]⟩ : ByteArray), .string (⟨#[121, 47, 122, 47, 46, 46, 47, 46, 46, 47]⟩ : ByteArray)]) (ok := fun _ => True) (okp := fun _ => True) ?hr ?hp (fun _ hk => hk) trivial (Below.refl _ _) (Nat.le_refl _) (by simp) ?_; (case hd => rfl); (case hg => rfl); (case hr => first | (go_simp; done) | (go_simp; rfl)); (case hp => exact (Reps.one (show Kd.M Kd.string _ _ _ (⟨#[]⟩ : ByteArray) [.string (⟨#[]⟩ : ByteArray)] from rfl) (Reps.one (show Kd.M Kd.string _ _ _ (⟨#[46, 47]⟩ : ByteArray) [.string (⟨#[46, 47]⟩ : ByteArray)] from rfl) (Reps.one (show Kd.M Kd.string _ _ _ (⟨#[47]⟩ : ByteArray) [.string (⟨#[47]⟩ : ByteArray)] from rfl) (Reps.one (show Kd.M Kd.string _ _ _ (⟨#[120, 47, 46, 46, 47]⟩ : ByteArray) [.string (⟨#[120, 47, 46, 46, 47]⟩ : ByteArray)] from rfl) (Reps.one (show Kd.M Kd.string _ _ _ (⟨#[121, 47, 122, 47, 46, 46, 47, 46, 46, 47]⟩ : ByteArray) [.string (⟨#[121, 47, 122, 47, 46, 46, 47, 46, 46, 47]⟩ : ByteArray)] from rfl) (Reps.none _ _))))))); intro v228 w25 ho26 hb hg_ hnew_; clear hg_ hnew_; (first | rw [← Ny227.out] at ho26 | (simp only [Int.reduceToNat] at ho26; rw [← Ny227.out] at ho26)); have n0_ := Aside0.mk (Kd.R_lower ho26 (below_size (by repeat (first | (with_reducible first | exact HB.out | apply below_alloc | apply pw_below_drewN | apply below_drew1) | exact HB.out)))); have n1_ := Aside0.mk (below_step (by repeat (first | (with_reducible first | exact HB.out | apply below_alloc | apply pw_below_drewN | apply below_drew1) | exact HB.out)) hb); clear HB; have HO229 := n0_; have HB := n1_; clear n0_ n1_; clear hb ho26; have p230 : 0 ≤ (x7_2 : Int) := of_decide_eq_true (by first | (with_reducible assumption) | assumption); have q230 : x7_2 < (l1.length : Int) := of_decide_eq_true (by first | (with_reducible assumption) | assumption); obtain ⟨ad230, e230, hx230_0⟩ := Kd.at_int HR1.out x7_2 p230 q230; cases e230; replace hx230_0 := (HB.out.cell (World.block_lt_of_cell? w _ hx230_0)).trans hx230_0; replace p230 := eq_true p230; replace q230 := eq_true q230; obtain ⟨Ao27, co27, eo27⟩ := Kd.R_slice HO229.out; subst eo27; have p231 : 0 ≤ ((ji20) : Int) := of_decide_eq_true (by first | (with_reducible assumption) | assumption); have q231 : (ji20) < (y227.length : Int) := of_decide_eq_true (by first | (with_reducible assumption) | assumption); obtain ⟨ad231, e231, hx231_0⟩ := Kd.at_string (Kd.R_reads' HO229.out).2.2 (ji20) p231 q231; cases e231; replace p231 := eq_true p231; replace q231 := eq_true q231)); try go_wp2_with (first | ((with_reducible refine gate_dst (N := 56) rfl ?_); (try (refine gate_guard (by rfl) ?_; dsimp only)); refine Kd.R_lit Kd.string _ 9 ?hg (N := 56) ?hd (xs := ([(⟨#[]⟩ : ByteArray), (⟨#[46, 47]⟩ : ByteArray), (⟨#[47]⟩ : ByteArray), (⟨#[120, 47, 46, 46, 47]⟩ : ByteArray), (⟨#[121, 47, 122, 47, 46, 46, 47, 46, 46, 47]⟩ : ByteArray)] : List ByteArray)) (inner := [.string (⟨#[]⟩ : ByteArray), .string (⟨#[46, 47]⟩ : ByteArray), .string (⟨#[47]⟩ : ByteArray), .string (⟨#[120, 47, 46, 46, 47]⟩ : ByteArray), .string (⟨#[121, 47, 122, 47, 46, 46, 47, 46, 46, 47]⟩ : ByteArray)]) (ok := fun _ => True) (okp := fun _ => True) ?hr ?hp (fun _ hk => hk) trivial (Below.refl _ _) (Nat.le_refl _) (by simp) ?_; (case hd => rfl); (case hg => rfl); (case hr => first | (go_simp; done) | (go_simp; rfl)); (case hp => exact (Reps.one (show Kd.M Kd.string _ _ _ (⟨#[]⟩ : ByteArray) [.string (⟨#[]⟩ : ByteArray)] from rfl) (Reps.one (show Kd.M Kd.string _ _ _ (⟨#[46, 47]⟩ : ByteArray) [.string (⟨#[46, 47]⟩ : ByteArray)] from rfl) (Reps.one (show Kd.M Kd.string _ _ _ (⟨#[47]⟩ : ByteArray) [.string (⟨#[47]⟩ : ByteArray)] from rfl) (Reps.one (show Kd.M Kd.string _ _ _ (⟨#[120, 47, 46, 46, 47]⟩ : ByteArray) [.string (⟨#[120, 47, 46, 46, 47]⟩ : ByteArray)] from rfl) (Reps.one (show Kd.M Kd.string _ _ _ (⟨#[121, 47, 122, 47, 46, 46, 47, 46, 46, 47]⟩ : ByteArray) [.string (⟨#[121, 47, 122, 47, 46, 46, 47, 46, 46, 47]⟩ : ByteArray)] from rfl) (Reps.none _ _))))))); intro v228 w25 ho26 hb hg_ hnew_; clear hg_ hnew_; (first | rw [← Ny227.out] at ho26 | (simp only [Int.reduceToNat] at ho26; rw [← Ny227.out] at ho26)); have n0_ := Aside0.mk (Kd.R_lower ho26 (below_size (by repeat (first | (with_reducible first | exact HB.out | apply below_alloc | apply pw_below_drewN | apply below_drew1) | exact HB.out)))); have n1_ := Aside0.mk (below_step (by repeat (first | (with_reducible first | exact HB.out | apply below_alloc | apply pw_below_drewN | apply below_drew1) | exact HB.out)) hb); clear HB; have HO229 := n0_; have HB := n1_; clear n0_ n1_; clear hb ho26; have p230 : 0 ≤ (x7_2 : Int) := of_decide_eq_true (by first | (with_reducible assumption) | assumption); have q230 : x7_2 < (l1.length : Int) := of_decide_eq_true (by first | (with_reducible assumption) | assumption); obtain ⟨ad230, e230, hx230_0⟩ := Kd.at_int HR1.out x7_2 p230 q230; cases e230; replace hx230_0 := (HB.out.cell (World.block_lt_of_cell? w _ hx230_0)).trans hx230_0; replace p230 := eq_true p230; replace q230 := eq_true q230; obtain ⟨Ao27, co27, eo27⟩ := Kd.R_slice HO229.out; subst eo27; have p231 : 0 ≤ ((ji20) : Int) := of_decide_eq_true (by first | (with_reducible assumption) | assumption); have q231 : (ji20) < (y227.length : Int) := of_decide_eq_true (by first | (with_reducible assumption) | assumption); obtain ⟨ad231, e231, hx231_0⟩ := Kd.at_string (Kd.R_reads' HO229.out).2.2 (ji20) p231 q231; cases e231; replace p231 := eq_true p231; replace q231 := eq_true q231)))
                                          go_roundg k2
                                          case measure => have := HJ4.out; have := HK2.out; omega
                                          case rel => exact ⟨((x5_2 ++ (⟨#[47]⟩ : ByteArray)) ++ ((⟨#[97, 98, 99, 100, 101, 102, 103, 104]⟩ : ByteArray).extract ((ji11) : Int).toNat ((((ji11) + 1) % 256) : Int).toNat)), (((x6_2 ++ (⟨#[47]⟩ : ByteArray)) ++ (rdOf ByteArray.empty y227 (ji20))) ++ ((⟨#[97, 98, 99, 100, 101, 102, 103, 104]⟩ : ByteArray).extract ((ji11) : Int).toNat ((((ji11) + 1) % 256) : Int).toNat)), (wrap64 (x7_2 + 1)), (by first | rfl | (simp; done) | (simp only [← hji11] <;> (first | rfl | simp)) | (simp [*]; done)), (by first | rfl | (simp; done) | (simp only [← hji11, ← hji20] <;> (first | rfl | simp)) | (simp [*]; done)), (by first | rfl | (simp; done) | (simp [*]; done)), H', ⟨by have := HJ4.out; have := HK2.out; omega⟩, ⟨by repeat (first | (with_reducible first | exact HB.out | apply below_alloc | apply pw_below_drewN | apply below_drew1) | exact HB.out)⟩⟩
                                        · rw [if_neg c24] at H
                                          exact absurd H (by simp)
                                      · rw [if_neg c23] at H
                                        exact absurd H (by simp)
                                    · rw [if_neg c22] at H
                                      exact absurd H (by simp)
                                  · rw [if_neg c21] at H
                                    exact absurd H (by simp)
                                · rw [if_neg c19] at H
                                  exact absurd H (by simp)
                              · rw [if_neg c18] at H
                                exact absurd H (by simp)
                            · rw [if_neg c17] at H
                              exact absurd H (by simp)
                          · rw [if_neg c16] at H
                            exact absurd H (by simp)
                        · rw [if_neg c15] at H
                          have c15b0 : decide (0 < x7_2) = false := decide_eq_false c15
                          clear c15
                          by_cases c28 : x5_2.size + ((⟨#[97, 98, 99, 100, 101, 102, 103, 104]⟩ : ByteArray).extract ((ji11) : Int).toNat ((((ji11) + 1) % 256) : Int).toNat).size ≤ 9223372036854775807
                          · rw [if_pos c28] at H
                            have c28b0 := eq_true c28
                            have c28b1 : decide (x5_2.size + ((⟨#[97, 98, 99, 100, 101, 102, 103, 104]⟩ : ByteArray).extract ((ji11) : Int).toNat ((((ji11) + 1) % 256) : Int).toNat).size ≤ 9223372036854775807) = true := decide_eq_true c28
                            try have c28b2 : (9223372036854775807 < x5_2.size + ((⟨#[97, 98, 99, 100, 101, 102, 103, 104]⟩ : ByteArray).extract ((ji11) : Int).toNat ((((ji11) + 1) % 256) : Int).toNat).size) = False := eq_false (Nat.not_lt.2 c28)
                            obtain ⟨y232, hy232⟩ : ∃ y_ : List ByteArray, y_ = (([(⟨#[]⟩ : ByteArray), (⟨#[46, 47]⟩ : ByteArray), (⟨#[47]⟩ : ByteArray), (⟨#[120, 47, 46, 46, 47]⟩ : ByteArray), (⟨#[121, 47, 122, 47, 46, 46, 47, 46, 46, 47]⟩ : ByteArray)] : List ByteArray)) := ⟨_, rfl⟩
                            replace H : (if x7_2 < (l1.length : Int) then (if 0 ≤ (Int.tmod (rd l1 x7_2) 5) then (if (Int.tmod (rd l1 x7_2) 5) < (y232.length : Int) then (if x6_2.size + (rdOf ByteArray.empty y232 (Int.tmod (rd l1 x7_2) 5)).size ≤ 9223372036854775807 then (if (x6_2 ++ (rdOf ByteArray.empty y232 (Int.tmod (rd l1 x7_2) 5))).size + ((⟨#[97, 98, 99, 100, 101, 102, 103, 104]⟩ : ByteArray).extract ((ji11) : Int).toNat ((((ji11) + 1) % 256) : Int).toNat).size ≤ 9223372036854775807 then (haversacklaw7_PathDots.l0 k2 l0 l1 (x5_2 ++ ((⟨#[97, 98, 99, 100, 101, 102, 103, 104]⟩ : ByteArray).extract ((ji11) : Int).toNat ((((ji11) + 1) % 256) : Int).toNat)) ((x6_2 ++ (rdOf ByteArray.empty y232 (Int.tmod (rd l1 x7_2) 5))) ++ ((⟨#[97, 98, 99, 100, 101, 102, 103, 104]⟩ : ByteArray).extract ((ji11) : Int).toNat ((((ji11) + 1) % 256) : Int).toNat)) (wrap64 (x7_2 + 1))) else (none)) else (none)) else (none)) else (none)) else (none)) = some r := by first | (rw [hy232]; with_reducible exact H) | (have H2_ := (Option.bind_some _ _).symm.trans H; rw [hy232]; with_reducible exact H2_) | (have H2_ := (Option.bind_some _ _).symm.trans H; with_reducible exact H2_) | with_reducible exact H | (rw [hy232]; exact H) | exact H
                            have Ny232 := Aside0.mk hy232
                            clear hy232
                            by_cases c29 : x7_2 < (l1.length : Int)
                            · rw [if_pos c29] at H
                              have c29b0 : decide (x7_2 < (l1.length : Int)) = true := decide_eq_true c29
                              clear c29
                              obtain ⟨ji30, hji30⟩ : ∃ j_ : Int, (Int.tmod (rd l1 x7_2) 5) = j_ := ⟨_, rfl⟩
                              replace H : (if 0 ≤ (ji30) then (if (ji30) < (y232.length : Int) then (if x6_2.size + (rdOf ByteArray.empty y232 (ji30)).size ≤ 9223372036854775807 then (if (x6_2 ++ (rdOf ByteArray.empty y232 (ji30))).size + ((⟨#[97, 98, 99, 100, 101, 102, 103, 104]⟩ : ByteArray).extract ((ji11) : Int).toNat ((((ji11) + 1) % 256) : Int).toNat).size ≤ 9223372036854775807 then (haversacklaw7_PathDots.l0 k2 l0 l1 (x5_2 ++ ((⟨#[97, 98, 99, 100, 101, 102, 103, 104]⟩ : ByteArray).extract ((ji11) : Int).toNat ((((ji11) + 1) % 256) : Int).toNat)) ((x6_2 ++ (rdOf ByteArray.empty y232 (ji30))) ++ ((⟨#[97, 98, 99, 100, 101, 102, 103, 104]⟩ : ByteArray).extract ((ji11) : Int).toNat ((((ji11) + 1) % 256) : Int).toNat)) (wrap64 (x7_2 + 1))) else (none)) else (none)) else (none)) else (none)) = some r := by first | (rw [hji30] at H; exact H) | (simp only [hji30] at H ⊢; exact H)
                              by_cases c31 : 0 ≤ (ji30)
                              · rw [if_pos c31] at H
                                have c31b0 : decide (0 ≤ (ji30)) = true := decide_eq_true c31
                                clear c31
                                by_cases c32 : (ji30) < (y232.length : Int)
                                · rw [if_pos c32] at H
                                  have c32b0 : decide ((ji30) < (y232.length : Int)) = true := decide_eq_true c32
                                  clear c32
                                  by_cases c33 : x6_2.size + (rdOf ByteArray.empty y232 (ji30)).size ≤ 9223372036854775807
                                  · rw [if_pos c33] at H
                                    have c33b0 := eq_true c33
                                    have c33b1 : decide (x6_2.size + (rdOf ByteArray.empty y232 (ji30)).size ≤ 9223372036854775807) = true := decide_eq_true c33
                                    try have c33b2 : (9223372036854775807 < x6_2.size + (rdOf ByteArray.empty y232 (ji30)).size) = False := eq_false (Nat.not_lt.2 c33)
                                    by_cases c34 : (x6_2 ++ (rdOf ByteArray.empty y232 (ji30))).size + ((⟨#[97, 98, 99, 100, 101, 102, 103, 104]⟩ : ByteArray).extract ((ji11) : Int).toNat ((((ji11) + 1) % 256) : Int).toNat).size ≤ 9223372036854775807
                                    · rw [if_pos c34] at H
                                      have c34b0 := eq_true c34
                                      have c34b1 : decide ((x6_2 ++ (rdOf ByteArray.empty y232 (ji30))).size + ((⟨#[97, 98, 99, 100, 101, 102, 103, 104]⟩ : ByteArray).extract ((ji11) : Int).toNat ((((ji11) + 1) % 256) : Int).toNat).size ≤ 9223372036854775807) = true := decide_eq_true c34
                                      try have c34b2 : (9223372036854775807 < (x6_2 ++ (rdOf ByteArray.empty y232 (ji30))).size + ((⟨#[97, 98, 99, 100, 101, 102, 103, 104]⟩ : ByteArray).extract ((ji11) : Int).toNat ((((ji11) + 1) % 256) : Int).toNat).size) = False := eq_false (Nat.not_lt.2 c34)
                                      have H' := Aside0.mk H
                                      clear H
                                      have p225 : 0 ≤ (x7_2 : Int) := of_decide_eq_true (by first | (with_reducible assumption) | assumption)
                                      have q225 : x7_2 < (l0.length : Int) := of_decide_eq_true (by first | (with_reducible assumption) | assumption)
                                      obtain ⟨ad225, e225, hx225_0⟩ := Kd.at_int HR0.out x7_2 p225 q225
                                      cases e225
                                      replace hx225_0 := (HB.out.cell (World.block_lt_of_cell? w _ hx225_0)).trans hx225_0
                                      replace p225 := eq_true p225
                                      replace q225 := eq_true q225
                                      have p226 : 0 ≤ (x7_2 : Int) := of_decide_eq_true (by first | (with_reducible assumption) | assumption)
                                      have q226 : x7_2 < (l0.length : Int) := of_decide_eq_true (by first | (with_reducible assumption) | assumption)
                                      obtain ⟨ad226, e226, hx226_0⟩ := Kd.at_int HR0.out x7_2 p226 q226
                                      obtain rfl : ad225 = ad226 := (by injection e226)
                                      replace hx226_0 := (HB.out.cell (World.block_lt_of_cell? w _ hx226_0)).trans hx226_0
                                      replace p226 := eq_true p226
                                      replace q226 := eq_true q226
                                      go_wp2_with (first | ((with_reducible refine gate_dst (N := 56) rfl ?_); (try (refine gate_guard (by rfl) ?_; dsimp only)); refine Kd.R_lit Kd.string _ 9 ?hg (N := 56) ?hd (xs := ([(⟨#[]⟩ : ByteArray), (⟨#[46, 47]⟩ : ByteArray), (⟨#[47]⟩ : ByteArray), (⟨#[120, 47, 46, 46, 47]⟩ : ByteArray), (⟨#[121, 47, 122, 47, 46, 46, 47, 46, 46, 47]⟩ : ByteArray)] : List ByteArray)) (inner := [.string (⟨#[]⟩ : ByteArray), .string (⟨#[46, 47]⟩ : ByteArray), .string (⟨#[47]⟩ : ByteArray), .string (⟨#[120, 47, 46, 46, 47]⟩ : ByteArray), .string (⟨#[121, 47, 122, 47, 46, 46, 47, 46, 46, 47]⟩ : ByteArray)]) (ok := fun _ => True) (okp := fun _ => True) ?hr ?hp (fun _ hk => hk) trivial (Below.refl _ _) (Nat.le_refl _) (by simp) ?_; (case hd => rfl); (case hg => rfl); (case hr => first | (go_simp; done) | (go_simp; rfl)); (case hp => exact (Reps.one (show Kd.M Kd.string _ _ _ (⟨#[]⟩ : ByteArray) [.string (⟨#[]⟩ : ByteArray)] from rfl) (Reps.one (show Kd.M Kd.string _ _ _ (⟨#[46, 47]⟩ : ByteArray) [.string (⟨#[46, 47]⟩ : ByteArray)] from rfl) (Reps.one (show Kd.M Kd.string _ _ _ (⟨#[47]⟩ : ByteArray) [.string (⟨#[47]⟩ : ByteArray)] from rfl) (Reps.one (show Kd.M Kd.string _ _ _ (⟨#[120, 47, 46, 46, 47]⟩ : ByteArray) [.string (⟨#[120, 47, 46, 46, 47]⟩ : ByteArray)] from rfl) (Reps.one (show Kd.M Kd.string _ _ _ (⟨#[121, 47, 122, 47, 46, 46, 47, 46, 46, 47]⟩ : ByteArray) [.string (⟨#[121, 47, 122, 47, 46, 46, 47, 46, 46, 47]⟩ : ByteArray)] from rfl) (Reps.none _ _))))))); intro v233 w35 ho36 hb hg_ hnew_; clear hg_ hnew_; (first | rw [← Ny232.out] at ho36 | (simp only [Int.reduceToNat] at ho36; rw [← Ny232.out] at ho36)); have n0_ := Aside0.mk (Kd.R_lower ho36 (below_size (by repeat (first | (with_reducible first | exact HB.out | apply below_alloc | apply pw_below_drewN | apply below_drew1) | exact HB.out)))); have n1_ := Aside0.mk (below_step (by repeat (first | (with_reducible first | exact HB.out | apply below_alloc | apply pw_below_drewN | apply below_drew1) | exact HB.out)) hb); clear HB; have HO234 := n0_; have HB := n1_; clear n0_ n1_; clear hb ho36; have p235 : 0 ≤ (x7_2 : Int) := of_decide_eq_true (by first | (with_reducible assumption) | assumption); have q235 : x7_2 < (l1.length : Int) := of_decide_eq_true (by first | (with_reducible assumption) | assumption); obtain ⟨ad235, e235, hx235_0⟩ := Kd.at_int HR1.out x7_2 p235 q235; cases e235; replace hx235_0 := (HB.out.cell (World.block_lt_of_cell? w _ hx235_0)).trans hx235_0; replace p235 := eq_true p235; replace q235 := eq_true q235; obtain ⟨Ao37, co37, eo37⟩ := Kd.R_slice HO234.out; subst eo37; have p236 : 0 ≤ ((ji30) : Int) := of_decide_eq_true (by first | (with_reducible assumption) | assumption); have q236 : (ji30) < (y232.length : Int) := of_decide_eq_true (by first | (with_reducible assumption) | assumption); obtain ⟨ad236, e236, hx236_0⟩ := Kd.at_string (Kd.R_reads' HO234.out).2.2 (ji30) p236 q236; cases e236; replace p236 := eq_true p236; replace q236 := eq_true q236))
                                      repeat (go_quiet (first | ((with_reducible refine gate_dst (N := 56) rfl ?_); (try (refine gate_guard (by rfl) ?_; dsimp only)); refine Kd.R_lit Kd.string _ 9 ?hg (N := 56) ?hd (xs := ([(⟨#[]⟩ : ByteArray), (⟨#[46, 47]⟩ : ByteArray), (⟨#[47]⟩ : ByteArray), (⟨#[120, 47, 46, 46, 47]⟩ : ByteArray), (⟨#[121, 47, 122, 47, 46, 46, 47, 46, 46, 47]⟩ : ByteArray)] : List ByteArray)) (inner := [.string (⟨#[]⟩ : ByteArray), .string (⟨#[46, 47]⟩ : ByteArray), .string (⟨#[47]⟩ : ByteArray), .string (⟨#[120, 47, 46, 46, 47]⟩ : ByteArray), .string (⟨#[121, 47, 122, 47, 46, 46, 47, 46, 46, 47]⟩ : ByteArray)]) (ok := fun _ => True) (okp := fun _ => True) ?hr ?hp (fun _ hk => hk) trivial (Below.refl _ _) (Nat.le_refl _) (by simp) ?_; (case hd => rfl); (case hg => rfl); (case hr => first | (go_simp; done) | (go_simp; rfl)); (case hp => exact (Reps.one (show Kd.M Kd.string _ _ _ (⟨#[]⟩ : ByteArray) [.string (⟨#[]⟩ : ByteArray)] from rfl) (Reps.one (show Kd.M Kd.string _ _ _ (⟨#[46, 47]⟩ : ByteArray) [.string (⟨#[46, 47]⟩ : ByteArray)] from rfl) (Reps.one (show Kd.M Kd.string _ _ _ (⟨#[47]⟩ : ByteArray) [.string (⟨#[47]⟩ : ByteArray)] from rfl) (Reps.one (show Kd.M Kd.string _ _ _ (⟨#[120, 47, 46, 46, 47]⟩ : ByteArray) [.string (⟨#[120, 47, 46, 46, 47]⟩ : ByteArray)] from rfl) (Reps.one (show Kd.M Kd.string _ _ _ (⟨#[121, 47, 122, 47, 46, 46, 47, 46, 46, 47]⟩ : ByteArray) [.string (⟨#[121, 47, 122, 47, 46, 46, 47, 46, 46, 47]⟩ : ByteArray)] from rfl) (Reps.none _ _))))))); intro v233 w35 ho36 hb hg_ hnew_; clear hg_ hnew_; (first | rw [← Ny232.out] at ho36 | (simp only [Int.reduceToNat] at ho36; rw [← Ny232.out] at ho36)); have n0_ := Aside0.mk (Kd.R_lower ho36 (below_size (by repeat (first | (with_reducible first | exact HB.out | apply below_alloc | apply pw_below_drewN | apply below_drew1) | exact HB.out)))); have n1_ := Aside0.mk (below_step (by repeat (first | (with_reducible first | exact HB.out | apply below_alloc | apply pw_below_drewN | apply below_drew1) | exact HB.out)) hb); clear HB; have HO234 := n0_; have HB := n1_; clear n0_ n1_; clear hb ho36; have p235 : 0 ≤ (x7_2 : Int) := of_decide_eq_true (by first | (with_reducible assumption) | assumption); have q235 : x7_2 < (l1.length : Int) := of_decide_eq_true (by first | (with_reducible assumption) | assumption); obtain ⟨ad235, e235, hx235_0⟩ := Kd.at_int HR1.out x7_2 p235 q235; cases e235; replace hx235_0 := (HB.out.cell (World.block_lt_of_cell? w _ hx235_0)).trans hx235_0; replace p235 := eq_true p235; replace q235 := eq_true q235; obtain ⟨Ao37, co37, eo37⟩ := Kd.R_slice HO234.out; subst eo37; have p236 : 0 ≤ ((ji30) : Int) := of_decide_eq_true (by first | (with_reducible assumption) | assumption); have q236 : (ji30) < (y232.length : Int) := of_decide_eq_true (by first | (with_reducible assumption) | assumption); obtain ⟨ad236, e236, hx236_0⟩ := Kd.at_string (Kd.R_reads' HO234.out).2.2 (ji30) p236 q236; cases e236; replace p236 := eq_true p236; replace q236 := eq_true q236)); try go_wp2_with (first | ((with_reducible refine gate_dst (N := 56) rfl ?_); (try (refine gate_guard (by rfl) ?_; dsimp only)); refine Kd.R_lit Kd.string _ 9 ?hg (N := 56) ?hd (xs := ([(⟨#[]⟩ : ByteArray), (⟨#[46, 47]⟩ : ByteArray), (⟨#[47]⟩ : ByteArray), (⟨#[120, 47, 46, 46, 47]⟩ : ByteArray), (⟨#[121, 47, 122, 47, 46, 46, 47, 46, 46, 47]⟩ : ByteArray)] : List ByteArray)) (inner := [.string (⟨#[]⟩ : ByteArray), .string (⟨#[46, 47]⟩ : ByteArray), .string (⟨#[47]⟩ : ByteArray), .string (⟨#[120, 47, 46, 46, 47]⟩ : ByteArray), .string (⟨#[121, 47, 122, 47, 46, 46, 47, 46, 46, 47]⟩ : ByteArray)]) (ok := fun _ => True) (okp := fun _ => True) ?hr ?hp (fun _ hk => hk) trivial (Below.refl _ _) (Nat.le_refl _) (by simp) ?_; (case hd => rfl); (case hg => rfl); (case hr => first | (go_simp; done) | (go_simp; rfl)); (case hp => exact (Reps.one (show Kd.M Kd.string _ _ _ (⟨#[]⟩ : ByteArray) [.string (⟨#[]⟩ : ByteArray)] from rfl) (Reps.one (show Kd.M Kd.string _ _ _ (⟨#[46, 47]⟩ : ByteArray) [.string (⟨#[46, 47]⟩ : ByteArray)] from rfl) (Reps.one (show Kd.M Kd.string _ _ _ (⟨#[47]⟩ : ByteArray) [.string (⟨#[47]⟩ : ByteArray)] from rfl) (Reps.one (show Kd.M Kd.string _ _ _ (⟨#[120, 47, 46, 46, 47]⟩ : ByteArray) [.string (⟨#[120, 47, 46, 46, 47]⟩ : ByteArray)] from rfl) (Reps.one (show Kd.M Kd.string _ _ _ (⟨#[121, 47, 122, 47, 46, 46, 47, 46, 46, 47]⟩ : ByteArray) [.string (⟨#[121, 47, 122, 47, 46, 46, 47, 46, 46, 47]⟩ : ByteArray)] from rfl) (Reps.none _ _))))))); intro v233 w35 ho36 hb hg_ hnew_; clear hg_ hnew_; (first | rw [← Ny232.out] at ho36 | (simp only [Int.reduceToNat] at ho36; rw [← Ny232.out] at ho36)); have n0_ := Aside0.mk (Kd.R_lower ho36 (below_size (by repeat (first | (with_reducible first | exact HB.out | apply below_alloc | apply pw_below_drewN | apply below_drew1) | exact HB.out)))); have n1_ := Aside0.mk (below_step (by repeat (first | (with_reducible first | exact HB.out | apply below_alloc | apply pw_below_drewN | apply below_drew1) | exact HB.out)) hb); clear HB; have HO234 := n0_; have HB := n1_; clear n0_ n1_; clear hb ho36; have p235 : 0 ≤ (x7_2 : Int) := of_decide_eq_true (by first | (with_reducible assumption) | assumption); have q235 : x7_2 < (l1.length : Int) := of_decide_eq_true (by first | (with_reducible assumption) | assumption); obtain ⟨ad235, e235, hx235_0⟩ := Kd.at_int HR1.out x7_2 p235 q235; cases e235; replace hx235_0 := (HB.out.cell (World.block_lt_of_cell? w _ hx235_0)).trans hx235_0; replace p235 := eq_true p235; replace q235 := eq_true q235; obtain ⟨Ao37, co37, eo37⟩ := Kd.R_slice HO234.out; subst eo37; have p236 : 0 ≤ ((ji30) : Int) := of_decide_eq_true (by first | (with_reducible assumption) | assumption); have q236 : (ji30) < (y232.length : Int) := of_decide_eq_true (by first | (with_reducible assumption) | assumption); obtain ⟨ad236, e236, hx236_0⟩ := Kd.at_string (Kd.R_reads' HO234.out).2.2 (ji30) p236 q236; cases e236; replace p236 := eq_true p236; replace q236 := eq_true q236)))
                                      go_roundg k2
                                      case measure => have := HJ4.out; have := HK2.out; omega
                                      case rel => exact ⟨(x5_2 ++ ((⟨#[97, 98, 99, 100, 101, 102, 103, 104]⟩ : ByteArray).extract ((ji11) : Int).toNat ((((ji11) + 1) % 256) : Int).toNat)), ((x6_2 ++ (rdOf ByteArray.empty y232 (ji30))) ++ ((⟨#[97, 98, 99, 100, 101, 102, 103, 104]⟩ : ByteArray).extract ((ji11) : Int).toNat ((((ji11) + 1) % 256) : Int).toNat)), (wrap64 (x7_2 + 1)), (by first | rfl | (simp; done) | (simp only [← hji11] <;> (first | rfl | simp)) | (simp [*]; done)), (by first | rfl | (simp; done) | (simp only [← hji11, ← hji30] <;> (first | rfl | simp)) | (simp [*]; done)), (by first | rfl | (simp; done) | (simp [*]; done)), H', ⟨by have := HJ4.out; have := HK2.out; omega⟩, ⟨by repeat (first | (with_reducible first | exact HB.out | apply below_alloc | apply pw_below_drewN | apply below_drew1) | exact HB.out)⟩⟩
                                    · rw [if_neg c34] at H
                                      exact absurd H (by simp)
                                  · rw [if_neg c33] at H
                                    exact absurd H (by simp)
                                · rw [if_neg c32] at H
                                  exact absurd H (by simp)
                              · rw [if_neg c31] at H
                                exact absurd H (by simp)
                            · rw [if_neg c29] at H
                              exact absurd H (by simp)
                          · rw [if_neg c28] at H
                            exact absurd H (by simp)
                      · rw [if_neg c14] at H
                        exact absurd H (by simp)
                    · rw [if_neg c13] at H
                      exact absurd H (by simp)
                  · rw [if_neg c12] at H
                    exact absurd H (by simp)
                · rw [if_neg c10] at H
                  exact absurd H (by simp)
              · rw [if_neg c9] at H
                have c9b0 : decide (x7_2 < (l0.length : Int)) = false := decide_eq_false c9
                clear c9
                have HC38 := Aside0.mk H
                clear H
                go_upto_region 14 with (fail)
                repeat (go_quiet (fail); go_upto_region 14 with (fail))
                go_cut [76] (fun v76 wc => ∃ (kq : Nat) (x76_37 : Bool), v76 = .bool x76_37 ∧ Aside0 (haversacklaw7_PathDots.j2 kq x5_2 x6_2 x76_37 = some r) ∧ Aside0 (kq ≤ k2) ∧ Aside0 (Below w.heap.size w wc))
                case first =>
                  have H := HC38.out
                  clear HC38
                  by_cases c39 : (l0.length : Int) > 0
                  · rw [if_pos c39] at H
                    have c39b0 : decide (0 < (l0.length : Int)) = true := decide_eq_true c39
                    have c39b1 : decide (0 < l0.length) = true := decide_eq_true (by omega)
                    clear c39
                    (first | rw [c39b0] | (simp only [i64_w, i32_w]; rw [c39b0]) | skip)
                    by_cases c40 : 0 < (l1.length : Int)
                    · rw [if_pos c40] at H
                      have c40b0 : decide (0 < (l1.length : Int)) = true := decide_eq_true c40
                      have c40b1 : decide (0 < l1.length) = true := decide_eq_true (by omega)
                      clear c40
                      have H' := Aside0.mk H
                      clear H
                      have p237 : 0 ≤ (0 : Int) := (by omega)
                      have q237 : 0 < (l1.length : Int) := of_decide_eq_true (by first | (with_reducible assumption) | assumption)
                      obtain ⟨ad237, e237, hx237_0⟩ := Kd.at_int HR1.out 0 p237 q237
                      cases e237
                      have qi237 : (0 < l1.length) = True := eq_true (by omega)
                      (try rw [show ((0 : Int)).toNat = 0 from rfl] at hx237_0)
                      (try rw [Addr.add_zero'] at hx237_0)
                      replace hx237_0 := (HB.out.cell (World.block_lt_of_cell? w _ hx237_0)).trans hx237_0
                      replace p237 := eq_true p237
                      replace q237 := eq_true q237
                      go_wp2
                      repeat (go_quiet (fail); try go_wp2)
                      go_meet
                      case rel => exact ⟨_, (((Int.tmod (rd l1 0) 5) == 2)), (by first | rfl | (simp; done) | (simp [*]; done)), H', ⟨by have := HJ4.out; have := HK2.out; first | omega | exact Nat.le_refl _⟩, ⟨by repeat (first | (with_reducible first | exact HB.out | apply below_alloc | apply pw_below_drewN | apply below_drew1) | exact HB.out)⟩⟩
                    · rw [if_neg c40] at H
                      exact absurd H (by simp)
                  · rw [if_neg c39] at H
                    have c39b0 : decide (0 < (l0.length : Int)) = false := decide_eq_false c39
                    have c39b1 : decide (0 < l0.length) = false := decide_eq_false (by omega)
                    clear c39
                    (first | rw [c39b0] | (simp only [i64_w, i32_w]; rw [c39b0]) | skip)
                    have H' := Aside0.mk H
                    clear H
                    go_wp2
                    repeat (go_quiet (fail); try go_wp2)
                    go_meet
                    case rel => exact ⟨_, (false), (by first | rfl | (simp; done) | (simp [*]; done)), H', ⟨by have := HJ4.out; have := HK2.out; first | omega | exact Nat.le_refl _⟩, ⟨by repeat (first | (with_reducible first | exact HB.out | apply below_alloc | apply pw_below_drewN | apply below_drew1) | exact HB.out)⟩⟩
                case rest =>
                  clear HC38
                  try clear c1
                  try clear c2
                  try clear p2
                  try clear q2
                  try clear hx2
                  try clear qi2
                  try clear c3
                  try clear c4
                  try clear p6
                  try clear c7
                  try clear c7b0
                  try clear c7b1
                  try clear c8
                  try clear c9
                  try clear c9b0
                  try clear c10
                  try clear c10b0
                  try clear c12
                  try clear c12b0
                  try clear c12b1
                  try clear c13
                  try clear c13b0
                  try clear c13b1
                  try clear c14
                  try clear c14b0
                  try clear c14b1
                  try clear c15
                  try clear c15b0
                  try clear c16
                  try clear c16b0
                  try clear c16b1
                  try clear c16b2
                  try clear c17
                  try clear c17b0
                  try clear c17b1
                  try clear c17b2
                  try clear c18
                  try clear c18b0
                  try clear c18b1
                  try clear c18b2
                  try clear c19
                  try clear c19b0
                  try clear c21
                  try clear c21b0
                  try clear c22
                  try clear c22b0
                  try clear p22
                  try clear q22
                  try clear hx22
                  try clear c23
                  try clear c23b0
                  try clear c23b1
                  try clear c23b2
                  try clear p23
                  try clear q23
                  try clear hx23
                  try clear qi23
                  try clear c24
                  try clear c24b0
                  try clear c24b1
                  try clear c24b2
                  try clear c28
                  try clear c28b0
                  try clear c28b1
                  try clear c28b2
                  try clear c29
                  try clear c29b0
                  try clear c31
                  try clear c31b0
                  try clear c32
                  try clear c32b0
                  try clear c33
                  try clear c33b0
                  try clear c33b1
                  try clear c33b2
                  try clear c34
                  try clear c34b0
                  try clear c34b1
                  try clear c34b2
                  try clear c39
                  try clear c39b0
                  try clear c39b1
                  try clear c40
                  try clear c40b0
                  try clear c40b1
                  try clear hx225_0
                  try clear hx226_0
                  try clear hx230_0
                  try clear hx231_0
                  try clear hx235_0
                  try clear hx236_0
                  try clear hx237_0
                  try clear p2
                  try clear p225
                  try clear p226
                  try clear p230
                  try clear p231
                  try clear p235
                  try clear p236
                  try clear p237
                  try clear q225
                  try clear q226
                  try clear q230
                  try clear q231
                  try clear q235
                  try clear q236
                  try clear q237
                  obtain ⟨kq, x76_37, rfl, HA, HJ37, HB⟩ := hcut
                  cases kq with
                  | zero => exact absurd HA.out (by simp [haversacklaw7_PathDots.j2])
                  | succ kj37 =>
                    have H := HA.out
                    clear HA
                    simp only [haversacklaw7_PathDots.j2] at H
                    by_cases c41 : x76_37 = true
                    · subst c41
                      have H1 : ((path_Clean.f x6_2).bind fun bt238 => (some (bt238.2 == 51))) = some r := by rw [if_pos rfl] at H; exact H
                      clear H
                      have H := H1
                      clear H1
                      replace H := Option.bind_eq_some_iff.mp H
                      obtain ⟨⟨t238, t239⟩, A420, H⟩ := H
                      replace H : (some (t239 == 51)) = some r := H
                      have A42 := Aside0.mk A420
                      clear A420
                      obtain rfl := Option.some.inj H
                      go_wp2_with (first | (go_at_call 10; (with_reducible refine (path_Clean.calls x6_2 t238 t239 _ A42.out).mono ?_); rintro e w43 ⟨rfl, hb⟩; have n0_ := Aside0.mk (below_step (by repeat (first | (with_reducible first | exact HB.out | apply below_alloc | apply pw_below_drewN | apply below_drew1) | exact HB.out)) hb); clear HB; have HB := n0_; clear n0_; (try clear hb); (try clear hb2); (try clear hk); (try clear hi)))
                      repeat (go_quiet (first | (go_at_call 10; (with_reducible refine (path_Clean.calls x6_2 t238 t239 _ A42.out).mono ?_); rintro e w43 ⟨rfl, hb⟩; have n0_ := Aside0.mk (below_step (by repeat (first | (with_reducible first | exact HB.out | apply below_alloc | apply pw_below_drewN | apply below_drew1) | exact HB.out)) hb); clear HB; have HB := n0_; clear n0_; (try clear hb); (try clear hb2); (try clear hk); (try clear hi))); try go_wp2_with (first | (go_at_call 10; (with_reducible refine (path_Clean.calls x6_2 t238 t239 _ A42.out).mono ?_); rintro e w43 ⟨rfl, hb⟩; have n0_ := Aside0.mk (below_step (by repeat (first | (with_reducible first | exact HB.out | apply below_alloc | apply pw_below_drewN | apply below_drew1) | exact HB.out)) hb); clear HB; have HB := n0_; clear n0_; (try clear hb); (try clear hb2); (try clear hk); (try clear hi))))
                      go_ret
                      exact ⟨by first | rfl | (simp [errW_none, errW_some] <;> rfl) | (simp [*, errW_none, errW_some] <;> rfl), by repeat (first | (with_reducible first | exact HB.out | apply below_alloc | apply pw_below_drewN | apply below_drew1) | exact HB.out)⟩
                    · replace c41 := Bool.eq_false_iff.mpr c41
                      subst c41
                      have H1 : ((path_Clean.f x6_2).bind fun bt240 => (if x5_2.toList = ([] : List UInt8) then (haversacklaw7_PathDots.j3 kj37 x5_2 bt240.1 bt240.2 (⟨#[46, 47]⟩ : ByteArray)) else (haversacklaw7_PathDots.j3 kj37 x5_2 bt240.1 bt240.2 (⟨#[47]⟩ : ByteArray)))) = some r := by rw [if_neg (show ¬ (false = true) by decide)] at H; exact H
                      clear H
                      have H := H1
                      clear H1
                      replace H := Option.bind_eq_some_iff.mp H
                      obtain ⟨⟨t240, t241⟩, A440, H⟩ := H
                      replace H : (if x5_2.toList = ([] : List UInt8) then (haversacklaw7_PathDots.j3 kj37 x5_2 t240 t241 (⟨#[46, 47]⟩ : ByteArray)) else (haversacklaw7_PathDots.j3 kj37 x5_2 t240 t241 (⟨#[47]⟩ : ByteArray))) = some r := H
                      have A44 := Aside0.mk A440
                      clear A440
                      have HC45 := Aside0.mk H
                      clear H
                      go_upto_if 90 with (first | (go_at_call 10; (with_reducible refine (path_Clean.calls x6_2 t240 t241 _ A44.out).mono ?_); rintro e w46 ⟨rfl, hb⟩; have n0_ := Aside0.mk (below_step (by repeat (first | (with_reducible first | exact HB.out | apply below_alloc | apply pw_below_drewN | apply below_drew1) | exact HB.out)) hb); clear HB; have HB := n0_; clear n0_; (try clear hb); (try clear hb2); (try clear hk); (try clear hi)))
                      repeat (go_quiet (first | (go_at_call 10; (with_reducible refine (path_Clean.calls x6_2 t240 t241 _ A44.out).mono ?_); rintro e w46 ⟨rfl, hb⟩; have n0_ := Aside0.mk (below_step (by repeat (first | (with_reducible first | exact HB.out | apply below_alloc | apply pw_below_drewN | apply below_drew1) | exact HB.out)) hb); clear HB; have HB := n0_; clear n0_; (try clear hb); (try clear hb2); (try clear hk); (try clear hi))); go_upto_if 90 with (first | (go_at_call 10; (with_reducible refine (path_Clean.calls x6_2 t240 t241 _ A44.out).mono ?_); rintro e w46 ⟨rfl, hb⟩; have n0_ := Aside0.mk (below_step (by repeat (first | (with_reducible first | exact HB.out | apply below_alloc | apply pw_below_drewN | apply below_drew1) | exact HB.out)) hb); clear HB; have HB := n0_; clear n0_; (try clear hb); (try clear hb2); (try clear hk); (try clear hi))))
                      (try simp only [Act.put, List.setIfInBounds_toArray, List.set_cons_zero, List.set_cons_succ])
                      go_cut [13] (fun v13 wc => ∃ (kq : Nat) (x13_44 : ByteArray), v13 = .string x13_44 ∧ Aside0 (haversacklaw7_PathDots.j3 kq x5_2 t240 t241 x13_44 = some r) ∧ Aside0 (kq ≤ kj37) ∧ Aside0 (Below w.heap.size w wc))
                      case first =>
                        have H := HC45.out
                        clear HC45
                        by_cases c47 : x5_2.toList = ([] : List UInt8)
                        · rw [if_pos c47] at H
                          have c47b0 : (x5_2.toList == ([] : List UInt8)) = true := beq_iff_eq.mpr c47
                          have c47e : x5_2.toList.isEmpty = true := emp_true c47b0
                          have c47b1 : (x5_2.toList != ([] : List UInt8)) = false := bne_eq_false_iff_eq.mpr c47
                          clear c47
                          (first | rw [c47b0] | (simp only [i64_w, i32_w]; rw [c47b0]) | skip)
                          (try simp only [c47e, Bool.not_true, Bool.not_false])
                          have H' := Aside0.mk H
                          clear H
                          go_wp2
                          repeat (go_quiet (fail); try go_wp2)
                          go_meet
                          case rel => exact ⟨_, ((⟨#[46, 47]⟩ : ByteArray)), (by first | rfl | (simp; done) | (simp [*]; done)), H', ⟨by have := HJ4.out; have := HK2.out; have := HJ37.out; first | omega | exact Nat.le_refl _⟩, ⟨by repeat (first | (with_reducible first | exact HB.out | apply below_alloc | apply pw_below_drewN | apply below_drew1) | exact HB.out)⟩⟩
                        · rw [if_neg c47] at H
                          have c47b0 : (x5_2.toList == ([] : List UInt8)) = false := beq_eq_false_iff_ne.mpr c47
                          have c47e : x5_2.toList.isEmpty = false := emp_false c47b0
                          have c47b1 : (x5_2.toList != ([] : List UInt8)) = true := bne_iff_ne.mpr c47
                          (first | rw [c47b0] | (simp only [i64_w, i32_w]; rw [c47b0]) | skip)
                          (try simp only [c47e, Bool.not_true, Bool.not_false])
                          have H' := Aside0.mk H
                          clear H
                          go_wp2
                          repeat (go_quiet (fail); try go_wp2)
                          go_meet
                          case rel => exact ⟨_, ((⟨#[47]⟩ : ByteArray)), (by first | rfl | (simp; done) | (simp [*]; done)), H', ⟨by have := HJ4.out; have := HK2.out; have := HJ37.out; first | omega | exact Nat.le_refl _⟩, ⟨by repeat (first | (with_reducible first | exact HB.out | apply below_alloc | apply pw_below_drewN | apply below_drew1) | exact HB.out)⟩⟩
                      case rest =>
                        clear HC45
                        try clear c1
                        try clear c2
                        try clear p2
                        try clear q2
                        try clear hx2
                        try clear qi2
                        try clear c3
                        try clear c4
                        try clear p6
                        try clear c7
                        try clear c7b0
                        try clear c7b1
                        try clear c8
                        try clear c9
                        try clear c9b0
                        try clear c10
                        try clear c10b0
                        try clear c12
                        try clear c12b0
                        try clear c12b1
                        try clear c13
                        try clear c13b0
                        try clear c13b1
                        try clear c14
                        try clear c14b0
                        try clear c14b1
                        try clear c15
                        try clear c15b0
                        try clear c16
                        try clear c16b0
                        try clear c16b1
                        try clear c16b2
                        try clear c17
                        try clear c17b0
                        try clear c17b1
                        try clear c17b2
                        try clear c18
                        try clear c18b0
                        try clear c18b1
                        try clear c18b2
                        try clear c19
                        try clear c19b0
                        try clear c21
                        try clear c21b0
                        try clear c22
                        try clear c22b0
                        try clear p22
                        try clear q22
                        try clear hx22
                        try clear c23
                        try clear c23b0
                        try clear c23b1
                        try clear c23b2
                        try clear p23
                        try clear q23
                        try clear hx23
                        try clear qi23
                        try clear c24
                        try clear c24b0
                        try clear c24b1
                        try clear c24b2
                        try clear c28
                        try clear c28b0
                        try clear c28b1
                        try clear c28b2
                        try clear c29
                        try clear c29b0
                        try clear c31
                        try clear c31b0
                        try clear c32
                        try clear c32b0
                        try clear c33
                        try clear c33b0
                        try clear c33b1
                        try clear c33b2
                        try clear c34
                        try clear c34b0
                        try clear c34b1
                        try clear c34b2
                        try clear c39
                        try clear c39b0
                        try clear c39b1
                        try clear c40
                        try clear c40b0
                        try clear c40b1
                        try clear c41
                        try clear c47
                        try clear c47b0
                        try clear c47b1
                        try clear hx225_0
                        try clear hx226_0
                        try clear hx230_0
                        try clear hx231_0
                        try clear hx235_0
                        try clear hx236_0
                        try clear hx237_0
                        try clear p2
                        try clear p22
                        try clear p225
                        try clear p226
                        try clear p23
                        try clear p230
                        try clear p231
                        try clear p235
                        try clear p236
                        try clear p237
                        try clear p6
                        try clear q2
                        try clear q22
                        try clear q225
                        try clear q226
                        try clear q23
                        try clear q230
                        try clear q231
                        try clear q235
                        try clear q236
                        try clear q237
                        obtain ⟨kq, x13_44, rfl, HA, HJ44, HB⟩ := hcut
                        cases kq with
                        | zero => exact absurd HA.out (by simp [haversacklaw7_PathDots.j3])
                        | succ kj44 =>
                          have H := HA.out
                          clear HA
                          simp only [haversacklaw7_PathDots.j3] at H
                          by_cases c48 : x5_2.size + x13_44.size ≤ 9223372036854775807
                          · rw [if_pos c48] at H
                            have c48b0 := eq_true c48
                            have c48b1 : decide (x5_2.size + x13_44.size ≤ 9223372036854775807) = true := decide_eq_true c48
                            try have c48b2 : (9223372036854775807 < x5_2.size + x13_44.size) = False := eq_false (Nat.not_lt.2 c48)
                            replace H := Option.bind_eq_some_iff.mp H
                            obtain ⟨⟨t242, t243⟩, A490, H⟩ := H
                            replace H : (if t241 = 0 then (if t240.toList = x5_2.toList then (if t243 = 0 then (if t242.toList = x5_2.toList then ((path_Parts.f t240).bind fun t244 => ((haversackref7_Parts.f kj44 x5_2).bind fun t247 => ((haversackhelp_Strings.f kj44 t244 t247).bind fun t250 => (some t250)))) else (some false)) else (some false)) else (some false)) else (some false)) = some r := H
                            have A49 := Aside0.mk A490
                            clear A490
                            by_cases c50 : t241 = 0
                            · rw [if_pos c50] at H
                              have c50b0 : (t241 == 0) = true := beq_iff_eq.mpr c50
                              have c50b1 : (t241 != 0) = false := bne_eq_false_iff_eq.mpr c50
                              clear c50
                              by_cases c51 : t240.toList = x5_2.toList
                              · rw [if_pos c51] at H
                                have c51b0 : (t240.toList == x5_2.toList) = true := beq_iff_eq.mpr c51
                                have c51b1 : (t240.toList != x5_2.toList) = false := bne_eq_false_iff_eq.mpr c51
                                clear c51
                                by_cases c52 : t243 = 0
                                · rw [if_pos c52] at H
                                  have c52b0 : (t243 == 0) = true := beq_iff_eq.mpr c52
                                  have c52b1 : (t243 != 0) = false := bne_eq_false_iff_eq.mpr c52
                                  clear c52
                                  by_cases c53 : t242.toList = x5_2.toList
                                  · rw [if_pos c53] at H
                                    have c53b0 : (t242.toList == x5_2.toList) = true := beq_iff_eq.mpr c53
                                    have c53b1 : (t242.toList != x5_2.toList) = false := bne_eq_false_iff_eq.mpr c53
                                    clear c53
                                    replace H := Option.bind_eq_some_iff.mp H
                                    obtain ⟨t244, A540, H⟩ := H
                                    replace H : ((haversackref7_Parts.f kj44 x5_2).bind fun t247 => ((haversackhelp_Strings.f kj44 t244 t247).bind fun t250 => (some t250))) = some r := H
                                    have A54 := Aside0.mk A540
                                    clear A540
                                    replace H := Option.bind_eq_some_iff.mp H
                                    obtain ⟨t247, A550, H⟩ := H
                                    replace H : ((haversackhelp_Strings.f kj44 t244 t247).bind fun t250 => (some t250)) = some r := H
                                    have A55 := Aside0.mk A550
                                    clear A550
                                    replace H := Option.bind_eq_some_iff.mp H
                                    obtain ⟨t250, A560, H⟩ := H
                                    replace H : (some t250) = some r := H
                                    have A56 := Aside0.mk A560
                                    clear A560
                                    obtain rfl := Option.some.inj H
                                    go_wp2_with (first | (go_at_call 10; (with_reducible refine (path_Clean.calls (x5_2 ++ x13_44) t242 t243 _ A49.out).mono ?_); rintro e w57 ⟨rfl, hb⟩; have n0_ := Aside0.mk (below_step (by repeat (first | (with_reducible first | exact HB.out | apply below_alloc | apply pw_below_drewN | apply below_drew1) | exact HB.out)) hb); clear HB; have HB := n0_; clear n0_; (try clear hb); (try clear hb2); (try clear hk); (try clear hi)) | (go_at_call 12; (with_reducible refine (path_Parts.calls t240 t244 _ A54.out).mono ?_); rintro e w58 ⟨v245, rfl, ho0, hb⟩; have n0_ := Aside0.mk (Kd.R_lower ho0 (below_size (by repeat (first | (with_reducible first | exact HB.out | apply below_alloc | apply pw_below_drewN | apply below_drew1) | exact HB.out)))); have n1_ := Aside0.mk (below_step (by repeat (first | (with_reducible first | exact HB.out | apply below_alloc | apply pw_below_drewN | apply below_drew1) | exact HB.out)) hb); clear HB; have HO246 := n0_; have HB := n1_; clear n0_ n1_; (try clear hb); (try clear hb2); (try clear hk); (try clear hi); (try clear ho0)) | (go_at_call 14; (with_reducible refine (haversackref7_Parts.calls kj44 x5_2 t247 _ A55.out).mono ?_); rintro e w59 ⟨v248, rfl, ho0, hb⟩; have n0_ := Aside0.mk (Kd.R_elder' (by (with_reducible repeat (first | apply Kd.R_alloc | apply Kd.R_drewN | apply Kd.R_drew)); exact HO246.out) (Kd.R_base ho0) hb); have n1_ := Aside0.mk (Kd.R_lower (Kd.R_new' ho0 (Kd.R_lt (by (with_reducible repeat (first | apply Kd.R_alloc | apply Kd.R_drewN | apply Kd.R_drew)); exact HO246.out))) (below_size (by repeat (first | (with_reducible first | exact HB.out | apply below_alloc | apply pw_below_drewN | apply below_drew1) | exact HB.out)))); have n2_ := Aside0.mk (below_step (by repeat (first | (with_reducible first | exact HB.out | apply below_alloc | apply pw_below_drewN | apply below_drew1) | exact HB.out)) hb); clear HO246; clear HB; have HO246 := n0_; have HO249 := n1_; have HB := n2_; clear n0_ n1_ n2_; (try clear hb); (try clear hb2); (try clear hk); (try clear hi); (try clear ho0); obtain ⟨Ao60, co60, eo60⟩ := Kd.R_slice HO246.out; subst eo60; obtain ⟨Ao61, co61, eo61⟩ := Kd.R_slice HO249.out; subst eo61) | (go_at_call 13; (with_reducible refine (haversackhelp_Strings.calls kj44 _ _ t244 _ _ t247 t250 _ ?side1 ?side2 ?side3 ?side4 A56.out).mono ?_); (case side1 => repeat (first | exact (Kd.R_reads' HO246.out).2.2 | (with_reducible refine Kd.C_alloc ?_ _) | (with_reducible refine Kd.C_drewN ?_ _) | (with_reducible refine Kd.C_drew ?_))); (case side2 => exact (Kd.R_reads' HO246.out).2.1); (case side3 => repeat (first | exact (Kd.R_reads' HO249.out).2.2 | (with_reducible refine Kd.C_alloc ?_ _) | (with_reducible refine Kd.C_drewN ?_ _) | (with_reducible refine Kd.C_drew ?_))); (case side4 => exact (Kd.R_reads' HO249.out).2.1); rintro e w' ⟨rfl, ⟨nd, rfl⟩⟩; (try first | exact ⟨rfl, _, World.drewN_drewN _ _ _⟩ | exact ⟨rfl, _, Eq.trans (World.drewN_drewN _ _ _) (congrArg (World.drewN _) (Nat.add_assoc _ _ _))⟩)))
                                    repeat (go_quiet (first | (go_at_call 10; (with_reducible refine (path_Clean.calls (x5_2 ++ x13_44) t242 t243 _ A49.out).mono ?_); rintro e w57 ⟨rfl, hb⟩; have n0_ := Aside0.mk (below_step (by repeat (first | (with_reducible first | exact HB.out | apply below_alloc | apply pw_below_drewN | apply below_drew1) | exact HB.out)) hb); clear HB; have HB := n0_; clear n0_; (try clear hb); (try clear hb2); (try clear hk); (try clear hi)) | (go_at_call 12; (with_reducible refine (path_Parts.calls t240 t244 _ A54.out).mono ?_); rintro e w58 ⟨v245, rfl, ho0, hb⟩; have n0_ := Aside0.mk (Kd.R_lower ho0 (below_size (by repeat (first | (with_reducible first | exact HB.out | apply below_alloc | apply pw_below_drewN | apply below_drew1) | exact HB.out)))); have n1_ := Aside0.mk (below_step (by repeat (first | (with_reducible first | exact HB.out | apply below_alloc | apply pw_below_drewN | apply below_drew1) | exact HB.out)) hb); clear HB; have HO246 := n0_; have HB := n1_; clear n0_ n1_; (try clear hb); (try clear hb2); (try clear hk); (try clear hi); (try clear ho0)) | (go_at_call 14; (with_reducible refine (haversackref7_Parts.calls kj44 x5_2 t247 _ A55.out).mono ?_); rintro e w59 ⟨v248, rfl, ho0, hb⟩; have n0_ := Aside0.mk (Kd.R_elder' (by (with_reducible repeat (first | apply Kd.R_alloc | apply Kd.R_drewN | apply Kd.R_drew)); exact HO246.out) (Kd.R_base ho0) hb); have n1_ := Aside0.mk (Kd.R_lower (Kd.R_new' ho0 (Kd.R_lt (by (with_reducible repeat (first | apply Kd.R_alloc | apply Kd.R_drewN | apply Kd.R_drew)); exact HO246.out))) (below_size (by repeat (first | (with_reducible first | exact HB.out | apply below_alloc | apply pw_below_drewN | apply below_drew1) | exact HB.out)))); have n2_ := Aside0.mk (below_step (by repeat (first | (with_reducible first | exact HB.out | apply below_alloc | apply pw_below_drewN | apply below_drew1) | exact HB.out)) hb); clear HO246; clear HB; have HO246 := n0_; have HO249 := n1_; have HB := n2_; clear n0_ n1_ n2_; (try clear hb); (try clear hb2); (try clear hk); (try clear hi); (try clear ho0); obtain ⟨Ao60, co60, eo60⟩ := Kd.R_slice HO246.out; subst eo60; obtain ⟨Ao61, co61, eo61⟩ := Kd.R_slice HO249.out; subst eo61) | (go_at_call 13; (with_reducible refine (haversackhelp_Strings.calls kj44 _ _ t244 _ _ t247 t250 _ ?side1 ?side2 ?side3 ?side4 A56.out).mono ?_); (case side1 => repeat (first | exact (Kd.R_reads' HO246.out).2.2 | (with_reducible refine Kd.C_alloc ?_ _) | (with_reducible refine Kd.C_drewN ?_ _) | (with_reducible refine Kd.C_drew ?_))); (case side2 => exact (Kd.R_reads' HO246.out).2.1); (case side3 => repeat (first | exact (Kd.R_reads' HO249.out).2.2 | (with_reducible refine Kd.C_alloc ?_ _) | (with_reducible refine Kd.C_drewN ?_ _) | (with_reducible refine Kd.C_drew ?_))); (case side4 => exact (Kd.R_reads' HO249.out).2.1); rintro e w' ⟨rfl, ⟨nd, rfl⟩⟩; (try first | exact ⟨rfl, _, World.drewN_drewN _ _ _⟩ | exact ⟨rfl, _, Eq.trans (World.drewN_drewN _ _ _) (congrArg (World.drewN _) (Nat.add_assoc _ _ _))⟩))); try go_wp2_with (first | (go_at_call 10; (with_reducible refine (path_Clean.calls (x5_2 ++ x13_44) t242 t243 _ A49.out).mono ?_); rintro e w57 ⟨rfl, hb⟩; have n0_ := Aside0.mk (below_step (by repeat (first | (with_reducible first | exact HB.out | apply below_alloc | apply pw_below_drewN | apply below_drew1) | exact HB.out)) hb); clear HB; have HB := n0_; clear n0_; (try clear hb); (try clear hb2); (try clear hk); (try clear hi)) | (go_at_call 12; (with_reducible refine (path_Parts.calls t240 t244 _ A54.out).mono ?_); rintro e w58 ⟨v245, rfl, ho0, hb⟩; have n0_ := Aside0.mk (Kd.R_lower ho0 (below_size (by repeat (first | (with_reducible first | exact HB.out | apply below_alloc | apply pw_below_drewN | apply below_drew1) | exact HB.out)))); have n1_ := Aside0.mk (below_step (by repeat (first | (with_reducible first | exact HB.out | apply below_alloc | apply pw_below_drewN | apply below_drew1) | exact HB.out)) hb); clear HB; have HO246 := n0_; have HB := n1_; clear n0_ n1_; (try clear hb); (try clear hb2); (try clear hk); (try clear hi); (try clear ho0)) | (go_at_call 14; (with_reducible refine (haversackref7_Parts.calls kj44 x5_2 t247 _ A55.out).mono ?_); rintro e w59 ⟨v248, rfl, ho0, hb⟩; have n0_ := Aside0.mk (Kd.R_elder' (by (with_reducible repeat (first | apply Kd.R_alloc | apply Kd.R_drewN | apply Kd.R_drew)); exact HO246.out) (Kd.R_base ho0) hb); have n1_ := Aside0.mk (Kd.R_lower (Kd.R_new' ho0 (Kd.R_lt (by (with_reducible repeat (first | apply Kd.R_alloc | apply Kd.R_drewN | apply Kd.R_drew)); exact HO246.out))) (below_size (by repeat (first | (with_reducible first | exact HB.out | apply below_alloc | apply pw_below_drewN | apply below_drew1) | exact HB.out)))); have n2_ := Aside0.mk (below_step (by repeat (first | (with_reducible first | exact HB.out | apply below_alloc | apply pw_below_drewN | apply below_drew1) | exact HB.out)) hb); clear HO246; clear HB; have HO246 := n0_; have HO249 := n1_; have HB := n2_; clear n0_ n1_ n2_; (try clear hb); (try clear hb2); (try clear hk); (try clear hi); (try clear ho0); obtain ⟨Ao60, co60, eo60⟩ := Kd.R_slice HO246.out; subst eo60; obtain ⟨Ao61, co61, eo61⟩ := Kd.R_slice HO249.out; subst eo61) | (go_at_call 13; (with_reducible refine (haversackhelp_Strings.calls kj44 _ _ t244 _ _ t247 t250 _ ?side1 ?side2 ?side3 ?side4 A56.out).mono ?_); (case side1 => repeat (first | exact (Kd.R_reads' HO246.out).2.2 | (with_reducible refine Kd.C_alloc ?_ _) | (with_reducible refine Kd.C_drewN ?_ _) | (with_reducible refine Kd.C_drew ?_))); (case side2 => exact (Kd.R_reads' HO246.out).2.1); (case side3 => repeat (first | exact (Kd.R_reads' HO249.out).2.2 | (with_reducible refine Kd.C_alloc ?_ _) | (with_reducible refine Kd.C_drewN ?_ _) | (with_reducible refine Kd.C_drew ?_))); (case side4 => exact (Kd.R_reads' HO249.out).2.1); rintro e w' ⟨rfl, ⟨nd, rfl⟩⟩; (try first | exact ⟨rfl, _, World.drewN_drewN _ _ _⟩ | exact ⟨rfl, _, Eq.trans (World.drewN_drewN _ _ _) (congrArg (World.drewN _) (Nat.add_assoc _ _ _))⟩))))
                                    go_ret
                                    exact ⟨by first | rfl | (simp [errW_none, errW_some] <;> rfl) | (simp [*, errW_none, errW_some] <;> rfl), by repeat (first | (with_reducible first | exact HB.out | apply below_alloc | apply pw_below_drewN | apply below_drew1) | exact HB.out)⟩
                                  · rw [if_neg c53] at H
                                    have c53b0 : (t242.toList == x5_2.toList) = false := beq_eq_false_iff_ne.mpr c53
                                    have c53b1 : (t242.toList != x5_2.toList) = true := bne_iff_ne.mpr c53
                                    obtain rfl := Option.some.inj H
                                    go_wp2_with (first | (go_at_call 10; (with_reducible refine (path_Clean.calls (x5_2 ++ x13_44) t242 t243 _ A49.out).mono ?_); rintro e w62 ⟨rfl, hb⟩; have n0_ := Aside0.mk (below_step (by repeat (first | (with_reducible first | exact HB.out | apply below_alloc | apply pw_below_drewN | apply below_drew1) | exact HB.out)) hb); clear HB; have HB := n0_; clear n0_; (try clear hb); (try clear hb2); (try clear hk); (try clear hi)))
                                    repeat (go_quiet (first | (go_at_call 10; (with_reducible refine (path_Clean.calls (x5_2 ++ x13_44) t242 t243 _ A49.out).mono ?_); rintro e w62 ⟨rfl, hb⟩; have n0_ := Aside0.mk (below_step (by repeat (first | (with_reducible first | exact HB.out | apply below_alloc | apply pw_below_drewN | apply below_drew1) | exact HB.out)) hb); clear HB; have HB := n0_; clear n0_; (try clear hb); (try clear hb2); (try clear hk); (try clear hi))); try go_wp2_with (first | (go_at_call 10; (with_reducible refine (path_Clean.calls (x5_2 ++ x13_44) t242 t243 _ A49.out).mono ?_); rintro e w62 ⟨rfl, hb⟩; have n0_ := Aside0.mk (below_step (by repeat (first | (with_reducible first | exact HB.out | apply below_alloc | apply pw_below_drewN | apply below_drew1) | exact HB.out)) hb); clear HB; have HB := n0_; clear n0_; (try clear hb); (try clear hb2); (try clear hk); (try clear hi))))
                                    go_ret
                                    exact ⟨by first | rfl | (simp [errW_none, errW_some] <;> rfl) | (simp [*, errW_none, errW_some] <;> rfl), by repeat (first | (with_reducible first | exact HB.out | apply below_alloc | apply pw_below_drewN | apply below_drew1) | exact HB.out)⟩
                                · rw [if_neg c52] at H
                                  have c52b0 : (t243 == 0) = false := beq_eq_false_iff_ne.mpr c52
                                  have c52b1 : (t243 != 0) = true := bne_iff_ne.mpr c52
                                  obtain rfl := Option.some.inj H
                                  go_wp2_with (first | (go_at_call 10; (with_reducible refine (path_Clean.calls (x5_2 ++ x13_44) t242 t243 _ A49.out).mono ?_); rintro e w63 ⟨rfl, hb⟩; have n0_ := Aside0.mk (below_step (by repeat (first | (with_reducible first | exact HB.out | apply below_alloc | apply pw_below_drewN | apply below_drew1) | exact HB.out)) hb); clear HB; have HB := n0_; clear n0_; (try clear hb); (try clear hb2); (try clear hk); (try clear hi)))
                                  repeat (go_quiet (first | (go_at_call 10; (with_reducible refine (path_Clean.calls (x5_2 ++ x13_44) t242 t243 _ A49.out).mono ?_); rintro e w63 ⟨rfl, hb⟩; have n0_ := Aside0.mk (below_step (by repeat (first | (with_reducible first | exact HB.out | apply below_alloc | apply pw_below_drewN | apply below_drew1) | exact HB.out)) hb); clear HB; have HB := n0_; clear n0_; (try clear hb); (try clear hb2); (try clear hk); (try clear hi))); try go_wp2_with (first | (go_at_call 10; (with_reducible refine (path_Clean.calls (x5_2 ++ x13_44) t242 t243 _ A49.out).mono ?_); rintro e w63 ⟨rfl, hb⟩; have n0_ := Aside0.mk (below_step (by repeat (first | (with_reducible first | exact HB.out | apply below_alloc | apply pw_below_drewN | apply below_drew1) | exact HB.out)) hb); clear HB; have HB := n0_; clear n0_; (try clear hb); (try clear hb2); (try clear hk); (try clear hi))))
                                  go_ret
                                  exact ⟨by first | rfl | (simp [errW_none, errW_some] <;> rfl) | (simp [*, errW_none, errW_some] <;> rfl), by repeat (first | (with_reducible first | exact HB.out | apply below_alloc | apply pw_below_drewN | apply below_drew1) | exact HB.out)⟩
                              · rw [if_neg c51] at H
                                have c51b0 : (t240.toList == x5_2.toList) = false := beq_eq_false_iff_ne.mpr c51
                                have c51b1 : (t240.toList != x5_2.toList) = true := bne_iff_ne.mpr c51
                                obtain rfl := Option.some.inj H
                                go_wp2_with (first | (go_at_call 10; (with_reducible refine (path_Clean.calls (x5_2 ++ x13_44) t242 t243 _ A49.out).mono ?_); rintro e w64 ⟨rfl, hb⟩; have n0_ := Aside0.mk (below_step (by repeat (first | (with_reducible first | exact HB.out | apply below_alloc | apply pw_below_drewN | apply below_drew1) | exact HB.out)) hb); clear HB; have HB := n0_; clear n0_; (try clear hb); (try clear hb2); (try clear hk); (try clear hi)))
                                repeat (go_quiet (first | (go_at_call 10; (with_reducible refine (path_Clean.calls (x5_2 ++ x13_44) t242 t243 _ A49.out).mono ?_); rintro e w64 ⟨rfl, hb⟩; have n0_ := Aside0.mk (below_step (by repeat (first | (with_reducible first | exact HB.out | apply below_alloc | apply pw_below_drewN | apply below_drew1) | exact HB.out)) hb); clear HB; have HB := n0_; clear n0_; (try clear hb); (try clear hb2); (try clear hk); (try clear hi))); try go_wp2_with (first | (go_at_call 10; (with_reducible refine (path_Clean.calls (x5_2 ++ x13_44) t242 t243 _ A49.out).mono ?_); rintro e w64 ⟨rfl, hb⟩; have n0_ := Aside0.mk (below_step (by repeat (first | (with_reducible first | exact HB.out | apply below_alloc | apply pw_below_drewN | apply below_drew1) | exact HB.out)) hb); clear HB; have HB := n0_; clear n0_; (try clear hb); (try clear hb2); (try clear hk); (try clear hi))))
                                go_ret
                                exact ⟨by first | rfl | (simp [errW_none, errW_some] <;> rfl) | (simp [*, errW_none, errW_some] <;> rfl), by repeat (first | (with_reducible first | exact HB.out | apply below_alloc | apply pw_below_drewN | apply below_drew1) | exact HB.out)⟩
                            · rw [if_neg c50] at H
                              have c50b0 : (t241 == 0) = false := beq_eq_false_iff_ne.mpr c50
                              have c50b1 : (t241 != 0) = true := bne_iff_ne.mpr c50
                              obtain rfl := Option.some.inj H
                              go_wp2_with (first | (go_at_call 10; (with_reducible refine (path_Clean.calls (x5_2 ++ x13_44) t242 t243 _ A49.out).mono ?_); rintro e w65 ⟨rfl, hb⟩; have n0_ := Aside0.mk (below_step (by repeat (first | (with_reducible first | exact HB.out | apply below_alloc | apply pw_below_drewN | apply below_drew1) | exact HB.out)) hb); clear HB; have HB := n0_; clear n0_; (try clear hb); (try clear hb2); (try clear hk); (try clear hi)))
                              repeat (go_quiet (first | (go_at_call 10; (with_reducible refine (path_Clean.calls (x5_2 ++ x13_44) t242 t243 _ A49.out).mono ?_); rintro e w65 ⟨rfl, hb⟩; have n0_ := Aside0.mk (below_step (by repeat (first | (with_reducible first | exact HB.out | apply below_alloc | apply pw_below_drewN | apply below_drew1) | exact HB.out)) hb); clear HB; have HB := n0_; clear n0_; (try clear hb); (try clear hb2); (try clear hk); (try clear hi))); try go_wp2_with (first | (go_at_call 10; (with_reducible refine (path_Clean.calls (x5_2 ++ x13_44) t242 t243 _ A49.out).mono ?_); rintro e w65 ⟨rfl, hb⟩; have n0_ := Aside0.mk (below_step (by repeat (first | (with_reducible first | exact HB.out | apply below_alloc | apply pw_below_drewN | apply below_drew1) | exact HB.out)) hb); clear HB; have HB := n0_; clear n0_; (try clear hb); (try clear hb2); (try clear hk); (try clear hi))))
                              go_ret
                              exact ⟨by first | rfl | (simp [errW_none, errW_some] <;> rfl) | (simp [*, errW_none, errW_some] <;> rfl), by repeat (first | (with_reducible first | exact HB.out | apply below_alloc | apply pw_below_drewN | apply below_drew1) | exact HB.out)⟩
                          · rw [if_neg c48] at H
                            exact absurd H (by simp)
  · replace c4 := Bool.eq_false_iff.mpr c4
    subst c4
    have H1 : (some false) = some r := by rw [if_neg (show ¬ (false = true) by decide)] at H; exact H
    clear H
    have H := H1
    clear H1
    obtain rfl := Option.some.inj H
    go_enter Tryd.func7, Tryd.ntmps7
    go_wp2_with (first | (go_at_call 9; (with_reducible refine (haversacklaw7_known.calls k  false _ A3.out).mono ?_); rintro e w66 ⟨rfl, hb⟩; have n0_ := Aside0.mk (below_step (by repeat (first | (with_reducible first | exact HB.out | apply below_alloc | apply pw_below_drewN | apply below_drew1) | exact HB.out)) hb); clear HB; have HB := n0_; clear n0_; (try clear hb); (try clear hb2); (try clear hk); (try clear hi)))
    repeat (go_quiet (first | (go_at_call 9; (with_reducible refine (haversacklaw7_known.calls k  false _ A3.out).mono ?_); rintro e w66 ⟨rfl, hb⟩; have n0_ := Aside0.mk (below_step (by repeat (first | (with_reducible first | exact HB.out | apply below_alloc | apply pw_below_drewN | apply below_drew1) | exact HB.out)) hb); clear HB; have HB := n0_; clear n0_; (try clear hb); (try clear hb2); (try clear hk); (try clear hi))); try go_wp2_with (first | (go_at_call 9; (with_reducible refine (haversacklaw7_known.calls k  false _ A3.out).mono ?_); rintro e w66 ⟨rfl, hb⟩; have n0_ := Aside0.mk (below_step (by repeat (first | (with_reducible first | exact HB.out | apply below_alloc | apply pw_below_drewN | apply below_drew1) | exact HB.out)) hb); clear HB; have HB := n0_; clear n0_; (try clear hb); (try clear hb2); (try clear hk); (try clear hi))))
    go_ret
    exact ⟨by first | rfl | (simp [errW_none, errW_some] <;> rfl) | (simp [*, errW_none, errW_some] <;> rfl), by repeat (first | (with_reducible first | exact HB.out | apply below_alloc | apply pw_below_drewN | apply below_drew1) | exact HB.out)⟩

/-- THE ONE PURE STATEMENT of haversacklaw7_PathDots: yours. -/
def haversacklaw7_PathDots.Pure : Prop := ∀ (l0 : List Int) (l1 : List Int), l0.length ≤ maxLen → l0.length * 1 ≤ 140737488351232 → (∀ x ∈ l0, (Lit.int .u8 x).wf = true) → l1.length ≤ maxLen → l1.length * 1 ≤ 140737488351232 → (∀ x ∈ l1, (Lit.int .u8 x).wf = true) → ∃ k, haversacklaw7_PathDots.f k l0 l1 = some true
theorem haversacklaw7_PathDots.walk (P : haversacklaw7_PathDots.Pure) (a0 : Option Addr) (len0 cap0 : Nat) (z0 : List Int) (a1 : Option Addr) (len1 cap1 : Nat) (z1 : List Int) (w : World) (w0 : (a0 = none ∧ len0 = 0 ∧ cap0 = 0 ∧ z0 = []) ∨ ∃ x, a0 = some x ∧ len0 ≤ cap0 ∧ cap0 ≤ maxLen ∧ z0.length = cap0 ∧ (∀ i, i < z0.length → w.cell? (x.add i) = some (.int .u8 (z0.getD i 0))) ∧ ∀ n ∈ z0, (Lit.int .u8 n).wf = true) (y0 : len0 * 1 ≤ 140737488351232) (w1 : (a1 = none ∧ len1 = 0 ∧ cap1 = 0 ∧ z1 = []) ∨ ∃ x, a1 = some x ∧ len1 ≤ cap1 ∧ cap1 ≤ maxLen ∧ z1.length = cap1 ∧ (∀ i, i < z1.length → w.cell? (x.add i) = some (.int .u8 (z1.getD i 0))) ∧ ∀ n ∈ z1, (Lit.int .u8 n).wf = true) (y1 : len1 * 1 ≤ 140737488351232) :
    Calls Tryd.prog 7 #[.slice a0 len0 cap0, .slice a1 len1 cap1] w fun e w' => e = .returned (.bool true) ∧ Below w.heap.size w w' := by
  obtain ⟨l0, rfl, hr0, hm0, hw0, hc0⟩ := ReadsInt.ofRowC w0
  obtain ⟨l1, rfl, hr1, hm1, hw1, hc1⟩ := ReadsInt.ofRowC w1
  obtain ⟨k, h⟩ := P l0 l1 hm0 y0 hw0 hm1 y1 hw1
  refine (haversacklaw7_PathDots.calls k _ _ l0 _ _ l1 true w (Kd.C_of_reads (d := (0 : Int)) (h1 := fun _ => rfl) hr0) hc0 (Kd.C_of_reads (d := (0 : Int)) (h1 := fun _ => rfl) hr1) hc1 h).mono ?_
  rintro e w' ⟨rfl, hd⟩
  exact ⟨rfl, hd⟩

end Go.Proofs.YtnangnnflmdjbaaDoor.P
