-- by wip/xprint.py: printed out of the translation by this session's program.
import Derived.Test.YtkcemdfhhdjdaaaDoorLine
import Derived.Test.YtkcemdfhhdjdaaaDoorPx0
import Derived.Test.YtkcemdfhhdjdaaaDoorPx5
import Derived.Test.YtkcemdfhhdjdaaaDoorPx8
namespace Go.Proofs.YtkcemdfhhdjdaaaDoor.P
open Go.RowKit Go.Proofs.YtkcemdfhhdjdaaaDoor.Ext Go.Proofs.YtkcemdfhhdjdaaaDoorW.PrintWords Go.Proofs.YtkcemdfhhdjdaaaDoorW.PrintLast Go.Proofs.YtkcemdfhhdjdaaaDoorW.PrintMore
attribute [local go_sem] max2_int min2_int max_two min_two max_three min_three max_four min_four   -- for this text's walks alone
set_option linter.unusedVariables false
set_option linter.unusedSimpArgs false

/-! ### haversackref17_Parse: function 14 -/
mutual
def haversackref17_Parse.l0 : Nat → List (S41) → List Int → List ByteArray → Int → Option ((List (S41)) × Int × Int)
  | 0, _, _, _, _ => none
  | k + 1, x5, x6, x7, x8 => if x8 < (x7.length : Int) then (if 0 ≤ x8 then ((haversackref17_Words.f k (rdOf ByteArray.empty x7 x8)).bind fun bt247 => (if bt247.2 = true then (if (bt247.1.length : Int) = 0 then (haversackref17_Parse.j1 k x5 x6 x7 x8 bt247.1 bt247.2 true) else (if (bt247.1.length : Int) > 0 then (if 0 < (bt247.1.length : Int) then (if 0 < ((rdOf ByteArray.empty bt247.1 0).size : Int) then (if (bt (rdOf ByteArray.empty bt247.1 0) 0) = 35 then (haversackref17_Parse.j1 k x5 x6 x7 x8 bt247.1 bt247.2 true) else ((haversackref17_comment.f k (rdOf ByteArray.empty x7 x8)).bind fun t253 => (haversackref17_Parse.j1 k x5 x6 x7 x8 bt247.1 bt247.2 t253))) else (none)) else (none)) else ((haversackref17_comment.f k (rdOf ByteArray.empty x7 x8)).bind fun t255 => (haversackref17_Parse.j1 k x5 x6 x7 x8 bt247.1 bt247.2 t255)))) else (if (bt247.1.length : Int) > 0 then (if 0 < (bt247.1.length : Int) then (if 0 < ((rdOf ByteArray.empty bt247.1 0).size : Int) then (if (bt (rdOf ByteArray.empty bt247.1 0) 0) = 35 then (haversackref17_Parse.j1 k x5 x6 x7 x8 bt247.1 bt247.2 true) else ((haversackref17_comment.f k (rdOf ByteArray.empty x7 x8)).bind fun t258 => (haversackref17_Parse.j1 k x5 x6 x7 x8 bt247.1 bt247.2 t258))) else (none)) else (none)) else ((haversackref17_comment.f k (rdOf ByteArray.empty x7 x8)).bind fun t260 => (haversackref17_Parse.j1 k x5 x6 x7 x8 bt247.1 bt247.2 t260))))) else (none)) else (if (x6.length : Int) > 0 then (some (([] : List (S41)), 0, 66)) else (some (x5, 0, 0)))
def haversackref17_Parse.j1 : Nat → List (S41) → List Int → List ByteArray → Int → List ByteArray → Bool → Bool → Option ((List (S41)) × Int × Int)
  | 0, _, _, _, _, _, _, _ => none
  | k + 1, x5, x6, x7, x8, x9, x10, x56 => if x56 = true then (haversackref17_Parse.l0 k x5 x6 x7 (wrap64 (x8 + 1))) else (if x10 = true then ((haversackref17_line.f k x9).bind fun bt261 => (if bt261.2.2.2.2.2.2 = true then (haversackref17_Parse.j2 k x5 x6 x7 x8 (decide ((x5.length : Int) ≥ 200)) bt261.1 bt261.2.1 bt261.2.2.1 bt261.2.2.2.1 bt261.2.2.2.2.1 bt261.2.2.2.2.2.1) else (haversackref17_Parse.j2 k x5 x6 x7 x8 true bt261.1 bt261.2.1 bt261.2.2.1 bt261.2.2.2.1 bt261.2.2.2.2.1 bt261.2.2.2.2.2.1))) else (some (([] : List (S41)), wrap64 (x8 + 1), 66)))
def haversackref17_Parse.j2 : Nat → List (S41) → List Int → List ByteArray → Int → Bool → Int → ByteArray → ByteArray → ByteArray → Int → Bool → Option ((List (S41)) × Int × Int)
  | 0, _, _, _, _, _, _, _, _, _, _, _ => none
  | k + 1, x5, x6, x7, x8, x72, x269000, x269001, x269002, x269003, x269004, x269005 => if x72 = true then (some (([] : List (S41)), wrap64 (x8 + 1), 66)) else (if x269000 = 7 then (haversackref17_Parse.j3 k x5 x6 x7 x8 (x6.length : Int) x269000 (x269000 == 7) x269000 x269001 x269002 x269003 x269004 x269005) else (haversackref17_Parse.j3 k x5 x6 x7 x8 (x6.length : Int) x269000 (x269000 == 8) x269000 x269001 x269002 x269003 x269004 x269005))
def haversackref17_Parse.j3 : Nat → List (S41) → List Int → List ByteArray → Int → Int → Int → Bool → Int → ByteArray → ByteArray → ByteArray → Int → Bool → Option ((List (S41)) × Int × Int)
  | 0, _, _, _, _, _, _, _, _, _, _, _, _, _ => none
  | k + 1, x5, x6, x7, x8, x12, x78, x79, x269000, x269001, x269002, x269003, x269004, x269005 => if x79 = true then (if x12 ≥ 8 then (some (([] : List (S41)), wrap64 (x8 + 1), 66)) else (if x269000 = 7 then (if x6.length < 17592186044416 then (if x5.length < 1954687338268 then (haversackref17_Parse.l0 k (x5 ++ [(⟨x269000, x269001, x269002, x269003, x269004, x269005⟩ : S41)]) (x6 ++ [0]) x7 (wrap64 (x8 + 1))) else (none)) else (none)) else (if x6.length < 17592186044416 then (if x5.length < 1954687338268 then (haversackref17_Parse.l0 k (x5 ++ [(⟨x269000, x269001, x269002, x269003, x269004, x269005⟩ : S41)]) (x6 ++ [2]) x7 (wrap64 (x8 + 1))) else (none)) else (none)))) else (if x78 = 9 then (if x12 = 0 then (some (([] : List (S41)), wrap64 (x8 + 1), 66)) else (if 0 ≤ (wrap64 (x12 - 1)) then (if (wrap64 (x12 - 1)) < (x6.length : Int) then (if (rd x6 (wrap64 (x12 - 1))) = 0 then (if x5.length < 1954687338268 then (haversackref17_Parse.l0 k (x5 ++ [(⟨x269000, x269001, x269002, x269003, x269004, x269005⟩ : S41)]) (x6.set ((wrap64 (x12 - 1)) : Int).toNat 1) x7 (wrap64 (x8 + 1))) else (none)) else (some (([] : List (S41)), wrap64 (x8 + 1), 66))) else (none)) else (none))) else (if x78 = 10 then (if x12 = 0 then (some (([] : List (S41)), wrap64 (x8 + 1), 66)) else (if 0 ≤ (wrap64 (x12 - 1)) then (if (wrap64 (x12 - 1)) ≤ (x6.length : Int) then (if x5.length < 1954687338268 then (haversackref17_Parse.l0 k (x5 ++ [(⟨x269000, x269001, x269002, x269003, x269004, x269005⟩ : S41)]) (x6.take ((wrap64 (x12 - 1)) : Int).toNat) x7 (wrap64 (x8 + 1))) else (none)) else (none)) else (none))) else (if x5.length < 1954687338268 then (haversackref17_Parse.l0 k (x5 ++ [(⟨x269000, x269001, x269002, x269003, x269004, x269005⟩ : S41)]) x6 x7 (wrap64 (x8 + 1))) else (none))))
end
def haversackref17_Parse.f (k : Nat) (a0 : ByteArray) : Option ((List (S41)) × Int × Int) := if (a0.size : Int) > 65536 then (some (([] : List (S41)), 0, 66)) else ((haversackref9_Lines.f k a0).bind fun t243 => (haversackref17_Parse.l0 k ([] : List (S41)) ([] : List Int) t243 0))
theorem haversackref17_Parse.mono_l : ∀ k, (∀ y0 y1 y2 y3, LeO (haversackref17_Parse.l0 k y0 y1 y2 y3) (haversackref17_Parse.l0 (k + 1) y0 y1 y2 y3)) ∧ (∀ y0 y1 y2 y3 y4 y5 y6, LeO (haversackref17_Parse.j1 k y0 y1 y2 y3 y4 y5 y6) (haversackref17_Parse.j1 (k + 1) y0 y1 y2 y3 y4 y5 y6)) ∧ (∀ y0 y1 y2 y3 y4 y5 y6 y7 y8 y9 y10, LeO (haversackref17_Parse.j2 k y0 y1 y2 y3 y4 y5 y6 y7 y8 y9 y10) (haversackref17_Parse.j2 (k + 1) y0 y1 y2 y3 y4 y5 y6 y7 y8 y9 y10)) ∧ (∀ y0 y1 y2 y3 y4 y5 y6 y7 y8 y9 y10 y11 y12, LeO (haversackref17_Parse.j3 k y0 y1 y2 y3 y4 y5 y6 y7 y8 y9 y10 y11 y12) (haversackref17_Parse.j3 (k + 1) y0 y1 y2 y3 y4 y5 y6 y7 y8 y9 y10 y11 y12))
  | 0 => ⟨fun _ _ _ _ r h => by simp [haversackref17_Parse.l0] at h, fun _ _ _ _ _ _ _ r h => by simp [haversackref17_Parse.j1] at h, fun _ _ _ _ _ _ _ _ _ _ _ r h => by simp [haversackref17_Parse.j2] at h, fun _ _ _ _ _ _ _ _ _ _ _ _ _ r h => by simp [haversackref17_Parse.j3] at h⟩
  | k + 1 => by
    obtain ⟨ih0, ih1, ih2, ih3⟩ := haversackref17_Parse.mono_l k
    refine ⟨?_, ?_, ?_, ?_⟩
    · intro y0 y1 y2 y3
      unfold haversackref17_Parse.l0
      repeat' first
      | (with_reducible exact ih0 _ _ _ _)
      | (with_reducible exact ih1 _ _ _ _ _ _ _)
      | (with_reducible exact ih2 _ _ _ _ _ _ _ _ _ _ _)
      | (with_reducible exact ih3 _ _ _ _ _ _ _ _ _ _ _ _ _)
      | (with_reducible exact haversackref17_Words.mono _ _)
      | (with_reducible exact haversackref17_comment.mono _ _)
      | (with_reducible exact haversackref17_line.mono _ _)
      | (with_reducible exact haversackref9_Lines.mono _ _)
      | (with_reducible exact LeO.refl _)
      | (with_reducible exact LeO.none _)
      | (with_reducible refine LeO.ite ?_ ?_)
      | (with_reducible refine LeO.bind ?_ (fun _ => ?_))
      | exact ih0 _ _ _ _
      | exact ih1 _ _ _ _ _ _ _
      | exact ih2 _ _ _ _ _ _ _ _ _ _ _
      | exact ih3 _ _ _ _ _ _ _ _ _ _ _ _ _
      | exact haversackref17_Words.mono _ _
      | exact haversackref17_comment.mono _ _
      | exact haversackref17_line.mono _ _
      | exact haversackref9_Lines.mono _ _
      | exact LeO.none _
      | refine LeO.ite ?_ ?_
      | refine LeO.bind ?_ (fun _ => ?_)
    · intro y0 y1 y2 y3 y4 y5 y6
      unfold haversackref17_Parse.j1
      repeat' first
      | (with_reducible exact ih0 _ _ _ _)
      | (with_reducible exact ih1 _ _ _ _ _ _ _)
      | (with_reducible exact ih2 _ _ _ _ _ _ _ _ _ _ _)
      | (with_reducible exact ih3 _ _ _ _ _ _ _ _ _ _ _ _ _)
      | (with_reducible exact haversackref17_Words.mono _ _)
      | (with_reducible exact haversackref17_comment.mono _ _)
      | (with_reducible exact haversackref17_line.mono _ _)
      | (with_reducible exact haversackref9_Lines.mono _ _)
      | (with_reducible exact LeO.refl _)
      | (with_reducible exact LeO.none _)
      | (with_reducible refine LeO.ite ?_ ?_)
      | (with_reducible refine LeO.bind ?_ (fun _ => ?_))
      | exact ih0 _ _ _ _
      | exact ih1 _ _ _ _ _ _ _
      | exact ih2 _ _ _ _ _ _ _ _ _ _ _
      | exact ih3 _ _ _ _ _ _ _ _ _ _ _ _ _
      | exact haversackref17_Words.mono _ _
      | exact haversackref17_comment.mono _ _
      | exact haversackref17_line.mono _ _
      | exact haversackref9_Lines.mono _ _
      | exact LeO.none _
      | refine LeO.ite ?_ ?_
      | refine LeO.bind ?_ (fun _ => ?_)
    · intro y0 y1 y2 y3 y4 y5 y6 y7 y8 y9 y10
      unfold haversackref17_Parse.j2
      repeat' first
      | (with_reducible exact ih0 _ _ _ _)
      | (with_reducible exact ih1 _ _ _ _ _ _ _)
      | (with_reducible exact ih2 _ _ _ _ _ _ _ _ _ _ _)
      | (with_reducible exact ih3 _ _ _ _ _ _ _ _ _ _ _ _ _)
      | (with_reducible exact haversackref17_Words.mono _ _)
      | (with_reducible exact haversackref17_comment.mono _ _)
      | (with_reducible exact haversackref17_line.mono _ _)
      | (with_reducible exact haversackref9_Lines.mono _ _)
      | (with_reducible exact LeO.refl _)
      | (with_reducible exact LeO.none _)
      | (with_reducible refine LeO.ite ?_ ?_)
      | (with_reducible refine LeO.bind ?_ (fun _ => ?_))
      | exact ih0 _ _ _ _
      | exact ih1 _ _ _ _ _ _ _
      | exact ih2 _ _ _ _ _ _ _ _ _ _ _
      | exact ih3 _ _ _ _ _ _ _ _ _ _ _ _ _
      | exact haversackref17_Words.mono _ _
      | exact haversackref17_comment.mono _ _
      | exact haversackref17_line.mono _ _
      | exact haversackref9_Lines.mono _ _
      | exact LeO.none _
      | refine LeO.ite ?_ ?_
      | refine LeO.bind ?_ (fun _ => ?_)
    · intro y0 y1 y2 y3 y4 y5 y6 y7 y8 y9 y10 y11 y12
      unfold haversackref17_Parse.j3
      repeat' first
      | (with_reducible exact ih0 _ _ _ _)
      | (with_reducible exact ih1 _ _ _ _ _ _ _)
      | (with_reducible exact ih2 _ _ _ _ _ _ _ _ _ _ _)
      | (with_reducible exact ih3 _ _ _ _ _ _ _ _ _ _ _ _ _)
      | (with_reducible exact haversackref17_Words.mono _ _)
      | (with_reducible exact haversackref17_comment.mono _ _)
      | (with_reducible exact haversackref17_line.mono _ _)
      | (with_reducible exact haversackref9_Lines.mono _ _)
      | (with_reducible exact LeO.refl _)
      | (with_reducible exact LeO.none _)
      | (with_reducible refine LeO.ite ?_ ?_)
      | (with_reducible refine LeO.bind ?_ (fun _ => ?_))
      | exact ih0 _ _ _ _
      | exact ih1 _ _ _ _ _ _ _
      | exact ih2 _ _ _ _ _ _ _ _ _ _ _
      | exact ih3 _ _ _ _ _ _ _ _ _ _ _ _ _
      | exact haversackref17_Words.mono _ _
      | exact haversackref17_comment.mono _ _
      | exact haversackref17_line.mono _ _
      | exact haversackref9_Lines.mono _ _
      | exact LeO.none _
      | refine LeO.ite ?_ ?_
      | refine LeO.bind ?_ (fun _ => ?_)
theorem haversackref17_Parse.mono : ∀ a0 k, LeO (haversackref17_Parse.f k a0) (haversackref17_Parse.f (k + 1) a0) := by
  intro a0 k
  obtain ⟨ih0, ih1, ih2, ih3⟩ := haversackref17_Parse.mono_l k
  unfold haversackref17_Parse.f
  repeat' first
      | (with_reducible exact ih0 _ _ _ _)
      | (with_reducible exact ih1 _ _ _ _ _ _ _)
      | (with_reducible exact ih2 _ _ _ _ _ _ _ _ _ _ _)
      | (with_reducible exact ih3 _ _ _ _ _ _ _ _ _ _ _ _ _)
      | (with_reducible exact haversackref17_Words.mono _ _)
      | (with_reducible exact haversackref17_comment.mono _ _)
      | (with_reducible exact haversackref17_line.mono _ _)
      | (with_reducible exact haversackref9_Lines.mono _ _)
      | (with_reducible exact LeO.refl _)
      | (with_reducible exact LeO.none _)
      | (with_reducible refine LeO.ite ?_ ?_)
      | (with_reducible refine LeO.bind ?_ (fun _ => ?_))
      | exact ih0 _ _ _ _
      | exact ih1 _ _ _ _ _ _ _
      | exact ih2 _ _ _ _ _ _ _ _ _ _ _
      | exact ih3 _ _ _ _ _ _ _ _ _ _ _ _ _
      | exact haversackref17_Words.mono _ _
      | exact haversackref17_comment.mono _ _
      | exact haversackref17_line.mono _ _
      | exact haversackref9_Lines.mono _ _
      | exact LeO.none _
      | refine LeO.ite ?_ ?_
      | refine LeO.bind ?_ (fun _ => ?_)
set_option maxHeartbeats 8000000 in
set_option maxRecDepth 100000 in
theorem haversackref17_Parse.calls (k : Nat) (a0 : ByteArray) (r1 : List (S41)) (r2 : Int) (r3 : Int) (w : World) (h : haversackref17_Parse.f k a0 = some (r1, r2, r3)) :
    Calls Tryd.prog 14 #[.string a0] w fun e w' => ∃ v0_ : Value, e = .returned (.tuple #[v0_, .int .i64 r2, .int .i64 r3]) ∧ Kd.R k41 41 w' w.heap.size (fun _ => True) v0_ r1 ∧ Below w.heap.size w w' := by
  have hu41 := Tryd.underlying41
  have HB := Aside0.mk (Below.refl w.heap.size w)
  have H : (if (a0.size : Int) > 65536 then (some (([] : List (S41)), 0, 66)) else ((haversackref9_Lines.f k a0).bind fun t243 => (haversackref17_Parse.l0 k ([] : List (S41)) ([] : List Int) t243 0))) = some (r1, r2, r3) := h
  clear h
  by_cases c2 : (a0.size : Int) > 65536
  · rw [if_pos c2] at H
    have c2b0 : decide (65536 < (a0.size : Int)) = true := decide_eq_true c2
    have c2b1 : decide (65536 < a0.size) = true := decide_eq_true (by omega)
    clear c2
    simp only [Option.some.injEq, Prod.mk.injEq] at H
    obtain ⟨rfl, rfl, rfl⟩ := H
    go_enter Tryd.func14, Tryd.ntmps14
    go_wp2
    go_ret3
    exact ⟨_, by first | rfl | (simp [errW_none, errW_some] <;> rfl) | (simp [*, errW_none, errW_some] <;> rfl), by first | exact Kd.R_nil _ _ _ _ _ | exact Kd.N_nil _ _ _ _ _ | exact Kd.V_nil _ _ _ _ _ | exact Kd.Q_nil _ _ _ _ _ | exact Kd.S_nil _ _ _ _ _, by repeat (first | (with_reducible first | exact HB.out | apply below_alloc | apply pw_below_drewN | apply below_drew1) | exact HB.out)⟩
  · rw [if_neg c2] at H
    have c2b0 : decide (65536 < (a0.size : Int)) = false := decide_eq_false c2
    have c2b1 : decide (65536 < a0.size) = false := decide_eq_false (by omega)
    clear c2
    replace H := Option.bind_eq_some_iff.mp H
    obtain ⟨t243, A30, H⟩ := H
    replace H : (haversackref17_Parse.l0 k ([] : List (S41)) ([] : List Int) t243 0) = some (r1, r2, r3) := H
    have A3 := Aside0.mk A30
    clear A30
    have H' := Aside0.mk H
    clear H
    go_enter Tryd.func14, Tryd.ntmps14
    go_wp2_with (first | ((with_reducible refine gate_callee (f := 26) rfl ?_); refine goesL_ (some 17) rfl rfl Tryd.func26 (by kernel_rfl) rfl #[.string a0] rfl (by (try simp only [List.map_toArray, List.map_cons, List.map_nil]); first | done | rfl | (simp only [List.length_drop, List.length_take]; rfl)) ?_; (with_reducible refine (haversackref9_Lines.calls k a0 t243 _ A3.out).mono ?_); rintro e w4 ⟨v244, rfl, ho0, hb⟩; refine ⟨_, rfl, ?_⟩; have n0_ := Aside0.mk (Kd.R_lower ho0 (below_size (by repeat (first | (with_reducible first | exact HB.out | apply below_alloc | apply pw_below_drewN | apply below_drew1) | exact HB.out)))); have n1_ := Aside0.mk (below_step (by repeat (first | (with_reducible first | exact HB.out | apply below_alloc | apply pw_below_drewN | apply below_drew1) | exact HB.out)) hb); clear HB; have HO245 := n0_; have HB := n1_; clear n0_ n1_; (try clear hb); (try clear hb2); (try clear hk); (try clear hi); (try clear ho0)))
    go_loopg [5, 6, 8] k (fun kq v5 v6 v8 w' => ∃ (x5_1 : List (S41)) (x6_1 : List Int) (x8_1 : Int), v8 = .int .i64 x8_1 ∧ Aside0 (haversackref17_Parse.l0 kq x5_1 x6_1 t243 x8_1 = some (r1, r2, r3)) ∧ Aside0 (kq ≤ k) ∧ Aside0 (Kd.R k41 41 w' w.heap.size (fun _ => True) v5 x5_1) ∧ Aside0 (Kd.R (Kd.int .i64) 3 w' w.heap.size (fun _ => True) v6 x6_1) ∧ Aside0 (Kd.R Kd.string 9 w' w.heap.size (fun _ => True) v244 t243) ∧ Aside0 (Below w.heap.size w w'))
    case atStart => exact ⟨(([] : List (S41))), (([] : List Int)), (0), (by first | rfl | (simp; done) | (simp [*]; done)), H', ⟨Nat.le_refl _⟩, ⟨by first | exact Kd.R_nil _ _ _ _ _ | exact Kd.N_nil _ _ _ _ _ | exact Kd.V_nil _ _ _ _ _ | exact Kd.Q_nil _ _ _ _ _ | exact Kd.S_nil _ _ _ _ _⟩, ⟨by first | exact Kd.R_nil _ _ _ _ _ | exact Kd.N_nil _ _ _ _ _ | exact Kd.V_nil _ _ _ _ _ | exact Kd.Q_nil _ _ _ _ _ | exact Kd.S_nil _ _ _ _ _⟩, ⟨by (with_reducible repeat (first | apply Kd.R_alloc | apply Kd.R_drewN | apply Kd.R_drew)); first | exact HO245.out | exact Kd.R_mono HO245.out (fun _ hk e => hk (e.trans (own_len _ _ _ _)))⟩, ⟨by repeat (first | (with_reducible first | exact HB.out | apply below_alloc | apply pw_below_drewN | apply below_drew1) | exact HB.out)⟩⟩
    case round =>
      clear H'
      try clear c1
      try clear c2
      try clear c2b0
      try clear c2b1
      try clear p2
      obtain ⟨x5_1, x6_1, x8_1, rfl, HA, HK1, HO_5, HO_6, HO_7, HB⟩ := hrel
      cases gk with
      | zero => exact absurd HA.out (by simp [haversackref17_Parse.l0])
      | succ k1 =>
        have H := HA.out
        clear HA
        simp only [haversackref17_Parse.l0] at H
        by_cases c5 : x8_1 < (t243.length : Int)
        · rw [if_pos c5] at H
          have c5b0 : decide (x8_1 < (t243.length : Int)) = true := decide_eq_true c5
          clear c5
          by_cases c6 : 0 ≤ x8_1
          · rw [if_pos c6] at H
            have c6b0 : decide (0 ≤ x8_1) = true := decide_eq_true c6
            clear c6
            replace H := Option.bind_eq_some_iff.mp H
            obtain ⟨⟨t247, t248⟩, A70, H⟩ := H
            replace H : (if t248 = true then (if (t247.length : Int) = 0 then (haversackref17_Parse.j1 k1 x5_1 x6_1 t243 x8_1 t247 t248 true) else (if (t247.length : Int) > 0 then (if 0 < (t247.length : Int) then (if 0 < ((rdOf ByteArray.empty t247 0).size : Int) then (if (bt (rdOf ByteArray.empty t247 0) 0) = 35 then (haversackref17_Parse.j1 k1 x5_1 x6_1 t243 x8_1 t247 t248 true) else ((haversackref17_comment.f k1 (rdOf ByteArray.empty t243 x8_1)).bind fun t253 => (haversackref17_Parse.j1 k1 x5_1 x6_1 t243 x8_1 t247 t248 t253))) else (none)) else (none)) else ((haversackref17_comment.f k1 (rdOf ByteArray.empty t243 x8_1)).bind fun t255 => (haversackref17_Parse.j1 k1 x5_1 x6_1 t243 x8_1 t247 t248 t255)))) else (if (t247.length : Int) > 0 then (if 0 < (t247.length : Int) then (if 0 < ((rdOf ByteArray.empty t247 0).size : Int) then (if (bt (rdOf ByteArray.empty t247 0) 0) = 35 then (haversackref17_Parse.j1 k1 x5_1 x6_1 t243 x8_1 t247 t248 true) else ((haversackref17_comment.f k1 (rdOf ByteArray.empty t243 x8_1)).bind fun t258 => (haversackref17_Parse.j1 k1 x5_1 x6_1 t243 x8_1 t247 t248 t258))) else (none)) else (none)) else ((haversackref17_comment.f k1 (rdOf ByteArray.empty t243 x8_1)).bind fun t260 => (haversackref17_Parse.j1 k1 x5_1 x6_1 t243 x8_1 t247 t248 t260)))) = some (r1, r2, r3) := H
            have A7 := Aside0.mk A70
            clear A70
            have HC8 := Aside0.mk H
            clear H
            obtain ⟨Ao9, co9, eo9⟩ := Kd.R_slice HO_7.out
            subst eo9
            have p246 : 0 ≤ (x8_1 : Int) := of_decide_eq_true (by first | (with_reducible assumption) | assumption)
            have q246 : x8_1 < (t243.length : Int) := of_decide_eq_true (by first | (with_reducible assumption) | assumption)
            obtain ⟨ad246, e246, hx246_0⟩ := Kd.at_string (Kd.R_reads' HO_7.out).2.2 x8_1 p246 q246
            cases e246
            replace p246 := eq_true p246
            replace q246 := eq_true q246
            go_upto_region 10 with (first | ((with_reducible refine gate_callee (f := 10) rfl ?_); refine goesL_ (some 29) rfl rfl Tryd.func10 (by kernel_rfl) rfl #[.string (rdOf ByteArray.empty t243 x8_1)] rfl (by (try simp only [List.map_toArray, List.map_cons, List.map_nil]); first | done | rfl | (simp only [List.length_drop, List.length_take]; rfl)) ?_; (with_reducible refine (haversackref17_Words.calls k1 (rdOf ByteArray.empty t243 x8_1) t247 t248 _ A7.out).mono ?_); rintro e w10 ⟨v249, rfl, ho0, hb⟩; refine ⟨_, rfl, ?_⟩; have n0_ := Aside0.mk (Kd.R_below (by (with_reducible repeat (first | apply Kd.R_alloc | apply Kd.R_drewN | apply Kd.R_drew)); exact HO_5.out) hb); have n1_ := Aside0.mk (Kd.R_below (by (with_reducible repeat (first | apply Kd.R_alloc | apply Kd.R_drewN | apply Kd.R_drew)); exact HO_6.out) hb); have n2_ := Aside0.mk (Kd.R_elder' (by (with_reducible repeat (first | apply Kd.R_alloc | apply Kd.R_drewN | apply Kd.R_drew)); exact HO_7.out) (Kd.R_base ho0) hb); have n3_ := Aside0.mk (Kd.R_lower (Kd.R_new' ho0 (Kd.R_lt (by (with_reducible repeat (first | apply Kd.R_alloc | apply Kd.R_drewN | apply Kd.R_drew)); exact HO_7.out))) (below_size (by repeat (first | (with_reducible first | exact HB.out | apply below_alloc | apply pw_below_drewN | apply below_drew1) | exact HB.out)))); have n4_ := Aside0.mk (below_step (by repeat (first | (with_reducible first | exact HB.out | apply below_alloc | apply pw_below_drewN | apply below_drew1) | exact HB.out)) hb); clear HO_5; clear HO_6; clear HO_7; clear HB; have HO_5 := n0_; have HO_6 := n1_; have HO_7 := n2_; have HO250 := n3_; have HB := n4_; clear n0_ n1_ n2_ n3_ n4_; (try clear hb); (try clear hb2); (try clear hk); (try clear hi); (try clear ho0)))
            (try simp only [Act.put, List.setIfInBounds_toArray, List.set_cons_zero, List.set_cons_succ])
            go_cut [56] (fun v56 wc => ∃ (kq : Nat) (x56_7 : Bool), v56 = .bool x56_7 ∧ Aside0 (haversackref17_Parse.j1 kq x5_1 x6_1 t243 x8_1 t247 t248 x56_7 = some (r1, r2, r3)) ∧ Aside0 (kq ≤ k1) ∧ Aside0 (Kd.R k41 41 wc w.heap.size (fun _ => True) u5 x5_1) ∧ Aside0 (Kd.R (Kd.int .i64) 3 wc w.heap.size (fun _ => True) u6 x6_1) ∧ Aside0 (Kd.R Kd.string 9 wc w.heap.size (fun k_ => some k_ ≠ (v249 : Value).ownBlock) (.slice (some ad246) t243.length co9) t243) ∧ Aside0 (Kd.R Kd.string 9 wc w.heap.size (fun k_ => some k_ ≠ ((.slice (some ad246) t243.length co9) : Value).ownBlock) v249 t247) ∧ Aside0 (Below w.heap.size w wc))
            case first =>
              have H := HC8.out
              clear HC8
              by_cases c11 : t248 = true
              · subst c11
                have H1 : (if (t247.length : Int) = 0 then (haversackref17_Parse.j1 k1 x5_1 x6_1 t243 x8_1 t247 true true) else (if (t247.length : Int) > 0 then (if 0 < (t247.length : Int) then (if 0 < ((rdOf ByteArray.empty t247 0).size : Int) then (if (bt (rdOf ByteArray.empty t247 0) 0) = 35 then (haversackref17_Parse.j1 k1 x5_1 x6_1 t243 x8_1 t247 true true) else ((haversackref17_comment.f k1 (rdOf ByteArray.empty t243 x8_1)).bind fun t253 => (haversackref17_Parse.j1 k1 x5_1 x6_1 t243 x8_1 t247 true t253))) else (none)) else (none)) else ((haversackref17_comment.f k1 (rdOf ByteArray.empty t243 x8_1)).bind fun t255 => (haversackref17_Parse.j1 k1 x5_1 x6_1 t243 x8_1 t247 true t255)))) = some (r1, r2, r3) := by rw [if_pos rfl] at H; exact H
                clear H
                have H := H1
                clear H1
                by_cases c12 : (t247.length : Int) = 0
                · rw [if_pos c12] at H
                  have c12b0 : ((t247.length : Int) == 0) = true := beq_iff_eq.mpr c12
                  have c12b1 : ((t247.length : Int) != 0) = false := bne_eq_false_iff_eq.mpr c12
                  clear c12
                  (first | rw [c12b0] | (simp only [i64_w, i32_w]; rw [c12b0]) | skip)
                  have H' := Aside0.mk H
                  clear H
                  obtain ⟨Ao13, co13, eo13⟩ := Kd.R_slice HO250.out
                  subst eo13
                  go_wp2
                  go_meet
                  case rel => exact ⟨_, (true), (by first | rfl | (simp; done) | (simp [*]; done)), H', ⟨by have := HK1.out; first | omega | exact Nat.le_refl _⟩, ⟨by (with_reducible repeat (first | apply Kd.R_alloc | apply Kd.R_drewN | apply Kd.R_drew)); first | exact HO_5.out | exact Kd.R_mono HO_5.out (fun _ hk e => hk (e.trans (own_len _ _ _ _)))⟩, ⟨by (with_reducible repeat (first | apply Kd.R_alloc | apply Kd.R_drewN | apply Kd.R_drew)); first | exact HO_6.out | exact Kd.R_mono HO_6.out (fun _ hk e => hk (e.trans (own_len _ _ _ _)))⟩, ⟨by (with_reducible repeat (first | apply Kd.R_alloc | apply Kd.R_drewN | apply Kd.R_drew)); exact Kd.R_mono HO_7.out (fun _ hk => hk.2)⟩, ⟨by (with_reducible repeat (first | apply Kd.R_alloc | apply Kd.R_drewN | apply Kd.R_drew)); exact Kd.R_mono HO250.out (fun _ hk => hk.2)⟩, ⟨by repeat (first | (with_reducible first | exact HB.out | apply below_alloc | apply pw_below_drewN | apply below_drew1) | exact HB.out)⟩⟩
                · rw [if_neg c12] at H
                  have c12b0 : ((t247.length : Int) == 0) = false := beq_eq_false_iff_ne.mpr c12
                  have c12b1 : ((t247.length : Int) != 0) = true := bne_iff_ne.mpr c12
                  have c12b2 : ¬ (t247 = []) := fun h_ => c12 (by rw [h_]; rfl)
                  (first | rw [c12b0] | (simp only [i64_w, i32_w]; rw [c12b0]) | skip)
                  by_cases c14 : (t247.length : Int) > 0
                  · rw [if_pos c14] at H
                    have c14b0 : decide (0 < (t247.length : Int)) = true := decide_eq_true c14
                    have c14b1 : decide (0 < t247.length) = true := decide_eq_true (by omega)
                    clear c14
                    by_cases c15 : 0 < (t247.length : Int)
                    · rw [if_pos c15] at H
                      have c15b0 : decide (0 < (t247.length : Int)) = true := decide_eq_true c15
                      have c15b1 : decide (0 < t247.length) = true := decide_eq_true (by omega)
                      clear c15
                      by_cases c16 : 0 < ((rdOf ByteArray.empty t247 0).size : Int)
                      · rw [if_pos c16] at H
                        have c16b0 : decide (0 < ((rdOf ByteArray.empty t247 0).size : Int)) = true := decide_eq_true c16
                        have c16b1 : decide (0 < (rdOf ByteArray.empty t247 0).size) = true := decide_eq_true (by omega)
                        clear c16
                        by_cases c18 : (bt (rdOf ByteArray.empty t247 0) 0) = 35
                        · rw [if_pos c18] at H
                          have c18b0 : ((bt (rdOf ByteArray.empty t247 0) 0) == 35) = true := beq_iff_eq.mpr c18
                          have c18b1 : ((bt (rdOf ByteArray.empty t247 0) 0) != 35) = false := bne_eq_false_iff_eq.mpr c18
                          clear c18
                          have H' := Aside0.mk H
                          clear H
                          obtain ⟨Ao19, co19, eo19⟩ := Kd.R_slice HO250.out
                          subst eo19
                          have p251 : 0 ≤ (0 : Int) := (by omega)
                          have q251 : 0 < (t247.length : Int) := of_decide_eq_true (by first | (with_reducible assumption) | assumption)
                          obtain ⟨ad251, e251, hx251_0⟩ := Kd.at_string (Kd.R_reads' HO250.out).2.2 0 p251 q251
                          cases e251
                          have qi251 : (0 < t247.length) = True := eq_true (by omega)
                          (try rw [show ((0 : Int)).toNat = 0 from rfl] at hx251_0)
                          (try rw [Addr.add_zero'] at hx251_0)
                          replace p251 := eq_true p251
                          replace q251 := eq_true q251
                          have p17 : 0 ≤ (0 : Int) := (by omega)
                          have q17 : 0 < (rdOf ByteArray.empty t247 0).size := (by have : (0 : Int) < ((rdOf ByteArray.empty t247 0).size : Int) := of_decide_eq_true (by first | (with_reducible assumption) | assumption); omega)
                          have hx17 : ∀ h : 0 < (rdOf ByteArray.empty t247 0).size, (((rdOf ByteArray.empty t247 0)[0]'h).toNat : Int) = bt (rdOf ByteArray.empty t247 0) 0 := bt_at (rdOf ByteArray.empty t247 0) 0
                          clear p17
                          have qi17 : (0 < ((rdOf ByteArray.empty t247 0).size : Int)) = True := eq_true (of_decide_eq_true (by first | (with_reducible assumption) | assumption))
                          replace q17 := eq_true q17
                          go_wp2
                          go_meet
                          case rel => exact ⟨_, (true), (by first | rfl | (simp; done) | (simp [*]; done)), H', ⟨by have := HK1.out; first | omega | exact Nat.le_refl _⟩, ⟨by (with_reducible repeat (first | apply Kd.R_alloc | apply Kd.R_drewN | apply Kd.R_drew)); first | exact HO_5.out | exact Kd.R_mono HO_5.out (fun _ hk e => hk (e.trans (own_len _ _ _ _)))⟩, ⟨by (with_reducible repeat (first | apply Kd.R_alloc | apply Kd.R_drewN | apply Kd.R_drew)); first | exact HO_6.out | exact Kd.R_mono HO_6.out (fun _ hk e => hk (e.trans (own_len _ _ _ _)))⟩, ⟨by (with_reducible repeat (first | apply Kd.R_alloc | apply Kd.R_drewN | apply Kd.R_drew)); exact Kd.R_mono HO_7.out (fun _ hk => hk.2)⟩, ⟨by (with_reducible repeat (first | apply Kd.R_alloc | apply Kd.R_drewN | apply Kd.R_drew)); exact Kd.R_mono HO250.out (fun _ hk => hk.2)⟩, ⟨by repeat (first | (with_reducible first | exact HB.out | apply below_alloc | apply pw_below_drewN | apply below_drew1) | exact HB.out)⟩⟩
                        · rw [if_neg c18] at H
                          have c18b0 : ((bt (rdOf ByteArray.empty t247 0) 0) == 35) = false := beq_eq_false_iff_ne.mpr c18
                          have c18b1 : ((bt (rdOf ByteArray.empty t247 0) 0) != 35) = true := bne_iff_ne.mpr c18
                          replace H := Option.bind_eq_some_iff.mp H
                          obtain ⟨t253, A200, H⟩ := H
                          replace H : (haversackref17_Parse.j1 k1 x5_1 x6_1 t243 x8_1 t247 true t253) = some (r1, r2, r3) := H
                          have A20 := Aside0.mk A200
                          clear A200
                          have H' := Aside0.mk H
                          clear H
                          obtain ⟨Ao21, co21, eo21⟩ := Kd.R_slice HO250.out
                          subst eo21
                          have p251 : 0 ≤ (0 : Int) := (by omega)
                          have q251 : 0 < (t247.length : Int) := of_decide_eq_true (by first | (with_reducible assumption) | assumption)
                          obtain ⟨ad251, e251, hx251_0⟩ := Kd.at_string (Kd.R_reads' HO250.out).2.2 0 p251 q251
                          cases e251
                          have qi251 : (0 < t247.length) = True := eq_true (by omega)
                          (try rw [show ((0 : Int)).toNat = 0 from rfl] at hx251_0)
                          (try rw [Addr.add_zero'] at hx251_0)
                          replace p251 := eq_true p251
                          replace q251 := eq_true q251
                          have p17 : 0 ≤ (0 : Int) := (by omega)
                          have q17 : 0 < (rdOf ByteArray.empty t247 0).size := (by have : (0 : Int) < ((rdOf ByteArray.empty t247 0).size : Int) := of_decide_eq_true (by first | (with_reducible assumption) | assumption); omega)
                          have hx17 : ∀ h : 0 < (rdOf ByteArray.empty t247 0).size, (((rdOf ByteArray.empty t247 0)[0]'h).toNat : Int) = bt (rdOf ByteArray.empty t247 0) 0 := bt_at (rdOf ByteArray.empty t247 0) 0
                          clear p17
                          have qi17 : (0 < ((rdOf ByteArray.empty t247 0).size : Int)) = True := eq_true (of_decide_eq_true (by first | (with_reducible assumption) | assumption))
                          replace q17 := eq_true q17
                          have p252 : 0 ≤ (x8_1 : Int) := of_decide_eq_true (by first | (with_reducible assumption) | assumption)
                          have q252 : x8_1 < (t243.length : Int) := of_decide_eq_true (by first | (with_reducible assumption) | assumption)
                          obtain ⟨ad252, e252, hx252_0⟩ := Kd.at_string (Kd.R_reads' HO_7.out).2.2 x8_1 p252 q252
                          obtain rfl : ad246 = ad252 := (by injection e252)
                          replace p252 := eq_true p252
                          replace q252 := eq_true q252
                          go_wp2_with (first | (go_at_call 27; (with_reducible refine (haversackref17_comment.calls k1 (rdOf ByteArray.empty t243 x8_1) t253 _ A20.out).mono ?_); rintro e w' ⟨rfl, ⟨nd, rfl⟩⟩))
                          go_meet
                          case rel => exact ⟨_, (t253), (by first | rfl | (simp; done) | (simp [*]; done)), H', ⟨by have := HK1.out; first | omega | exact Nat.le_refl _⟩, ⟨by (with_reducible repeat (first | apply Kd.R_alloc | apply Kd.R_drewN | apply Kd.R_drew)); first | exact HO_5.out | exact Kd.R_mono HO_5.out (fun _ hk e => hk (e.trans (own_len _ _ _ _)))⟩, ⟨by (with_reducible repeat (first | apply Kd.R_alloc | apply Kd.R_drewN | apply Kd.R_drew)); first | exact HO_6.out | exact Kd.R_mono HO_6.out (fun _ hk e => hk (e.trans (own_len _ _ _ _)))⟩, ⟨by (with_reducible repeat (first | apply Kd.R_alloc | apply Kd.R_drewN | apply Kd.R_drew)); exact Kd.R_mono HO_7.out (fun _ hk => hk.2)⟩, ⟨by (with_reducible repeat (first | apply Kd.R_alloc | apply Kd.R_drewN | apply Kd.R_drew)); exact Kd.R_mono HO250.out (fun _ hk => hk.2)⟩, ⟨by repeat (first | (with_reducible first | exact HB.out | apply below_alloc | apply pw_below_drewN | apply below_drew1) | exact HB.out)⟩⟩
                      · rw [if_neg c16] at H
                        exact absurd H (by simp)
                    · rw [if_neg c15] at H
                      exact absurd H (by simp)
                  · rw [if_neg c14] at H
                    have c14b0 : decide (0 < (t247.length : Int)) = false := decide_eq_false c14
                    have c14b1 : decide (0 < t247.length) = false := decide_eq_false (by omega)
                    clear c14
                    replace H := Option.bind_eq_some_iff.mp H
                    obtain ⟨t255, A220, H⟩ := H
                    replace H : (haversackref17_Parse.j1 k1 x5_1 x6_1 t243 x8_1 t247 true t255) = some (r1, r2, r3) := H
                    have A22 := Aside0.mk A220
                    clear A220
                    have H' := Aside0.mk H
                    clear H
                    obtain ⟨Ao23, co23, eo23⟩ := Kd.R_slice HO250.out
                    subst eo23
                    have p254 : 0 ≤ (x8_1 : Int) := of_decide_eq_true (by first | (with_reducible assumption) | assumption)
                    have q254 : x8_1 < (t243.length : Int) := of_decide_eq_true (by first | (with_reducible assumption) | assumption)
                    obtain ⟨ad254, e254, hx254_0⟩ := Kd.at_string (Kd.R_reads' HO_7.out).2.2 x8_1 p254 q254
                    obtain rfl : ad246 = ad254 := (by injection e254)
                    replace p254 := eq_true p254
                    replace q254 := eq_true q254
                    go_wp2_with (first | (go_at_call 27; (with_reducible refine (haversackref17_comment.calls k1 (rdOf ByteArray.empty t243 x8_1) t255 _ A22.out).mono ?_); rintro e w' ⟨rfl, ⟨nd, rfl⟩⟩))
                    go_meet
                    case rel => exact ⟨_, (t255), (by first | rfl | (simp; done) | (simp [*]; done)), H', ⟨by have := HK1.out; first | omega | exact Nat.le_refl _⟩, ⟨by (with_reducible repeat (first | apply Kd.R_alloc | apply Kd.R_drewN | apply Kd.R_drew)); first | exact HO_5.out | exact Kd.R_mono HO_5.out (fun _ hk e => hk (e.trans (own_len _ _ _ _)))⟩, ⟨by (with_reducible repeat (first | apply Kd.R_alloc | apply Kd.R_drewN | apply Kd.R_drew)); first | exact HO_6.out | exact Kd.R_mono HO_6.out (fun _ hk e => hk (e.trans (own_len _ _ _ _)))⟩, ⟨by (with_reducible repeat (first | apply Kd.R_alloc | apply Kd.R_drewN | apply Kd.R_drew)); exact Kd.R_mono HO_7.out (fun _ hk => hk.2)⟩, ⟨by (with_reducible repeat (first | apply Kd.R_alloc | apply Kd.R_drewN | apply Kd.R_drew)); exact Kd.R_mono HO250.out (fun _ hk => hk.2)⟩, ⟨by repeat (first | (with_reducible first | exact HB.out | apply below_alloc | apply pw_below_drewN | apply below_drew1) | exact HB.out)⟩⟩
              · replace c11 := Bool.eq_false_iff.mpr c11
                subst c11
                have H1 : (if (t247.length : Int) > 0 then (if 0 < (t247.length : Int) then (if 0 < ((rdOf ByteArray.empty t247 0).size : Int) then (if (bt (rdOf ByteArray.empty t247 0) 0) = 35 then (haversackref17_Parse.j1 k1 x5_1 x6_1 t243 x8_1 t247 false true) else ((haversackref17_comment.f k1 (rdOf ByteArray.empty t243 x8_1)).bind fun t258 => (haversackref17_Parse.j1 k1 x5_1 x6_1 t243 x8_1 t247 false t258))) else (none)) else (none)) else ((haversackref17_comment.f k1 (rdOf ByteArray.empty t243 x8_1)).bind fun t260 => (haversackref17_Parse.j1 k1 x5_1 x6_1 t243 x8_1 t247 false t260))) = some (r1, r2, r3) := by rw [if_neg (show ¬ (false = true) by decide)] at H; exact H
                clear H
                have H := H1
                clear H1
                by_cases c24 : (t247.length : Int) > 0
                · rw [if_pos c24] at H
                  have c24b0 : decide (0 < (t247.length : Int)) = true := decide_eq_true c24
                  have c24b1 : decide (0 < t247.length) = true := decide_eq_true (by omega)
                  clear c24
                  by_cases c25 : 0 < (t247.length : Int)
                  · rw [if_pos c25] at H
                    have c25b0 : decide (0 < (t247.length : Int)) = true := decide_eq_true c25
                    have c25b1 : decide (0 < t247.length) = true := decide_eq_true (by omega)
                    clear c25
                    by_cases c26 : 0 < ((rdOf ByteArray.empty t247 0).size : Int)
                    · rw [if_pos c26] at H
                      have c26b0 : decide (0 < ((rdOf ByteArray.empty t247 0).size : Int)) = true := decide_eq_true c26
                      have c26b1 : decide (0 < (rdOf ByteArray.empty t247 0).size) = true := decide_eq_true (by omega)
                      clear c26
                      by_cases c28 : (bt (rdOf ByteArray.empty t247 0) 0) = 35
                      · rw [if_pos c28] at H
                        have c28b0 : ((bt (rdOf ByteArray.empty t247 0) 0) == 35) = true := beq_iff_eq.mpr c28
                        have c28b1 : ((bt (rdOf ByteArray.empty t247 0) 0) != 35) = false := bne_eq_false_iff_eq.mpr c28
                        clear c28
                        have H' := Aside0.mk H
                        clear H
                        obtain ⟨Ao29, co29, eo29⟩ := Kd.R_slice HO250.out
                        subst eo29
                        have p256 : 0 ≤ (0 : Int) := (by omega)
                        have q256 : 0 < (t247.length : Int) := of_decide_eq_true (by first | (with_reducible assumption) | assumption)
                        obtain ⟨ad256, e256, hx256_0⟩ := Kd.at_string (Kd.R_reads' HO250.out).2.2 0 p256 q256
                        cases e256
                        have qi256 : (0 < t247.length) = True := eq_true (by omega)
                        (try rw [show ((0 : Int)).toNat = 0 from rfl] at hx256_0)
                        (try rw [Addr.add_zero'] at hx256_0)
                        replace p256 := eq_true p256
                        replace q256 := eq_true q256
                        have p27 : 0 ≤ (0 : Int) := (by omega)
                        have q27 : 0 < (rdOf ByteArray.empty t247 0).size := (by have : (0 : Int) < ((rdOf ByteArray.empty t247 0).size : Int) := of_decide_eq_true (by first | (with_reducible assumption) | assumption); omega)
                        have hx27 : ∀ h : 0 < (rdOf ByteArray.empty t247 0).size, (((rdOf ByteArray.empty t247 0)[0]'h).toNat : Int) = bt (rdOf ByteArray.empty t247 0) 0 := bt_at (rdOf ByteArray.empty t247 0) 0
                        clear p27
                        have qi27 : (0 < ((rdOf ByteArray.empty t247 0).size : Int)) = True := eq_true (of_decide_eq_true (by first | (with_reducible assumption) | assumption))
                        replace q27 := eq_true q27
                        go_wp2
                        go_meet
                        case rel => exact ⟨_, (true), (by first | rfl | (simp; done) | (simp [*]; done)), H', ⟨by have := HK1.out; first | omega | exact Nat.le_refl _⟩, ⟨by (with_reducible repeat (first | apply Kd.R_alloc | apply Kd.R_drewN | apply Kd.R_drew)); first | exact HO_5.out | exact Kd.R_mono HO_5.out (fun _ hk e => hk (e.trans (own_len _ _ _ _)))⟩, ⟨by (with_reducible repeat (first | apply Kd.R_alloc | apply Kd.R_drewN | apply Kd.R_drew)); first | exact HO_6.out | exact Kd.R_mono HO_6.out (fun _ hk e => hk (e.trans (own_len _ _ _ _)))⟩, ⟨by (with_reducible repeat (first | apply Kd.R_alloc | apply Kd.R_drewN | apply Kd.R_drew)); exact Kd.R_mono HO_7.out (fun _ hk => hk.2)⟩, ⟨by (with_reducible repeat (first | apply Kd.R_alloc | apply Kd.R_drewN | apply Kd.R_drew)); exact Kd.R_mono HO250.out (fun _ hk => hk.2)⟩, ⟨by repeat (first | (with_reducible first | exact HB.out | apply below_alloc | apply pw_below_drewN | apply below_drew1) | exact HB.out)⟩⟩
                      · rw [if_neg c28] at H
                        have c28b0 : ((bt (rdOf ByteArray.empty t247 0) 0) == 35) = false := beq_eq_false_iff_ne.mpr c28
                        have c28b1 : ((bt (rdOf ByteArray.empty t247 0) 0) != 35) = true := bne_iff_ne.mpr c28
                        replace H := Option.bind_eq_some_iff.mp H
                        obtain ⟨t258, A300, H⟩ := H
                        replace H : (haversackref17_Parse.j1 k1 x5_1 x6_1 t243 x8_1 t247 false t258) = some (r1, r2, r3) := H
                        have A30 := Aside0.mk A300
                        clear A300
                        have H' := Aside0.mk H
                        clear H
                        obtain ⟨Ao31, co31, eo31⟩ := Kd.R_slice HO250.out
                        subst eo31
                        have p256 : 0 ≤ (0 : Int) := (by omega)
                        have q256 : 0 < (t247.length : Int) := of_decide_eq_true (by first | (with_reducible assumption) | assumption)
                        obtain ⟨ad256, e256, hx256_0⟩ := Kd.at_string (Kd.R_reads' HO250.out).2.2 0 p256 q256
                        cases e256
                        have qi256 : (0 < t247.length) = True := eq_true (by omega)
                        (try rw [show ((0 : Int)).toNat = 0 from rfl] at hx256_0)
                        (try rw [Addr.add_zero'] at hx256_0)
                        replace p256 := eq_true p256
                        replace q256 := eq_true q256
                        have p27 : 0 ≤ (0 : Int) := (by omega)
                        have q27 : 0 < (rdOf ByteArray.empty t247 0).size := (by have : (0 : Int) < ((rdOf ByteArray.empty t247 0).size : Int) := of_decide_eq_true (by first | (with_reducible assumption) | assumption); omega)
                        have hx27 : ∀ h : 0 < (rdOf ByteArray.empty t247 0).size, (((rdOf ByteArray.empty t247 0)[0]'h).toNat : Int) = bt (rdOf ByteArray.empty t247 0) 0 := bt_at (rdOf ByteArray.empty t247 0) 0
                        clear p27
                        have qi27 : (0 < ((rdOf ByteArray.empty t247 0).size : Int)) = True := eq_true (of_decide_eq_true (by first | (with_reducible assumption) | assumption))
                        replace q27 := eq_true q27
                        have p257 : 0 ≤ (x8_1 : Int) := of_decide_eq_true (by first | (with_reducible assumption) | assumption)
                        have q257 : x8_1 < (t243.length : Int) := of_decide_eq_true (by first | (with_reducible assumption) | assumption)
                        obtain ⟨ad257, e257, hx257_0⟩ := Kd.at_string (Kd.R_reads' HO_7.out).2.2 x8_1 p257 q257
                        obtain rfl : ad246 = ad257 := (by injection e257)
                        replace p257 := eq_true p257
                        replace q257 := eq_true q257
                        go_wp2_with (first | (go_at_call 27; (with_reducible refine (haversackref17_comment.calls k1 (rdOf ByteArray.empty t243 x8_1) t258 _ A30.out).mono ?_); rintro e w' ⟨rfl, ⟨nd, rfl⟩⟩))
                        go_meet
                        case rel => exact ⟨_, (t258), (by first | rfl | (simp; done) | (simp [*]; done)), H', ⟨by have := HK1.out; first | omega | exact Nat.le_refl _⟩, ⟨by (with_reducible repeat (first | apply Kd.R_alloc | apply Kd.R_drewN | apply Kd.R_drew)); first | exact HO_5.out | exact Kd.R_mono HO_5.out (fun _ hk e => hk (e.trans (own_len _ _ _ _)))⟩, ⟨by (with_reducible repeat (first | apply Kd.R_alloc | apply Kd.R_drewN | apply Kd.R_drew)); first | exact HO_6.out | exact Kd.R_mono HO_6.out (fun _ hk e => hk (e.trans (own_len _ _ _ _)))⟩, ⟨by (with_reducible repeat (first | apply Kd.R_alloc | apply Kd.R_drewN | apply Kd.R_drew)); exact Kd.R_mono HO_7.out (fun _ hk => hk.2)⟩, ⟨by (with_reducible repeat (first | apply Kd.R_alloc | apply Kd.R_drewN | apply Kd.R_drew)); exact Kd.R_mono HO250.out (fun _ hk => hk.2)⟩, ⟨by repeat (first | (with_reducible first | exact HB.out | apply below_alloc | apply pw_below_drewN | apply below_drew1) | exact HB.out)⟩⟩
                    · rw [if_neg c26] at H
                      exact absurd H (by simp)
                  · rw [if_neg c25] at H
                    exact absurd H (by simp)
                · rw [if_neg c24] at H
                  have c24b0 : decide (0 < (t247.length : Int)) = false := decide_eq_false c24
                  have c24b1 : decide (0 < t247.length) = false := decide_eq_false (by omega)
                  clear c24
                  replace H := Option.bind_eq_some_iff.mp H
                  obtain ⟨t260, A320, H⟩ := H
                  replace H : (haversackref17_Parse.j1 k1 x5_1 x6_1 t243 x8_1 t247 false t260) = some (r1, r2, r3) := H
                  have A32 := Aside0.mk A320
                  clear A320
                  have H' := Aside0.mk H
                  clear H
                  obtain ⟨Ao33, co33, eo33⟩ := Kd.R_slice HO250.out
                  subst eo33
                  have p259 : 0 ≤ (x8_1 : Int) := of_decide_eq_true (by first | (with_reducible assumption) | assumption)
                  have q259 : x8_1 < (t243.length : Int) := of_decide_eq_true (by first | (with_reducible assumption) | assumption)
                  obtain ⟨ad259, e259, hx259_0⟩ := Kd.at_string (Kd.R_reads' HO_7.out).2.2 x8_1 p259 q259
                  obtain rfl : ad246 = ad259 := (by injection e259)
                  replace p259 := eq_true p259
                  replace q259 := eq_true q259
                  go_wp2_with (first | (go_at_call 27; (with_reducible refine (haversackref17_comment.calls k1 (rdOf ByteArray.empty t243 x8_1) t260 _ A32.out).mono ?_); rintro e w' ⟨rfl, ⟨nd, rfl⟩⟩))
                  go_meet
                  case rel => exact ⟨_, (t260), (by first | rfl | (simp; done) | (simp [*]; done)), H', ⟨by have := HK1.out; first | omega | exact Nat.le_refl _⟩, ⟨by (with_reducible repeat (first | apply Kd.R_alloc | apply Kd.R_drewN | apply Kd.R_drew)); first | exact HO_5.out | exact Kd.R_mono HO_5.out (fun _ hk e => hk (e.trans (own_len _ _ _ _)))⟩, ⟨by (with_reducible repeat (first | apply Kd.R_alloc | apply Kd.R_drewN | apply Kd.R_drew)); first | exact HO_6.out | exact Kd.R_mono HO_6.out (fun _ hk e => hk (e.trans (own_len _ _ _ _)))⟩, ⟨by (with_reducible repeat (first | apply Kd.R_alloc | apply Kd.R_drewN | apply Kd.R_drew)); exact Kd.R_mono HO_7.out (fun _ hk => hk.2)⟩, ⟨by (with_reducible repeat (first | apply Kd.R_alloc | apply Kd.R_drewN | apply Kd.R_drew)); exact Kd.R_mono HO250.out (fun _ hk => hk.2)⟩, ⟨by repeat (first | (with_reducible first | exact HB.out | apply below_alloc | apply pw_below_drewN | apply below_drew1) | exact HB.out)⟩⟩
            case rest =>
              clear HC8
              try clear c1
              try clear p1
              try clear q1
              try clear hx1
              try clear qi1
              try clear c2
              try clear c2b0
              try clear c2b1
              try clear p2
              try clear q2
              try clear hx2
              try clear qi2
              try clear c5
              try clear c5b0
              try clear c6
              try clear c6b0
              try clear c10
              try clear c11
              try clear c12
              try clear c12b0
              try clear c12b1
              try clear c12b2
              try clear c14
              try clear c14b0
              try clear c14b1
              try clear c15
              try clear c15b0
              try clear c15b1
              try clear c16
              try clear c16b0
              try clear c16b1
              try clear p17
              try clear q17
              try clear hx17
              try clear qi17
              try clear c18
              try clear c18b0
              try clear c18b1
              try clear c24
              try clear c24b0
              try clear c24b1
              try clear p24
              try clear q24
              try clear hx24
              try clear c25
              try clear c25b0
              try clear c25b1
              try clear p25
              try clear q25
              try clear hx25
              try clear qi25
              try clear c26
              try clear c26b0
              try clear c26b1
              try clear p27
              try clear q27
              try clear hx27
              try clear qi27
              try clear c28
              try clear c28b0
              try clear c28b1
              try clear hx246_0
              try clear hx251_0
              try clear hx252_0
              try clear hx254_0
              try clear hx256_0
              try clear hx257_0
              try clear hx259_0
              try clear p17
              try clear p2
              try clear p246
              try clear p251
              try clear p252
              try clear p254
              try clear p256
              try clear p257
              try clear p259
              try clear p27
              try clear q17
              try clear q246
              try clear q251
              try clear q252
              try clear q254
              try clear q256
              try clear q257
              try clear q259
              try clear q27
              obtain ⟨kq, x56_7, rfl, HA, HJ7, HO_5, HO_6, HO_7, HO_9, HB⟩ := hcut
              cases kq with
              | zero => exact absurd HA.out (by simp [haversackref17_Parse.j1])
              | succ kj7 =>
                have H := HA.out
                clear HA
                simp only [haversackref17_Parse.j1] at H
                by_cases c34 : x56_7 = true
                · subst c34
                  have H1 : (haversackref17_Parse.l0 kj7 x5_1 x6_1 t243 (wrap64 (x8_1 + 1))) = some (r1, r2, r3) := by rw [if_pos rfl] at H; exact H
                  clear H
                  have H := H1
                  clear H1
                  have H' := Aside0.mk H
                  clear H
                  go_wp2
                  go_roundg kj7
                  case measure => have := HK1.out; have := HJ7.out; omega
                  case rel => exact ⟨(x5_1), (x6_1), (wrap64 (x8_1 + 1)), (by first | rfl | (simp; done) | (simp [*]; done)), H', ⟨by have := HK1.out; have := HJ7.out; omega⟩, ⟨by (with_reducible repeat (first | apply Kd.R_alloc | apply Kd.R_drewN | apply Kd.R_drew)); first | exact HO_5.out | exact Kd.R_mono HO_5.out (fun _ hk e => hk (e.trans (own_len _ _ _ _)))⟩, ⟨by (with_reducible repeat (first | apply Kd.R_alloc | apply Kd.R_drewN | apply Kd.R_drew)); first | exact HO_6.out | exact Kd.R_mono HO_6.out (fun _ hk e => hk (e.trans (own_len _ _ _ _)))⟩, ⟨by (with_reducible repeat (first | apply Kd.R_alloc | apply Kd.R_drewN | apply Kd.R_drew)); exact Kd.R_mono HO_7.out (fun _ hk => trivial)⟩, ⟨by repeat (first | (with_reducible first | exact HB.out | apply below_alloc | apply pw_below_drewN | apply below_drew1) | exact HB.out)⟩⟩
                · replace c34 := Bool.eq_false_iff.mpr c34
                  subst c34
                  have H1 : (if t248 = true then ((haversackref17_line.f kj7 t247).bind fun bt261 => (if bt261.2.2.2.2.2.2 = true then (haversackref17_Parse.j2 kj7 x5_1 x6_1 t243 x8_1 (decide ((x5_1.length : Int) ≥ 200)) bt261.1 bt261.2.1 bt261.2.2.1 bt261.2.2.2.1 bt261.2.2.2.2.1 bt261.2.2.2.2.2.1) else (haversackref17_Parse.j2 kj7 x5_1 x6_1 t243 x8_1 true bt261.1 bt261.2.1 bt261.2.2.1 bt261.2.2.2.1 bt261.2.2.2.2.1 bt261.2.2.2.2.2.1))) else (some (([] : List (S41)), wrap64 (x8_1 + 1), 66))) = some (r1, r2, r3) := by rw [if_neg (show ¬ (false = true) by decide)] at H; exact H
                  clear H
                  have H := H1
                  clear H1
                  by_cases c35 : t248 = true
                  · subst c35
                    have H1 : ((haversackref17_line.f kj7 t247).bind fun bt261 => (if bt261.2.2.2.2.2.2 = true then (haversackref17_Parse.j2 kj7 x5_1 x6_1 t243 x8_1 (decide ((x5_1.length : Int) ≥ 200)) bt261.1 bt261.2.1 bt261.2.2.1 bt261.2.2.2.1 bt261.2.2.2.2.1 bt261.2.2.2.2.2.1) else (haversackref17_Parse.j2 kj7 x5_1 x6_1 t243 x8_1 true bt261.1 bt261.2.1 bt261.2.2.1 bt261.2.2.2.1 bt261.2.2.2.2.1 bt261.2.2.2.2.2.1))) = some (r1, r2, r3) := by rw [if_pos rfl] at H; exact H
                    clear H
                    have H := H1
                    clear H1
                    replace H := Option.bind_eq_some_iff.mp H
                    obtain ⟨⟨t261, t262, t263, t264, t265, t266, t267⟩, A360, H⟩ := H
                    replace H : (if t267 = true then (haversackref17_Parse.j2 kj7 x5_1 x6_1 t243 x8_1 (decide ((x5_1.length : Int) ≥ 200)) t261 t262 t263 t264 t265 t266) else (haversackref17_Parse.j2 kj7 x5_1 x6_1 t243 x8_1 true t261 t262 t263 t264 t265 t266)) = some (r1, r2, r3) := H
                    have A36 := Aside0.mk A360
                    clear A360
                    have HC37 := Aside0.mk H
                    clear H
                    obtain ⟨Ao38, co38, eo38⟩ := Kd.R_slice HO_9.out
                    subst eo38
                    go_upto_region 14 with (first | ((with_reducible refine gate_callee (f := 28) rfl ?_); refine goesL_ (some 63) rfl rfl Tryd.func28 (by kernel_rfl) rfl #[.slice Ao38 t247.length co38] rfl (by (try simp only [List.map_toArray, List.map_cons, List.map_nil]); first | done | rfl | (simp only [List.length_drop, List.length_take]; rfl)) ?_; (with_reducible refine (haversackref17_line.calls kj7 _ _ t247 t261 t262 t263 t264 t265 t266 t267 _ ?side1 ?side2 A36.out).mono ?_); (case side1 => repeat (first | exact (Kd.R_reads' HO_9.out).2.2 | (with_reducible refine Kd.C_alloc ?_ _) | (with_reducible refine Kd.C_drewN ?_ _) | (with_reducible refine Kd.C_drew ?_))); (case side2 => exact (Kd.R_reads' HO_9.out).2.1); rintro e w39 ⟨rfl, hb⟩; refine ⟨_, rfl, ?_⟩; have n0_ := Aside0.mk (Kd.R_below (by (with_reducible repeat (first | apply Kd.R_alloc | apply Kd.R_drewN | apply Kd.R_drew)); exact HO_5.out) hb); have n1_ := Aside0.mk (Kd.R_below (by (with_reducible repeat (first | apply Kd.R_alloc | apply Kd.R_drewN | apply Kd.R_drew)); exact HO_6.out) hb); have n2_ := Aside0.mk (Kd.R_below (by (with_reducible repeat (first | apply Kd.R_alloc | apply Kd.R_drewN | apply Kd.R_drew)); exact HO_7.out) hb); have n3_ := Aside0.mk (Kd.R_below (by (with_reducible repeat (first | apply Kd.R_alloc | apply Kd.R_drewN | apply Kd.R_drew)); exact HO_9.out) hb); have n4_ := Aside0.mk (below_step (by repeat (first | (with_reducible first | exact HB.out | apply below_alloc | apply pw_below_drewN | apply below_drew1) | exact HB.out)) hb); clear HO_5; clear HO_6; clear HO_7; clear HO_9; clear HB; have HO_5 := n0_; have HO_6 := n1_; have HO_7 := n2_; have HO_9 := n3_; have HB := n4_; clear n0_ n1_ n2_ n3_ n4_; (try clear hb); (try clear hb2); (try clear hk); (try clear hi)) | ((with_reducible refine gate_dst (N := 11) rfl ?_); (try (refine gate_guard (by rfl) ?_; dsimp only)); refine box_event ?hg (N := 11) ?hd (cs := #[.int .i64 0, .string (⟨#[]⟩ : ByteArray), .string (⟨#[]⟩ : ByteArray), .string (⟨#[]⟩ : ByteArray), .int .i64 0, .bool false]) (t := 41) ?hr ?_; (case hd => rfl); (case hg => rfl); (case hr => first | (go_simp; done) | (go_simp; rfl)); intro gb268 hg w40 hbox hb; have n0_ := Aside0.mk (Kd.R_below (Kd.R_elderB (by (with_reducible repeat (first | apply Kd.R_alloc | apply Kd.R_drewN | apply Kd.R_drew)); exact HO_5.out) gb268 (Nat.le_of_eq hg.symm)) hb); have n1_ := Aside0.mk (Kd.R_below (by (with_reducible repeat (first | apply Kd.R_alloc | apply Kd.R_drewN | apply Kd.R_drew)); exact HO_6.out) hb); have n2_ := Aside0.mk (Kd.R_below (by (with_reducible repeat (first | apply Kd.R_alloc | apply Kd.R_drewN | apply Kd.R_drew)); exact HO_7.out) hb); have n3_ := Aside0.mk (Kd.R_below (by (with_reducible repeat (first | apply Kd.R_alloc | apply Kd.R_drewN | apply Kd.R_drew)); exact HO_9.out) hb); have n4_ := Aside0.mk (below_step (by repeat (first | (with_reducible first | exact HB.out | apply below_alloc | apply pw_below_drewN | apply below_drew1) | exact HB.out)) hb); have n5_ := Aside0.mk (hbox); have n6_ := Aside0.mk ((by rw [hg]; exact (below_size (by repeat (first | (with_reducible first | exact HB.out | apply below_alloc | apply pw_below_drewN | apply below_drew1) | exact HB.out))) : w.heap.size ≤ gb268)); have n7_ := Aside0.mk ((by rw [hg]; exact (below_size (by repeat (first | (with_reducible first | exact HB.out | apply below_alloc | apply pw_below_drewN | apply below_drew1) | exact HB.out))) : w.heap.size ≤ gb268)); clear HO_5; clear HO_6; clear HO_7; clear HO_9; clear HB; have HO_5 := n0_; have HO_6 := n1_; have HO_7 := n2_; have HO_9 := n3_; have HB := n4_; have BK268 := n5_; have GW268 := n6_; have GE268 := n7_; clear n0_ n1_ n2_ n3_ n4_ n5_ n6_ n7_; clear hb hbox hg; have hcz41_0 : w40.cell? ⟨gb268, 0, none⟩ = some (.int .i64 0) := (blk_cell BK268.out 0).trans rfl; have hcz41_1 : w40.cell? ⟨gb268, 1, none⟩ = some (.string (⟨#[]⟩ : ByteArray)) := (blk_cell BK268.out 1).trans rfl; have hcz41_2 : w40.cell? ⟨gb268, 2, none⟩ = some (.string (⟨#[]⟩ : ByteArray)) := (blk_cell BK268.out 2).trans rfl; have hcz41_3 : w40.cell? ⟨gb268, 3, none⟩ = some (.string (⟨#[]⟩ : ByteArray)) := (blk_cell BK268.out 3).trans rfl; have hcz41_4 : w40.cell? ⟨gb268, 4, none⟩ = some (.int .i64 0) := (blk_cell BK268.out 4).trans rfl; have hcz41_5 : w40.cell? ⟨gb268, 5, none⟩ = some (.bool false) := (blk_cell BK268.out 5).trans rfl; have hfz41_0 := blk_frozen BK268.out 0; have hfz41_1 := blk_frozen BK268.out 1; have hfz41_2 := blk_frozen BK268.out 2; have hfz41_3 := blk_frozen BK268.out 3; have hfz41_4 := blk_frozen BK268.out 4; have hfz41_5 := blk_frozen BK268.out 5))
                    (try simp only [Act.put, List.setIfInBounds_toArray, List.set_cons_zero, List.set_cons_succ])
                    go_cut [72] (fun v72 wc => ∃ (kq : Nat) (x72_36 : Bool), v72 = .bool x72_36 ∧ Aside0 (haversackref17_Parse.j2 kq x5_1 x6_1 t243 x8_1 x72_36 t261 t262 t263 t264 t265 t266 = some (r1, r2, r3)) ∧ Aside0 (kq ≤ kj7) ∧ Aside0 (Kd.R k41 41 wc w.heap.size (fun k_ => k_ ≠ gb268) u5 x5_1) ∧ Aside0 (Kd.R (Kd.int .i64) 3 wc w.heap.size (fun _ => True) u6 x6_1) ∧ Aside0 (Kd.R Kd.string 9 wc w.heap.size (fun _ => True) (.slice (some ad246) t243.length co9) t243) ∧ Aside0 (wc.heap[gb268]? = some (.cells #[.int .i64 t261, .string t262, .string t263, .string t264, .int .i64 t265, .bool t266] 41 (0, 0))) ∧ Aside0 (Below w.heap.size w wc))
                    case first =>
                      have H := HC37.out
                      clear HC37
                      by_cases c42 : t267 = true
                      · subst c42
                        have H1 : (haversackref17_Parse.j2 kj7 x5_1 x6_1 t243 x8_1 (decide ((x5_1.length : Int) ≥ 200)) t261 t262 t263 t264 t265 t266) = some (r1, r2, r3) := by rw [if_pos rfl] at H; exact H
                        clear H
                        have H := H1
                        clear H1
                        have H' := Aside0.mk H
                        clear H
                        obtain ⟨Ao43, co43, eo43⟩ := Kd.R_slice HO_5.out
                        subst eo43
                        go_wp2
                        go_meet
                        case rel => exact ⟨_, (decide ((x5_1.length : Int) ≥ 200)), (by first | rfl | (simp; done) | (simp [*]; done)), H', ⟨by have := HK1.out; have := HJ7.out; first | omega | exact Nat.le_refl _⟩, ⟨by (with_reducible repeat (first | apply Kd.R_alloc | apply Kd.R_drewN | apply Kd.R_drew)); exact Kd.R_mono (Kd.R_far (p := ⟨gb268, 5, none⟩) (Kd.R_far (p := ⟨gb268, 4, none⟩) (Kd.R_far (p := ⟨gb268, 3, none⟩) (Kd.R_far (p := ⟨gb268, 2, none⟩) (Kd.R_far (p := ⟨gb268, 1, none⟩) (Kd.R_far (p := ⟨gb268, 0, none⟩) (Kd.R_mono HO_5.out (fun k_ hk => (⟨hk, hk.2⟩ : _ ∧ k_ ≠ gb268))) (fun _ hk => hk.2) (.int .i64 t261)) (fun _ hk => hk.2) (.string t262)) (fun _ hk => hk.2) (.string t263)) (fun _ hk => hk.2) (.string t264)) (fun _ hk => hk.2) (.int .i64 t265)) (fun _ hk => hk.2) (.bool t266)) (fun _ hk => hk.1.2)⟩, ⟨by (with_reducible repeat (first | apply Kd.R_alloc | apply Kd.R_drewN | apply Kd.R_drew)); exact Kd.R_mono (Kd.R_far (p := ⟨gb268, 5, none⟩) (Kd.R_far (p := ⟨gb268, 4, none⟩) (Kd.R_far (p := ⟨gb268, 3, none⟩) (Kd.R_far (p := ⟨gb268, 2, none⟩) (Kd.R_far (p := ⟨gb268, 1, none⟩) (Kd.R_far (p := ⟨gb268, 0, none⟩) (Kd.R_types HO_6.out BK268.out (by decide)) (fun _ hk => hk.2) (.int .i64 t261)) (fun _ hk => hk.2) (.string t262)) (fun _ hk => hk.2) (.string t263)) (fun _ hk => hk.2) (.string t264)) (fun _ hk => hk.2) (.int .i64 t265)) (fun _ hk => hk.2) (.bool t266)) (fun _ hk => trivial)⟩, ⟨by (with_reducible repeat (first | apply Kd.R_alloc | apply Kd.R_drewN | apply Kd.R_drew)); exact Kd.R_mono (Kd.R_far (p := ⟨gb268, 5, none⟩) (Kd.R_far (p := ⟨gb268, 4, none⟩) (Kd.R_far (p := ⟨gb268, 3, none⟩) (Kd.R_far (p := ⟨gb268, 2, none⟩) (Kd.R_far (p := ⟨gb268, 1, none⟩) (Kd.R_far (p := ⟨gb268, 0, none⟩) (Kd.R_types HO_7.out BK268.out (by decide)) (fun _ hk => hk.2) (.int .i64 t261)) (fun _ hk => hk.2) (.string t262)) (fun _ hk => hk.2) (.string t263)) (fun _ hk => hk.2) (.string t264)) (fun _ hk => hk.2) (.int .i64 t265)) (fun _ hk => hk.2) (.bool t266)) (fun _ hk => trivial)⟩, ⟨by (with_reducible repeat (first | refine blk_drewN ?_ _ | refine blk_drew ?_ | refine blk_alloc ?_ _)); refine blk_put (cs := #[.int .i64 t261, .string t262, .string t263, .string t264, .int .i64 t265, .bool false]) ?_ 5 _ rfl; (with_reducible repeat (first | refine blk_drewN ?_ _ | refine blk_drew ?_ | refine blk_alloc ?_ _)); refine blk_put (cs := #[.int .i64 t261, .string t262, .string t263, .string t264, .int .i64 0, .bool false]) ?_ 4 _ rfl; (with_reducible repeat (first | refine blk_drewN ?_ _ | refine blk_drew ?_ | refine blk_alloc ?_ _)); refine blk_put (cs := #[.int .i64 t261, .string t262, .string t263, .string (⟨#[]⟩ : ByteArray), .int .i64 0, .bool false]) ?_ 3 _ rfl; (with_reducible repeat (first | refine blk_drewN ?_ _ | refine blk_drew ?_ | refine blk_alloc ?_ _)); refine blk_put (cs := #[.int .i64 t261, .string t262, .string (⟨#[]⟩ : ByteArray), .string (⟨#[]⟩ : ByteArray), .int .i64 0, .bool false]) ?_ 2 _ rfl; (with_reducible repeat (first | refine blk_drewN ?_ _ | refine blk_drew ?_ | refine blk_alloc ?_ _)); refine blk_put (cs := #[.int .i64 t261, .string (⟨#[]⟩ : ByteArray), .string (⟨#[]⟩ : ByteArray), .string (⟨#[]⟩ : ByteArray), .int .i64 0, .bool false]) ?_ 1 _ rfl; (with_reducible repeat (first | refine blk_drewN ?_ _ | refine blk_drew ?_ | refine blk_alloc ?_ _)); refine blk_put (cs := #[.int .i64 0, .string (⟨#[]⟩ : ByteArray), .string (⟨#[]⟩ : ByteArray), .string (⟨#[]⟩ : ByteArray), .int .i64 0, .bool false]) ?_ 0 _ rfl; (with_reducible repeat (first | refine blk_drewN ?_ _ | refine blk_drew ?_ | refine blk_alloc ?_ _)); exact BK268.out⟩, ⟨by repeat (first | (with_reducible first | exact HB.out | apply below_alloc | apply pw_below_drewN | apply below_drew1 | refine below_set ?_ GE268.out) | exact HB.out)⟩⟩
                      · replace c42 := Bool.eq_false_iff.mpr c42
                        subst c42
                        have H1 : (haversackref17_Parse.j2 kj7 x5_1 x6_1 t243 x8_1 true t261 t262 t263 t264 t265 t266) = some (r1, r2, r3) := by rw [if_neg (show ¬ (false = true) by decide)] at H; exact H
                        clear H
                        have H := H1
                        clear H1
                        have H' := Aside0.mk H
                        clear H
                        go_wp2
                        go_meet
                        case rel => exact ⟨_, (true), (by first | rfl | (simp; done) | (simp [*]; done)), H', ⟨by have := HK1.out; have := HJ7.out; first | omega | exact Nat.le_refl _⟩, ⟨by (with_reducible repeat (first | apply Kd.R_alloc | apply Kd.R_drewN | apply Kd.R_drew)); exact Kd.R_mono (Kd.R_far (p := ⟨gb268, 5, none⟩) (Kd.R_far (p := ⟨gb268, 4, none⟩) (Kd.R_far (p := ⟨gb268, 3, none⟩) (Kd.R_far (p := ⟨gb268, 2, none⟩) (Kd.R_far (p := ⟨gb268, 1, none⟩) (Kd.R_far (p := ⟨gb268, 0, none⟩) (Kd.R_mono HO_5.out (fun k_ hk => (⟨hk, hk.2⟩ : _ ∧ k_ ≠ gb268))) (fun _ hk => hk.2) (.int .i64 t261)) (fun _ hk => hk.2) (.string t262)) (fun _ hk => hk.2) (.string t263)) (fun _ hk => hk.2) (.string t264)) (fun _ hk => hk.2) (.int .i64 t265)) (fun _ hk => hk.2) (.bool t266)) (fun _ hk => hk.1.2)⟩, ⟨by (with_reducible repeat (first | apply Kd.R_alloc | apply Kd.R_drewN | apply Kd.R_drew)); exact Kd.R_mono (Kd.R_far (p := ⟨gb268, 5, none⟩) (Kd.R_far (p := ⟨gb268, 4, none⟩) (Kd.R_far (p := ⟨gb268, 3, none⟩) (Kd.R_far (p := ⟨gb268, 2, none⟩) (Kd.R_far (p := ⟨gb268, 1, none⟩) (Kd.R_far (p := ⟨gb268, 0, none⟩) (Kd.R_types HO_6.out BK268.out (by decide)) (fun _ hk => hk.2) (.int .i64 t261)) (fun _ hk => hk.2) (.string t262)) (fun _ hk => hk.2) (.string t263)) (fun _ hk => hk.2) (.string t264)) (fun _ hk => hk.2) (.int .i64 t265)) (fun _ hk => hk.2) (.bool t266)) (fun _ hk => trivial)⟩, ⟨by (with_reducible repeat (first | apply Kd.R_alloc | apply Kd.R_drewN | apply Kd.R_drew)); exact Kd.R_mono (Kd.R_far (p := ⟨gb268, 5, none⟩) (Kd.R_far (p := ⟨gb268, 4, none⟩) (Kd.R_far (p := ⟨gb268, 3, none⟩) (Kd.R_far (p := ⟨gb268, 2, none⟩) (Kd.R_far (p := ⟨gb268, 1, none⟩) (Kd.R_far (p := ⟨gb268, 0, none⟩) (Kd.R_types HO_7.out BK268.out (by decide)) (fun _ hk => hk.2) (.int .i64 t261)) (fun _ hk => hk.2) (.string t262)) (fun _ hk => hk.2) (.string t263)) (fun _ hk => hk.2) (.string t264)) (fun _ hk => hk.2) (.int .i64 t265)) (fun _ hk => hk.2) (.bool t266)) (fun _ hk => trivial)⟩, ⟨by (with_reducible repeat (first | refine blk_drewN ?_ _ | refine blk_drew ?_ | refine blk_alloc ?_ _)); refine blk_put (cs := #[.int .i64 t261, .string t262, .string t263, .string t264, .int .i64 t265, .bool false]) ?_ 5 _ rfl; (with_reducible repeat (first | refine blk_drewN ?_ _ | refine blk_drew ?_ | refine blk_alloc ?_ _)); refine blk_put (cs := #[.int .i64 t261, .string t262, .string t263, .string t264, .int .i64 0, .bool false]) ?_ 4 _ rfl; (with_reducible repeat (first | refine blk_drewN ?_ _ | refine blk_drew ?_ | refine blk_alloc ?_ _)); refine blk_put (cs := #[.int .i64 t261, .string t262, .string t263, .string (⟨#[]⟩ : ByteArray), .int .i64 0, .bool false]) ?_ 3 _ rfl; (with_reducible repeat (first | refine blk_drewN ?_ _ | refine blk_drew ?_ | refine blk_alloc ?_ _)); refine blk_put (cs := #[.int .i64 t261, .string t262, .string (⟨#[]⟩ : ByteArray), .string (⟨#[]⟩ : ByteArray), .int .i64 0, .bool false]) ?_ 2 _ rfl; (with_reducible repeat (first | refine blk_drewN ?_ _ | refine blk_drew ?_ | refine blk_alloc ?_ _)); refine blk_put (cs := #[.int .i64 t261, .string (⟨#[]⟩ : ByteArray), .string (⟨#[]⟩ : ByteArray), .string (⟨#[]⟩ : ByteArray), .int .i64 0, .bool false]) ?_ 1 _ rfl; (with_reducible repeat (first | refine blk_drewN ?_ _ | refine blk_drew ?_ | refine blk_alloc ?_ _)); refine blk_put (cs := #[.int .i64 0, .string (⟨#[]⟩ : ByteArray), .string (⟨#[]⟩ : ByteArray), .string (⟨#[]⟩ : ByteArray), .int .i64 0, .bool false]) ?_ 0 _ rfl; (with_reducible repeat (first | refine blk_drewN ?_ _ | refine blk_drew ?_ | refine blk_alloc ?_ _)); exact BK268.out⟩, ⟨by repeat (first | (with_reducible first | exact HB.out | apply below_alloc | apply pw_below_drewN | apply below_drew1 | refine below_set ?_ GE268.out) | exact HB.out)⟩⟩
                    case rest =>
                      clear HC37
                      try clear c1
                      try clear p1
                      try clear q1
                      try clear hx1
                      try clear qi1
                      try clear c2
                      try clear c2b0
                      try clear c2b1
                      try clear p2
                      try clear q2
                      try clear hx2
                      try clear qi2
                      try clear c3
                      try clear c4
                      try clear c5
                      try clear c5b0
                      try clear c6
                      try clear c6b0
                      try clear p6
                      try clear c10
                      try clear c11
                      try clear c12
                      try clear c12b0
                      try clear c12b1
                      try clear c12b2
                      try clear c14
                      try clear c14b0
                      try clear c14b1
                      try clear c15
                      try clear c15b0
                      try clear c15b1
                      try clear c16
                      try clear c16b0
                      try clear c16b1
                      try clear p17
                      try clear q17
                      try clear hx17
                      try clear qi17
                      try clear c18
                      try clear c18b0
                      try clear c18b1
                      try clear c24
                      try clear c24b0
                      try clear c24b1
                      try clear p24
                      try clear q24
                      try clear hx24
                      try clear c25
                      try clear c25b0
                      try clear c25b1
                      try clear p25
                      try clear q25
                      try clear hx25
                      try clear qi25
                      try clear c26
                      try clear c26b0
                      try clear c26b1
                      try clear p27
                      try clear q27
                      try clear hx27
                      try clear qi27
                      try clear c28
                      try clear c28b0
                      try clear c28b1
                      try clear c34
                      try clear c35
                      try clear c42
                      try clear hcz41_0
                      try clear hcz41_1
                      try clear hcz41_2
                      try clear hcz41_3
                      try clear hcz41_4
                      try clear hcz41_5
                      try clear hfz41_0
                      try clear hfz41_1
                      try clear hfz41_2
                      try clear hfz41_3
                      try clear hfz41_4
                      try clear hfz41_5
                      try clear hx246_0
                      try clear hx251_0
                      try clear hx252_0
                      try clear hx254_0
                      try clear hx256_0
                      try clear hx257_0
                      try clear hx259_0
                      try clear p1
                      try clear p17
                      try clear p2
                      try clear p24
                      try clear p246
                      try clear p25
                      try clear p251
                      try clear p252
                      try clear p254
                      try clear p256
                      try clear p257
                      try clear p259
                      try clear p27
                      try clear q1
                      try clear q17
                      try clear q2
                      try clear q24
                      try clear q246
                      try clear q25
                      try clear q251
                      try clear q252
                      try clear q254
                      try clear q256
                      try clear q257
                      try clear q259
                      try clear q27
                      obtain ⟨kq, x72_36, rfl, HA, HJ36, HO_5, HO_6, HO_7, BK268, HB⟩ := hcut
                      cases kq with
                      | zero => exact absurd HA.out (by simp [haversackref17_Parse.j2])
                      | succ kj36 =>
                        have H := HA.out
                        clear HA
                        simp only [haversackref17_Parse.j2] at H
                        by_cases c44 : x72_36 = true
                        · subst c44
                          have H1 : (some (([] : List (S41)), wrap64 (x8_1 + 1), 66)) = some (r1, r2, r3) := by rw [if_pos rfl] at H; exact H
                          clear H
                          have H := H1
                          clear H1
                          simp only [Option.some.injEq, Prod.mk.injEq] at H
                          obtain ⟨rfl, rfl, rfl⟩ := H
                          go_wp2
                          go_ret3
                          exact ⟨_, by first | rfl | (simp [errW_none, errW_some] <;> rfl) | (simp [*, errW_none, errW_some] <;> rfl), by first | exact Kd.R_nil _ _ _ _ _ | exact Kd.N_nil _ _ _ _ _ | exact Kd.V_nil _ _ _ _ _ | exact Kd.Q_nil _ _ _ _ _ | exact Kd.S_nil _ _ _ _ _, by repeat (first | (with_reducible first | exact HB.out | apply below_alloc | apply pw_below_drewN | apply below_drew1 | refine below_set ?_ GE268.out) | exact HB.out)⟩
                        · replace c44 := Bool.eq_false_iff.mpr c44
                          subst c44
                          have H1 : (if t261 = 7 then (haversackref17_Parse.j3 kj36 x5_1 x6_1 t243 x8_1 (x6_1.length : Int) t261 (t261 == 7) t261 t262 t263 t264 t265 t266) else (haversackref17_Parse.j3 kj36 x5_1 x6_1 t243 x8_1 (x6_1.length : Int) t261 (t261 == 8) t261 t262 t263 t264 t265 t266)) = some (r1, r2, r3) := by rw [if_neg (show ¬ (false = true) by decide)] at H; exact H
                          clear H
                          have H := H1
                          clear H1
                          have HC45 := Aside0.mk H
                          clear H
                          obtain ⟨Ao46, co46, eo46⟩ := Kd.R_slice HO_6.out
                          subst eo46
                          have hcz47_0 : wc.cell? ⟨gb268, 0, none⟩ = some (.int .i64 t261) := (blk_cell BK268.out 0).trans rfl
                          have hcz47_1 : wc.cell? ⟨gb268, 1, none⟩ = some (.string t262) := (blk_cell BK268.out 1).trans rfl
                          have hcz47_2 : wc.cell? ⟨gb268, 2, none⟩ = some (.string t263) := (blk_cell BK268.out 2).trans rfl
                          have hcz47_3 : wc.cell? ⟨gb268, 3, none⟩ = some (.string t264) := (blk_cell BK268.out 3).trans rfl
                          have hcz47_4 : wc.cell? ⟨gb268, 4, none⟩ = some (.int .i64 t265) := (blk_cell BK268.out 4).trans rfl
                          have hcz47_5 : wc.cell? ⟨gb268, 5, none⟩ = some (.bool t266) := (blk_cell BK268.out 5).trans rfl
                          have hfz47_0 := blk_frozen BK268.out 0
                          have hfz47_1 := blk_frozen BK268.out 1
                          have hfz47_2 := blk_frozen BK268.out 2
                          have hfz47_3 := blk_frozen BK268.out 3
                          have hfz47_4 := blk_frozen BK268.out 4
                          have hfz47_5 := blk_frozen BK268.out 5
                          go_upto_if 79 with (fail)
                          go_cut [79] (fun v79 wc => ∃ (kq : Nat) (x79_44 : Bool), v79 = .bool x79_44 ∧ Aside0 (haversackref17_Parse.j3 kq x5_1 x6_1 t243 x8_1 (x6_1.length : Int) t261 x79_44 t261 t262 t263 t264 t265 t266 = some (r1, r2, r3)) ∧ Aside0 (kq ≤ kj36) ∧ Aside0 (Kd.R k41 41 wc w.heap.size (fun k_ => k_ ≠ gb268) u5 x5_1) ∧ Aside0 (Kd.R (Kd.int .i64) 3 wc w.heap.size (fun _ => True) (.slice Ao46 x6_1.length co46) x6_1) ∧ Aside0 (Kd.R Kd.string 9 wc w.heap.size (fun _ => True) (.slice (some ad246) t243.length co9) t243) ∧ Aside0 (wc.heap[gb268]? = some (.cells #[.int .i64 t261, .string t262, .string t263, .string t264, .int .i64 t265, .bool t266] 41 (0, 0))) ∧ Aside0 (Below w.heap.size w wc))
                          case first =>
                            have H := HC45.out
                            clear HC45
                            by_cases c48 : t261 = 7
                            · rw [if_pos c48] at H
                              have c48b0 : (t261 == 7) = true := beq_iff_eq.mpr c48
                              have c48b1 : (t261 != 7) = false := bne_eq_false_iff_eq.mpr c48
                              clear c48
                              (first | rw [c48b0] | (simp only [i64_w, i32_w]; rw [c48b0]) | skip)
                              have H' := Aside0.mk H
                              clear H
                              go_wp2
                              go_meet
                              case rel => exact ⟨_, ((t261 == 7)), (by first | rfl | (simp; done) | (simp [*]; done)), H', ⟨by have := HK1.out; have := HJ7.out; have := HJ36.out; first | omega | exact Nat.le_refl _⟩, ⟨by (with_reducible repeat (first | apply Kd.R_alloc | apply Kd.R_drewN | apply Kd.R_drew)); first | exact HO_5.out | exact Kd.R_mono HO_5.out (fun _ hk e => hk (e.trans (own_len _ _ _ _)))⟩, ⟨by (with_reducible repeat (first | apply Kd.R_alloc | apply Kd.R_drewN | apply Kd.R_drew)); first | exact HO_6.out | exact Kd.R_mono HO_6.out (fun _ hk e => hk (e.trans (own_len _ _ _ _)))⟩, ⟨by (with_reducible repeat (first | apply Kd.R_alloc | apply Kd.R_drewN | apply Kd.R_drew)); first | exact HO_7.out | exact Kd.R_mono HO_7.out (fun _ hk e => hk (e.trans (own_len _ _ _ _)))⟩, ⟨by (with_reducible repeat (first | refine blk_drewN ?_ _ | refine blk_drew ?_ | refine blk_alloc ?_ _)); exact BK268.out⟩, ⟨by repeat (first | (with_reducible first | exact HB.out | apply below_alloc | apply pw_below_drewN | apply below_drew1 | refine below_set ?_ GE268.out) | exact HB.out)⟩⟩
                            · rw [if_neg c48] at H
                              have c48b0 : (t261 == 7) = false := beq_eq_false_iff_ne.mpr c48
                              have c48b1 : (t261 != 7) = true := bne_iff_ne.mpr c48
                              (first | rw [c48b0] | (simp only [i64_w, i32_w]; rw [c48b0]) | skip)
                              have H' := Aside0.mk H
                              clear H
                              go_wp2
                              go_meet
                              case rel => exact ⟨_, ((t261 == 8)), (by first | rfl | (simp; done) | (simp [*]; done)), H', ⟨by have := HK1.out; have := HJ7.out; have := HJ36.out; first | omega | exact Nat.le_refl _⟩, ⟨by (with_reducible repeat (first | apply Kd.R_alloc | apply Kd.R_drewN | apply Kd.R_drew)); first | exact HO_5.out | exact Kd.R_mono HO_5.out (fun _ hk e => hk (e.trans (own_len _ _ _ _)))⟩, ⟨by (with_reducible repeat (first | apply Kd.R_alloc | apply Kd.R_drewN | apply Kd.R_drew)); first | exact HO_6.out | exact Kd.R_mono HO_6.out (fun _ hk e => hk (e.trans (own_len _ _ _ _)))⟩, ⟨by (with_reducible repeat (first | apply Kd.R_alloc | apply Kd.R_drewN | apply Kd.R_drew)); first | exact HO_7.out | exact Kd.R_mono HO_7.out (fun _ hk e => hk (e.trans (own_len _ _ _ _)))⟩, ⟨by (with_reducible repeat (first | refine blk_drewN ?_ _ | refine blk_drew ?_ | refine blk_alloc ?_ _)); exact BK268.out⟩, ⟨by repeat (first | (with_reducible first | exact HB.out | apply below_alloc | apply pw_below_drewN | apply below_drew1 | refine below_set ?_ GE268.out) | exact HB.out)⟩⟩
                          case rest =>
                            clear HC45
                            try clear c1
                            try clear p1
                            try clear q1
                            try clear hx1
                            try clear qi1
                            try clear c2
                            try clear c2b0
                            try clear c2b1
                            try clear p2
                            try clear q2
                            try clear hx2
                            try clear qi2
                            try clear c3
                            try clear c4
                            try clear c5
                            try clear c5b0
                            try clear c6
                            try clear c6b0
                            try clear p6
                            try clear c10
                            try clear c11
                            try clear c12
                            try clear c12b0
                            try clear c12b1
                            try clear c12b2
                            try clear c14
                            try clear c14b0
                            try clear c14b1
                            try clear c15
                            try clear c15b0
                            try clear c15b1
                            try clear c16
                            try clear c16b0
                            try clear c16b1
                            try clear p17
                            try clear q17
                            try clear hx17
                            try clear qi17
                            try clear c18
                            try clear c18b0
                            try clear c18b1
                            try clear c24
                            try clear c24b0
                            try clear c24b1
                            try clear p24
                            try clear q24
                            try clear hx24
                            try clear c25
                            try clear c25b0
                            try clear c25b1
                            try clear p25
                            try clear q25
                            try clear hx25
                            try clear qi25
                            try clear c26
                            try clear c26b0
                            try clear c26b1
                            try clear p27
                            try clear q27
                            try clear hx27
                            try clear qi27
                            try clear c28
                            try clear c28b0
                            try clear c28b1
                            try clear c34
                            try clear c35
                            try clear c42
                            try clear c44
                            try clear c48
                            try clear c48b0
                            try clear c48b1
                            try clear hcz41_0
                            try clear hcz41_1
                            try clear hcz41_2
                            try clear hcz41_3
                            try clear hcz41_4
                            try clear hcz41_5
                            try clear hcz47_0
                            try clear hcz47_1
                            try clear hcz47_2
                            try clear hcz47_3
                            try clear hcz47_4
                            try clear hcz47_5
                            try clear hfz41_0
                            try clear hfz41_1
                            try clear hfz41_2
                            try clear hfz41_3
                            try clear hfz41_4
                            try clear hfz41_5
                            try clear hfz47_0
                            try clear hfz47_1
                            try clear hfz47_2
                            try clear hfz47_3
                            try clear hfz47_4
                            try clear hfz47_5
                            try clear hx246_0
                            try clear hx251_0
                            try clear hx252_0
                            try clear hx254_0
                            try clear hx256_0
                            try clear hx257_0
                            try clear hx259_0
                            try clear p1
                            try clear p17
                            try clear p2
                            try clear p24
                            try clear p246
                            try clear p25
                            try clear p251
                            try clear p252
                            try clear p254
                            try clear p256
                            try clear p257
                            try clear p259
                            try clear p27
                            try clear p6
                            try clear q1
                            try clear q17
                            try clear q2
                            try clear q24
                            try clear q246
                            try clear q25
                            try clear q251
                            try clear q252
                            try clear q254
                            try clear q256
                            try clear q257
                            try clear q259
                            try clear q27
                            obtain ⟨kq, x79_44, rfl, HA, HJ44, HO_5, HO_6, HO_7, BK268, HB⟩ := hcut
                            cases kq with
                            | zero => exact absurd HA.out (by simp [haversackref17_Parse.j3])
                            | succ kj44 =>
                              have H := HA.out
                              clear HA
                              simp only [haversackref17_Parse.j3] at H
                              by_cases c49 : x79_44 = true
                              · subst c49
                                have H1 : (if (x6_1.length : Int) ≥ 8 then (some (([] : List (S41)), wrap64 (x8_1 + 1), 66)) else (if t261 = 7 then (if x6_1.length < 17592186044416 then (if x5_1.length < 1954687338268 then (haversackref17_Parse.l0 kj44 (x5_1 ++ [(⟨t261, t262, t263, t264, t265, t266⟩ : S41)]) (x6_1 ++ [0]) t243 (wrap64 (x8_1 + 1))) else (none)) else (none)) else (if x6_1.length < 17592186044416 then (if x5_1.length < 1954687338268 then (haversackref17_Parse.l0 kj44 (x5_1 ++ [(⟨t261, t262, t263, t264, t265, t266⟩ : S41)]) (x6_1 ++ [2]) t243 (wrap64 (x8_1 + 1))) else (none)) else (none)))) = some (r1, r2, r3) := by rw [if_pos rfl] at H; exact H
                                clear H
                                have H := H1
                                clear H1
                                by_cases c50 : (x6_1.length : Int) ≥ 8
                                · rw [if_pos c50] at H
                                  have c50b0 : decide (8 ≤ (x6_1.length : Int)) = true := decide_eq_true c50
                                  have c50b1 : decide (8 ≤ x6_1.length) = true := decide_eq_true (by omega)
                                  clear c50
                                  simp only [Option.some.injEq, Prod.mk.injEq] at H
                                  obtain ⟨rfl, rfl, rfl⟩ := H
                                  go_wp2
                                  go_ret3
                                  exact ⟨_, by first | rfl | (simp [errW_none, errW_some] <;> rfl) | (simp [*, errW_none, errW_some] <;> rfl), by first | exact Kd.R_nil _ _ _ _ _ | exact Kd.N_nil _ _ _ _ _ | exact Kd.V_nil _ _ _ _ _ | exact Kd.Q_nil _ _ _ _ _ | exact Kd.S_nil _ _ _ _ _, by repeat (first | (with_reducible first | exact HB.out | apply below_alloc | apply pw_below_drewN | apply below_drew1 | refine below_set ?_ GE268.out) | exact HB.out)⟩
                                · rw [if_neg c50] at H
                                  have c50b0 : decide (8 ≤ (x6_1.length : Int)) = false := decide_eq_false c50
                                  have c50b1 : decide (8 ≤ x6_1.length) = false := decide_eq_false (by omega)
                                  clear c50
                                  by_cases c51 : t261 = 7
                                  · rw [if_pos c51] at H
                                    have c51b0 : (t261 == 7) = true := beq_iff_eq.mpr c51
                                    have c51b1 : (t261 != 7) = false := bne_eq_false_iff_eq.mpr c51
                                    clear c51
                                    by_cases c52 : x6_1.length < 17592186044416
                                    · rw [if_pos c52] at H
                                      have LMc52 := Aside0.mk c52
                                      clear c52
                                      obtain ⟨y269, hy269⟩ : ∃ y_ : List Int, y_ = (x6_1 ++ [0]) := ⟨_, rfl⟩
                                      replace H : (if x5_1.length < 1954687338268 then (haversackref17_Parse.l0 kj44 (x5_1 ++ [(⟨t261, t262, t263, t264, t265, t266⟩ : S41)]) y269 t243 (wrap64 (x8_1 + 1))) else (none)) = some (r1, r2, r3) := by first | (rw [hy269]; with_reducible exact H) | (have H2_ := (Option.bind_some _ _).symm.trans H; rw [hy269]; with_reducible exact H2_) | (have H2_ := (Option.bind_some _ _).symm.trans H; with_reducible exact H2_) | with_reducible exact H | (rw [hy269]; exact H) | exact H
                                      have Ny269 := Aside0.mk hy269
                                      clear hy269
                                      by_cases c53 : x5_1.length < 1954687338268
                                      · rw [if_pos c53] at H
                                        have LMc53 := Aside0.mk c53
                                        clear c53
                                        obtain ⟨y272, hy272⟩ : ∃ y_ : List (S41), y_ = (x5_1 ++ [(⟨t261, t262, t263, t264, t265, t266⟩ : S41)]) := ⟨_, rfl⟩
                                        replace H : (haversackref17_Parse.l0 kj44 y272 y269 t243 (wrap64 (x8_1 + 1))) = some (r1, r2, r3) := by first | (rw [hy272]; with_reducible exact H) | (have H2_ := (Option.bind_some _ _).symm.trans H; rw [hy272]; with_reducible exact H2_) | (have H2_ := (Option.bind_some _ _).symm.trans H; with_reducible exact H2_) | with_reducible exact H | (rw [hy272]; exact H) | exact H
                                        have Ny272 := Aside0.mk hy272
                                        clear hy272
                                        have H' := Aside0.mk H
                                        clear H
                                        have hcz54_0 : wc.cell? ⟨gb268, 0, none⟩ = some (.int .i64 t261) := (blk_cell BK268.out 0).trans rfl
                                        have hcz54_1 : wc.cell? ⟨gb268, 1, none⟩ = some (.string t262) := (blk_cell BK268.out 1).trans rfl
                                        have hcz54_2 : wc.cell? ⟨gb268, 2, none⟩ = some (.string t263) := (blk_cell BK268.out 2).trans rfl
                                        have hcz54_3 : wc.cell? ⟨gb268, 3, none⟩ = some (.string t264) := (blk_cell BK268.out 3).trans rfl
                                        have hcz54_4 : wc.cell? ⟨gb268, 4, none⟩ = some (.int .i64 t265) := (blk_cell BK268.out 4).trans rfl
                                        have hcz54_5 : wc.cell? ⟨gb268, 5, none⟩ = some (.bool t266) := (blk_cell BK268.out 5).trans rfl
                                        have hfz54_0 := blk_frozen BK268.out 0
                                        have hfz54_1 := blk_frozen BK268.out 1
                                        have hfz54_2 := blk_frozen BK268.out 2
                                        have hfz54_3 := blk_frozen BK268.out 3
                                        have hfz54_4 := blk_frozen BK268.out 4
                                        have hfz54_5 := blk_frozen BK268.out 5
                                        go_wp2_with (first | ((with_reducible refine gate_builtin (b := .append) (xs := #[.tmp 89, .tmp 90]) rfl ?_); (try (refine gate_guard (by rfl) ?_; dsimp only)); at_builtin; refine Kd.R_append (Kd.int .i64) (w0 := w) w.heap.size rfl (.tmp 89) (.tmp 90) 51 3 (.int .i64 0) 8 rfl Tryd.underlying51 info3 rfl (by decide) (by omega) (.slice Ao46 x6_1.length co46) x6_1 0 [.int .i64 0] (fun _ => True) (fun _ => False) rfl rfl ?aP (fun _ hk => hk.elim) ?aF ?aO ?aB ?aS ?aL ?_; (case aP => exact rfl); (case aB => exact (by repeat (first | (with_reducible first | exact HB.out | apply below_alloc | apply pw_below_drewN | apply below_drew1 | refine below_set ?_ GE268.out) | exact HB.out))); (case aF => exact (fun _ _ => trivial)); (case aO => exact (by (with_reducible repeat (first | apply Kd.R_alloc | apply Kd.R_drewN | apply Kd.R_drew)); exact HO_6.out)); (case aS => exact (below_size (by repeat (first | (with_reducible first | exact HB.out | apply below_alloc | apply pw_below_drewN | apply below_drew1 | refine below_set ?_ GE268.out) | exact HB.out)))); (case aL => have := LMc52.out; omega); intro v270 w55 ho hb hg hat; rw [← Ny269.out] at ho; have n0_ := Aside0.mk (Kd.R_over' (by (with_reducible repeat (first | apply Kd.R_alloc | apply Kd.R_drewN | apply Kd.R_drew)); exact HO_5.out) (Kd.R_typed (by (with_reducible repeat (first | apply Kd.R_alloc | apply Kd.R_drewN | apply Kd.R_drew)); exact HO_6.out)) (by decide) hg); have n1_ := Aside0.mk (Kd.R_over' (by (with_reducible repeat (first | apply Kd.R_alloc | apply Kd.R_drewN | apply Kd.R_drew)); exact HO_7.out) (Kd.R_typed (by (with_reducible repeat (first | apply Kd.R_alloc | apply Kd.R_drewN | apply Kd.R_drew)); exact HO_6.out)) (by decide) hg); have n2_ := Aside0.mk (blk_grown (g := gb268) (o := .cells #[.int .i64 t261, .string t262, .string t263, .string t264, .int .i64 t265, .bool t266] 41 (0, 0)) (by (with_reducible repeat (first | refine blk_drewN ?_ _ | refine blk_drew ?_ | refine blk_alloc ?_ _)); exact BK268.out) hg (Kd.R_ne HO_6.out BK268.out (by decide))); have n3_ := Aside0.mk (hb); have n4_ := Aside0.mk (ho); clear HO_5; clear HO_7; clear BK268; clear HB; clear HO_6; have HO_5 := n0_; have HO_7 := n1_; have BK268 := n2_; have HB := n3_; have HO271 := n4_; clear n0_ n1_ n2_ n3_ n4_; clear ho hb hg hat; have hcz56_0 : w55.cell? ⟨gb268, 0, none⟩ = some (.int .i64 t261) := (blk_cell BK268.out 0).trans rfl; have hcz56_1 : w55.cell? ⟨gb268, 1, none⟩ = some (.string t262) := (blk_cell BK268.out 1).trans rfl; have hcz56_2 : w55.cell? ⟨gb268, 2, none⟩ = some (.string t263) := (blk_cell BK268.out 2).trans rfl; have hcz56_3 : w55.cell? ⟨gb268, 3, none⟩ = some (.string t264) := (blk_cell BK268.out 3).trans rfl; have hcz56_4 : w55.cell? ⟨gb268, 4, none⟩ = some (.int .i64 t265) := (blk_cell BK268.out 4).trans rfl; have hcz56_5 : w55.cell? ⟨gb268, 5, none⟩ = some (.bool t266) := (blk_cell BK268.out 5).trans rfl; have hfz56_0 := blk_frozen BK268.out 0; have hfz56_1 := blk_frozen BK268.out 1; have hfz56_2 := blk_frozen BK268.out 2; have hfz56_3 := blk_frozen BK268.out 3; have hfz56_4 := blk_frozen BK268.out 4; have hfz56_5 := blk_frozen BK268.out 5) | ((with_reducible refine gate_builtin (b := .append) (xs := #[.tmp 123, .tmp 125]) rfl ?_); (try (refine gate_guard (by rfl) ?_; dsimp only)); at_builtin; refine Kd.R_append k41 (w0 := w) w.heap.size rfl (.tmp 123) (.tmp 125) 29 41 (.agg #[(.int .i64 0), (.string ⟨#[]⟩), (.string ⟨#[]⟩), (.string ⟨#[]⟩), (.int .i64 0), (.bool false)]) 72 rfl Tryd.underlying29 info41 rfl (by decide) (by omega) u5 x5_1 (⟨t261, t262, t263, t264, t265, t266⟩ : S41) [.int .i64 t261, .string t262, .string t263, .string t264, .int .i64 t265, .bool t266] (fun k_ => k_ ≠ gb268) (fun _ => False) rfl rfl ?aP (fun _ hk => hk.elim) ?aF ?aO ?aB ?aS ?aL ?_; (case aP => exact k41_mkM _ _ _ (⟨t261, t262, t263, t264, t265, t266⟩ : S41)); (case aB => exact (by repeat (first | (with_reducible first | exact HB.out | apply below_alloc | apply pw_below_drewN | apply below_drew1 | refine below_set ?_ GE268.out) | exact HB.out))); (case aF => exact (fun k_ hk => Kd.freshB (g := gb268) (o := .cells #[.int .i64 t261, .string t262, .string t263, .string t264, .int .i64 t265, .bool t266] 41 (0, 0)) (by (with_reducible repeat (first | refine blk_drewN ?_ _ | refine blk_drew ?_ | refine blk_alloc ?_ _)); exact BK268.out) k_ hk)); (case aO => exact (by (with_reducible repeat (first | apply Kd.R_alloc | apply Kd.R_drewN | apply Kd.R_drew)); exact HO_5.out)); (case aS => exact (below_size (by repeat (first | (with_reducible first | exact HB.out | apply below_alloc | apply pw_below_drewN | apply below_drew1 | refine below_set ?_ GE268.out) | exact HB.out)))); (case aL => have := LMc53.out; omega); intro v273 w57 ho hb hg hat; rw [← Ny272.out] at ho; have n0_ := Aside0.mk (Kd.R_over' (by (with_reducible repeat (first | apply Kd.R_alloc | apply Kd.R_drewN | apply Kd.R_drew)); exact HO_7.out) (Kd.R_typed (by (with_reducible repeat (first | apply Kd.R_alloc | apply Kd.R_drewN | apply Kd.R_drew)); exact HO_5.out)) (by decide) hg); have n1_ := Aside0.mk (blk_grown (g := gb268) (o := .cells #[.int .i64 t261, .string t262, .string t263, .string t264, .int .i64 t265, .bool t266] 41 (0, 0)) (by (with_reducible repeat (first | refine blk_drewN ?_ _ | refine blk_drew ?_ | refine blk_alloc ?_ _)); exact BK268.out) hg (Kd.R_away HO_5.out (fun _ hk => hk))); have n2_ := Aside0.mk (Kd.R_over' (by (with_reducible repeat (first | apply Kd.R_alloc | apply Kd.R_drewN | apply Kd.R_drew)); exact HO271.out) (Kd.R_typed (by (with_reducible repeat (first | apply Kd.R_alloc | apply Kd.R_drewN | apply Kd.R_drew)); exact HO_5.out)) (by decide) hg); have n3_ := Aside0.mk (hb); have n4_ := Aside0.mk (ho); clear HO_7; clear BK268; clear HO271; clear HB; clear HO_5; have HO_7 := n0_; have BK268 := n1_; have HO271 := n2_; have HB := n3_; have HO274 := n4_; clear n0_ n1_ n2_ n3_ n4_; clear ho hb hg hat))
                                        go_roundg kj44
                                        case measure => have := HK1.out; have := HJ7.out; have := HJ36.out; have := HJ44.out; omega
                                        case rel => exact ⟨(y272), (y269), (wrap64 (x8_1 + 1)), (by first | rfl | (simp; done) | (simp [*]; done)), H', ⟨by have := HK1.out; have := HJ7.out; have := HJ36.out; have := HJ44.out; omega⟩, ⟨by (with_reducible repeat (first | apply Kd.R_alloc | apply Kd.R_drewN | apply Kd.R_drew)); exact Kd.R_mono HO274.out (fun _ hk => trivial)⟩, ⟨by (with_reducible repeat (first | apply Kd.R_alloc | apply Kd.R_drewN | apply Kd.R_drew)); first | exact HO271.out | exact Kd.R_mono HO271.out (fun _ hk e => hk (e.trans (own_len _ _ _ _)))⟩, ⟨by (with_reducible repeat (first | apply Kd.R_alloc | apply Kd.R_drewN | apply Kd.R_drew)); first | exact HO_7.out | exact Kd.R_mono HO_7.out (fun _ hk e => hk (e.trans (own_len _ _ _ _)))⟩, ⟨by repeat (first | (with_reducible first | exact HB.out | apply below_alloc | apply pw_below_drewN | apply below_drew1 | refine below_set ?_ GE268.out) | exact HB.out)⟩⟩
                                      · rw [if_neg c53] at H
                                        exact absurd H (by simp)
                                    · rw [if_neg c52] at H
                                      exact absurd H (by simp)
                                  · rw [if_neg c51] at H
                                    have c51b0 : (t261 == 7) = false := beq_eq_false_iff_ne.mpr c51
                                    have c51b1 : (t261 != 7) = true := bne_iff_ne.mpr c51
                                    by_cases c58 : x6_1.length < 17592186044416
                                    · rw [if_pos c58] at H
                                      have LMc58 := Aside0.mk c58
                                      clear c58
                                      obtain ⟨y275, hy275⟩ : ∃ y_ : List Int, y_ = (x6_1 ++ [2]) := ⟨_, rfl⟩
                                      replace H : (if x5_1.length < 1954687338268 then (haversackref17_Parse.l0 kj44 (x5_1 ++ [(⟨t261, t262, t263, t264, t265, t266⟩ : S41)]) y275 t243 (wrap64 (x8_1 + 1))) else (none)) = some (r1, r2, r3) := by first | (rw [hy275]; with_reducible exact H) | (have H2_ := (Option.bind_some _ _).symm.trans H; rw [hy275]; with_reducible exact H2_) | (have H2_ := (Option.bind_some _ _).symm.trans H; with_reducible exact H2_) | with_reducible exact H | (rw [hy275]; exact H) | exact H
                                      have Ny275 := Aside0.mk hy275
                                      clear hy275
                                      by_cases c59 : x5_1.length < 1954687338268
                                      · rw [if_pos c59] at H
                                        have LMc59 := Aside0.mk c59
                                        clear c59
                                        obtain ⟨y278, hy278⟩ : ∃ y_ : List (S41), y_ = (x5_1 ++ [(⟨t261, t262, t263, t264, t265, t266⟩ : S41)]) := ⟨_, rfl⟩
                                        replace H : (haversackref17_Parse.l0 kj44 y278 y275 t243 (wrap64 (x8_1 + 1))) = some (r1, r2, r3) := by first | (rw [hy278]; with_reducible exact H) | (have H2_ := (Option.bind_some _ _).symm.trans H; rw [hy278]; with_reducible exact H2_) | (have H2_ := (Option.bind_some _ _).symm.trans H; with_reducible exact H2_) | with_reducible exact H | (rw [hy278]; exact H) | exact H
                                        have Ny278 := Aside0.mk hy278
                                        clear hy278
                                        have H' := Aside0.mk H
                                        clear H
                                        have hcz60_0 : wc.cell? ⟨gb268, 0, none⟩ = some (.int .i64 t261) := (blk_cell BK268.out 0).trans rfl
                                        have hcz60_1 : wc.cell? ⟨gb268, 1, none⟩ = some (.string t262) := (blk_cell BK268.out 1).trans rfl
                                        have hcz60_2 : wc.cell? ⟨gb268, 2, none⟩ = some (.string t263) := (blk_cell BK268.out 2).trans rfl
                                        have hcz60_3 : wc.cell? ⟨gb268, 3, none⟩ = some (.string t264) := (blk_cell BK268.out 3).trans rfl
                                        have hcz60_4 : wc.cell? ⟨gb268, 4, none⟩ = some (.int .i64 t265) := (blk_cell BK268.out 4).trans rfl
                                        have hcz60_5 : wc.cell? ⟨gb268, 5, none⟩ = some (.bool t266) := (blk_cell BK268.out 5).trans rfl
                                        have hfz60_0 := blk_frozen BK268.out 0
                                        have hfz60_1 := blk_frozen BK268.out 1
                                        have hfz60_2 := blk_frozen BK268.out 2
                                        have hfz60_3 := blk_frozen BK268.out 3
                                        have hfz60_4 := blk_frozen BK268.out 4
                                        have hfz60_5 := blk_frozen BK268.out 5
                                        go_wp2_with (first | ((with_reducible refine gate_builtin (b := .append) (xs := #[.tmp 92, .tmp 93]) rfl ?_); (try (refine gate_guard (by rfl) ?_; dsimp only)); at_builtin; refine Kd.R_append (Kd.int .i64) (w0 := w) w.heap.size rfl (.tmp 92) (.tmp 93) 51 3 (.int .i64 0) 8 rfl Tryd.underlying51 info3 rfl (by decide) (by omega) (.slice Ao46 x6_1.length co46) x6_1 2 [.int .i64 2] (fun _ => True) (fun _ => False) rfl rfl ?aP (fun _ hk => hk.elim) ?aF ?aO ?aB ?aS ?aL ?_; (case aP => exact rfl); (case aB => exact (by repeat (first | (with_reducible first | exact HB.out | apply below_alloc | apply pw_below_drewN | apply below_drew1 | refine below_set ?_ GE268.out) | exact HB.out))); (case aF => exact (fun _ _ => trivial)); (case aO => exact (by (with_reducible repeat (first | apply Kd.R_alloc | apply Kd.R_drewN | apply Kd.R_drew)); exact HO_6.out)); (case aS => exact (below_size (by repeat (first | (with_reducible first | exact HB.out | apply below_alloc | apply pw_below_drewN | apply below_drew1 | refine below_set ?_ GE268.out) | exact HB.out)))); (case aL => have := LMc58.out; omega); intro v276 w61 ho hb hg hat; rw [← Ny275.out] at ho; have n0_ := Aside0.mk (Kd.R_over' (by (with_reducible repeat (first | apply Kd.R_alloc | apply Kd.R_drewN | apply Kd.R_drew)); exact HO_5.out) (Kd.R_typed (by (with_reducible repeat (first | apply Kd.R_alloc | apply Kd.R_drewN | apply Kd.R_drew)); exact HO_6.out)) (by decide) hg); have n1_ := Aside0.mk (Kd.R_over' (by (with_reducible repeat (first | apply Kd.R_alloc | apply Kd.R_drewN | apply Kd.R_drew)); exact HO_7.out) (Kd.R_typed (by (with_reducible repeat (first | apply Kd.R_alloc | apply Kd.R_drewN | apply Kd.R_drew)); exact HO_6.out)) (by decide) hg); have n2_ := Aside0.mk (blk_grown (g := gb268) (o := .cells #[.int .i64 t261, .string t262, .string t263, .string t264, .int .i64 t265, .bool t266] 41 (0, 0)) (by (with_reducible repeat (first | refine blk_drewN ?_ _ | refine blk_drew ?_ | refine blk_alloc ?_ _)); exact BK268.out) hg (Kd.R_ne HO_6.out BK268.out (by decide))); have n3_ := Aside0.mk (hb); have n4_ := Aside0.mk (ho); clear HO_5; clear HO_7; clear BK268; clear HB; clear HO_6; have HO_5 := n0_; have HO_7 := n1_; have BK268 := n2_; have HB := n3_; have HO277 := n4_; clear n0_ n1_ n2_ n3_ n4_; clear ho hb hg hat; have hcz62_0 : w61.cell? ⟨gb268, 0, none⟩ = some (.int .i64 t261) := (blk_cell BK268.out 0).trans rfl; have hcz62_1 : w61.cell? ⟨gb268, 1, none⟩ = some (.string t262) := (blk_cell BK268.out 1).trans rfl; have hcz62_2 : w61.cell? ⟨gb268, 2, none⟩ = some (.string t263) := (blk_cell BK268.out 2).trans rfl; have hcz62_3 : w61.cell? ⟨gb268, 3, none⟩ = some (.string t264) := (blk_cell BK268.out 3).trans rfl; have hcz62_4 : w61.cell? ⟨gb268, 4, none⟩ = some (.int .i64 t265) := (blk_cell BK268.out 4).trans rfl; have hcz62_5 : w61.cell? ⟨gb268, 5, none⟩ = some (.bool t266) := (blk_cell BK268.out 5).trans rfl; have hfz62_0 := blk_frozen BK268.out 0; have hfz62_1 := blk_frozen BK268.out 1; have hfz62_2 := blk_frozen BK268.out 2; have hfz62_3 := blk_frozen BK268.out 3; have hfz62_4 := blk_frozen BK268.out 4; have hfz62_5 := blk_frozen BK268.out 5) | ((with_reducible refine gate_builtin (b := .append) (xs := #[.tmp 123, .tmp 125]) rfl ?_); (try (refine gate_guard (by rfl) ?_; dsimp only)); at_builtin; refine Kd.R_append k41 (w0 := w) w.heap.size rfl (.tmp 123) (.tmp 125) 29 41 (.agg #[(.int .i64 0), (.string ⟨#[]⟩), (.string ⟨#[]⟩), (.string ⟨#[]⟩), (.int .i64 0), (.bool false)]) 72 rfl Tryd.underlying29 info41 rfl (by decide) (by omega) u5 x5_1 (⟨t261, t262, t263, t264, t265, t266⟩ : S41) [.int .i64 t261, .string t262, .string t263, .string t264, .int .i64 t265, .bool t266] (fun k_ => k_ ≠ gb268) (fun _ => False) rfl rfl ?aP (fun _ hk => hk.elim) ?aF ?aO ?aB ?aS ?aL ?_; (case aP => exact k41_mkM _ _ _ (⟨t261, t262, t263, t264, t265, t266⟩ : S41)); (case aB => exact (by repeat (first | (with_reducible first | exact HB.out | apply below_alloc | apply pw_below_drewN | apply below_drew1 | refine below_set ?_ GE268.out) | exact HB.out))); (case aF => exact (fun k_ hk => Kd.freshB (g := gb268) (o := .cells #[.int .i64 t261, .string t262, .string t263, .string t264, .int .i64 t265, .bool t266] 41 (0, 0)) (by (with_reducible repeat (first | refine blk_drewN ?_ _ | refine blk_drew ?_ | refine blk_alloc ?_ _)); exact BK268.out) k_ hk)); (case aO => exact (by (with_reducible repeat (first | apply Kd.R_alloc | apply Kd.R_drewN | apply Kd.R_drew)); exact HO_5.out)); (case aS => exact (below_size (by repeat (first | (with_reducible first | exact HB.out | apply below_alloc | apply pw_below_drewN | apply below_drew1 | refine below_set ?_ GE268.out) | exact HB.out)))); (case aL => have := LMc59.out; omega); intro v279 w63 ho hb hg hat; rw [← Ny278.out] at ho; have n0_ := Aside0.mk (Kd.R_over' (by (with_reducible repeat (first | apply Kd.R_alloc | apply Kd.R_drewN | apply Kd.R_drew)); exact HO_7.out) (Kd.R_typed (by (with_reducible repeat (first | apply Kd.R_alloc | apply Kd.R_drewN | apply Kd.R_drew)); exact HO_5.out)) (by decide) hg); have n1_ := Aside0.mk (blk_grown (g := gb268) (o := .cells #[.int .i64 t261, .string t262, .string t263, .string t264, .int .i64 t265, .bool t266] 41 (0, 0)) (by (with_reducible repeat (first | refine blk_drewN ?_ _ | refine blk_drew ?_ | refine blk_alloc ?_ _)); exact BK268.out) hg (Kd.R_away HO_5.out (fun _ hk => hk))); have n2_ := Aside0.mk (Kd.R_over' (by (with_reducible repeat (first | apply Kd.R_alloc | apply Kd.R_drewN | apply Kd.R_drew)); exact HO277.out) (Kd.R_typed (by (with_reducible repeat (first | apply Kd.R_alloc | apply Kd.R_drewN | apply Kd.R_drew)); exact HO_5.out)) (by decide) hg); have n3_ := Aside0.mk (hb); have n4_ := Aside0.mk (ho); clear HO_7; clear BK268; clear HO277; clear HB; clear HO_5; have HO_7 := n0_; have BK268 := n1_; have HO277 := n2_; have HB := n3_; have HO280 := n4_; clear n0_ n1_ n2_ n3_ n4_; clear ho hb hg hat))
                                        go_roundg kj44
                                        case measure => have := HK1.out; have := HJ7.out; have := HJ36.out; have := HJ44.out; omega
                                        case rel => exact ⟨(y278), (y275), (wrap64 (x8_1 + 1)), (by first | rfl | (simp; done) | (simp [*]; done)), H', ⟨by have := HK1.out; have := HJ7.out; have := HJ36.out; have := HJ44.out; omega⟩, ⟨by (with_reducible repeat (first | apply Kd.R_alloc | apply Kd.R_drewN | apply Kd.R_drew)); exact Kd.R_mono HO280.out (fun _ hk => trivial)⟩, ⟨by (with_reducible repeat (first | apply Kd.R_alloc | apply Kd.R_drewN | apply Kd.R_drew)); first | exact HO277.out | exact Kd.R_mono HO277.out (fun _ hk e => hk (e.trans (own_len _ _ _ _)))⟩, ⟨by (with_reducible repeat (first | apply Kd.R_alloc | apply Kd.R_drewN | apply Kd.R_drew)); first | exact HO_7.out | exact Kd.R_mono HO_7.out (fun _ hk e => hk (e.trans (own_len _ _ _ _)))⟩, ⟨by repeat (first | (with_reducible first | exact HB.out | apply below_alloc | apply pw_below_drewN | apply below_drew1 | refine below_set ?_ GE268.out) | exact HB.out)⟩⟩
                                      · rw [if_neg c59] at H
                                        exact absurd H (by simp)
                                    · rw [if_neg c58] at H
                                      exact absurd H (by simp)
                              · replace c49 := Bool.eq_false_iff.mpr c49
                                subst c49
                                have H1 : (if t261 = 9 then (if (x6_1.length : Int) = 0 then (some (([] : List (S41)), wrap64 (x8_1 + 1), 66)) else (if 0 ≤ (wrap64 ((x6_1.length : Int) - 1)) then (if (wrap64 ((x6_1.length : Int) - 1)) < (x6_1.length : Int) then (if (rd x6_1 (wrap64 ((x6_1.length : Int) - 1))) = 0 then (if x5_1.length < 1954687338268 then (haversackref17_Parse.l0 kj44 (x5_1 ++ [(⟨t261, t262, t263, t264, t265, t266⟩ : S41)]) (x6_1.set ((wrap64 ((x6_1.length : Int) - 1)) : Int).toNat 1) t243 (wrap64 (x8_1 + 1))) else (none)) else (some (([] : List (S41)), wrap64 (x8_1 + 1), 66))) else (none)) else (none))) else (if t261 = 10 then (if (x6_1.length : Int) = 0 then (some (([] : List (S41)), wrap64 (x8_1 + 1), 66)) else (if 0 ≤ (wrap64 ((x6_1.length : Int) - 1)) then (if (wrap64 ((x6_1.length : Int) - 1)) ≤ (x6_1.length : Int) then (if x5_1.length < 1954687338268 then (haversackref17_Parse.l0 kj44 (x5_1 ++ [(⟨t261, t262, t263, t264, t265, t266⟩ : S41)]) (x6_1.take ((wrap64 ((x6_1.length : Int) - 1)) : Int).toNat) t243 (wrap64 (x8_1 + 1))) else (none)) else (none)) else (none))) else (if x5_1.length < 1954687338268 then (haversackref17_Parse.l0 kj44 (x5_1 ++ [(⟨t261, t262, t263, t264, t265, t266⟩ : S41)]) x6_1 t243 (wrap64 (x8_1 + 1))) else (none)))) = some (r1, r2, r3) := by rw [if_neg (show ¬ (false = true) by decide)] at H; exact H
                                clear H
                                have H := H1
                                clear H1
                                by_cases c64 : t261 = 9
                                · rw [if_pos c64] at H
                                  have c64b0 : (t261 == 9) = true := beq_iff_eq.mpr c64
                                  have c64b1 : (t261 != 9) = false := bne_eq_false_iff_eq.mpr c64
                                  clear c64
                                  by_cases c65 : (x6_1.length : Int) = 0
                                  · rw [if_pos c65] at H
                                    have c65b0 : ((x6_1.length : Int) == 0) = true := beq_iff_eq.mpr c65
                                    have c65b1 : ((x6_1.length : Int) != 0) = false := bne_eq_false_iff_eq.mpr c65
                                    clear c65
                                    simp only [Option.some.injEq, Prod.mk.injEq] at H
                                    obtain ⟨rfl, rfl, rfl⟩ := H
                                    go_wp2
                                    go_ret3
                                    exact ⟨_, by first | rfl | (simp [errW_none, errW_some] <;> rfl) | (simp [*, errW_none, errW_some] <;> rfl), by first | exact Kd.R_nil _ _ _ _ _ | exact Kd.N_nil _ _ _ _ _ | exact Kd.V_nil _ _ _ _ _ | exact Kd.Q_nil _ _ _ _ _ | exact Kd.S_nil _ _ _ _ _, by repeat (first | (with_reducible first | exact HB.out | apply below_alloc | apply pw_below_drewN | apply below_drew1 | refine below_set ?_ GE268.out) | exact HB.out)⟩
                                  · rw [if_neg c65] at H
                                    have c65b0 : ((x6_1.length : Int) == 0) = false := beq_eq_false_iff_ne.mpr c65
                                    have c65b1 : ((x6_1.length : Int) != 0) = true := bne_iff_ne.mpr c65
                                    have c65b2 : ¬ (x6_1 = []) := fun h_ => c65 (by rw [h_]; rfl)
                                    obtain ⟨ji66, hji66⟩ : ∃ j_ : Int, (wrap64 ((x6_1.length : Int) - 1)) = j_ := ⟨_, rfl⟩
                                    replace H : (if 0 ≤ (ji66) then (if (ji66) < (x6_1.length : Int) then (if (rd x6_1 (ji66)) = 0 then (if x5_1.length < 1954687338268 then (haversackref17_Parse.l0 kj44 (x5_1 ++ [(⟨t261, t262, t263, t264, t265, t266⟩ : S41)]) (x6_1.set ((ji66) : Int).toNat 1) t243 (wrap64 (x8_1 + 1))) else (none)) else (some (([] : List (S41)), wrap64 (x8_1 + 1), 66))) else (none)) else (none)) = some (r1, r2, r3) := by first | (rw [hji66] at H; exact H) | (simp only [hji66] at H ⊢; exact H)
                                    have hji66w : (IntKind.i64.wrap ((x6_1.length : Int) - 1)) = ji66 := (i64_w _).trans hji66
                                    by_cases c67 : 0 ≤ (ji66)
                                    · rw [if_pos c67] at H
                                      have c67b0 : decide (0 ≤ (ji66)) = true := decide_eq_true c67
                                      clear c67
                                      by_cases c68 : (ji66) < (x6_1.length : Int)
                                      · rw [if_pos c68] at H
                                        have c68b0 : decide ((ji66) < (x6_1.length : Int)) = true := decide_eq_true c68
                                        clear c68
                                        by_cases c69 : (rd x6_1 (ji66)) = 0
                                        · rw [if_pos c69] at H
                                          have c69b0 : ((rd x6_1 (ji66)) == 0) = true := beq_iff_eq.mpr c69
                                          have c69b1 : ((rd x6_1 (ji66)) != 0) = false := bne_eq_false_iff_eq.mpr c69
                                          clear c69
                                          obtain ⟨y282, hy282⟩ : ∃ y_ : List Int, y_ = (x6_1.set ((ji66) : Int).toNat 1) := ⟨_, rfl⟩
                                          replace H : (if x5_1.length < 1954687338268 then (haversackref17_Parse.l0 kj44 (x5_1 ++ [(⟨t261, t262, t263, t264, t265, t266⟩ : S41)]) y282 t243 (wrap64 (x8_1 + 1))) else (none)) = some (r1, r2, r3) := by first | (rw [hy282]; with_reducible exact H) | (have H2_ := (Option.bind_some _ _).symm.trans H; rw [hy282]; with_reducible exact H2_) | (have H2_ := (Option.bind_some _ _).symm.trans H; with_reducible exact H2_) | with_reducible exact H | (rw [hy282]; exact H) | exact H
                                          have Ny282 := Aside0.mk hy282
                                          clear hy282
                                          by_cases c71 : x5_1.length < 1954687338268
                                          · rw [if_pos c71] at H
                                            have LMc71 := Aside0.mk c71
                                            clear c71
                                            obtain ⟨y283, hy283⟩ : ∃ y_ : List (S41), y_ = (x5_1 ++ [(⟨t261, t262, t263, t264, t265, t266⟩ : S41)]) := ⟨_, rfl⟩
                                            replace H : (haversackref17_Parse.l0 kj44 y283 y282 t243 (wrap64 (x8_1 + 1))) = some (r1, r2, r3) := by first | (rw [hy283]; with_reducible exact H) | (have H2_ := (Option.bind_some _ _).symm.trans H; rw [hy283]; with_reducible exact H2_) | (have H2_ := (Option.bind_some _ _).symm.trans H; with_reducible exact H2_) | with_reducible exact H | (rw [hy283]; exact H) | exact H
                                            have Ny283 := Aside0.mk hy283
                                            clear hy283
                                            have H' := Aside0.mk H
                                            clear H
                                            have p281 : 0 ≤ ((ji66) : Int) := of_decide_eq_true (by first | (with_reducible assumption) | assumption)
                                            have q281 : (ji66) < (x6_1.length : Int) := of_decide_eq_true (by first | (with_reducible assumption) | assumption)
                                            obtain ⟨ad281, e281, hx281_0⟩ := Kd.at_int (Kd.R_reads' HO_6.out).2.2 (ji66) p281 q281
                                            cases e281
                                            replace p281 := eq_true p281
                                            replace q281 := eq_true q281
                                            have p70 : 0 ≤ ((ji66) : Int) := of_decide_eq_true (by first | (with_reducible assumption) | assumption)
                                            have q70 : ((ji66) : Int) < ((x6_1.length : Int) : Int) := of_decide_eq_true (by first | (with_reducible assumption) | assumption)
                                            obtain ⟨go70, co70, eo70, gb70, gl70, cl70, HG70⟩ := Kd.R_form HO_6.out (by omega)
                                            (first | cases eo70 | (injection eo70 with ea_ en_ ec_; (first | subst ea_ | (injection ea_ with ea_; subst ea_)); subst ec_; clear en_))
                                            have GB70 := Aside0.mk gb70
                                            have GG70 := Aside0.mk HG70
                                            clear gb70 gl70 HG70
                                            (first | simp only [add_plain] at hx281_0 | skip)
                                            obtain ⟨hx70_0, hf70_0⟩ := Kd.R_celln 0 HO_6.out ((ji66) : Int) p70 q70
                                            replace p70 := eq_true p70
                                            replace q70 := eq_true q70
                                            have HP72 := Kd.R_putg HO_6.out ((ji66) : Int) 1
                                            go_wp2_with (first | ((with_reducible refine gate_store (t := 3) (p := 112) rfl ?_); refine store_event (t := 3) (p := 112) (v := ?vo_w73) (w1 := (wc.setCell ⟨go70, ((ji66) : Int).toNat, none⟩ (.int .i64 1))) ?hg ?ho ?hn ?hr ?_; (case ho => rfl); (case hg => rfl); (case hn => rfl); (case hr => first | (go_simp; done) | (go_simp; rfl)); intro w73 hw; have hg : wc.grownBy w73 (some go70) := (by rw [hw]; exact HP72.2); have hp_ : Kd.R (Kd.int .i64) 3 w73 w.heap.size (fun _ => True) (.slice (some ⟨go70, 0, none⟩) x6_1.length co46) y282 := (by rw [hw, Ny282.out]; exact HP72.1); clear HP72; have n0_ := Aside0.mk (Kd.R_over' (v := (.slice (some ⟨go70, 0, none⟩) x6_1.length co46)) (by (with_reducible repeat (first | apply Kd.R_alloc | apply Kd.R_drewN | apply Kd.R_drew)); exact HO_5.out) (Kd.R_typed HO_6.out) (by decide) hg); have n1_ := Aside0.mk (hp_); have n2_ := Aside0.mk (Kd.R_over' (v := (.slice (some ⟨go70, 0, none⟩) x6_1.length co46)) (by (with_reducible repeat (first | apply Kd.R_alloc | apply Kd.R_drewN | apply Kd.R_drew)); exact HO_7.out) (Kd.R_typed HO_6.out) (by decide) hg); have n3_ := Aside0.mk (blk_grown (g := gb268) (o := .cells #[.int .i64 t261, .string t262, .string t263, .string t264, .int .i64 t265, .bool t266] 41 (0, 0)) (by (with_reducible repeat (first | refine blk_drewN ?_ _ | refine blk_drew ?_ | refine blk_alloc ?_ _)); exact BK268.out) hg (Kd.R_ne HO_6.out BK268.out (by decide))); have n4_ := Aside0.mk ((by rw [hw]; exact below_set (HB.out) GB70.out : Below w.heap.size w w73)); clear HO_5; clear HO_6; clear HO_7; clear BK268; clear HB; have HO_5 := n0_; have HO_6 := n1_; have HO_7 := n2_; have BK268 := n3_; have HB := n4_; clear n0_ n1_ n2_ n3_ n4_; clear hg hw hp_; have hcz74_0 : w73.cell? ⟨gb268, 0, none⟩ = some (.int .i64 t261) := (blk_cell BK268.out 0).trans rfl; have hcz74_1 : w73.cell? ⟨gb268, 1, none⟩ = some (.string t262) := (blk_cell BK268.out 1).trans rfl; have hcz74_2 : w73.cell? ⟨gb268, 2, none⟩ = some (.string t263) := (blk_cell BK268.out 2).trans rfl; have hcz74_3 : w73.cell? ⟨gb268, 3, none⟩ = some (.string t264) := (blk_cell BK268.out 3).trans rfl; have hcz74_4 : w73.cell? ⟨gb268, 4, none⟩ = some (.int .i64 t265) := (blk_cell BK268.out 4).trans rfl; have hcz74_5 : w73.cell? ⟨gb268, 5, none⟩ = some (.bool t266) := (blk_cell BK268.out 5).trans rfl; have hfz74_0 := blk_frozen BK268.out 0; have hfz74_1 := blk_frozen BK268.out 1; have hfz74_2 := blk_frozen BK268.out 2; have hfz74_3 := blk_frozen BK268.out 3; have hfz74_4 := blk_frozen BK268.out 4; have hfz74_5 := blk_frozen BK268.out 5) | ((with_reducible refine gate_builtin (b := .append) (xs := #[.tmp 123, .tmp 125]) rfl ?_); (try (refine gate_guard (by rfl) ?_; dsimp only)); at_builtin; refine Kd.R_append k41 (w0 := w) w.heap.size rfl (.tmp 123) (.tmp 125) 29 41 (.agg #[(.int .i64 0), (.string ⟨#[]⟩), (.string ⟨#[]⟩), (.string ⟨#[]⟩), (.int .i64 0), (.bool false)]) 72 rfl Tryd.underlying29 info41 rfl (by decide) (by omega) u5 x5_1 (⟨t261, t262, t263, t264, t265, t266⟩ : S41) [.int .i64 t261, .string t262, .string t263, .string t264, .int .i64 t265, .bool t266] (fun k_ => k_ ≠ gb268) (fun _ => False) rfl rfl ?aP (fun _ hk => hk.elim) ?aF ?aO ?aB ?aS ?aL ?_; (case aP => exact k41_mkM _ _ _ (⟨t261, t262, t263, t264, t265, t266⟩ : S41)); (case aB => exact (by repeat (first | (with_reducible first | exact HB.out | apply below_alloc | apply pw_below_drewN | apply below_drew1 | refine below_set ?_ GE268.out) | exact HB.out))); (case aF => exact (fun k_ hk => Kd.freshB (g := gb268) (o := .cells #[.int .i64 t261, .string t262, .string t263, .string t264, .int .i64 t265, .bool t266] 41 (0, 0)) (by (with_reducible repeat (first | refine blk_drewN ?_ _ | refine blk_drew ?_ | refine blk_alloc ?_ _)); exact BK268.out) k_ hk)); (case aO => exact (by (with_reducible repeat (first | apply Kd.R_alloc | apply Kd.R_drewN | apply Kd.R_drew)); exact HO_5.out)); (case aS => exact (below_size (by repeat (first | (with_reducible first | exact HB.out | apply below_alloc | apply pw_below_drewN | apply below_drew1 | refine below_set ?_ GE268.out) | exact HB.out)))); (case aL => have := LMc71.out; omega); intro v284 w75 ho hb hg hat; rw [← Ny283.out] at ho; have n0_ := Aside0.mk (Kd.R_over' (by (with_reducible repeat (first | apply Kd.R_alloc | apply Kd.R_drewN | apply Kd.R_drew)); exact HO_6.out) (Kd.R_typed (by (with_reducible repeat (first | apply Kd.R_alloc | apply Kd.R_drewN | apply Kd.R_drew)); exact HO_5.out)) (by decide) hg); have n1_ := Aside0.mk (Kd.R_over' (by (with_reducible repeat (first | apply Kd.R_alloc | apply Kd.R_drewN | apply Kd.R_drew)); exact HO_7.out) (Kd.R_typed (by (with_reducible repeat (first | apply Kd.R_alloc | apply Kd.R_drewN | apply Kd.R_drew)); exact HO_5.out)) (by decide) hg); have n2_ := Aside0.mk (blk_grown (g := gb268) (o := .cells #[.int .i64 t261, .string t262, .string t263, .string t264, .int .i64 t265, .bool t266] 41 (0, 0)) (by (with_reducible repeat (first | refine blk_drewN ?_ _ | refine blk_drew ?_ | refine blk_alloc ?_ _)); exact BK268.out) hg (Kd.R_away HO_5.out (fun _ hk => hk))); have n3_ := Aside0.mk (hb); have n4_ := Aside0.mk (ho); clear HO_6; clear HO_7; clear BK268; clear HB; clear HO_5; have HO_6 := n0_; have HO_7 := n1_; have BK268 := n2_; have HB := n3_; have HO285 := n4_; clear n0_ n1_ n2_ n3_ n4_; clear ho hb hg hat))
                                            go_roundg kj44
                                            case measure => have := HK1.out; have := HJ7.out; have := HJ36.out; have := HJ44.out; omega
                                            case rel => exact ⟨(y283), (y282), (wrap64 (x8_1 + 1)), (by first | rfl | (simp; done) | (simp [*]; done)), H', ⟨by have := HK1.out; have := HJ7.out; have := HJ36.out; have := HJ44.out; omega⟩, ⟨by (with_reducible repeat (first | apply Kd.R_alloc | apply Kd.R_drewN | apply Kd.R_drew)); exact Kd.R_mono HO285.out (fun _ hk => trivial)⟩, ⟨by (with_reducible repeat (first | apply Kd.R_alloc | apply Kd.R_drewN | apply Kd.R_drew)); first | exact HO_6.out | exact Kd.R_mono HO_6.out (fun _ hk e => hk (e.trans (own_len _ _ _ _)))⟩, ⟨by (with_reducible repeat (first | apply Kd.R_alloc | apply Kd.R_drewN | apply Kd.R_drew)); first | exact HO_7.out | exact Kd.R_mono HO_7.out (fun _ hk e => hk (e.trans (own_len _ _ _ _)))⟩, ⟨by repeat (first | (with_reducible first | exact HB.out | apply below_alloc | apply pw_below_drewN | apply below_drew1 | refine below_set ?_ GE268.out) | exact HB.out)⟩⟩
                                          · rw [if_neg c71] at H
                                            exact absurd H (by simp)
                                        · rw [if_neg c69] at H
                                          have c69b0 : ((rd x6_1 (ji66)) == 0) = false := beq_eq_false_iff_ne.mpr c69
                                          have c69b1 : ((rd x6_1 (ji66)) != 0) = true := bne_iff_ne.mpr c69
                                          simp only [Option.some.injEq, Prod.mk.injEq] at H
                                          obtain ⟨rfl, rfl, rfl⟩ := H
                                          have p281 : 0 ≤ ((ji66) : Int) := of_decide_eq_true (by first | (with_reducible assumption) | assumption)
                                          have q281 : (ji66) < (x6_1.length : Int) := of_decide_eq_true (by first | (with_reducible assumption) | assumption)
                                          obtain ⟨ad281, e281, hx281_0⟩ := Kd.at_int (Kd.R_reads' HO_6.out).2.2 (ji66) p281 q281
                                          cases e281
                                          replace p281 := eq_true p281
                                          replace q281 := eq_true q281
                                          go_wp2
                                          go_ret3
                                          exact ⟨_, by first | rfl | (simp [errW_none, errW_some] <;> rfl) | (simp only [← hji66]; first | rfl | (simp [errW_none, errW_some] <;> rfl)) | (simp [*, errW_none, errW_some] <;> rfl), by first | exact Kd.R_nil _ _ _ _ _ | exact Kd.N_nil _ _ _ _ _ | exact Kd.V_nil _ _ _ _ _ | exact Kd.Q_nil _ _ _ _ _ | exact Kd.S_nil _ _ _ _ _, by repeat (first | (with_reducible first | exact HB.out | apply below_alloc | apply pw_below_drewN | apply below_drew1 | refine below_set ?_ GE268.out) | exact HB.out)⟩
                                      · rw [if_neg c68] at H
                                        exact absurd H (by simp)
                                    · rw [if_neg c67] at H
                                      exact absurd H (by simp)
                                · rw [if_neg c64] at H
                                  have c64b0 : (t261 == 9) = false := beq_eq_false_iff_ne.mpr c64
                                  have c64b1 : (t261 != 9) = true := bne_iff_ne.mpr c64
                                  by_cases c76 : t261 = 10
                                  · rw [if_pos c76] at H
                                    have c76b0 : (t261 == 10) = true := beq_iff_eq.mpr c76
                                    have c76b1 : (t261 != 10) = false := bne_eq_false_iff_eq.mpr c76
                                    clear c76
                                    by_cases c77 : (x6_1.length : Int) = 0
                                    · rw [if_pos c77] at H
                                      have c77b0 : ((x6_1.length : Int) == 0) = true := beq_iff_eq.mpr c77
                                      have c77b1 : ((x6_1.length : Int) != 0) = false := bne_eq_false_iff_eq.mpr c77
                                      clear c77
                                      simp only [Option.some.injEq, Prod.mk.injEq] at H
                                      obtain ⟨rfl, rfl, rfl⟩ := H
                                      go_wp2
                                      go_ret3
                                      exact ⟨_, by first | rfl | (simp [errW_none, errW_some] <;> rfl) | (simp [*, errW_none, errW_some] <;> rfl), by first | exact Kd.R_nil _ _ _ _ _ | exact Kd.N_nil _ _ _ _ _ | exact Kd.V_nil _ _ _ _ _ | exact Kd.Q_nil _ _ _ _ _ | exact Kd.S_nil _ _ _ _ _, by repeat (first | (with_reducible first | exact HB.out | apply below_alloc | apply pw_below_drewN | apply below_drew1 | refine below_set ?_ GE268.out) | exact HB.out)⟩
                                    · rw [if_neg c77] at H
                                      have c77b0 : ((x6_1.length : Int) == 0) = false := beq_eq_false_iff_ne.mpr c77
                                      have c77b1 : ((x6_1.length : Int) != 0) = true := bne_iff_ne.mpr c77
                                      have c77b2 : ¬ (x6_1 = []) := fun h_ => c77 (by rw [h_]; rfl)
                                      obtain ⟨ji78, hji78⟩ : ∃ j_ : Int, (wrap64 ((x6_1.length : Int) - 1)) = j_ := ⟨_, rfl⟩
                                      replace H : (if 0 ≤ (ji78) then (if (ji78) ≤ (x6_1.length : Int) then (if x5_1.length < 1954687338268 then (haversackref17_Parse.l0 kj44 (x5_1 ++ [(⟨t261, t262, t263, t264, t265, t266⟩ : S41)]) (x6_1.take ((ji78) : Int).toNat) t243 (wrap64 (x8_1 + 1))) else (none)) else (none)) else (none)) = some (r1, r2, r3) := by first | (rw [hji78] at H; exact H) | (simp only [hji78] at H ⊢; exact H)
                                      have hji78w : (IntKind.i64.wrap ((x6_1.length : Int) - 1)) = ji78 := (i64_w _).trans hji78
                                      by_cases c79 : 0 ≤ (ji78)
                                      · rw [if_pos c79] at H
                                        have c79b0 := eq_true c79
                                        have c79b1 : decide (0 ≤ (ji78)) = true := decide_eq_true c79
                                        clear c79
                                        by_cases c80 : (ji78) ≤ (x6_1.length : Int)
                                        · rw [if_pos c80] at H
                                          have c80b0 := eq_true c80
                                          have c80b1 : decide ((ji78) ≤ (x6_1.length : Int)) = true := decide_eq_true c80
                                          clear c80
                                          obtain ⟨y286, hy286⟩ : ∃ y_ : List Int, y_ = (x6_1.take ((ji78) : Int).toNat) := ⟨_, rfl⟩
                                          replace H : (if x5_1.length < 1954687338268 then (haversackref17_Parse.l0 kj44 (x5_1 ++ [(⟨t261, t262, t263, t264, t265, t266⟩ : S41)]) y286 t243 (wrap64 (x8_1 + 1))) else (none)) = some (r1, r2, r3) := by first | (rw [hy286]; with_reducible exact H) | (have H2_ := (Option.bind_some _ _).symm.trans H; rw [hy286]; with_reducible exact H2_) | (have H2_ := (Option.bind_some _ _).symm.trans H; with_reducible exact H2_) | with_reducible exact H | (rw [hy286]; exact H) | exact H
                                          have Ny286 := Aside0.mk hy286
                                          clear hy286
                                          by_cases c81 : x5_1.length < 1954687338268
                                          · rw [if_pos c81] at H
                                            have LMc81 := Aside0.mk c81
                                            clear c81
                                            obtain ⟨y289, hy289⟩ : ∃ y_ : List (S41), y_ = (x5_1 ++ [(⟨t261, t262, t263, t264, t265, t266⟩ : S41)]) := ⟨_, rfl⟩
                                            replace H : (haversackref17_Parse.l0 kj44 y289 y286 t243 (wrap64 (x8_1 + 1))) = some (r1, r2, r3) := by first | (rw [hy289]; with_reducible exact H) | (have H2_ := (Option.bind_some _ _).symm.trans H; rw [hy289]; with_reducible exact H2_) | (have H2_ := (Option.bind_some _ _).symm.trans H; with_reducible exact H2_) | with_reducible exact H | (rw [hy289]; exact H) | exact H
                                            have Ny289 := Aside0.mk hy289
                                            clear hy289
                                            have H' := Aside0.mk H
                                            clear H
                                            have q82 : ((ji78) : Int) ≤ ((x6_1.length : Int) : Int) := of_decide_eq_true (by first | (with_reducible assumption) | assumption)
                                            obtain ⟨i082, hi082, _, hsz82, _⟩ := info_parts info3
                                            have hcut82 := cut_to (P := Tryd.prog) 51 3 .i64 Tryd.underlying51 hi082 Ao46 x6_1.length co46 (ji78) (of_decide_eq_true (by first | (with_reducible assumption) | assumption)) q82 (Kd.R_reads' HO_6.out).2.1
                                            have hr82 := Kd.R_take (m := ((ji78) : Int).toNat) HO_6.out (by omega)
                                            have hy82 : y286.length = ((ji78) : Int).toNat := (by rw [Ny286.out, List.length_take]; omega)
                                            rw [← Ny286.out] at hr82
                                            rw [← hy82] at hr82 hcut82
                                            clear hy82 hi082 hsz82 HO_6
                                            have HO288 := Aside0.mk hr82
                                            clear hr82
                                            replace q82 := eq_true q82
                                            have hcz83_0 : wc.cell? ⟨gb268, 0, none⟩ = some (.int .i64 t261) := (blk_cell BK268.out 0).trans rfl
                                            have hcz83_1 : wc.cell? ⟨gb268, 1, none⟩ = some (.string t262) := (blk_cell BK268.out 1).trans rfl
                                            have hcz83_2 : wc.cell? ⟨gb268, 2, none⟩ = some (.string t263) := (blk_cell BK268.out 2).trans rfl
                                            have hcz83_3 : wc.cell? ⟨gb268, 3, none⟩ = some (.string t264) := (blk_cell BK268.out 3).trans rfl
                                            have hcz83_4 : wc.cell? ⟨gb268, 4, none⟩ = some (.int .i64 t265) := (blk_cell BK268.out 4).trans rfl
                                            have hcz83_5 : wc.cell? ⟨gb268, 5, none⟩ = some (.bool t266) := (blk_cell BK268.out 5).trans rfl
                                            have hfz83_0 := blk_frozen BK268.out 0
                                            have hfz83_1 := blk_frozen BK268.out 1
                                            have hfz83_2 := blk_frozen BK268.out 2
                                            have hfz83_3 := blk_frozen BK268.out 3
                                            have hfz83_4 := blk_frozen BK268.out 4
                                            have hfz83_5 := blk_frozen BK268.out 5
                                            go_wp2_with (first | ((with_reducible refine gate_builtin (b := .append) (xs := #[.tmp 123, .tmp 125]) rfl ?_); (try (refine gate_guard (by rfl) ?_; dsimp only)); at_builtin; refine Kd.R_append k41 (w0 := w) w.heap.size rfl (.tmp 123) (.tmp 125) 29 41 (.agg #[(.int .i64 0), (.string ⟨#[]⟩), (.string ⟨#[]⟩), (.string ⟨#[]⟩), (.int .i64 0), (.bool false)]) 72 rfl Tryd.underlying29 info41 rfl (by decide) (by omega) u5 x5_1 (⟨t261, t262, t263, t264, t265, t266⟩ : S41) [.int .i64 t261, .string t262, .string t263, .string t264, .int .i64 t265, .bool t266] (fun k_ => k_ ≠ gb268) (fun _ => False) rfl rfl ?aP (fun _ hk => hk.elim) ?aF ?aO ?aB ?aS ?aL ?_; (case aP => exact k41_mkM _ _ _ (⟨t261, t262, t263, t264, t265, t266⟩ : S41)); (case aB => exact (by repeat (first | (with_reducible first | exact HB.out | apply below_alloc | apply pw_below_drewN | apply below_drew1 | refine below_set ?_ GE268.out) | exact HB.out))); (case aF => exact (fun k_ hk => Kd.freshB (g := gb268) (o := .cells #[.int .i64 t261, .string t262, .string t263, .string t264, .int .i64 t265, .bool t266] 41 (0, 0)) (by (with_reducible repeat (first | refine blk_drewN ?_ _ | refine blk_drew ?_ | refine blk_alloc ?_ _)); exact BK268.out) k_ hk)); (case aO => exact (by (with_reducible repeat (first | apply Kd.R_alloc | apply Kd.R_drewN | apply Kd.R_drew)); exact HO_5.out)); (case aS => exact (below_size (by repeat (first | (with_reducible first | exact HB.out | apply below_alloc | apply pw_below_drewN | apply below_drew1 | refine below_set ?_ GE268.out) | exact HB.out)))); (case aL => have := LMc81.out; omega); intro v290 w84 ho hb hg hat; rw [← Ny289.out] at ho; have n0_ := Aside0.mk (Kd.R_over' (by (with_reducible repeat (first | apply Kd.R_alloc | apply Kd.R_drewN | apply Kd.R_drew)); exact HO288.out) (Kd.R_typed (by (with_reducible repeat (first | apply Kd.R_alloc | apply Kd.R_drewN | apply Kd.R_drew)); exact HO_5.out)) (by decide) hg); have n1_ := Aside0.mk (Kd.R_over' (by (with_reducible repeat (first | apply Kd.R_alloc | apply Kd.R_drewN | apply Kd.R_drew)); exact HO_7.out) (Kd.R_typed (by (with_reducible repeat (first | apply Kd.R_alloc | apply Kd.R_drewN | apply Kd.R_drew)); exact HO_5.out)) (by decide) hg); have n2_ := Aside0.mk (blk_grown (g := gb268) (o := .cells #[.int .i64 t261, .string t262, .string t263, .string t264, .int .i64 t265, .bool t266] 41 (0, 0)) (by (with_reducible repeat (first | refine blk_drewN ?_ _ | refine blk_drew ?_ | refine blk_alloc ?_ _)); exact BK268.out) hg (Kd.R_away HO_5.out (fun _ hk => hk))); have n3_ := Aside0.mk (hb); have n4_ := Aside0.mk (ho); clear HO288; clear HO_7; clear BK268; clear HB; clear HO_5; have HO288 := n0_; have HO_7 := n1_; have BK268 := n2_; have HB := n3_; have HO291 := n4_; clear n0_ n1_ n2_ n3_ n4_; clear ho hb hg hat))
                                            go_roundg kj44
                                            case measure => have := HK1.out; have := HJ7.out; have := HJ36.out; have := HJ44.out; omega
                                            case rel => exact ⟨(y289), (y286), (wrap64 (x8_1 + 1)), (by first | rfl | (simp; done) | (simp [*]; done)), H', ⟨by have := HK1.out; have := HJ7.out; have := HJ36.out; have := HJ44.out; omega⟩, ⟨by (with_reducible repeat (first | apply Kd.R_alloc | apply Kd.R_drewN | apply Kd.R_drew)); exact Kd.R_mono HO291.out (fun _ hk => trivial)⟩, ⟨by (with_reducible repeat (first | apply Kd.R_alloc | apply Kd.R_drewN | apply Kd.R_drew)); first | exact HO288.out | exact Kd.R_mono HO288.out (fun _ hk e => hk (e.trans (own_len _ _ _ _)))⟩, ⟨by (with_reducible repeat (first | apply Kd.R_alloc | apply Kd.R_drewN | apply Kd.R_drew)); first | exact HO_7.out | exact Kd.R_mono HO_7.out (fun _ hk e => hk (e.trans (own_len _ _ _ _)))⟩, ⟨by repeat (first | (with_reducible first | exact HB.out | apply below_alloc | apply pw_below_drewN | apply below_drew1 | refine below_set ?_ GE268.out) | exact HB.out)⟩⟩
                                          · rw [if_neg c81] at H
                                            exact absurd H (by simp)
                                        · rw [if_neg c80] at H
                                          exact absurd H (by simp)
                                      · rw [if_neg c79] at H
                                        exact absurd H (by simp)
                                  · rw [if_neg c76] at H
                                    have c76b0 : (t261 == 10) = false := beq_eq_false_iff_ne.mpr c76
                                    have c76b1 : (t261 != 10) = true := bne_iff_ne.mpr c76
                                    by_cases c85 : x5_1.length < 1954687338268
                                    · rw [if_pos c85] at H
                                      have LMc85 := Aside0.mk c85
                                      clear c85
                                      obtain ⟨y292, hy292⟩ : ∃ y_ : List (S41), y_ = (x5_1 ++ [(⟨t261, t262, t263, t264, t265, t266⟩ : S41)]) := ⟨_, rfl⟩
                                      replace H : (haversackref17_Parse.l0 kj44 y292 x6_1 t243 (wrap64 (x8_1 + 1))) = some (r1, r2, r3) := by first | (rw [hy292]; with_reducible exact H) | (have H2_ := (Option.bind_some _ _).symm.trans H; rw [hy292]; with_reducible exact H2_) | (have H2_ := (Option.bind_some _ _).symm.trans H; with_reducible exact H2_) | with_reducible exact H | (rw [hy292]; exact H) | exact H
                                      have Ny292 := Aside0.mk hy292
                                      clear hy292
                                      have H' := Aside0.mk H
                                      clear H
                                      have hcz86_0 : wc.cell? ⟨gb268, 0, none⟩ = some (.int .i64 t261) := (blk_cell BK268.out 0).trans rfl
                                      have hcz86_1 : wc.cell? ⟨gb268, 1, none⟩ = some (.string t262) := (blk_cell BK268.out 1).trans rfl
                                      have hcz86_2 : wc.cell? ⟨gb268, 2, none⟩ = some (.string t263) := (blk_cell BK268.out 2).trans rfl
                                      have hcz86_3 : wc.cell? ⟨gb268, 3, none⟩ = some (.string t264) := (blk_cell BK268.out 3).trans rfl
                                      have hcz86_4 : wc.cell? ⟨gb268, 4, none⟩ = some (.int .i64 t265) := (blk_cell BK268.out 4).trans rfl
                                      have hcz86_5 : wc.cell? ⟨gb268, 5, none⟩ = some (.bool t266) := (blk_cell BK268.out 5).trans rfl
                                      have hfz86_0 := blk_frozen BK268.out 0
                                      have hfz86_1 := blk_frozen BK268.out 1
                                      have hfz86_2 := blk_frozen BK268.out 2
                                      have hfz86_3 := blk_frozen BK268.out 3
                                      have hfz86_4 := blk_frozen BK268.out 4
                                      have hfz86_5 := blk_frozen BK268.out 5
                                      go_wp2_with (first | ((with_reducible refine gate_builtin (b := .append) (xs := #[.tmp 123, .tmp 125]) rfl ?_); (try (refine gate_guard (by rfl) ?_; dsimp only)); at_builtin; refine Kd.R_append k41 (w0 := w) w.heap.size rfl (.tmp 123) (.tmp 125) 29 41 (.agg #[(.int .i64 0), (.string ⟨#[]⟩), (.string ⟨#[]⟩), (.string ⟨#[]⟩), (.int .i64 0), (.bool false)]) 72 rfl Tryd.underlying29 info41 rfl (by decide) (by omega) u5 x5_1 (⟨t261, t262, t263, t264, t265, t266⟩ : S41) [.int .i64 t261, .string t262, .string t263, .string t264, .int .i64 t265, .bool t266] (fun k_ => k_ ≠ gb268) (fun _ => False) rfl rfl ?aP (fun _ hk => hk.elim) ?aF ?aO ?aB ?aS ?aL ?_; (case aP => exact k41_mkM _ _ _ (⟨t261, t262, t263, t264, t265, t266⟩ : S41)); (case aB => exact (by repeat (first | (with_reducible first | exact HB.out | apply below_alloc | apply pw_below_drewN | apply below_drew1 | refine below_set ?_ GE268.out) | exact HB.out))); (case aF => exact (fun k_ hk => Kd.freshB (g := gb268) (o := .cells #[.int .i64 t261, .string t262, .string t263, .string t264, .int .i64 t265, .bool t266] 41 (0, 0)) (by (with_reducible repeat (first | refine blk_drewN ?_ _ | refine blk_drew ?_ | refine blk_alloc ?_ _)); exact BK268.out) k_ hk)); (case aO => exact (by (with_reducible repeat (first | apply Kd.R_alloc | apply Kd.R_drewN | apply Kd.R_drew)); exact HO_5.out)); (case aS => exact (below_size (by repeat (first | (with_reducible first | exact HB.out | apply below_alloc | apply pw_below_drewN | apply below_drew1 | refine below_set ?_ GE268.out) | exact HB.out)))); (case aL => have := LMc85.out; omega); intro v293 w87 ho hb hg hat; rw [← Ny292.out] at ho; have n0_ := Aside0.mk (Kd.R_over' (by (with_reducible repeat (first | apply Kd.R_alloc | apply Kd.R_drewN | apply Kd.R_drew)); exact HO_6.out) (Kd.R_typed (by (with_reducible repeat (first | apply Kd.R_alloc | apply Kd.R_drewN | apply Kd.R_drew)); exact HO_5.out)) (by decide) hg); have n1_ := Aside0.mk (Kd.R_over' (by (with_reducible repeat (first | apply Kd.R_alloc | apply Kd.R_drewN | apply Kd.R_drew)); exact HO_7.out) (Kd.R_typed (by (with_reducible repeat (first | apply Kd.R_alloc | apply Kd.R_drewN | apply Kd.R_drew)); exact HO_5.out)) (by decide) hg); have n2_ := Aside0.mk (blk_grown (g := gb268) (o := .cells #[.int .i64 t261, .string t262, .string t263, .string t264, .int .i64 t265, .bool t266] 41 (0, 0)) (by (with_reducible repeat (first | refine blk_drewN ?_ _ | refine blk_drew ?_ | refine blk_alloc ?_ _)); exact BK268.out) hg (Kd.R_away HO_5.out (fun _ hk => hk))); have n3_ := Aside0.mk (hb); have n4_ := Aside0.mk (ho); clear HO_6; clear HO_7; clear BK268; clear HB; clear HO_5; have HO_6 := n0_; have HO_7 := n1_; have BK268 := n2_; have HB := n3_; have HO294 := n4_; clear n0_ n1_ n2_ n3_ n4_; clear ho hb hg hat))
                                      go_roundg kj44
                                      case measure => have := HK1.out; have := HJ7.out; have := HJ36.out; have := HJ44.out; omega
                                      case rel => exact ⟨(y292), (x6_1), (wrap64 (x8_1 + 1)), (by first | rfl | (simp; done) | (simp [*]; done)), H', ⟨by have := HK1.out; have := HJ7.out; have := HJ36.out; have := HJ44.out; omega⟩, ⟨by (with_reducible repeat (first | apply Kd.R_alloc | apply Kd.R_drewN | apply Kd.R_drew)); exact Kd.R_mono HO294.out (fun _ hk => trivial)⟩, ⟨by (with_reducible repeat (first | apply Kd.R_alloc | apply Kd.R_drewN | apply Kd.R_drew)); first | exact HO_6.out | exact Kd.R_mono HO_6.out (fun _ hk e => hk (e.trans (own_len _ _ _ _)))⟩, ⟨by (with_reducible repeat (first | apply Kd.R_alloc | apply Kd.R_drewN | apply Kd.R_drew)); first | exact HO_7.out | exact Kd.R_mono HO_7.out (fun _ hk e => hk (e.trans (own_len _ _ _ _)))⟩, ⟨by repeat (first | (with_reducible first | exact HB.out | apply below_alloc | apply pw_below_drewN | apply below_drew1 | refine below_set ?_ GE268.out) | exact HB.out)⟩⟩
                                    · rw [if_neg c85] at H
                                      exact absurd H (by simp)
                  · replace c35 := Bool.eq_false_iff.mpr c35
                    subst c35
                    have H1 : (some (([] : List (S41)), wrap64 (x8_1 + 1), 66)) = some (r1, r2, r3) := by rw [if_neg (show ¬ (false = true) by decide)] at H; exact H
                    clear H
                    have H := H1
                    clear H1
                    simp only [Option.some.injEq, Prod.mk.injEq] at H
                    obtain ⟨rfl, rfl, rfl⟩ := H
                    go_wp2
                    go_ret3
                    exact ⟨_, by first | rfl | (simp [errW_none, errW_some] <;> rfl) | (simp [*, errW_none, errW_some] <;> rfl), by first | exact Kd.R_nil _ _ _ _ _ | exact Kd.N_nil _ _ _ _ _ | exact Kd.V_nil _ _ _ _ _ | exact Kd.Q_nil _ _ _ _ _ | exact Kd.S_nil _ _ _ _ _, by repeat (first | (with_reducible first | exact HB.out | apply below_alloc | apply pw_below_drewN | apply below_drew1) | exact HB.out)⟩
          · rw [if_neg c6] at H
            exact absurd H (by simp)
        · rw [if_neg c5] at H
          have c5b0 : decide (x8_1 < (t243.length : Int)) = false := decide_eq_false c5
          clear c5
          by_cases c88 : (x6_1.length : Int) > 0
          · rw [if_pos c88] at H
            have c88b0 : decide (0 < (x6_1.length : Int)) = true := decide_eq_true c88
            have c88b1 : decide (0 < x6_1.length) = true := decide_eq_true (by omega)
            clear c88
            simp only [Option.some.injEq, Prod.mk.injEq] at H
            obtain ⟨rfl, rfl, rfl⟩ := H
            obtain ⟨Ao89, co89, eo89⟩ := Kd.R_slice HO_7.out
            subst eo89
            obtain ⟨Ao90, co90, eo90⟩ := Kd.R_slice HO_6.out
            subst eo90
            go_wp2
            go_ret3
            exact ⟨_, by first | rfl | (simp [errW_none, errW_some] <;> rfl) | (simp [*, errW_none, errW_some] <;> rfl), by first | exact Kd.R_nil _ _ _ _ _ | exact Kd.N_nil _ _ _ _ _ | exact Kd.V_nil _ _ _ _ _ | exact Kd.Q_nil _ _ _ _ _ | exact Kd.S_nil _ _ _ _ _, by repeat (first | (with_reducible first | exact HB.out | apply below_alloc | apply pw_below_drewN | apply below_drew1) | exact HB.out)⟩
          · rw [if_neg c88] at H
            have c88b0 : decide (0 < (x6_1.length : Int)) = false := decide_eq_false c88
            have c88b1 : decide (0 < x6_1.length) = false := decide_eq_false (by omega)
            clear c88
            simp only [Option.some.injEq, Prod.mk.injEq] at H
            obtain ⟨rfl, rfl, rfl⟩ := H
            obtain ⟨Ao91, co91, eo91⟩ := Kd.R_slice HO_7.out
            subst eo91
            obtain ⟨Ao92, co92, eo92⟩ := Kd.R_slice HO_6.out
            subst eo92
            go_wp2
            go_ret3
            exact ⟨_, by first | rfl | (simp [errW_none, errW_some] <;> rfl) | (simp [*, errW_none, errW_some] <;> rfl), by (with_reducible repeat (first | apply Kd.R_alloc | apply Kd.R_drewN | apply Kd.R_drew)); exact HO_5.out, by repeat (first | (with_reducible first | exact HB.out | apply below_alloc | apply pw_below_drewN | apply below_drew1) | exact HB.out)⟩

end Go.Proofs.YtkcemdfhhdjdaaaDoor.P
