/- script.Parse, walked: the lines one by one, over the contracts of TrimLeft, Words, read and take. -/
import Derived.Test.YtkcemdfhhdjdaaaDoorShape
import Derived.Test.YtkcemdfhhdjdaaaDoorAsked
import Derived.Test.YtkcemdfhhdjdaaaDoorPx3
import Derived.Test.YtkcemdfhhdjdaaaDoorRead
import Derived.Deep.LoopGhost
import Derived.Lib.Hide
namespace Go.Proofs.YtkcemdfhhdjdaaaDoor.Ext
open Go Go.RowKit Go.Lib Go.Shelf Go.Proofs.YtkcemdfhhdjdaaaDoorW.PrintWords Go.Proofs.YtkcemdfhhdjdaaaDoorW.PrintLast Go.Proofs.YtkcemdfhhdjdaaaDoor.P
set_option linter.unusedVariables false
set_option linter.unusedSimpArgs false

abbrev ParseR := List S41 × Int × Int
/-- The lines, one behind the other: what they come to. -/
def script_Parse.l0 (k : Nat) : List ByteArray → List S41 → List Int → Nat → Option ParseR
  | [], out, st, i => some (if st = [] then (out, 0, 0) else ([], 0, 66))
  | t :: ts, out, st, i => (strings_TrimLeft.f t ⟨#[32, 9]⟩).bind fun u =>
      if u.toList = [] then script_Parse.l0 k ts out st (i + 1) else if bt u 0 = 35 then script_Parse.l0 k ts out st (i + 1) else
      (P.script_Words.f k u).bind fun wb => if wb.2 = true then (script_read.f k wb.1).bind fun r =>
          if r.2.2.2.2.2.2 = true then (if out.length = 200 then some ([], ((i + 1 : Nat) : Int), 66) else
            match takeP st r.1 with
            | none => some ([], ((i + 1 : Nat) : Int), 66)
            | some st' => script_Parse.l0 k ts (out ++ [⟨r.1, r.2.1, r.2.2.1, r.2.2.2.1, r.2.2.2.2.1, r.2.2.2.2.2.1⟩]) st' (i + 1))
          else some ([], ((i + 1 : Nat) : Int), 66)
        else some ([], ((i + 1 : Nat) : Int), 66)
/-- Without what stands behind the last LF, if nothing does. -/
def dropEnd (l : List ByteArray) : List ByteArray := if (l.getLast?.getD ⟨#[]⟩).toList = [] then l.dropLast else l
def script_Parse.f (k : Nat) (a0 : ByteArray) : Option ParseR :=
  if (a0.size : Int) > 65536 then some ([], 0, 66) else (strings_Split.f a0 ⟨#[10]⟩).bind fun l => if l = [] then none else script_Parse.l0 k (dropEnd l) [] [] 0
theorem script_Parse.mono_l (k : Nat) : ∀ (l : List ByteArray) (out : List S41) (st : List Int) (i : Nat), LeO (script_Parse.l0 k l out st i) (script_Parse.l0 (k + 1) l out st i)
  | [], _, _, _ => LeO.refl _
  | t :: ts, out, st, i => by
    unfold script_Parse.l0
    refine LeO.bind (LeO.refl _) fun u => LeO.ite (script_Parse.mono_l k _ _ _ _) (LeO.ite (script_Parse.mono_l k _ _ _ _) (LeO.bind (P.script_Words.mono _ _) fun wb => LeO.ite (LeO.bind (script_read.mono _ _) fun r => LeO.ite (LeO.ite (LeO.refl _) ?_) (LeO.refl _)) (LeO.refl _)))
    cases takeP st r.1 with
    | none => exact LeO.refl _
    | some st' => exact script_Parse.mono_l k _ _ _ _
theorem script_Parse.mono : ∀ a0 k, LeO (script_Parse.f k a0) (script_Parse.f (k + 1) a0) := fun a0 k => LeO.ite (LeO.refl _) (LeO.bind (LeO.refl _) fun l => LeO.ite (LeO.refl _) (script_Parse.mono_l k _ _ _ _))

/-- What holds at a round's head. -/
structure PInv (B X Lb : Nat) (LO : Option Obj) (st : List Int) (v vo : Value) (out : List S41) (w0 w : World) : Prop where
  stk : Stk B X st v w
  hX : B ≤ X
  row : Kd.R k41 41 w B (fun _ => True) vo out
  lin : w.heap[Lb]? = LO
  typ : ∃ cs, LO = some (.cells cs 9 (0, 0))
  bel : Below B w0 w
theorem some_lt {w : World} {k : Nat} {o : Obj} (h : w.heap[k]? = some o) : k < w.heap.size := (Array.getElem?_eq_some_iff.1 h).1
theorem Stk.step {B X : Nat} {st : List Int} {v : Value} {w w' : World} (h : Stk B X st v w) (hs : w.heap.size ≤ w'.heap.size) (hb : ∀ k, k < w.heap.size → (k = X ∨ v.ownBlock = some k) → w'.heap[k]? = w.heap[k]?) : Stk B X st v w' := by
  obtain ⟨h1, h2, h3, h4⟩ := h
  exact ⟨(hb X h4 (.inl rfl)).trans h1, own_move h2 (fun k hk => hb k (own_lt h2 k hk) (.inr hk)), h3, by omega⟩
theorem PInv.lt {B X Lb : Nat} {LO : Option Obj} {st : List Int} {v vo : Value} {out : List S41} {w0 w : World} (h : PInv B X Lb LO st v vo out w0 w) : Lb < w.heap.size := by
  obtain ⟨cs, hc⟩ := h.typ
  exact some_lt (h.lin.trans hc)
theorem PInv.step {B X Lb : Nat} {LO : Option Obj} {st : List Int} {v vo : Value} {out : List S41} {w0 w w' : World} (h : PInv B X Lb LO st v vo out w0 w) (hb : Below w.heap.size w w') (hB : B ≤ w.heap.size) : PInv B X Lb LO st v vo out w0 w' :=
  ⟨h.stk.step hb.size (fun k hk _ => hb.block k hk), h.hX, Kd.R_below h.row hb, (hb.block _ h.lt).trans h.lin, h.typ, h.bel.trans (hb.mono hB)⟩
theorem typ_ne {w : World} {k j t u : Nat} {a b : Array Value} (h : w.heap[k]? = some (.cells a t (0, 0))) (h2 : w.heap[j]? = some (.cells b u (0, 0))) (hne : t ≠ u) : k ≠ j := by
  rintro rfl
  rw [h] at h2
  cases h2
  exact hne rfl
/-- The shape has taken a line. -/
theorem PInv.take {B X Lb : Nat} {LO : Option Obj} {st st' : List Int} {v v' vo : Value} {out : List S41} {w0 w w' : World} (h : PInv B X Lb LO st v vo out w0 w) (hs : Stk B X st' v' w') (hk : Kept X v w w') : PInv B X Lb LO st' v' vo out w0 w' := by
  obtain ⟨h1, h2, h3, h4, h5⟩ := hk
  obtain ⟨s1, s2, s3, s4⟩ := h.stk
  obtain ⟨cs, hc⟩ := h.typ
  have hl := h.lin.trans hc
  refine ⟨hs, h.hX, Kd.R_mono (Kd.R_move (Kd.R_bound h.row) (fun k hk => ?_)) (fun _ _ => trivial), ?_, h.typ, ⟨h1.trans h.bel.os, h2.trans h.bel.tape, h3.trans h.bel.output, Nat.le_trans h.bel.size h4, fun k hk => ?_⟩⟩
  · obtain ⟨_, _, hlt, q, hq, cells, hcell⟩ := hk
    have hq' : q = 41 := by
      have : q ∈ [41] := hq
      simpa using this
    subst hq'
    refine h5 k hlt (typ_ne hcell s1 (by decide)) (fun e => ?_)
    obtain ⟨c2, hc2⟩ := own_typed s2 k e
    exact typ_ne hcell hc2 (by decide) rfl
  · refine (h5 Lb (some_lt hl) (typ_ne hl s1 (by decide)) (fun e => ?_)).trans h.lin
    obtain ⟨c2, hc2⟩ := own_typed s2 Lb e
    exact typ_ne hl hc2 (by decide) rfl
  · refine (h5 k (by have := h.hX; omega) (by have := h.hX; omega) (fun e => ?_)).trans (h.bel.block k hk)
    have := own_base s2 k e
    omega
/-- A line has been put behind. -/
theorem PInv.push {B X Lb : Nat} {LO : Option Obj} {st : List Int} {v vo vo' : Value} {out out' : List S41} {w0 w w' : World} (h : PInv B X Lb LO st v vo out w0 w) (hr : Kd.R k41 41 w' B (fun _ => True) vo' out') (hb : Below B w0 w') (hg : w.grownBy w' vo.ownBlock) : PInv B X Lb LO st v vo' out' w0 w' := by
  obtain ⟨s1, s2, s3, s4⟩ := h.stk
  obtain ⟨cs, hc⟩ := h.typ
  have hl := h.lin.trans hc
  obtain ⟨inner, hown⟩ := Kd.R_own h.row
  have ne : ∀ {k t : Nat} {a : Array Value}, w.heap[k]? = some (.cells a t (0, 0)) → t ≠ 41 → some k ≠ vo.ownBlock := fun hk ht e => by
    obtain ⟨c2, hc2⟩ := own_typed hown _ e.symm
    exact typ_ne hk hc2 ht rfl
  refine ⟨h.stk.step hg.size (fun k hk hx => hg.block k hk ?_), h.hX, hr, (hg.block _ h.lt (ne hl (by decide))).trans h.lin, h.typ, hb⟩
  rcases hx with rfl | e
  · exact ne s1 (by decide)
  · obtain ⟨c2, hc2⟩ := own_typed s2 k e
    exact ne hc2 (by decide)
theorem takeP_len {st st' : List Int} {k : Int} (h : st.length ≤ 8) (ht : takeP st k = some st') : st'.length ≤ 8 := by
  unfold takeP at ht
  split at ht
  · split at ht
    · cases ht
    · cases ht
      simp
      omega
  · split at ht
    · split at ht
      · cases ht
      · rename_i h2
        have h3 : st ≠ [] := fun e => h2 (.inl e)
        have := List.length_pos_iff.2 h3
        cases ht
        simp
        omega
    · split at ht
      · split at ht
        · cases ht
        · cases ht
          simp
          omega
      · cases ht
        exact h
def ParsePost (r : ParseR) (w : World) (e : Ending) (w' : World) : Prop :=
  ∃ v0 : Value, e = .returned (.tuple #[v0, .int .i64 r.2.1, .int .i64 r.2.2]) ∧ Kd.R k41 41 w' w.heap.size (fun _ => True) v0 r.1 ∧ Below w.heap.size w w'
theorem post_bad {n : Int} {r : ParseR} {w w' : World} (hr : r = ([], n, 66)) (hb : Below w.heap.size w w') : ParsePost r w (.returned (.tuple #[.slice none 0 0, .int .i64 n, .int .i64 66])) w' := by
  subst hr
  exact ⟨_, rfl, Kd.R_nil _ _ _ _ _, hb⟩
theorem split_some {s : ByteArray} {l : List ByteArray} (h : strings_Split.f s ⟨#[10]⟩ = some l) : l ≠ [] ∧ l.length ≤ s.size + 1 := by
  unfold strings_Split.f at h
  split at h
  · cases h
    have hlen := Lib.splitB_all ⟨#[10]⟩ (Nat.le_refl 1) 0 _ s rfl
    have hle := Lib.countB_le ⟨#[10]⟩ (Nat.le_refl 1) s.size s (Nat.le_refl _)
    exact ⟨fun e => (by rw [e] at hlen; cases hlen), by omega⟩
  · cases h
theorem drop_cons (l : List ByteArray) (i : Nat) (h : i < l.length) : l.drop i = l[i] :: l.drop (i + 1) := List.drop_eq_getElem_cons h
set_option maxHeartbeats 4000000 in
set_option maxRecDepth 100000 in
theorem script_Parse.calls (k : Nat) (a0 : ByteArray) (r1 : List S41) (r2 r3 : Int) (w : World) (h : script_Parse.f k a0 = some (r1, r2, r3)) :
    Calls Tryd.prog 12 #[.string a0] w (ParsePost (r1, r2, r3) w) := by
  unfold script_Parse.f at h
  by_cases hbig : (a0.size : Int) > 65536
  · rw [if_pos hbig] at h
    have HR := Lib.hid (Option.some.inj h).symm
    clear h
    go_enter Tryd.func12, Tryd.ntmps12
    go_wp2
    go_ret3
    exact post_bad HR.out (Below.refl _ _)
  · rw [if_neg hbig] at h
    obtain ⟨l, hl, h2⟩ := Option.bind_eq_some_iff.1 h
    clear h
    obtain ⟨hne, hlen⟩ := split_some hl
    rw [if_neg hne] at h2
    have HL := Lib.hid hl
    have HP := Lib.hid h2
    clear h2 hl
    obtain ⟨m, hm⟩ : ∃ m, l.length = m := ⟨_, rfl⟩
    have hpos : 0 < m := by rw [← hm]; exact List.length_pos_iff.2 hne
    have hsz : m ≤ 65537 := by omega
    obtain ⟨last, hlast⟩ : ∃ y, l[m - 1]? = some y := ⟨_, List.getElem?_eq_getElem (by omega)⟩
    have hgl : l.getLast?.getD ⟨#[]⟩ = last := by rw [List.getLast?_eq_getElem?, hm, hlast]; rfl
    have key : ∃ n', ((dropEnd l).length = n' ∧ ∀ (j : Nat) y, (dropEnd l)[j]? = some y → l[j]? = some y) ∧ ((last.toList.isEmpty = true ∧ m = n' + 1) ∨ (last.toList.isEmpty = false ∧ n' = m)) := by
      unfold dropEnd
      rw [hgl]
      by_cases hemp : last.toList = []
      · rw [if_pos hemp]
        refine ⟨m - 1, ⟨by rw [List.length_dropLast, hm], fun j y hj => ?_⟩, .inl ⟨by rw [hemp]; rfl, by omega⟩⟩
        rw [List.getElem?_dropLast] at hj
        split at hj
        · exact hj
        · cases hj
      · rw [if_neg hemp]
        exact ⟨m, ⟨hm, fun j y hj => hj⟩, .inr ⟨by cases h : last.toList with | nil => exact absurd h hemp | cons _ _ => rfl, rfl⟩⟩
    obtain ⟨n', hn', hcase⟩ := key
    have HN := Lib.hid hn'
    have HM := Lib.hid hm
    have HLA := Lib.hid hlast
    have HNE := Lib.hid hne
    clear hn' hm hlast hne hgl hlen
    rcases hcase with ⟨hemp, rfl⟩ | ⟨hemp, rfl⟩
    all_goals
      go_enter Tryd.func12, Tryd.ntmps12
      go_wp2_with fail
      refine (strings_Split.calls a0 ⟨#[10]⟩ l _ HL.out).mono ?_
      rintro e w1 ⟨vl, rfl, hR, hB1⟩
      obtain ⟨A, c, rfl, hc, hC⟩ := Kd.R_reads hR
      rw [HM.out] at hc ⊢
      obtain ⟨b, o, rfl, hb, hcell⟩ := C_cells hC (by have := HM.out; omega)
      have hlc := hcell _ last HLA.out
      try simp only [Nat.add_sub_cancel] at hlc
      have HC := Lib.hid hcell
      have HRR := Lib.hid hR
      have HBB := Lib.hid hB1
      clear hcell hC hR hB1
      have HI0 : Hid (PInv w.heap.size w.heap.size b (w1.heap[b]?) [] (.slice none 0 0) (.slice none 0 0) [] w w1) := Lib.hid (by
        have hB1 := HBB.out
        obtain ⟨inner, hown⟩ := Kd.R_own HRR.out
        refine ⟨⟨(hB1.block _ (by simp)).trans (heap_new' _ _), ⟨rfl, .inl ⟨rfl, rfl⟩⟩, fun k hk => by simp [Value.ownBlock] at hk, ?_⟩, Nat.le_refl _, Kd.R_nil _ _ _ _ _, rfl, own_typed hown b rfl, ?_⟩
        · have := hB1.size; simp at this; omega
        · exact ((Below.refl _ _).alloc (Nat.le_refl _) _).trans (hB1.mono (by simp)))
      have hcell' : Hid (∀ (j : Nat) y, (dropEnd l)[j]? = some y → w1.cell? ⟨b, o + j, none⟩ = some (.string y)) := Lib.hid (fun j y hj => HC.out j y (HN.out.2 j y hj))
      have HSZ : Hid (w.heap.size ≤ w1.heap.size) := Lib.hid HI0.out.bel.size
      clear HC HRR HBB HLA HNE
      go_wp2_with fail
      clear hlc hemp
      go_loopw [5, 34] (fun vo vi wr => ∃ (i : Nat) (st : List Int) (v : Value) (out : List S41), vi = .int .i64 i ∧ i ≤ n' ∧ st.length ≤ 8 ∧ out.length ≤ 200 ∧ Hid (PInv w.heap.size w.heap.size b (w1.heap[b]?) st v vo out w wr) ∧ Hid (script_Parse.l0 k ((dropEnd l).drop i) out st i = some (r1, r2, r3))) (fun _ vi _ => n' - (intOf vi).toNat)
      case atStart => exact ⟨0, [], .slice none 0 0, [], rfl, Nat.zero_le _, by simp, by simp, HI0, HP⟩
      case round =>
        obtain ⟨i, st, v, out, rfl, hi, hst, hout, HI, HT⟩ := hrel
        by_cases hlt : i < n'
        · obtain ⟨t, ht⟩ : ∃ t, (dropEnd l)[i]? = some t := ⟨_, List.getElem?_eq_getElem (by have := HN.out.1; omega)⟩
          have hdrop : (dropEnd l).drop i = t :: (dropEnd l).drop (i + 1) := by
            obtain ⟨h1, h2⟩ := List.getElem?_eq_some_iff.1 ht
            rw [← h2]
            exact drop_cons _ _ h1
          have hc1 : wr.cell? ⟨b, o + i, none⟩ = some (.string t) := (World.cell?_of_block (a := ⟨b, o + i, none⟩) HI.out.lin).trans (hcell'.out i t ht)
          have h0 := HT.out
          rw [hdrop, script_Parse.l0] at h0
          obtain ⟨u, hu, h0⟩ := Option.bind_eq_some_iff.1 h0
          have HU := Lib.hid hu
          have HB0 : Hid (w.heap.size ≤ wr.heap.size) := Lib.hid HI.out.bel.size
          clear hu ht HT
          have H0 := Lib.hid h0
          clear h0
          have HD := Lib.hid hdrop
          clear hdrop
          go_wp2_with fail
          refine (strings_TrimLeft.calls t ⟨#[32, 9]⟩ u _ HU.out).mono ?_
          rintro e w2 ⟨rfl, hB2⟩
          have HI2 := Lib.hid (HI.out.step hB2 HB0.out)
          have HB2 : Hid (w.heap.size ≤ w2.heap.size) := Lib.hid HI2.out.bel.size
          clear hB2 hc1
          have h0 := H0.out
          clear H0
          by_cases hu0 : u.toList = []
          · rw [if_pos hu0] at h0
            have H0 := Lib.hid h0
            have hue : u.toList.isEmpty = true := by rw [hu0]; rfl
            clear h0 hu0
            go_wp2_with fail
            go_roundw
            case rel => exact ⟨i + 1, st, v, out, by go_num, by omega, hst, hout, HI2, H0⟩
            case measure => simp [intOf]; omega
          · rw [if_neg hu0] at h0
            have hue : u.toList.isEmpty = false := by cases h : u.toList with | nil => exact absurd h hu0 | cons _ _ => rfl
            clear hu0
            have H0 := Lib.hid h0
            clear h0
            have hx0 : ∀ h : 0 < u.size, ((u[0]'h).toNat : Int) = bt u 0 := bt_at u 0
            have hup : (0 < u.size) = True := eq_true (by
              rcases Nat.eq_zero_or_pos u.size with h | h
              · exfalso
                have : u.toList = [] := by rw [ByteArray.toList_eq]; exact List.length_eq_zero_iff.1 (by rw [Array.length_toList]; exact h)
                rw [this] at hue
                cases hue
              · exact h)
            have h0 := H0.out
            clear H0
            by_cases h35 : bt u 0 = 35
            · rw [if_pos h35] at h0
              have H0 := Lib.hid h0
              have hb35 : (bt u 0 == 35) = true := beq_iff_eq.2 h35
              clear h0 h35
              go_wp2_with fail
              go_roundw
              case rel => exact ⟨i + 1, st, v, out, by go_num, by omega, hst, hout, HI2, H0⟩
              case measure => simp [intOf]; omega
            · rw [if_neg h35] at h0
              have hb35 : (bt u 0 == 35) = false := beq_eq_false_iff_ne.2 h35
              clear h35
              obtain ⟨⟨ws, okw⟩, hw, h0⟩ := Option.bind_eq_some_iff.1 h0
              have HW := Lib.hid hw
              clear hw
              have H0 := Lib.hid h0
              clear h0
              go_wp2_with fail
              refine (P.script_Words.calls k u ws okw _ HW.out).mono ?_
              rintro e w3 ⟨vw, rfl, hR3, hB3⟩
              obtain ⟨A3, c3, rfl, hc3, hC3⟩ := Kd.R_reads hR3
              have HI3 := Lib.hid (HI2.out.step hB3 HB2.out)
              have HB3 : Hid (w.heap.size ≤ w3.heap.size) := Lib.hid HI3.out.bel.size
              have HC3 := Lib.hid hC3
              have HCC3 := Lib.hid hc3
              clear hR3 hB3 hC3 hx0 hup hb35 hue hc3
              have h0 := H0.out
              clear H0
              cases okw with
              | false =>
                have H0 := Lib.hid (Option.some.inj (h0 : some _ = _)).symm
                clear h0
                go_wp2_with fail
                go_ret3
                have e : (((i + 1 : Nat) : Int)) = (i : Int) + 1 := by omega
                exact post_bad (by rw [← e]; exact H0.out) HI3.out.bel
              | true =>
                rw [if_pos rfl] at h0
                obtain ⟨⟨t1, t2, t3, t4, t5, t6, okr⟩, hr, h0⟩ := Option.bind_eq_some_iff.1 h0
                have HR := Lib.hid hr
                clear hr
                have H0 := Lib.hid h0
                clear h0
                go_wp2_with fail
                refine (script_read.calls k A3 c3 ws t1 t2 t3 t4 t5 t6 okr _ HC3.out HCC3.out HR.out).mono ?_
                rintro e w4 ⟨rfl, hB4⟩
                have HI4 := Lib.hid (HI3.out.step hB4 HB3.out)
                have HB4 : Hid (w.heap.size ≤ w4.heap.size) := Lib.hid HI4.out.bel.size
                clear hB4
                have h0 := H0.out
                clear H0
                cases okr with
                | false =>
                  have H0 := Lib.hid (Option.some.inj (h0 : some _ = _)).symm
                  clear h0
                  go_wp2_with fail
                  go_ret3
                  have e : (((i + 1 : Nat) : Int)) = (i : Int) + 1 := by omega
                  exact post_bad (by rw [← e]; exact H0.out) (HI4.out.bel.alloc HB4.out _)
                | true =>
                  rw [if_pos rfl] at h0
                  by_cases h200 : out.length = 200
                  · rw [if_pos h200] at h0
                    have H0 := Lib.hid (Option.some.inj h0).symm
                    have h2b : ((out.length : Int) == 200) = true := by rw [h200]; rfl
                    obtain ⟨A5, c5, rfl, _, _⟩ := Kd.R_reads HI4.out.row
                    clear h0 h200
                    go_wp2_with fail
                    go_ret3
                    have e : (((i + 1 : Nat) : Int)) = (i : Int) + 1 := by omega
                    exact post_bad (by rw [← e]; exact H0.out) (HI4.out.bel.alloc HB4.out _)
                  · rw [if_neg h200] at h0
                    have h2b : ((out.length : Int) == 200) = false := beq_eq_false_iff_ne.2 (by omega)
                    have hout' : out.length < 200 := by omega
                    obtain ⟨A5, c5, rfl, _, _⟩ := Kd.R_reads HI4.out.row
                    clear h200
                    have H0 := Lib.hid h0
                    clear h0
                    have HI5 := Lib.hid (HI4.out.step ((Below.refl _ _).alloc (Nat.le_refl _) (.cells #[.int .i64 t1, .string t2, .string t3, .string t4, .int .i64 t5, .bool t6] 41)) HB4.out)
                    have HVL : Hid (v.ownBlock ≠ some w4.heap.size ∧ w4.heap.size ≠ w.heap.size) := Lib.hid ⟨fun e => Nat.lt_irrefl _ (own_lt HI4.out.stk.2.1 _ e), fun e => by have := HI4.out.stk.2.2.2; omega⟩
                    go_wp2_with fail
                    refine (take_calls w.heap.size w.heap.size st v t1 _ (by have := HB4.out; simp; omega) hst HI5.out.stk).mono ?_
                    rintro e w6 ⟨rfl, v6, hS6, _, hK6⟩
                    have HI6 := Lib.hid (HI5.out.take hS6 hK6)
                    have HB6 : Hid (w.heap.size ≤ w6.heap.size) := Lib.hid HI6.out.bel.size
                    have g6 : w6.heap[w4.heap.size]? = some (.cells #[.int .i64 t1, .string t2, .string t3, .string t4, .int .i64 t5, .bool t6] 41 (0, 0)) := (hK6.2.2.2.2 w4.heap.size (by simp) HVL.out.2 HVL.out.1).trans (heap_new' _ _)
                    clear hS6 hK6
                    have h0 := H0.out
                    clear H0
                    cases htk : takeP st t1 with
                    | none =>
                      rw [htk] at HI6
                      rw [htk] at h0
                      have H0 := Lib.hid (Option.some.inj h0).symm
                      clear h0 htk g6
                      simp only [Option.isSome_none]
                      go_wp2_with fail
                      go_ret3
                      have e : (((i + 1 : Nat) : Int)) = (i : Int) + 1 := by omega
                      exact post_bad (by rw [← e]; exact H0.out) HI6.out.bel
                    | some st' =>
                      rw [htk, Option.getD_some] at HI6
                      rw [htk] at h0
                      have hst' := takeP_len hst htk
                      have H0 := Lib.hid h0
                      clear h0 htk
                      simp only [Option.isSome_some]
                      have k0 := blk_cell g6 0
                      have k1 := blk_cell g6 1
                      have k2 := blk_cell g6 2
                      have k3 := blk_cell g6 3
                      have k4 := blk_cell g6 4
                      have k5 := blk_cell g6 5
                      simp only [List.getElem?_toArray, List.getElem?_cons_zero, List.getElem?_cons_succ] at k0 k1 k2 k3 k4 k5
                      have hu41 := Tryd.underlying41
                      clear g6
                      go_wp2_with (first | (at_builtin; refine Kd.R_append k41 (w0 := w) w.heap.size rfl (.tmp 78) (.tmp 80) 29 41 (.agg #[(.int .i64 0), (.string ⟨#[]⟩), (.string ⟨#[]⟩), (.string ⟨#[]⟩), (.int .i64 0), (.bool false)]) 72 rfl Tryd.underlying29 info41 rfl (by decide) (by omega) (.slice A5 out.length c5) out (⟨t1, t2, t3, t4, t5, t6⟩ : S41) [.int .i64 t1, .string t2, .string t3, .string t4, .int .i64 t5, .bool t6] (fun _ => True) (fun _ => False) rfl rfl (k41_mkM _ _ _ (⟨t1, t2, t3, t4, t5, t6⟩ : S41)) (fun _ hk => hk.elim) (fun _ _ => trivial) HI6.out.row HI6.out.bel HB6.out (by omega) ?_; intro v7 w7 hr7 hb7 hg7 _; have HI7 := Lib.hid (HI6.out.push hr7 hb7 hg7); clear hr7 hb7 hg7 k0 k1 k2 k3 k4 k5))
                      go_roundw
                      case rel => exact ⟨i + 1, st', v6, out ++ [⟨t1, t2, t3, t4, t5, t6⟩], by go_num, by omega, hst', by simp; omega, HI7, H0⟩
                      case measure => simp [intOf]; omega
        · have hend : i = n' := by omega
          have h0 := HT.out
          rw [List.drop_of_length_le (by have := HN.out.1; omega), script_Parse.l0] at h0
          obtain ⟨A9, c9, hv9, hc9⟩ := own_slice HI.out.stk.2.1
          subst hv9
          have k9 := one_cell HI.out.stk.1
          have H0 := Lib.hid (Option.some.inj h0).symm
          clear h0 HT hc9 hend
          by_cases hst0 : st = []
          · subst hst0
            go_wp2_with fail
            go_ret3
            have e9 := H0.out
            rw [if_pos trivial] at e9
            cases e9
            exact ⟨_, rfl, HI.out.row, HI.out.bel⟩
          · have hl9 : decide (0 < (st.length : Int)) = true := decide_eq_true (by have := List.length_pos_iff.2 hst0; omega)
            have hl9' : decide (0 < st.length) = true := decide_eq_true (List.length_pos_iff.2 hst0)
            have HS0 := Lib.hid hst0
            clear hst0
            go_wp2_with fail
            go_ret3
            exact post_bad (by have := H0.out; rw [if_neg HS0.out] at this; exact this) HI.out.bel
end Go.Proofs.YtkcemdfhhdjdaaaDoor.Ext
