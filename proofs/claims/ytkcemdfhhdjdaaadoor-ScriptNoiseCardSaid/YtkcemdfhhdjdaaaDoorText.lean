/- script.Text, walked: the builder gets a line at a time. -/
import Derived.Test.YtkcemdfhhdjdaaaDoorBld
import Derived.Test.YtkcemdfhhdjdaaaDoorAsked
import Derived.Test.YtkcemdfhhdjdaaaDoorPx0
import Derived.Test.YtkcemdfhhdjdaaaDoorBx2
import Derived.Lib.Hide
import Derived.Deep.LoopGhost
import Derived.Deep.RegionWith
import Derived.Shelf.Strings.MapGrows
namespace Go.Proofs.YtkcemdfhhdjdaaaDoor.Ext
open Go Go.RowKit Go.Lib Go.Shelf Go.Proofs.YtkcemdfhhdjdaaaDoorW.PrintWords Go.Proofs.YtkcemdfhhdjdaaaDoorW.PrintLast Go.Proofs.YtkcemdfhhdjdaaaDoor.P Go.Proofs.YtkcemdfhhdjdaaaDoor.B
set_option linter.unusedVariables false
set_option linter.unusedSimpArgs false

/-- How deep a line of a kind stands, and what comes after it. -/
def tabsOf (deep : Nat) (kind : Int) : Nat := if kind = 10 ∨ kind = 9 then deep - 1 else deep
def deepOf (deep : Nat) (kind : Int) : Nat := if kind = 10 then deep - 1 else if kind = 7 ∨ kind = 8 then deep + 1 else deep
def script_Text.l0 (k : Nat) : List S41 → Nat → ByteArray → Option ByteArray
  | [], _, acc => some acc
  | x :: l, deep, acc => (strings_Repeat.f ⟨#[9]⟩ (tabsOf deep x.f0)).bind fun t => (script_one.f k x.f0 x.f1 x.f2 x.f3 x.f4 x.f5).bind fun o =>
      if acc.size + (t.size + o.size + 1) ≤ 140737488355328 then script_Text.l0 k l (deepOf deep x.f0) (acc ++ ((t ++ o) ++ ⟨#[10]⟩)) else none
def script_Text.f (k : Nat) (l : List S41) : Option ByteArray := script_Text.l0 k l 0 ⟨#[]⟩
theorem script_Text.mono_l (k : Nat) : ∀ (l : List S41) (deep : Nat) (acc : ByteArray), LeO (script_Text.l0 k l deep acc) (script_Text.l0 (k + 1) l deep acc)
  | [], _, _ => LeO.refl _
  | x :: l, deep, acc => by
    unfold script_Text.l0
    refine LeO.bind (LeO.refl _) fun t => LeO.bind (script_one.mono _ _ _ _ _ _ _) fun o => LeO.ite ?_ (LeO.refl _)
    exact script_Text.mono_l k _ _ _
theorem script_Text.mono : ∀ a0 k, LeO (script_Text.f k a0) (script_Text.f (k + 1) a0) := fun a0 k => script_Text.mono_l k _ _ _

theorem str_cells (s : ByteArray) : Lib.strCells s = Lib.byteCells s.data.toList := rfl
theorem bytes_app (a b : ByteArray) : Lib.byteCells a.data.toList ++ Lib.strCells b = Lib.byteCells (a ++ b).data.toList := by
  rw [str_cells]
  simp [Lib.byteCells]
theorem C41_cells {w : World} {A : Option Addr} {l : List S41} (h : Kd.C k41 w A l.length l) (h0 : 0 < l.length) : ∃ b o, A = some ⟨b, o, none⟩ ∧ b < w.heap.size ∧ ∀ (j : Nat) x, l[j]? = some x →
    w.cell? ⟨b, o + j * 6, none⟩ = some (.int .i64 x.f0) ∧ w.cell? ⟨b, o + j * 6 + 1, none⟩ = some (.string x.f1) ∧ w.cell? ⟨b, o + j * 6 + 2, none⟩ = some (.string x.f2) ∧ w.cell? ⟨b, o + j * 6 + 3, none⟩ = some (.string x.f3) ∧ w.cell? ⟨b, o + j * 6 + 4, none⟩ = some (.int .i64 x.f4) ∧ w.cell? ⟨b, o + j * 6 + 5, none⟩ = some (.bool x.f5) := by
  obtain ⟨_, _, h3⟩ := h
  obtain ⟨ad, rfl, hcell⟩ := h3 h0
  have hx : ∀ (j : Nat) x, l[j]? = some x → ∀ i u, [Value.int .i64 x.f0, .string x.f1, .string x.f2, .string x.f3, .int .i64 x.f4, .bool x.f5][i]? = some u → w.cell? (ad.add (j * 6 + i)) = some u := fun j x hj i u hu => by
    obtain ⟨cs, _, hk, hc⟩ := hcell j x hj
    obtain rfl := k41_open hk
    exact hc i u hu
  obtain ⟨x, hx0⟩ : ∃ x, l[0]? = some x := ⟨_, List.getElem?_eq_getElem h0⟩
  have h00 := hx 0 x hx0 0 _ rfl
  obtain ⟨b, o, sp⟩ := ad
  have hsp : sp = none := by
    cases sp with
    | none => rfl
    | some q =>
      have h6 : w.cell? ⟨b, o, some q⟩ = some (.int .i64 x.f0) := h00
      unfold World.cell? at h6
      split at h6
      · simp at h6
      · cases h6
  subst hsp
  have hadd : ∀ n, (Addr.mk b o none).add n = ⟨b, o + n, none⟩ := fun n => by
    unfold Addr.add
    split
    · rename_i e; subst e; rfl
    · rfl
  refine ⟨b, o, rfl, ?_, fun j y hj => ?_⟩
  · have h6 : w.cell? ⟨b, o, none⟩ = some (.int .i64 x.f0) := h00
    unfold World.cell? at h6
    split at h6
    · rename_i hb; exact (Array.getElem?_eq_some_iff.1 hb).1
    · cases h6
  · have h1 := fun i u hu => hadd (j * 6 + i) ▸ hx j y hj i u hu
    exact ⟨h1 0 _ rfl, h1 1 _ rfl, h1 2 _ rfl, h1 3 _ rfl, h1 4 _ rfl, h1 5 _ rfl⟩
set_option maxHeartbeats 8000000 in
set_option maxRecDepth 100000 in
theorem script_Text.calls (k : Nat) (A0 : Option Addr) (c0 : Nat) (l0 : List S41) (r : ByteArray) (w : World) (hr0 : Kd.C k41 w A0 l0.length l0) (hc0 : l0.length ≤ c0) (h : script_Text.f k l0 = some r) :
    Calls Tryd.prog 16 #[.slice A0 l0.length c0] w fun e w' => e = .returned (.string r) ∧ Below w.heap.size w w' := by
  have hbig : l0.length ≤ 9223372036854775807 := hr0.2.1
  have HR0 := Lib.hid hr0
  have HC0 := Lib.hid hc0
  clear hr0 hc0
  unfold script_Text.f at h
  have H' := Lib.hid h
  clear h
  have hu41 := Tryd.underlying41
  go_enter Tryd.func16, Tryd.ntmps16
  go_wp2_with fail
  have HI0 : Hid (Lib.IsBuilderF 62 5 w.heap.size w.heap.size (Lib.byteCells (⟨#[]⟩ : ByteArray).data.toList) (w.alloc (.cells #[.pointer none, .slice none 0 0] 62))) :=
    Lib.hid (.inl (BuilderAtF.of ⟨Nat.le_refl _, .slice none 0 0, heap_new' _ _, ⟨rfl, .inl ⟨rfl, rfl⟩⟩, by simp [Value.ownBlock]⟩))
  go_loopw [4, 10] (fun vd vi wr => ∃ (i deep : Nat) (acc : ByteArray), vi = .int .i64 i ∧ vd = .int .i64 deep ∧ i ≤ l0.length ∧ deep ≤ i ∧ Hid (Lib.IsBuilderF 62 5 w.heap.size w.heap.size (Lib.byteCells acc.data.toList) wr) ∧ Hid (Below w.heap.size w wr) ∧ Hid (script_Text.l0 k (l0.drop i) deep acc = some r)) (fun _ vi _ => l0.length - (intOf vi).toNat)
  case atStart => exact ⟨0, 0, ⟨#[]⟩, rfl, rfl, Nat.zero_le _, Nat.le_refl _, HI0, Lib.hid ((Below.refl _ _).alloc (Nat.le_refl _) _), H'⟩
  case round =>
    obtain ⟨i, deep, acc, rfl, rfl, hi, hdeep, HI, HB, HT⟩ := hrel
    by_cases hlt : i < l0.length
    · obtain ⟨x, hx⟩ : ∃ x, l0[i]? = some x := ⟨_, List.getElem?_eq_getElem hlt⟩
      have hdrop : l0.drop i = x :: l0.drop (i + 1) := by
        obtain ⟨h1, h2⟩ := List.getElem?_eq_some_iff.1 hx
        rw [← h2]
        exact List.drop_eq_getElem_cons h1
      have h0 := HT.out
      rw [hdrop, script_Text.l0] at h0
      obtain ⟨t, ht, h1⟩ := Option.bind_eq_some_iff.1 h0
      clear h0
      obtain ⟨oo, ho, h0⟩ := Option.bind_eq_some_iff.1 h1
      clear h1
      split at h0
      case isFalse => cases h0
      case isTrue hsz =>
        obtain ⟨bA, oA, rfl, hbA, hcells⟩ := C41_cells (Kd.C_below HR0.out HB.out) (by omega)
        obtain ⟨q0, q1, q2, q3, q4, q5⟩ := hcells i x hx
        obtain ⟨f0, f1, f2, f3, f4, f5⟩ := x
        simp only at q0 q1 q2 q3 q4 q5 ht ho h0 hsz
        have HTT := Lib.hid ht
        have HO := Lib.hid ho
        have H0 := Lib.hid h0
        have HS := Lib.hid hsz
        have HW : Hid (w.heap.size ≤ wr.heap.size) := Lib.hid HB.out.size
        have hmax : max ((deep : Int) - 1) 0 = ((deep - 1 : Nat) : Int) := by omega
        clear ht ho h0 hsz hdrop hcells hx HT
        have hk : f0 = 10 ∨ f0 = 9 ∨ f0 = 7 ∨ f0 = 8 ∨ (f0 ≠ 10 ∧ f0 ≠ 9 ∧ f0 ≠ 7 ∧ f0 ≠ 8) := by omega
        have HLEN : Hid ((Lib.byteCells acc.data.toList).length + ((t ++ oo) ++ ⟨#[10]⟩ : ByteArray).size ≤ 140737488355328) := Lib.hid (by
          have h1 := HS.out
          have h2 : (Lib.byteCells acc.data.toList).length = acc.size := by simp [Lib.byteCells]
          have h3 : ((t ++ oo) ++ ⟨#[10]⟩ : ByteArray).size = t.size + oo.size + 1 := by simp [ByteArray.size_append]; rfl
          omega)
        have key : ∃ tb dp : Nat, Hid (strings_Repeat.f ⟨#[9]⟩ (tb : Int) = some t) ∧ Hid (script_Text.l0 k (l0.drop (i + 1)) dp (acc ++ ((t ++ oo) ++ ⟨#[10]⟩)) = some r) ∧ dp ≤ i + 1 ∧ ((f0 = 10 ∧ tb = deep - 1 ∧ dp = deep - 1) ∨ (f0 = 9 ∧ tb = deep - 1 ∧ dp = deep) ∨ (f0 = 7 ∧ tb = deep ∧ dp = deep + 1) ∨ (f0 = 8 ∧ tb = deep ∧ dp = deep + 1) ∨ (((f0 == 10) = false ∧ (f0 == 9) = false ∧ (f0 == 7) = false ∧ (f0 == 8) = false) ∧ tb = deep ∧ dp = deep)) := by
          refine ⟨tabsOf deep f0, deepOf deep f0, HTT, H0, ?_, ?_⟩
          · unfold deepOf
            split
            · omega
            · split <;> omega
          · rcases hk with rfl | rfl | rfl | rfl | ⟨n1, n2, n3, n4⟩
            · exact .inl ⟨rfl, rfl, rfl⟩
            · exact .inr (.inl ⟨rfl, rfl, rfl⟩)
            · exact .inr (.inr (.inl ⟨rfl, rfl, rfl⟩))
            · exact .inr (.inr (.inr (.inl ⟨rfl, rfl, rfl⟩)))
            · refine .inr (.inr (.inr (.inr ⟨⟨beq_eq_false_iff_ne.2 n1, beq_eq_false_iff_ne.2 n2, beq_eq_false_iff_ne.2 n3, beq_eq_false_iff_ne.2 n4⟩, ?_, ?_⟩)))
              · unfold tabsOf
                rw [if_neg (fun e => e.elim n1 n2)]
              · unfold deepOf
                rw [if_neg n1, if_neg (fun e => e.elim n3 n4)]
        have hz1 : (9223372036854775807 < t.size + oo.size) = False := eq_false (by have := HS.out; omega)
        have hz2 : (9223372036854775807 < t.size + oo.size + 1) = False := eq_false (by have := HS.out; omega)
        clear HTT H0 hk HS
        obtain ⟨tb, dp, HTT, H0, hdp, hcase⟩ := key
        rcases hcase with ⟨rfl, rfl, rfl⟩ | ⟨rfl, rfl, rfl⟩ | ⟨rfl, rfl, rfl⟩ | ⟨rfl, rfl, rfl⟩ | ⟨⟨n1, n2, n3, n4⟩, rfl, rfl⟩
        all_goals
          go_wp2_with fail
          go_region_with (first | (go_at_call 30; refine (strings_Repeat.calls _ _ t _ HTT.out).mono ?_; rintro e wA ⟨rfl, hbA1⟩; have gA : wA.heap[wr.heap.size]? = some (.cells #[.int .i64 _, .string f1, .string f2, .string f3, .int .i64 f4, .bool f5] 41 (0, 0)) := (hbA1.block wr.heap.size (by simp)).trans (heap_new' _ _); have HA := Lib.hid (below_step (w := wr) (by repeat (first | exact Below.refl _ _ | apply below_alloc | apply pw_below_drewN | apply below_drew1)) hbA1); have kA0 := blk_cell gA 0; have kA1 := blk_cell gA 1; have kA2 := blk_cell gA 2; have kA3 := blk_cell gA 3; have kA4 := blk_cell gA 4; have kA5 := blk_cell gA 5; simp only [List.getElem?_toArray, List.getElem?_cons_zero, List.getElem?_cons_succ] at kA0 kA1 kA2 kA3 kA4 kA5; clear gA hbA1) | (go_at_call 31; refine (script_one.calls k _ _ _ _ _ _ oo _ HO.out).mono ?_; rintro e wB ⟨rfl, hbB1⟩; have HBw := Lib.hid (below_step (w := wr) (by repeat (first | exact HA.out | apply below_alloc | apply pw_below_drewN | apply below_drew1)) hbB1); have HIB := Lib.hid (IsBuilderF.below HI.out HBw.out); clear hbB1) | (go_at_call 29; have HWS := (writeString_k w.heap.size w.heap.size (Lib.byteCells acc.data.toList) ((t ++ oo) ++ ⟨#[10]⟩) _ HIB.out HLEN.out (Nat.le_trans HW.out HBw.out.size)); refine HWS.mono ?_; clear HWS; rintro e wC ⟨rfl, hC1, hC2, _⟩; have HIC := Lib.hid (show Lib.IsBuilderF 62 5 w.heap.size w.heap.size (Lib.byteCells (acc ++ ((t ++ oo) ++ ⟨#[10]⟩)).data.toList) wC from .inr (bytes_app acc _ ▸ hC1)); have HBC := Lib.hid (show Below w.heap.size w wC from (HB.out.trans (HBw.out.mono HW.out)).trans ⟨hC2.os, hC2.tape, hC2.output, hC2.size, hC2.block⟩); clear hC1 hC2))
          all_goals
            go_wp2_with fail
            go_roundw
            case rel => exact ⟨i + 1, _, _, by go_num, rfl, by omega, hdp, HIC, HBC, H0⟩
            case measure => simp [intOf]; omega
    · have h0 := HT.out
      rw [List.drop_of_length_le (by omega), script_Text.l0] at h0
      have HACC := Lib.hid (Option.some.inj h0)
      have HW : Hid (w.heap.size ≤ wr.heap.size) := Lib.hid HB.out.size
      clear h0 HT
      go_wp2_with fail
      have HSS := Tryd.Builder_String_any_k w.heap.size w.heap.size acc.data.toList _ HI.out HW.out
      refine HSS.mono ?_
      clear HSS
      rintro e wE ⟨rfl, _, hE, _⟩
      have HE := Lib.hid hE
      clear hE
      go_wp2_with fail
      go_ret
      exact ⟨by rw [← HACC.out]; rfl, HB.out.trans HE.out⟩
end Go.Proofs.YtkcemdfhhdjdaaaDoor.Ext
