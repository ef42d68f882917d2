/- (*shape).take, walked: what is open lies in a block of its own, in a row that the shape owns. -/
import Derived.Test.YtkcemdfhhdjdaaaDoorWWords
import Derived.Test.YtkcemdfhhdjdaaaDoorProg
import Derived.WalkKit
import Derived.Lib.Hide
import Derived.Maps.AppendAt
import Derived.RangeFuncBox
import Derived.OneCell
import Derived.Laws.OwnMore
namespace Go.Proofs.YtkcemdfhhdjdaaaDoor.Ext
open Go Go.RowKit Go.Lib Go.Proofs.YtkcemdfhhdjdaaaDoorW.PrintWords
set_option linter.unusedVariables false
set_option linter.unusedSimpArgs false

theorem one_cell {w : World} {b t : Nat} {v : Value} (h : w.heap[b]? = some (.cells #[v] t (0, 0))) : w.cell? ⟨b, 0, none⟩ = some v := by
  simp [World.cell?, h]
theorem one_free {w : World} {b t : Nat} {v : Value} (h : w.heap[b]? = some (.cells #[v] t (0, 0))) : w.frozen? ⟨b, 0, none⟩ = false := by
  simp [World.frozen?, h]
theorem one_set {w : World} {b t : Nat} {v : Value} (h : w.heap[b]? = some (.cells #[v] t (0, 0))) (u : Value) : (w.setCell ⟨b, 0, none⟩ u).heap[b]? = some (.cells #[u] t (0, 0)) := by
  obtain ⟨hl, he⟩ := Array.getElem?_eq_some_iff.1 h
  simp [World.setCell, Array.getElem?_modify, h]
theorem info_int : (Tryd.prog.info? 3).map (fun i => (i.zero, i.size, i.bytes)) = some (some (.int .i64 0), 1, 8) := by kernel_rfl

/-- What a kind of line leaves open; none: it doesn't fit. -/
def takeP (st : List Int) (kind : Int) : Option (List Int) :=
  if kind = 7 ∨ kind = 8 then (if st.length = 8 then none else some (st ++ [kind]))
  else if kind = 9 then (if st = [] ∨ st.getLast? ≠ some 7 then none else some (st.dropLast ++ [9]))
  else if kind = 10 then (if st = [] then none else some st.dropLast)
  else some st
abbrev ints (st : List Int) : List Value := st.map (Value.int .i64)
/-- The shape at block X, its row the slice v. -/
def Stk (B X : Nat) (st : List Int) (v : Value) (w : World) : Prop :=
  w.heap[X]? = some (.cells #[v] 53 (0, 0)) ∧ w.ownsRow B 3 1 v st.length (ints st) ∧ (∀ k, v.ownBlock = some k → k ≠ X) ∧ X < w.heap.size
/-- What stays. -/
def Kept (X : Nat) (v : Value) (w w' : World) : Prop :=
  w'.os = w.os ∧ w'.tape = w.tape ∧ w'.output = w.output ∧ w.heap.size ≤ w'.heap.size ∧ ∀ k, k < w.heap.size → k ≠ X → v.ownBlock ≠ some k → w'.heap[k]? = w.heap[k]?
def TakePost (B X : Nat) (st : List Int) (v : Value) (kind : Int) (w : World) (e : Ending) (w' : World) : Prop :=
  e = .returned (.bool (takeP st kind).isSome) ∧ ∃ v', Stk B X ((takeP st kind).getD st) v' w' ∧ (v'.ownBlock = v.ownBlock ∨ ∃ k, v'.ownBlock = some k ∧ w.heap.size ≤ k) ∧ Kept X v w w'

theorem Kept.refl (X : Nat) (v : Value) (w : World) : Kept X v w w := ⟨rfl, rfl, rfl, Nat.le_refl _, fun _ _ _ _ => rfl⟩
theorem own_slice {w : World} {B n : Nat} {v : Value} {xs : List Value} (h : w.ownsRow B 3 1 v n xs) : ∃ A c, v = .slice A n c ∧ n ≤ c := by
  rcases h.2 with ⟨rfl, h0⟩ | ⟨g, cap, cur, rfl, _, _, hc, _⟩
  · exact ⟨none, 0, by rw [h0], by omega⟩
  · exact ⟨_, cap, rfl, hc⟩
theorem take_same {B X : Nat} {st : List Int} {v : Value} {w : World} (h : Stk B X st v w) : ∃ v', Stk B X st v' w ∧ (v'.ownBlock = v.ownBlock ∨ ∃ k, v'.ownBlock = some k ∧ w.heap.size ≤ k) ∧ Kept X v w w :=
  ⟨v, h, .inl rfl, Kept.refl X v w⟩

theorem far_cell {w w' : World} {X : Nat} (h : w'.heap[X]? = w.heap[X]?) {v : Value} (h0 : w.heap[X]? = some (.cells #[v] 53 (0, 0))) : w'.cell? ⟨X, 0, none⟩ = some v ∧ w'.frozen? ⟨X, 0, none⟩ = false :=
  ⟨one_cell (h.trans h0), one_free (h.trans h0)⟩
theorem push_far {B X n c : Nat} {A : Option Addr} {w w1 : World} {o : Obj} (hX : X < w.heap.size) (hk : ∀ k, (Value.slice A n c).ownBlock = some k → k ≠ X) (hg : (w.alloc o).grownBy w1 (Value.slice A n c).ownBlock) : w1.heap[X]? = w.heap[X]? :=
  (hg.block X (by simp; omega) (fun e => hk X e.symm rfl)).trans (Below.heap_alloc w _ X hX)
theorem push_end {B X c g' c' : Nat} {A : Option Addr} {st : List Int} {w w1 : World} {kind : Int} {t : TypeId} (hB : B ≤ w.heap.size) (h : Stk B X st (.slice A st.length c) w)
    (hown : w1.ownsRow B 3 1 (.slice (some ⟨g', 0, none⟩) (st.length + 1) c') (st.length + 1) (ints st ++ [.int .i64 kind])) (hg : (w.alloc (.cells #[.int .i64 kind] t)).grownBy w1 (Value.slice A st.length c).ownBlock)
    (hat : (Value.slice (some ⟨g', 0, none⟩) (st.length + 1) c').ownBlock = (Value.slice A st.length c).ownBlock ∨ (Value.slice (some ⟨g', 0, none⟩) (st.length + 1) c').ownBlock = some (w.alloc (.cells #[.int .i64 kind] t)).heap.size) :
    ∃ v', Stk B X (st ++ [kind]) v' (w1.setCell ⟨X, 0, none⟩ (.slice (some ⟨g', 0, none⟩) (st.length + 1) c')) ∧ (v'.ownBlock = (Value.slice A st.length c).ownBlock ∨ ∃ k, v'.ownBlock = some k ∧ w.heap.size ≤ k) ∧
      Kept X (.slice A st.length c) w (w1.setCell ⟨X, 0, none⟩ (.slice (some ⟨g', 0, none⟩) (st.length + 1) c')) := by
  obtain ⟨h1, h2, h3, h4⟩ := h
  have far : ∀ k, k ≠ X → (w1.setCell ⟨X, 0, none⟩ (.slice (some ⟨g', 0, none⟩) (st.length + 1) c')).heap[k]? = w1.heap[k]? := fun k hk => Below.heap_setCell w1 ⟨X, 0, none⟩ _ k hk
  have hs := hg.size
  simp at hs
  have hat' : (Value.slice (some ⟨g', 0, none⟩) (st.length + 1) c').ownBlock = (Value.slice A st.length c).ownBlock ∨ ∃ k, (Value.slice (some ⟨g', 0, none⟩) (st.length + 1) c').ownBlock = some k ∧ w.heap.size ≤ k :=
    hat.imp id (fun e => ⟨_, e, by simp⟩)
  have hne : ∀ k, (Value.slice (some ⟨g', 0, none⟩) (st.length + 1) c').ownBlock = some k → k ≠ X := fun k hk => by
    rcases hat' with e | ⟨k', e, hle⟩
    · exact h3 k (e ▸ hk)
    · rw [hk] at e
      cases e
      omega
  refine ⟨_, ⟨one_set ((push_far (B := B) h4 h3 hg).trans h1) _, ?_, hne, by simp; omega⟩, hat', ⟨hg.os, hg.tape, hg.output, by simp; omega, fun k hk hx ho => (far k hx).trans ((hg.block k (by simp; omega) (fun e => ho e.symm)).trans (Below.heap_alloc w _ k hk))⟩⟩
  have h5 := own_move hown (fun k hk => far k (hne k hk))
  simpa [ints] using h5
theorem pop_end {B X c : Nat} {A : Option Addr} {st : List Int} {w : World} (h : Stk B X st (.slice A st.length c) w) (h0 : st ≠ []) :
    ∃ v', Stk B X st.dropLast v' (w.setCell ⟨X, 0, none⟩ (.slice A (st.length - 1) c)) ∧ (v'.ownBlock = (Value.slice A st.length c).ownBlock ∨ ∃ k, v'.ownBlock = some k ∧ w.heap.size ≤ k) ∧
      Kept X (.slice A st.length c) w (w.setCell ⟨X, 0, none⟩ (.slice A (st.length - 1) c)) := by
  obtain ⟨h1, h2, h3, h4⟩ := h
  have hl : 0 < st.length := List.length_pos_iff.2 h0
  have far : ∀ k, k ≠ X → (w.setCell ⟨X, 0, none⟩ (.slice A (st.length - 1) c)).heap[k]? = w.heap[k]? := fun k hk => Below.heap_setCell w ⟨X, 0, none⟩ _ k hk
  have hb : (Value.slice A (st.length - 1) c).ownBlock = (Value.slice A st.length c).ownBlock := by cases A <;> rfl
  have hpop : w.ownsRow B 3 1 (.slice A (st.length - 1) c) (st.length - 1) (ints st.dropLast) := by
    rcases h2 with ⟨g1, ⟨g2, g3⟩ | ⟨g, cap, cur, hv, hg, hh, hc, hm, hz, ht⟩⟩
    · omega
    · cases hv
      refine ⟨by simp, .inr ⟨g, c, cur, rfl, hg, hh, by omega, hm, hz, ?_⟩⟩
      rw [List.dropLast_eq_take]
      have h5 : (ints st).take (st.length - 1) = ints (st.take (st.length - 1)) := by simp [List.map_take]
      rw [← h5, ← ht, List.take_take]
      congr 1
      omega
  refine ⟨.slice A (st.length - 1) c, ⟨one_set h1 _, ?_, fun k hk => h3 k (hb ▸ hk), by simp; omega⟩, .inl hb, ⟨rfl, rfl, rfl, by simp, fun k _ hx _ => far k hx⟩⟩
  have h5 := own_move hpop (fun k hk => far k (h3 k (hb ▸ hk)))
  simpa using h5
theorem set_end {B X c g : Nat} {st : List Int} {w : World} (h : Stk B X st (.slice (some ⟨g, 0, none⟩) st.length c) w) (h0 : st ≠ []) (u : Int) :
    ∃ v', Stk B X (st.dropLast ++ [u]) v' (w.setCell ⟨g, st.length - 1, none⟩ (.int .i64 u)) ∧ (v'.ownBlock = (Value.slice (some ⟨g, 0, none⟩) st.length c).ownBlock ∨ ∃ k, v'.ownBlock = some k ∧ w.heap.size ≤ k) ∧
      Kept X (.slice (some ⟨g, 0, none⟩) st.length c) w (w.setCell ⟨g, st.length - 1, none⟩ (.int .i64 u)) := by
  obtain ⟨h1, h2, h3, h4⟩ := h
  have hl : 0 < st.length := List.length_pos_iff.2 h0
  have far : ∀ k, k ≠ g → (w.setCell ⟨g, st.length - 1, none⟩ (.int .i64 u)).heap[k]? = w.heap[k]? := fun k hk => Below.heap_setCell w ⟨g, st.length - 1, none⟩ _ k hk
  have hgX : g ≠ X := h3 g rfl
  have hset := (h2.stored (st.length - 1) (.int .i64 u)).1
  have hints : (ints st).set (st.length - 1) (.int .i64 u) = ints (st.dropLast ++ [u]) := by
    refine List.ext_getElem? fun j => ?_
    rw [List.getElem?_set]
    by_cases hj : st.length - 1 = j
    · subst hj
      rw [if_pos rfl, if_pos (by simp; omega)]
      simp [List.getElem?_append]
    · rw [if_neg hj]
      simp only [List.getElem?_map, List.getElem?_append, List.length_dropLast]
      by_cases hj2 : j < st.length - 1
      · rw [if_pos hj2, List.getElem?_dropLast, if_pos hj2]
      · rw [if_neg hj2, List.getElem?_eq_none (by omega), List.getElem?_eq_none (by simp; omega)]
  rw [hints] at hset
  have hlen : (st.dropLast ++ [u]).length = st.length := by simp; omega
  refine ⟨.slice (some ⟨g, 0, none⟩) st.length c, ⟨(far X hgX.symm).trans h1, ?_, h3, by simp; omega⟩, .inl rfl, ⟨rfl, rfl, rfl, by simp, fun k _ _ ho => far k (fun e => ho (by rw [e]; rfl))⟩⟩
  rw [hlen]
  exact hset

set_option maxRecDepth 100000 in
theorem take_calls (B X : Nat) (st : List Int) (v : Value) (kind : Int) (w : World) (hB : B ≤ w.heap.size) (hl : st.length ≤ 8) (h : Stk B X st v w) :
    Calls Tryd.prog 25 #[.pointer (some ⟨X, 0, none⟩), .int .i64 kind] w (TakePost B X st v kind w) := by
  obtain ⟨A, c, rfl, hc⟩ := own_slice h.2.1
  have k0 := one_cell h.1
  have z0 := one_free h.1
  have HS := Lib.hid h
  have hrow := h.2.1
  clear h
  obtain ⟨i0, hi9, hz09, hz19, hz29⟩ := info_parts info_int
  have same : ∀ b : Bool, Hid ((takeP st kind).isSome = b ∧ (takeP st kind).getD st = st) → TakePost B X st (.slice A st.length c) kind w (.returned (.bool b)) w := fun b H => by
    refine ⟨by rw [H.out.1], ?_⟩
    rw [H.out.2]
    exact take_same HS.out
  have HSAME := Lib.hid same
  clear same
  by_cases h78 : kind = 7 ∨ kind = 8
  · by_cases h8 : st.length = 8
    · have HT : Hid ((takeP st kind).isSome = false ∧ (takeP st kind).getD st = st) := Lib.hid (by unfold takeP; rw [if_pos h78, if_pos h8]; exact ⟨rfl, rfl⟩)
      have b8 : ((st.length : Int) == 8) = true := by rw [h8]; rfl
      rcases h78 with rfl | rfl
      · go_enter Tryd.func25, Tryd.ntmps25
        go_wp2_with fail
        go_ret
        exact HSAME.out _ HT
      · go_enter Tryd.func25, Tryd.ntmps25
        go_wp2_with fail
        go_ret
        exact HSAME.out _ HT
    · have HT : Hid (takeP st kind = some (st ++ [kind])) := Lib.hid (by unfold takeP; rw [if_pos h78, if_neg h8])
      have b8 : ((st.length : Int) == 8) = false := by
        rw [beq_eq_false_iff_ne]; omega
      have b8' : ¬ ((st.length : Int) = 8) := by omega
      rcases h78 with rfl | rfl
      · go_enter Tryd.func25, Tryd.ntmps25
        go_wp2_with (at_builtin; refine wpList_append_own_at _ rfl _ _ 51 rfl B 3 i0 (.int .i64 0) 1 8 Tryd.underlying51 hi9 hz09 hz19 hz29 rfl (by decide) _ _ _ rfl (World.ownsRow.alloc (w := w) hrow _) ⟨w.heap.size, 0, none⟩ 1 1 [.int .i64 7] rfl rfl (cell_one_new _ _ _) (by simp [Value.oneCell']) (by unfold maxLen; omega) (by omega) (by simp; omega) ?_; intro v' w1 hown' hgrow _ hat; obtain ⟨g', cap', rfl⟩ := ownsRow_succ hown'; have HA := Lib.hid (push_end hB HS.out hown' hgrow hat); obtain ⟨y0, yz⟩ := far_cell (push_far (B := B) HS.out.2.2.2 HS.out.2.2.1 hgrow) HS.out.1)
        go_ret
        exact ⟨by rw [HT.out]; rfl, by rw [HT.out]; exact HA.out⟩
      · go_enter Tryd.func25, Tryd.ntmps25
        go_wp2_with (at_builtin; refine wpList_append_own_at _ rfl _ _ 51 rfl B 3 i0 (.int .i64 0) 1 8 Tryd.underlying51 hi9 hz09 hz19 hz29 rfl (by decide) _ _ _ rfl (World.ownsRow.alloc (w := w) hrow _) ⟨w.heap.size, 0, none⟩ 1 1 [.int .i64 8] rfl rfl (cell_one_new _ _ _) (by simp [Value.oneCell']) (by unfold maxLen; omega) (by omega) (by simp; omega) ?_; intro v' w1 hown' hgrow _ hat; obtain ⟨g', cap', rfl⟩ := ownsRow_succ hown'; have HA := Lib.hid (push_end hB HS.out hown' hgrow hat); obtain ⟨y0, yz⟩ := far_cell (push_far (B := B) HS.out.2.2.2 HS.out.2.2.1 hgrow) HS.out.1)
        go_ret
        exact ⟨by rw [HT.out]; rfl, by rw [HT.out]; exact HA.out⟩
  · have n7 : ¬ kind = 7 := fun e => h78 (.inl e)
    have n8 : ¬ kind = 8 := fun e => h78 (.inr e)
    have b7 : (kind == 7) = false := beq_eq_false_iff_ne.2 n7
    have b8 : (kind == 8) = false := beq_eq_false_iff_ne.2 n8
    by_cases h9 : kind = 9
    · by_cases h0 : st = []
      · have HT : Hid ((takeP st kind).isSome = false ∧ (takeP st kind).getD st = st) := Lib.hid (by unfold takeP; rw [if_neg h78, if_pos h9, if_pos (.inl h0)]; exact ⟨rfl, rfl⟩)
        subst h9 h0
        go_enter Tryd.func25, Tryd.ntmps25
        go_wp2_with fail
        go_ret
        exact HSAME.out _ HT
      · have hpos : 0 < st.length := List.length_pos_iff.2 h0
        obtain ⟨a, ha⟩ : ∃ a, st[st.length - 1]? = some a := ⟨_, List.getElem?_eq_getElem (by omega)⟩
        have hlast : st.getLast? = some a := by rw [List.getLast?_eq_getElem?]; exact ha
        obtain ⟨g, cap, hg⟩ : ∃ g cap, A = some ⟨g, 0, none⟩ ∧ c = cap := by
          rcases hrow.2 with ⟨hx, hz⟩ | ⟨g, cap, cur, hx, _⟩
          · omega
          · cases hx; exact ⟨g, c, rfl, rfl⟩
        obtain ⟨rfl, rfl⟩ := hg
        have hcell := hrow.cellAt (st.length - 1) (by omega)
        have hcell2 : w.cell? ⟨g, st.length - 1, none⟩ = some (.int .i64 a) := by rw [hcell, List.getElem?_map, ha]; rfl
        have hfz := hrow.frozenAt (st.length - 1)
        have hw1 : wrap64 ((st.length : Int) - 1) = ((st.length - 1 : Nat) : Int) := by unfold wrap64; omega
        have b0 : ((st.length : Int) == 0) = false := beq_eq_false_iff_ne.2 (by omega)
        by_cases ha7 : a = 7
        · have HT : Hid (takeP st kind = some (st.dropLast ++ [9])) := Lib.hid (by
            unfold takeP
            rw [if_neg h78, if_pos h9, if_neg]
            rintro (e | e)
            · exact h0 e
            · exact e (by rw [hlast, ha7]))
          subst h9 ha7
          go_enter Tryd.func25, Tryd.ntmps25
          go_wp2_with fail
          go_ret
          exact ⟨by rw [HT.out]; rfl, by rw [HT.out]; exact set_end HS.out h0 9⟩
        · have HT : Hid ((takeP st kind).isSome = false ∧ (takeP st kind).getD st = st) := Lib.hid (by
            unfold takeP
            rw [if_neg h78, if_pos h9, if_pos (.inr (by rw [hlast]; intro e; exact ha7 (Option.some.inj e)))]
            exact ⟨rfl, rfl⟩)
          have ba : (a == 7) = false := beq_eq_false_iff_ne.2 ha7
          subst h9
          go_enter Tryd.func25, Tryd.ntmps25
          go_wp2_with fail
          go_ret
          exact HSAME.out _ HT
    · have b9 : (kind == 9) = false := beq_eq_false_iff_ne.2 h9
      by_cases h10 : kind = 10
      · by_cases h0 : st = []
        · have HT : Hid ((takeP st kind).isSome = false ∧ (takeP st kind).getD st = st) := Lib.hid (by unfold takeP; rw [if_neg h78, if_neg h9, if_pos h10, if_pos h0]; exact ⟨rfl, rfl⟩)
          subst h10 h0
          go_enter Tryd.func25, Tryd.ntmps25
          go_wp2_with fail
          go_ret
          exact HSAME.out _ HT
        · have HT : Hid (takeP st kind = some st.dropLast) := Lib.hid (by unfold takeP; rw [if_neg h78, if_neg h9, if_pos h10, if_neg h0])
          have hpos : 0 < st.length := List.length_pos_iff.2 h0
          have b0 : ((st.length : Int) == 0) = false := beq_eq_false_iff_ne.2 (by omega)
          have hw1 : wrap64 ((st.length : Int) - 1) = ((st.length - 1 : Nat) : Int) := by unfold wrap64; omega
          subst h10
          go_enter Tryd.func25, Tryd.ntmps25
          go_wp2_with fail
          go_ret
          exact ⟨by rw [HT.out]; rfl, by rw [HT.out]; exact pop_end HS.out h0⟩
      · have HT : Hid ((takeP st kind).isSome = true ∧ (takeP st kind).getD st = st) := Lib.hid (by unfold takeP; rw [if_neg h78, if_neg h9, if_neg h10]; exact ⟨rfl, rfl⟩)
        have b10 : (kind == 10) = false := beq_eq_false_iff_ne.2 h10
        go_enter Tryd.func25, Tryd.ntmps25
        go_wp2_with fail
        go_ret
        exact HSAME.out _ HT
end Go.Proofs.YtkcemdfhhdjdaaaDoor.Ext
