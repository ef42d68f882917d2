/- path.Join, in the form of the printed contracts. -/
import Derived.Test.YtnangnnflmdjbaaDoorWlk2
namespace Go.Proofs.YtnangnnflmdjbaaDoor.Ext
open Go Go.RowKit Go.Lib Go.Shelf Go.Proofs.YtnangnnflmdjbaaDoorW.PrintWords Go.Proofs.YtnangnnflmdjbaaDoor.B
set_option linter.unusedVariables false
set_option linter.unusedSimpArgs false

theorem walk_calls (B : Nat) (A : Option Addr) (c0 : Nat) (l0 : List ByteArray) (s : ByteArray) (w : World) (hB : B ≤ w.heap.size) (HR : w.ownsRow B 9 1 (.slice A l0.length c0) l0.length (encs Value.string l0))
    (hs : s.size ≤ 200) (hl : l0.length ≤ 300) : Calls Tryd.prog 29 #[.slice A l0.length c0, .string s] w (WalkPost B l0 s w) :=
  callsIn_wide.1 (walk_in B A c0 l0 s w hB HR hs hl)

def partsP (a : ByteArray) : List ByteArray := if a.data.toList = [] then [] else Lib.splitB ⟨#[47]⟩ 0 (Lib.countB a ⟨#[47]⟩) a
def longP (a0 a1 : ByteArray) : Nat := if a0.data.toList = [] then a1.size else a1.size + (a0.size + 1)
def path_Join.f (a0 a1 : ByteArray) : Option (ByteArray × Int) :=
  if a0.size ≤ 140737488351232 ∧ a1.size ≤ 140737488351232 then
    if 200 < longP a0 a1 then some (⟨#[]⟩, 50)
    else match walkP (partsP a0) a1 with
      | .error c => some (⟨#[]⟩, c)
      | .ok r => (strings_Join.f r ⟨#[47]⟩).bind fun t => some (t, 0)
  else none

theorem partI_cases (x : ByteArray) : partI x = 0 ∨ partI x = 50 := by
  unfold partI
  split
  · exact .inr rfl
  · split
    · exact .inl rfl
    · exact .inr rfl
theorem stepsP_err (stay : Nat) : ∀ (xs l : List ByteArray) (c : Int), stepsP stay l xs = .error c → c = 50 ∨ c = 51
  | [], l, c, h => by cases h
  | x :: xs, l, c, h => by
    simp only [stepsP] at h
    cases hx : stepP stay l x with
    | ok l1 => rw [hx] at h; exact stepsP_err stay xs l1 c h
    | error d =>
      rw [hx] at h
      cases h
      unfold stepP at hx
      split at hx
      · cases hx
      · split at hx
        · split at hx
          · cases hx; exact .inr rfl
          · cases hx
        · split at hx
          · cases hx
          · cases hx
            rcases partI_cases x with h | h
            · contradiction
            · exact .inl h
theorem walkP_err {l : List ByteArray} {s : ByteArray} {c : Int} (h : walkP l s = .error c) : c ≠ 0 := by
  unfold walkP at h
  split at h
  · cases h; decide
  · cases hx : stepsP l.length l (Pcs 47 s) with
    | error d =>
      rw [hx] at h
      cases h
      rcases stepsP_err _ _ _ _ hx with rfl | rfl <;> decide
    | ok r =>
      rw [hx] at h
      simp only at h
      split at h
      · cases h; decide
      · cases h

theorem parts_calls (a : ByteArray) (ha : a.size ≤ 200) (w : World) :
    Calls Tryd.prog 12 #[.string a] w fun e w' => ∃ v0_ : Value, e = .returned (v0_) ∧ Kd.R Kd.string 9 w' w.heap.size (fun _ => True) v0_ (partsP a) ∧ Below w.heap.size w w' := by
  refine path_Parts.calls a (partsP a) w ?_
  unfold path_Parts.f partsP
  rw [Lib.toList_data]
  by_cases h : a.data.toList = []
  · rw [if_pos h, if_pos h]
  · rw [if_neg h, if_neg h]
    unfold strings_Split.f
    rw [if_pos ⟨by omega, rfl⟩]
    rfl
theorem partsP_len (a : ByteArray) : (partsP a).length ≤ a.size + 2 := by
  unfold partsP
  split
  · simp
  · have h1 := Lib.splitB_length_le ⟨#[47]⟩ 0 (Lib.countB a ⟨#[47]⟩) a
    have h2 := Lib.countB_le ⟨#[47]⟩ (Nat.le_refl 1) a.size a (Nat.le_refl _)
    omega

set_option maxHeartbeats 1000000 in
theorem path_Join.calls (a0 a1 : ByteArray) (r1 : ByteArray) (r2 : Int) (w : World) (h : path_Join.f a0 a1 = some (r1, r2)) :
    Calls Tryd.prog 21 #[.string a0, .string a1] w fun e w' => e = .returned (.tuple #[.string r1, .int .i64 r2]) ∧ Below w.heap.size w w' := by
  unfold path_Join.f at h
  split at h
  case isFalse => cases h
  case isTrue hb =>
  obtain ⟨hb0, hb1⟩ := hb
  have hsz0 : a0.data.toList.length = a0.size := Array.length_toList
  by_cases hl : 200 < longP a0 a1
  · rw [if_pos hl] at h
    cases h
    by_cases h0 : a0.data.toList = []
    · have e0 : a0 = ⟨#[]⟩ := bytes_ext h0
      subst e0
      have hl' : (200 : Int) < (a1.size : Int) := by unfold longP at hl; rw [if_pos h0] at hl; omega
      clear hl h0 hsz0
      go_enter Tryd.func21, Tryd.ntmps21
      go_wp2
      go_ret2
      exact ⟨rfl, Below.refl _ _⟩
    · have hl' : (200 : Int) < (a1.size : Int) + ((a0.size : Int) + 1) := by unfold longP at hl; rw [if_neg h0] at hl; omega
      have x1 : a0.toList.isEmpty = false := by
        rw [Lib.toList_data]
        cases hd : a0.data.toList with
        | nil => exact absurd hd h0
        | cons _ _ => rfl
      have x2 : ¬ a0.toList = [] := by rw [Lib.toList_data]; exact h0
      have c1 : (a0.size : Int) ≤ 140737488351232 := by omega
      have c2 : (a1.size : Int) ≤ 140737488351232 := by omega
      clear hl h0 hsz0 hb0 hb1
      go_enter Tryd.func21, Tryd.ntmps21
      go_wp2
      go_ret2
      exact ⟨rfl, Below.refl _ _⟩
  · rw [if_neg hl] at h
    have hs0 : a0.size ≤ 200 := by
      unfold longP at hl
      split at hl
      · rename_i h; rw [h] at hsz0; simp at hsz0; omega
      · omega
    have hs1 : a1.size ≤ 200 := by unfold longP at hl; split at hl <;> omega
    have hpl := partsP_len a0
    have hbranch : (a0 = ⟨#[]⟩ ∧ ¬ ((200 : Int) < (a1.size : Int))) ∨ (a0.toList.isEmpty = false ∧ ¬ a0.toList = [] ∧ ¬ ((200 : Int) < (a1.size : Int) + ((a0.size : Int) + 1))) := by
      unfold longP at hl
      by_cases h0 : a0.data.toList = []
      · rw [if_pos h0] at hl
        exact .inl ⟨bytes_ext h0, by omega⟩
      · rw [if_neg h0] at hl
        refine .inr ⟨?_, by rw [Lib.toList_data]; exact h0, by omega⟩
        rw [Lib.toList_data]
        cases hd : a0.data.toList with
        | nil => exact absurd hd h0
        | cons _ _ => rfl
    -- what stands behind the test, on both ways
    have c1 : (a0.size : Int) ≤ 200 := by omega
    have c2 : (a1.size : Int) ≤ 200 := by omega
    have HH := Lib.hid h
    clear h hl hb0 hb1 hsz0
    rcases hbranch with ⟨rfl, hn⟩ | ⟨x1, x2, hn⟩
    all_goals
      go_enter Tryd.func21, Tryd.ntmps21
      go_wp2_with fail
      refine (parts_calls _ hs0 w).mono ?_
      rintro e w1 ⟨v0, rfl, hR, hbel⟩
      have ho := Kd.own_of_R hR
      obtain ⟨A1, c', rfl⟩ := Kd.R_slice hR
      go_wp2_with fail
      refine (walk_calls w.heap.size A1 c' _ a1 w1 hbel.size ho hs1 (by omega)).mono ?_
      rintro e w2 ⟨hb2, (⟨c, hw, rfl⟩ | ⟨r, v, hw, rfl, ho2⟩)⟩
      · have hh := HH.out
        rw [hw] at hh
        cases hh
        have hc := walkP_err hw
        have b1 : (r2 == 0) = false := beq_eq_false_iff_ne.2 hc
        have b2 : (r2 != 0) = true := bne_iff_ne.2 hc
        clear hw hc HH hR ho hpl
        go_wp2_with fail
        go_ret2
        exact ⟨rfl, hbel.trans hb2⟩
      · have hh := HH.out
        rw [hw] at hh
        change ((strings_Join.f r ⟨#[47]⟩).bind fun t => some (t, (0 : Int))) = some (r1, r2) at hh
        cases hj : strings_Join.f r ⟨#[47]⟩ with
        | none => rw [hj] at hh; cases hh
        | some t =>
          rw [hj] at hh
          cases hh
          have hR2 : Kd.R Kd.string 9 w2 w.heap.size (fun _ => True) v r := Kd.R_of_own (enc := Value.string) (h1 := fun _ => rfl) ho2 (fun _ _ => trivial)
          obtain ⟨A2, c2', rfl, hle, hC⟩ := Kd.R_reads hR2
          have HJ := Lib.hid hj
          have HC := Lib.hid hC
          clear hw HH hR ho hpl hR2 ho2 hj hC
          go_wp2_with fail
          refine (strings_Join.calls A2 c2' r ⟨#[47]⟩ r1 w2 HC.out hle HJ.out).mono ?_
          rintro e w3 ⟨rfl, hb3⟩
          go_wp2_with fail
          go_ret2
          exact ⟨rfl, (hbel.trans hb2).trans (hb3.mono (by have := hbel.size; have := hb2.size; omega))⟩
end Go.Proofs.YtnangnnflmdjbaaDoor.Ext
