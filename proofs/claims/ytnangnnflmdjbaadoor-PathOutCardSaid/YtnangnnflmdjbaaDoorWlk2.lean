/- path.walk, walked. -/
import Derived.Test.YtnangnnflmdjbaaDoorWlk
import Derived.Maps.OwnIn
namespace Go.Proofs.YtnangnnflmdjbaaDoor.Ext
open Go Go.RowKit Go.Lib Go.Shelf Go.Proofs.YtnangnnflmdjbaaDoor.Rng Go.Proofs.YtnangnnflmdjbaaDoorW.PrintWords Go.Proofs.YtnangnnflmdjbaaDoor.B
attribute [local go_sem] Oper.semAt_some
set_option linter.unusedVariables false
set_option linter.unusedSimpArgs false

theorem splitSeq_calls (s sep : ByteArray) (w : World) :
    Calls Tryd.prog 43 #[.string s, .string sep, .int .i64 0] w fun e w' =>
      e = .returned (.func (.func 51) #[] #[.pointer (some ⟨w.heap.size + 1, 0, none⟩), .pointer (some ⟨w.heap.size, 0, none⟩), .pointer (some ⟨w.heap.size + 1 + 1, 0, none⟩)]) ∧
      w' = ((w.alloc (.cells #[.string s] 9)).alloc (.cells #[.string sep] 9)).alloc (.cells #[.int .i64 0] 3) := by
  go_enter Tryd.func43, Tryd.ntmps43
  go_wp2
  go_ret
  exact ⟨rfl, rfl⟩
theorem SplitSeq_calls (s sep : ByteArray) (w : World) :
    Calls Tryd.prog 35 #[.string s, .string sep] w fun e w' =>
      e = .returned (.func (.func 51) #[] #[.pointer (some ⟨w.heap.size + 1, 0, none⟩), .pointer (some ⟨w.heap.size, 0, none⟩), .pointer (some ⟨w.heap.size + 1 + 1, 0, none⟩)]) ∧
      w' = ((w.alloc (.cells #[.string s] 9)).alloc (.cells #[.string sep] 9)).alloc (.cells #[.int .i64 0] 3) := by
  go_enter Tryd.func35, Tryd.ntmps35
  go_wp2_with (go_at_call 43; refine (splitSeq_calls s sep w).mono ?_; rintro e w' ⟨rfl, rfl⟩)
  go_ret
  exact ⟨rfl, rfl⟩

/-- What the call leaves. -/
def WalkPost (B : Nat) (l0 : List ByteArray) (s : ByteArray) (w : World) (e : Ending) (w' : World) : Prop :=
  Below B w w' ∧ ((∃ c, walkP l0 s = .error c ∧ e = .returned (.tuple #[.slice none 0 0, .int .i64 c])) ∨
    (∃ r v, walkP l0 s = .ok r ∧ e = .returned (.tuple #[v, .int .i64 0]) ∧ w'.ownsRow B 9 1 v r.length (encs Value.string r)))

theorem prefix47 (l : List UInt8) : Lib.hasPrefix l [47] = decide (l.head? = some 47) := by
  cases l with
  | nil => rfl
  | cons x r =>
    unfold Lib.hasPrefix
    by_cases h : x = 47
    · subst h; simp
    · have h' : ¬ 47 = x := fun e => h e.symm
      simp [h, h', List.isPrefixOf]

theorem info_str : (Tryd.prog.info? 9).map (fun i => (i.zero, i.size, i.bytes)) = some (some (.string ⟨#[]⟩), 1, 16) := by kernel_rfl

theorem results_walk (tmps : Array Value) (w : World) (b4 b5 : Nat) (v1 v2 : Value) (h4 : tmps[4]? = some (.pointer (some ⟨b4, 0, none⟩))) (h5 : tmps[5]? = some (.pointer (some ⟨b5, 0, none⟩)))
    (c4 : w.cell? ⟨b4, 0, none⟩ = some v1) (c5 : w.cell? ⟨b5, 0, none⟩ = some v2) : (results Tryd.f29 tmps).run Tryd.prog w = .ok (.tuple #[v1, v2]) w := by
  simp [results, Tryd.f29, go_sem, h4, h5, c4, c5]

theorem heap_two (w : World) (o1 o2 : Obj) : ((w.alloc o1).alloc o2).heap[w.heap.size]? = some o1 := (Below.heap_alloc _ _ _ (by simp)).trans (heap_new' _ _)
theorem own_out {lo hi : Nat} {A B : World} {base : Nat} {e : TypeId} {n : Nat} {v : Value} {xs : List Value} (h : A.ownsRow base e 1 v n xs) (hk : ∀ k, v.ownBlock = some k → k < lo ∨ hi ≤ k) (ho : Out lo hi A B) : B.ownsRow base e 1 v n xs :=
  own_move h (fun k e => ho.2.2.2.2 k (own_lt h k e) (hk k e))

/-- Between two rounds. N: where the call's own blocks begin. -/
def WI (B N : Nat) (l0 : List ByteArray) (w : World) (pre : List ByteArray) (W : World) : Prop :=
  ∃ (A : Option Addr) (c : Nat) (l : List ByteArray), stepsP l0.length l0 pre = .ok l ∧ W.heap[N]? = some (.cells #[.slice A l.length c] 29 (0, 0)) ∧
    W.ownsRow B 9 1 (.slice A l.length c) l.length (encs Value.string l) ∧ (∀ k, (Value.slice A l.length c).ownBlock = some k → k < N ∨ N + 9 ≤ k) ∧
    W.heap[N + 1]? = some (.cells #[.slice none 0 0] 29 (0, 0)) ∧ W.heap[N + 2]? = some (.cells #[.int .i64 0] 23 (0, 0)) ∧ W.heap[N + 3]? = some (.cells #[.int .i64 l0.length] 3 (0, 0)) ∧ Below B w W
def WX (B N : Nat) (l0 : List ByteArray) (w : World) (c : Code) (pre : List ByteArray) (W : World) : Prop :=
  c = .ret ∧ ∃ e, stepsP l0.length l0 pre = .error e ∧ W.heap[N + 1]? = some (.cells #[.slice none 0 0] 29 (0, 0)) ∧ W.heap[N + 2]? = some (.cells #[.int .i64 e] 23 (0, 0)) ∧ Below B w W
theorem out_block {lo hi : Nat} {A B : World} {k : Nat} {o : Obj} (h : A.heap[k]? = some o) (hk : k < lo ∨ hi ≤ k) (ho : Out lo hi A B) : B.heap[k]? = some o :=
  (ho.2.2.2.2 k (Array.getElem?_eq_some_iff.1 h).1 hk).trans h
theorem out_below {lo hi B : Nat} {w A W : World} (h : Below B w A) (hB : B ≤ w.heap.size) (hlo : B ≤ lo) (ho : Out lo hi A W) : Below B w W :=
  h.trans ⟨ho.1, ho.2.1, ho.2.2.1, ho.2.2.2.1, fun k hk => ho.2.2.2.2 k (by have := h.size; omega) (.inl (by omega))⟩
theorem WI_out {B N : Nat} {l0 : List ByteArray} {w : World} (hB : B ≤ w.heap.size) (hN : B ≤ N) (pre : List ByteArray) (X Y : World) (h : WI B N l0 w pre X) (ho : Out (N + 4) (N + 9) X Y) : WI B N l0 w pre Y := by
  obtain ⟨A, c, l, h1, h2, h3, h4, h5, h6, h7, h8⟩ := h
  exact ⟨A, c, l, h1, out_block h2 (.inl (by omega)) ho, own_out h3 (fun k e => (h4 k e).imp (fun h => by omega) id) ho, h4, out_block h5 (.inl (by omega)) ho, out_block h6 (.inl (by omega)) ho, out_block h7 (.inl (by omega)) ho, out_below h8 hB (by omega) ho⟩
theorem WX_out {B N : Nat} {l0 : List ByteArray} {w : World} (hB : B ≤ w.heap.size) (hN : B ≤ N) (c : Code) (pre : List ByteArray) (X Y : World) (h : WX B N l0 w c pre X) (ho : Out (N + 4) (N + 9) X Y) : WX B N l0 w c pre Y := by
  obtain ⟨h0, e, h1, h5, h6, h8⟩ := h
  exact ⟨h0, e, h1, out_block h5 (.inl (by omega)) ho, out_block h6 (.inl (by omega)) ho, out_below h8 hB (by omega) ho⟩

theorem stepsP_ge (stay : Nat) : ∀ (xs l l' : List ByteArray), stay ≤ l.length → stepsP stay l xs = .ok l' → stay ≤ l'.length
  | [], l, l', h0, h => by cases h; exact h0
  | x :: xs, l, l', h0, h => by
    simp only [stepsP] at h
    cases hx : stepP stay l x with
    | error c => rw [hx] at h; cases h
    | ok l1 =>
      rw [hx] at h
      refine stepsP_ge stay xs l1 l' ?_ h
      unfold stepP at hx
      split at hx
      · cases hx; exact h0
      · split at hx
        · split at hx
          · cases hx
          · cases hx; simp; omega
        · split at hx
          · cases hx; simp; omega
          · cases hx
theorem own_cap {w : World} {base : Nat} {e : TypeId} {A : Option Addr} {n c : Nat} {xs : List Value} (h : w.ownsRow base e 1 (.slice A n c) n xs) : n ≤ c := by
  rcases h.2 with ⟨h, h0⟩ | ⟨g, cap, cur, hv, _, _, hc, _⟩
  · omega
  · cases hv; exact hc

/-- What the round knows besides the steps. -/
def Kn (B N : Nat) (l0 : List ByteArray) (w : World) (A : Option Addr) (c : Nat) (l : List ByteArray) (W : World) (z : Prop) : Prop :=
  W.heap[N]? = some (.cells #[.slice A l.length c] 29 (0, 0)) ∧ W.heap[N + 1]? = some (.cells #[.slice none 0 0] 29 (0, 0)) ∧ W.heap[N + 2]? = some (.cells #[.int .i64 0] 23 (0, 0)) ∧
    W.heap[N + 3]? = some (.cells #[.int .i64 l0.length] 3 (0, 0)) ∧ W.ownsRow B 9 1 (.slice A l.length c) l.length (encs Value.string l) ∧
    (∀ k, (Value.slice A l.length c).ownBlock = some k → k < N ∨ N + 9 ≤ k) ∧ Below B w W ∧ z
theorem round_same {B N : Nat} {l0 : List ByteArray} {w W : World} {pre : List ByteArray} {x : ByteArray} {A : Option Addr} {c : Nat} {l : List ByteArray} {z : Prop} (h : stepsP l0.length l0 pre = .ok l)
    (hs : stepsP l0.length l0 (pre ++ [x]) = .ok l) (hk : Kn B N l0 w A c l W z) : WI B N l0 w (pre ++ [x]) W := by
  obtain ⟨e0, e1, e2, e3, how, hkk, hbw, _⟩ := hk
  exact ⟨A, c, l, hs, e0, how, hkk, e1, e2, e3, hbw⟩
theorem round_ret {B : Nat} {l0 : List ByteArray} {w W0 W W4 W7 : World} {ys : List ByteArray} {A : Option Addr} {c : Nat} {l : List ByteArray} {z : Prop} {a : Act} {e : Int} (hB : B ≤ w.heap.size) (h4 : W4.heap.size = w.heap.size + 4) (h7 : W7.heap.size = w.heap.size + 7)
    (hin : Inn W4.heap.size (W7.heap.size + 2) W0 W) (hk : Kn B w.heap.size l0 w A c l W z) (hs : stepsP l0.length l0 ys = .error e) :
    roundEnd W4.heap.size (W7.heap.size + 2) (WI B w.heap.size l0 w) (WX B w.heap.size l0 w) ys W0 Exit.ret a ((W.setCell ⟨w.heap.size + 1, 0, none⟩ (.slice none 0 0)).setCell ⟨w.heap.size + 1 + 1, 0, none⟩ (.int .i64 e)) := by
  obtain ⟨e0, e1, e2, e3, how, hkk, hbw, _⟩ := hk
  have g1 := one_set e1 (.slice none 0 0)
  have g2 := (Below.heap_setCell W ⟨w.heap.size + 1, 0, none⟩ (.slice none 0 0) (w.heap.size + 1 + 1) (by show w.heap.size + 1 + 1 ≠ w.heap.size + 1; omega)).trans e2
  have g3 := one_set g2 (.int .i64 e)
  have g4 := (Below.heap_setCell (W.setCell ⟨w.heap.size + 1, 0, none⟩ (.slice none 0 0)) ⟨w.heap.size + 1 + 1, 0, none⟩ (.int .i64 e) (w.heap.size + 1) (by show w.heap.size + 1 ≠ w.heap.size + 1 + 1; omega)).trans g1
  exact ⟨hin.trans ((Inn.set W (.inl (by omega)) 0 _).trans (Inn.set _ (.inl (by omega)) 0 _)), rfl, e, hs, g4, g3, (hbw.setCell (p := ⟨w.heap.size + 1, 0, none⟩) (by show B ≤ w.heap.size + 1; omega) _).setCell (p := ⟨w.heap.size + 1 + 1, 0, none⟩) (by show B ≤ w.heap.size + 1 + 1; omega) _⟩

theorem bytes_ext {x : ByteArray} {l : Array UInt8} (h : x.data.toList = l.toList) : x = ⟨l⟩ := by
  cases x with
  | mk d => congr 1; exact Array.toList_inj.1 h
theorem own_pop {w : World} {base : Nat} {e : TypeId} {A : Option Addr} {c : Nat} {l : List ByteArray} (h0 : 1 ≤ l.length) (h : w.ownsRow base e 1 (.slice A l.length c) l.length (encs Value.string l)) :
    w.ownsRow base e 1 (.slice A (l.length - 1) c) (l.length - 1) (encs Value.string l.dropLast) := by
  rcases h with ⟨h1, ⟨h2, h3⟩ | ⟨g, cap, cur, hv, hg, hh, hc, hm, hz, ht⟩⟩
  · omega
  · cases hv
    refine ⟨by simp [encs], .inr ⟨g, c, cur, rfl, hg, hh, by omega, hm, hz, ?_⟩⟩
    rw [List.dropLast_eq_take]
    have h5 : (encs Value.string l).take (l.length - 1) = encs Value.string (l.take (l.length - 1)) := by simp [encs, List.map_take]
    rw [← h5, ← ht, List.take_take]
    congr 1
    omega
theorem pcs_le (sep : ByteArray) : ∀ (k : Nat) (s y : ByteArray), y ∈ Lib.splitB sep 0 k s → y.size ≤ s.size
  | 0, s, y, h => by simp [Lib.splitB] at h; rw [h]; exact Nat.le_refl _
  | k + 1, s, y, h => by
    unfold Lib.splitB at h
    split at h
    · simp at h; rw [h]; exact Nat.le_refl _
    · rcases List.mem_cons.1 h with rfl | h
      · rw [ByteArray.size_extract]; omega
      · have := pcs_le sep k _ y h
        rw [ByteArray.size_extract] at this
        omega
theorem Kn.drewN {B N : Nat} {l0 : List ByteArray} {w W : World} {A : Option Addr} {c : Nat} {l : List ByteArray} {z : Prop} (h : Kn B N l0 w A c l W z) (m : Nat) : Kn B N l0 w A c l (W.drewN m) z := by
  obtain ⟨e0, e1, e2, e3, how, hkk, hbw, hz⟩ := h
  exact ⟨e0, e1, e2, e3, how, hkk, hbw.trans ⟨rfl, rfl, rfl, Nat.le_refl _, fun _ _ => rfl⟩, hz⟩
theorem Inn.drewN (lo hi : Nat) (W : World) (m : Nat) : Inn lo hi W (W.drewN m) := ⟨Nat.le_refl _, fun _ _ _ => rfl⟩
/-- What an append leaves. -/
theorem Kn.append {B : Nat} {l0 : List ByteArray} {w W W1 : World} {A : Option Addr} {c g' c' lo : Nat} {l : List ByteArray} {z : Prop} {x : ByteArray} (hB : B ≤ w.heap.size) (h : Kn B w.heap.size l0 w A c l W z) (hlo : w.heap.size ≤ lo) (hsz : w.heap.size + 9 ≤ W.heap.size)
    (hown : W1.ownsRow B 9 1 (.slice (some ⟨g', 0, none⟩) (l.length + 1) c') (l.length + 1) (encs Value.string l ++ [Value.string x])) (hg : (W.alloc (.cells #[.string x] 9)).grownBy W1 (Value.slice A l.length c).ownBlock)
    (hat : (Value.slice (some ⟨g', 0, none⟩) (l.length + 1) c').ownBlock = (Value.slice A l.length c).ownBlock ∨ (Value.slice (some ⟨g', 0, none⟩) (l.length + 1) c').ownBlock = some (W.alloc (.cells #[.string x] 9)).heap.size) :
    (W1.heap[w.heap.size]? = some (.cells #[.slice A l.length c] 29 (0, 0)) ∧ W1.heap[w.heap.size + 1]? = some (.cells #[.slice none 0 0] 29 (0, 0)) ∧ W1.heap[w.heap.size + 2]? = some (.cells #[.int .i64 0] 23 (0, 0)) ∧
      W1.heap[w.heap.size + 3]? = some (.cells #[.int .i64 l0.length] 3 (0, 0)) ∧ W1.ownsRow B 9 1 (.slice (some ⟨g', 0, none⟩) (l ++ [x]).length c') (l ++ [x]).length (encs Value.string (l ++ [x])) ∧
      (∀ k, (Value.slice (some ⟨g', 0, none⟩) (l ++ [x]).length c').ownBlock = some k → k < w.heap.size ∨ w.heap.size + 9 ≤ k) ∧ Below B w W1) ∧ Inn lo (w.heap.size + 9) W W1 := by
  obtain ⟨e0, e1, e2, e3, how, hkk, hbw, hz⟩ := h
  have far : ∀ k, w.heap.size ≤ k → k < w.heap.size + 9 → W1.heap[k]? = W.heap[k]? := fun k h1 h2 =>
    (hg.block k (by simp; omega) (fun e => by have := hkk k e.symm; omega)).trans (Below.heap_alloc W _ k (by omega))
  refine ⟨⟨(far _ (by omega) (by omega)).trans e0, (far _ (by omega) (by omega)).trans e1, (far _ (by omega) (by omega)).trans e2, (far _ (by omega) (by omega)).trans e3, ?_, ?_, ?_⟩, ?_, fun k h1 h2 => far k (by omega) h2⟩
  · simpa [encs] using hown
  · intro k hk
    have hk' : (Value.slice (some ⟨g', 0, none⟩) (l.length + 1) c').ownBlock = some k := hk
    rcases hat with hat | hat
    · exact hkk k (by rw [← hat]; exact hk')
    · rw [hat] at hk'
      cases hk'
      right
      simp
      omega
  · exact (hbw.alloc (by omega) _).grown hg (by simp; omega) (fun k e => own_base how k e)
  · have := hg.size; simp at this; omega

theorem round_put {B : Nat} {l0 : List ByteArray} {w W W1 W4 W7 : World} {ys : List ByteArray} {A : Option Addr} {c : Nat} {l : List ByteArray} {a : Act} {v0 : Value} (hB : B ≤ w.heap.size) (h4 : W4.heap.size = w.heap.size + 4) (h7 : W7.heap.size = w.heap.size + 7)
    (hin : Inn W4.heap.size (W7.heap.size + 2) W W1)
    (hk : W1.heap[w.heap.size]? = some (.cells #[v0] 29 (0, 0)) ∧ W1.heap[w.heap.size + 1]? = some (.cells #[.slice none 0 0] 29 (0, 0)) ∧ W1.heap[w.heap.size + 2]? = some (.cells #[.int .i64 0] 23 (0, 0)) ∧
      W1.heap[w.heap.size + 3]? = some (.cells #[.int .i64 l0.length] 3 (0, 0)) ∧ W1.ownsRow B 9 1 (.slice A l.length c) l.length (encs Value.string l) ∧
      (∀ k, (Value.slice A l.length c).ownBlock = some k → k < w.heap.size ∨ w.heap.size + 9 ≤ k) ∧ Below B w W1) (hs : stepsP l0.length l0 ys = .ok l) :
    roundEnd W4.heap.size (W7.heap.size + 2) (WI B w.heap.size l0 w) (WX B w.heap.size l0 w) ys W Exit.normal a (W1.setCell ⟨w.heap.size, 0, none⟩ (.slice A l.length c)) := by
  obtain ⟨e0, e1, e2, e3, how, hkk, hbw⟩ := hk
  have far : ∀ k, k ≠ w.heap.size → (W1.setCell ⟨w.heap.size, 0, none⟩ (.slice A l.length c)).heap[k]? = W1.heap[k]? := fun k hk => Below.heap_setCell W1 ⟨w.heap.size, 0, none⟩ _ k hk
  refine ⟨hin.trans (Inn.set _ (.inl (by omega)) 0 _), A, c, l, hs, one_set e0 _, own_move how (fun k hk => far k (by have := hkk k hk; omega)), hkk, (far _ (by omega)).trans e1, (far _ (by omega)).trans e2, (far _ (by omega)).trans e3, hbw.setCell (p := ⟨w.heap.size, 0, none⟩) hB _⟩

/-- The two results stored, the marks taken: the function's end. -/
theorem walk_end {B D : Nat} {w W : World} {l0 : List ByteArray} {s : ByteArray} {tmps : Array Value} {v1 v2 : Value} {x1 x2 : Value} (hB : B ≤ w.heap.size)
    (e1 : W.heap[w.heap.size + 1]? = some (.cells #[x1] 29 (0, 0))) (e2 : W.heap[w.heap.size + 2]? = some (.cells #[x2] 23 (0, 0))) (hbw : Below B w W)
    (hK : W.heap[D]? = some (.deferred (some []))) (hD : w.heap.size + 2 < D)
    (h4 : tmps[4]? = some (.pointer (some ⟨w.heap.size + 1, 0, none⟩))) (h5 : tmps[5]? = some (.pointer (some ⟨w.heap.size + 1 + 1, 0, none⟩)))
    (hpost : ∀ {W1 : World}, Below B w W1 → (∀ k, k < w.heap.size ∨ (w.heap.size + 2 < k ∧ k ≠ D) → W1.heap[k]? = W.heap[k]?) → WalkPost B l0 s w (.returned (.tuple #[v1, v2])) W1) :
    bodyPostM Fence.wide 3 Tryd.prog Tryd.f29 (WalkPost B l0 s w) Exit.ret { tmps := tmps, defers := [{ target := .collected D, args := #[] }] }
      ((W.setCell ⟨w.heap.size + 1, 0, none⟩ v1).setCell ⟨w.heap.size + 1 + 1, 0, none⟩ v2) := by
  have far1 : ∀ k, k ≠ w.heap.size + 1 → (W.setCell ⟨w.heap.size + 1, 0, none⟩ v1).heap[k]? = W.heap[k]? := fun k hk => Below.heap_setCell W ⟨w.heap.size + 1, 0, none⟩ v1 k hk
  have far2 : ∀ k, k ≠ w.heap.size + 1 + 1 → ((W.setCell ⟨w.heap.size + 1, 0, none⟩ v1).setCell ⟨w.heap.size + 1 + 1, 0, none⟩ v2).heap[k]? = (W.setCell ⟨w.heap.size + 1, 0, none⟩ v1).heap[k]? := fun k hk => Below.heap_setCell _ ⟨w.heap.size + 1 + 1, 0, none⟩ v2 k hk
  have g1 := (far2 (w.heap.size + 1) (by omega)).trans (one_set e1 v1)
  have g2 := one_set ((far1 (w.heap.size + 1 + 1) (by omega)).trans e2) v2
  have hK' := (far2 D (by omega)).trans ((far1 D (by omega)).trans hK)
  refine ⟨by simp, .inl ⟨_, _, rfl, run_takeDeferred hK', ?_⟩⟩
  have far3 : ∀ k, k ≠ D → (((W.setCell ⟨w.heap.size + 1, 0, none⟩ v1).setCell ⟨w.heap.size + 1 + 1, 0, none⟩ v2).putObj D (.deferred none)).heap[k]? = ((W.setCell ⟨w.heap.size + 1, 0, none⟩ v1).setCell ⟨w.heap.size + 1 + 1, 0, none⟩ v2).heap[k]? := fun k hk => World.putObj_heap_other hk
  refine ⟨_, results_walk _ _ (w.heap.size + 1) (w.heap.size + 1 + 1) _ _ h4 h5 (one_cell ((far3 _ (by omega)).trans g1)) (one_cell ((far3 _ (by omega)).trans g2)), hpost ?_ ?_⟩
  · exact ((hbw.setCell (p := ⟨w.heap.size + 1, 0, none⟩) (by show B ≤ w.heap.size + 1; omega) _).setCell (p := ⟨w.heap.size + 1 + 1, 0, none⟩) (by show B ≤ w.heap.size + 1 + 1; omega) _).trans ⟨rfl, rfl, rfl, by simp, fun k hk => far3 k (by omega)⟩
  · exact fun k hk => (far3 k (by omega)).trans ((far2 k (by omega)).trans (far1 k (by omega)))

set_option maxRecDepth 100000 in
set_option maxHeartbeats 2000000 in
theorem walk_in (B : Nat) (A : Option Addr) (c0 : Nat) (l0 : List ByteArray) (s : ByteArray) (w : World) (hB : B ≤ w.heap.size) (HR : w.ownsRow B 9 1 (.slice A l0.length c0) l0.length (encs Value.string l0))
    (hs : s.size ≤ 200) (hl : l0.length ≤ 300) :
    CallsIn Fence.wide 3 Tryd.prog 29 #[.slice A l0.length c0, .string s] w (WalkPost B l0 s w) := by
  obtain ⟨W4, hW4⟩ : ∃ W4, (((w.alloc (.cells #[.slice A l0.length c0] 29)).alloc (.cells #[.slice none 0 0] 29)).alloc (.cells #[.int .i64 0] 23)).alloc (.cells #[.int .i64 l0.length] 3) = W4 := ⟨_, rfl⟩
  have hz4 : W4.heap.size = w.heap.size + 4 := by rw [← hW4]; simp
  have f0 : W4.heap[w.heap.size]? = some (.cells #[.slice A l0.length c0] 29 (0, 0)) := by
    rw [← hW4]; exact (Below.heap_alloc _ _ _ (by simp <;> omega)).trans ((Below.heap_alloc _ _ _ (by simp <;> omega)).trans (heap_two _ _ _))
  have f1 : W4.heap[w.heap.size + 1]? = some (.cells #[.slice none 0 0] 29 (0, 0)) := by
    rw [← hW4]
    have := heap_two (w.alloc (.cells #[.slice A l0.length c0] 29)) (.cells #[.slice none 0 0] 29) (.cells #[.int .i64 0] 23)
    rw [World.size_alloc] at this
    exact (Below.heap_alloc _ _ _ (by simp <;> omega)).trans this
  have f2 : W4.heap[w.heap.size + 2]? = some (.cells #[.int .i64 0] 23 (0, 0)) := by
    rw [← hW4]
    have := heap_two ((w.alloc (.cells #[.slice A l0.length c0] 29)).alloc (.cells #[.slice none 0 0] 29)) (.cells #[.int .i64 0] 23) (.cells #[.int .i64 l0.length] 3)
    rw [World.size_alloc, World.size_alloc] at this
    exact this
  have f3 : W4.heap[w.heap.size + 3]? = some (.cells #[.int .i64 l0.length] 3 (0, 0)) := by
    rw [← hW4]
    have := heap_new' (((w.alloc (.cells #[.slice A l0.length c0] 29)).alloc (.cells #[.slice none 0 0] 29)).alloc (.cells #[.int .i64 0] 23)) (.cells #[.int .i64 l0.length] 3)
    rw [World.size_alloc, World.size_alloc, World.size_alloc] at this
    exact this
  have hO4 : Out (w.heap.size + 4) (w.heap.size + 9) w W4 := by
    rw [← hW4]; exact (Out.alloc _ _ _ _).trans ((Out.alloc _ _ _ _).trans ((Out.alloc _ _ _ _).trans (Out.alloc _ _ _ _)))
  have hk0 : ∀ k, (Value.slice A l0.length c0).ownBlock = some k → k < w.heap.size ∨ w.heap.size + 9 ≤ k := fun k e => .inl (own_lt HR k e)
  have hI4 : WI B w.heap.size l0 w [] W4 :=
    ⟨A, c0, l0, rfl, f0, own_out HR (fun k e => (hk0 k e).imp (fun h => by omega) id) hO4, hk0, f1, f2, f3, out_below (Below.refl _ _) hB (by omega) hO4⟩
  have HI4 := Lib.hid hI4
  clear hI4 HR hk0 hO4
  refine callsIn_of_wp_marks Tryd.func29 rfl trivial ?_
  simp only [Tryd.ntmps29, List.size_toArray, List.length_cons, List.length_nil, Nat.reduceAdd, Nat.reduceSub, Array.replicate_succ, Array.replicate_zero, List.push_toArray, List.append_toArray, List.nil_append, List.cons_append]
  have HF := Lib.hid (And.intro f0 (And.intro f1 (And.intro f2 (And.intro f3 (And.intro hz4 hW4)))))
  clear f0 f1 f2 f3 hz4 hW4
  gi_wp2_with fail
  refine ⟨trivial, (callsIn_wide.2 (Tryd.strings_HasPrefix s ⟨#[47]⟩ _)).mono ?_⟩
  rintro e w' ⟨rfl, rfl⟩
  rw [HF.out.2.2.2.2.2]
  obtain ⟨f0, f1, f2, f3, hz4, hW4⟩ := HF.out
  clear HF hW4
  have c1 := one_cell f1
  have c2 := one_cell f2
  have z1 := one_free f1
  have z2 := one_free f2
  have HZ := Lib.hid hz4
  clear hz4
  by_cases hp : s.data.toList.head? = some 47
  · have hpre : Lib.hasPrefix s.data.toList (ByteArray.mk #[47]).data.toList = true := (prefix47 _).trans (decide_eq_true hp)
    rw [hpre]
    gi_wp2_with fail
    have g1 := one_set f1 (.slice none 0 0)
    have g2 := (Below.heap_setCell W4 ⟨w.heap.size + 1, 0, none⟩ (.slice none 0 0) (w.heap.size + 1 + 1) (by show w.heap.size + 1 + 1 ≠ w.heap.size + 1; omega)).trans f2
    have g3 := one_set g2 (.int .i64 51)
    have g4 := (Below.heap_setCell (W4.setCell ⟨w.heap.size + 1, 0, none⟩ (.slice none 0 0)) ⟨w.heap.size + 1 + 1, 0, none⟩ (.int .i64 51) (w.heap.size + 1) (by show w.heap.size + 1 ≠ w.heap.size + 1 + 1; omega)).trans g1
    refine ⟨_, results_walk _ _ (w.heap.size + 1) (w.heap.size + 1 + 1) _ _ rfl rfl (one_cell g4) (one_cell g3), ?_⟩
    obtain ⟨_, _, _, _, _, _, _, _, _, _, hbw⟩ := HI4.out
    exact ⟨(hbw.setCell (p := ⟨w.heap.size + 1, 0, none⟩) (by show B ≤ w.heap.size + 1; omega) _).setCell (p := ⟨w.heap.size + 1 + 1, 0, none⟩) (by show B ≤ w.heap.size + 1 + 1; omega) _, .inl ⟨51, by unfold walkP; rw [if_pos hp], rfl⟩⟩
  · have hpre : Lib.hasPrefix s.data.toList (ByteArray.mk #[47]).data.toList = false := (prefix47 _).trans (decide_eq_false hp)
    rw [hpre]
    gi_wp2_with fail
    refine ⟨trivial, (callsIn_wide.2 (SplitSeq_calls s ⟨#[47]⟩ _)).mono ?_⟩
    rintro e w' ⟨rfl, rfl⟩
    gi_wp2_with fail
    have q1 : ((W4.alloc (.cells #[.string s] 9)).alloc (.cells #[.string ⟨#[47]⟩] 9)).heap[W4.heap.size]? = some (.cells #[.string s] 9 (0, 0)) := heap_two _ _ _
    have r1 : (((W4.alloc (.cells #[.string s] 9)).alloc (.cells #[.string ⟨#[47]⟩] 9)).alloc (.cells #[.int .i64 0] 3)).heap[W4.heap.size]? = some (.cells #[.string s] 9 (0, 0)) := (Below.heap_alloc _ _ _ (by simp <;> omega)).trans q1
    have r2 : (((W4.alloc (.cells #[.string s] 9)).alloc (.cells #[.string ⟨#[47]⟩] 9)).alloc (.cells #[.int .i64 0] 3)).heap[W4.heap.size + 1]? = some (.cells #[.string ⟨#[47]⟩] 9 (0, 0)) := by
      have := heap_two (W4.alloc (.cells #[.string s] 9)) (.cells #[.string ⟨#[47]⟩] 9) (.cells #[.int .i64 0] 3)
      rwa [World.size_alloc] at this
    have r3 : (((W4.alloc (.cells #[.string s] 9)).alloc (.cells #[.string ⟨#[47]⟩] 9)).alloc (.cells #[.int .i64 0] 3)).heap[W4.heap.size + 1 + 1]? = some (.cells #[.int .i64 0] 3 (0, 0)) := by
      have := heap_new' ((W4.alloc (.cells #[.string s] 9)).alloc (.cells #[.string ⟨#[47]⟩] 9)) (.cells #[.int .i64 0] 3)
      rwa [World.size_alloc, World.size_alloc] at this
    have hO7 : Out (w.heap.size + 4) (w.heap.size + 9) W4 (((W4.alloc (.cells #[.string s] 9)).alloc (.cells #[.string ⟨#[47]⟩] 9)).alloc (.cells #[.int .i64 0] 3)) := (Out.alloc _ _ _ _).trans ((Out.alloc _ _ _ _).trans (Out.alloc _ _ _ _))
    have hI7 := WI_out hB hB [] _ _ HI4.out hO7
    obtain ⟨W7, hW7⟩ : ∃ W7, ((W4.alloc (.cells #[.string s] 9)).alloc (.cells #[.string ⟨#[47]⟩] 9)).alloc (.cells #[.int .i64 0] 3) = W7 := ⟨_, rfl⟩
    have hz7 : W7.heap.size = W4.heap.size + 1 + 1 + 1 := by rw [← hW7]; simp
    have hz7' : W7.heap.size = w.heap.size + 7 := by rw [hz7, HZ.out]
    rw [hW7] at r1 r2 r3 hI7 ⊢
    clear q1 hO7 hW7 f0 f1 f2 f3 c1 c2 z1 z2 hpre HI4
    refine range_law (n := 3) (gf := 51) (lb := #[.pointer (some ⟨W4.heap.size + 1, 0, none⟩), .pointer (some ⟨W4.heap.size, 0, none⟩), .pointer (some ⟨W4.heap.size + 1 + 1, 0, none⟩)]) rfl (enters_of Tryd.func51 (by kernel_rfl) rfl) (lo := W4.heap.size) (by omega)
      (seq_at 2 47 s (by omega) (W4.heap.size + 1) W4.heap.size (W4.heap.size + 1 + 1) W4.heap.size W7.heap.size W7 (by omega) (by omega) (by omega) (by omega) (by omega) (by omega) (by omega) (by omega) r2 r1 r3) (fun _ => rfl)
      (WI B w.heap.size l0 w) (WX B w.heap.size l0 w)
      (fun pre X Y h ho => WI_out hB hB pre X Y h (by rw [HZ.out, hz7'] at ho; exact ho)) (fun c pre X Y h ho => WX_out hB hB c pre X Y h (by rw [HZ.out, hz7'] at ho; exact ho)) hI7
      (fun x => { tmps := #[.slice A l0.length c0, .string s, .pointer (some ⟨w.heap.size, 0, none⟩), undef, .pointer (some ⟨w.heap.size + 1, 0, none⟩), .pointer (some ⟨w.heap.size + 1 + 1, 0, none⟩), .pointer (some ⟨w.heap.size + 1 + 1 + 1, 0, none⟩),
        .string x, undef, .slice A l0.length c0, .int .i64 l0.length, .string s, .bool false, .string s, .func (.func 51) #[] #[.pointer (some ⟨W4.heap.size + 1, 0, none⟩), .pointer (some ⟨W4.heap.size, 0, none⟩), .pointer (some ⟨W4.heap.size + 1 + 1, 0, none⟩)],
        .string x, undef, undef, undef, undef, undef, undef, undef, undef, undef, undef, undef, undef, undef, undef, undef, undef, undef, undef, undef, undef, undef, undef, undef, undef, undef, undef, undef, undef], defers := [] }) ?assign ?body ?done ?stop
    case assign =>
      intro l x W K hK
      gi_wp2_with fail
      exact hK
    case body =>
      intro l pre x W hi hsz hpre
      obtain ⟨A1, c1, ls, hst, e0, how, hkk, e1, e2, e3, hbw⟩ := hi
      have hlen : ls.length ≤ 600 := by
        have h1 := stepsP_len _ _ _ _ hst
        have h2 := hpre.length_le
        have h3 := Lib.splitB_length_le ⟨#[47]⟩ 0 s.size s
        unfold Pcs at h2
        simp at h2
        omega
      have hxs : x.size ≤ 140737488355328 := by
        have := pcs_le ⟨#[47]⟩ s.size s x (hpre.subset (by simp))
        omega
      have hstep := stepsP_snoc l0.length pre x l0
      rw [hst] at hstep
      have hstep' : stepsP l0.length l0 (pre ++ [x]) = stepP l0.length ls x := hstep
      have k0 := one_cell e0
      have k1 := one_cell e1
      have k2 := one_cell e2
      have k3 := one_cell e3
      have z0 := one_free e0
      have z1 := one_free e1
      have z2 := one_free e2
      have HE : Hid (stepsP l0.length l0 pre = .ok ls ∧ stepsP l0.length l0 (pre ++ [x]) = stepP l0.length ls x ∧ Kn B w.heap.size l0 w A1 c1 ls W (W7.heap.size = w.heap.size + 7)) := Lib.hid ⟨hst, hstep', e0, e1, e2, e3, how, hkk, hbw, hz7'⟩
      have HB9 : Hid (w.heap.size + 9 ≤ W.heap.size) := Lib.hid (by omega)
      have hlo9 : Hid (w.heap.size ≤ W4.heap.size) := Lib.hid (by omega)
      obtain ⟨i0, hi9, hz09, hz19, hz29⟩ := info_parts info_str
      clear hst hstep hstep' e0 e1 e2 e3 how hkk hbw hz7 hz7' r1 r2 r3 hI7 hsz hpre
      have hcase : x = ⟨#[]⟩ ∨ x = ⟨#[46]⟩ ∨ x = ⟨#[46, 46]⟩ ∨ (x ≠ ⟨#[]⟩ ∧ x ≠ ⟨#[46]⟩ ∧ x ≠ ⟨#[46, 46]⟩) := by
        by_cases a1 : x = ⟨#[]⟩
        · exact .inl a1
        · by_cases a2 : x = ⟨#[46]⟩
          · exact .inr (.inl a2)
          · by_cases a3 : x = ⟨#[46, 46]⟩
            · exact .inr (.inr (.inl a3))
            · exact .inr (.inr (.inr ⟨a1, a2, a3⟩))
      rcases hcase with rfl | rfl | rfl | hx
      · gi_wp2_with fail
        exact ⟨Inn.refl _ _ _, round_same HE.out.1 (by rw [HE.out.2.1]; rfl) HE.out.2.2⟩
      · gi_wp2_with fail
        exact ⟨Inn.refl _ _ _, round_same HE.out.1 (by rw [HE.out.2.1]; rfl) HE.out.2.2⟩
      · by_cases he : ls.length = l0.length
        · have hb : ((ls.length : Int) == (l0.length : Int)) = true := by simp [he]
          have hq : stepP l0.length ls ⟨#[46, 46]⟩ = .error 51 := by
            unfold stepP; rw [if_neg (by simp), if_pos rfl, if_pos he]
          have HQ := Lib.hid (HE.out.2.1.trans hq)
          clear he hq
          gi_wp2_with fail
          exact round_ret hB HZ.out HE.out.2.2.2.2.2.2.2.2.2 (Inn.refl _ _ _) HE.out.2.2 HQ.out
        · have hb : ((ls.length : Int) == (l0.length : Int)) = false := by simp; omega
          have hge := stepsP_ge _ _ _ _ (Nat.le_refl _) HE.out.1
          have b1 : (1 : Int) ≤ (ls.length : Int) := by omega
          have b2 : ls.length ≤ c1 := own_cap HE.out.2.2.2.2.2.2.1
          have hq : stepP l0.length ls ⟨#[46, 46]⟩ = .ok ls.dropLast := by
            unfold stepP; rw [if_neg (by simp), if_pos rfl, if_neg he]
          have HQ := Lib.hid (HE.out.2.1.trans hq)
          clear he hq hge
          gi_wp2_with fail
          rw [show ls.length - 1 = ls.dropLast.length by simp]
          obtain ⟨e0, e1, e2, e3, how, hkk, hbw, hz7'⟩ := HE.out.2.2
          exact round_put hB HZ.out hz7' (Inn.refl _ _ W) ⟨e0, e1, e2, e3, by rw [List.length_dropLast]; exact own_pop (by omega) how, fun k e => hkk k (by cases A1 <;> simp_all [Value.ownBlock]), hbw⟩ HQ.out
      · have x1 : x.toList.isEmpty = false := by
          rw [Lib.toList_data]
          cases hd : x.data.toList with
          | nil => exact absurd (bytes_ext hd) hx.1
          | cons _ _ => rfl
        have x1' : ¬ x.toList = [] := by
          rw [Lib.toList_data]
          exact fun hd => hx.1 (bytes_ext hd)
        have x2 : (x.toList == [46]) = false := by
          rw [Lib.toList_data]
          exact beq_eq_false_iff_ne.2 (fun hd => hx.2.1 (bytes_ext hd))
        have x3 : (x.toList == [46, 46]) = false := by
          rw [Lib.toList_data]
          exact beq_eq_false_iff_ne.2 (fun hd => hx.2.2 (bytes_ext hd))
        have hq : stepP l0.length ls x = if partI x = 0 then .ok (ls ++ [x]) else .error (partI x) := by
          unfold stepP
          rw [if_neg, if_neg (fun hd => hx.2.2 (bytes_ext hd))]
          rintro (hd | hd)
          · exact hx.1 (bytes_ext hd)
          · exact hx.2.1 (bytes_ext hd)
        have HQ := Lib.hid (HE.out.2.1.trans hq)
        clear hq hx
        gi_wp2_with fail
        refine ⟨trivial, (CallsIn.inRound l (callsIn_wide.2 (part_calls x hxs W))).mono ?_⟩
        rintro e w1 ⟨rfl, ⟨⟨m, rfl⟩⟩⟩
        have k0' : (W.drewN m).cell? ⟨w.heap.size, 0, none⟩ = some (.slice A1 ls.length c1) := k0
        have k1' : (W.drewN m).cell? ⟨w.heap.size + 1, 0, none⟩ = some (.slice none 0 0) := k1
        have k2' : (W.drewN m).cell? ⟨w.heap.size + 2, 0, none⟩ = some (.int .i64 0) := k2
        have z0' : (W.drewN m).frozen? ⟨w.heap.size, 0, none⟩ = false := z0
        have z1' : (W.drewN m).frozen? ⟨w.heap.size + 1, 0, none⟩ = false := z1
        have z2' : (W.drewN m).frozen? ⟨w.heap.size + 2, 0, none⟩ = false := z2
        by_cases hpi : partI x = 0
        · rw [hpi]
          have HP := Lib.hid (HQ.out.trans (by rw [if_pos hpi]))
          clear hpi HQ
          have hrow := HE.out.2.2.2.2.2.2.1
          have hB' := HB9.out
          gi_wp2_with (gi_at_builtin; refine wpListIn_append_own_at _ rfl _ _ 29 rfl B 9 i0 (.string ⟨#[]⟩) 1 16 Tryd.underlying29 hi9 hz09 hz19 hz29 rfl (by decide) _ _ _ rfl (World.ownsRow.alloc (w := W.drewN m) hrow _) ⟨W.heap.size, 0, none⟩ 1 1 [.string x] rfl rfl (cell_one_new _ _ _) (by simp [Value.oneCell']) (by unfold maxLen; omega) (by omega) (by simp; omega) ?_; intro v' w1 hown' hgrow _ hat; obtain ⟨g', cap', rfl⟩ := ownsRow_succ hown'; have HA := Lib.hid (Kn.append hB (HE.out.2.2.drewN m) hlo9.out HB9.out hown' hgrow hat); have y0 := one_cell HA.out.1.1; have yz := one_free HA.out.1.1)
          have hi9' : W7.heap.size + 2 = w.heap.size + 9 := by rw [HE.out.2.2.2.2.2.2.2.2.2]
          rw [show ls.length + 1 = (ls ++ [x]).length by simp]
          refine round_put hB HZ.out HE.out.2.2.2.2.2.2.2.2.2 ((Inn.drewN _ _ _ m).trans ?_) HA.out.1 HP.out
          rw [hi9']
          exact HA.out.2
        · have hb : (partI x == 0) = false := beq_eq_false_iff_ne.2 hpi
          have hb2 : (partI x != 0) = true := bne_iff_ne.2 hpi
          have HP := Lib.hid (HQ.out.trans (by rw [if_neg hpi]))
          clear hpi HQ
          gi_wp2_with fail
          exact round_ret hB HZ.out HE.out.2.2.2.2.2.2.2.2.2 (Inn.drewN _ _ _ _) (HE.out.2.2.drewN m) HP.out
    case done =>
      intro W hi hK
      obtain ⟨A1, c1, ls, hst, e0, how, hkk, e1, e2, e3, hbw⟩ := hi
      have k0 := one_cell e0
      have k1 := one_cell e1
      have k2 := one_cell e2
      have z1 := one_free e1
      have z2 := one_free e2
      have HE := Lib.hid (And.intro hst (And.intro e0 (And.intro e1 (And.intro e2 (And.intro how (And.intro hkk (And.intro hbw (And.intro hK hz7'))))))))
      clear hst e0 e1 e2 e3 how hkk hbw hK hz7 hz7' r1 r2 r3 hI7
      by_cases h12 : 12 < ls.length
      · have b12 : (12 : Int) < (ls.length : Int) := by omega
        have HP : Hid (walkP l0 s = .error 50) := by
          unfold walkP; rw [if_neg hp, HE.out.1]; exact if_pos h12
        clear h12
        gi_wp2_with fail
        exact walk_end hB HE.out.2.2.1 HE.out.2.2.2.1 HE.out.2.2.2.2.2.2.1 HE.out.2.2.2.2.2.2.2.1 (by rw [HE.out.2.2.2.2.2.2.2.2]; omega) rfl rfl (fun hb ho => ⟨hb, .inl ⟨50, HP.out, rfl⟩⟩)
      · have b12 : ¬ ((12 : Int) < (ls.length : Int)) := by omega
        have HP : Hid (walkP l0 s = .ok ls) := by
          unfold walkP; rw [if_neg hp, HE.out.1]; exact if_neg h12
        clear h12
        gi_wp2_with fail
        exact walk_end hB HE.out.2.2.1 HE.out.2.2.2.1 HE.out.2.2.2.2.2.2.1 HE.out.2.2.2.2.2.2.2.1 (by rw [HE.out.2.2.2.2.2.2.2.2]; omega) rfl rfl
          (fun hb ho => ⟨hb, .inr ⟨ls, _, HP.out, rfl, own_move HE.out.2.2.2.2.1 (fun k hk => ho k (by have := HE.out.2.2.2.2.2.1 k hk; rw [HE.out.2.2.2.2.2.2.2.2]; omega))⟩⟩)
    case stop =>
      intro c pre W hpre hx hK
      obtain ⟨rfl, e, hst, e1, e2, hbw⟩ := hx
      obtain ⟨ys, hys⟩ := hpre
      have HP : Hid (walkP l0 s = .error e) := by
        unfold walkP
        rw [if_neg hp, ← hys, stepsP_append, hst]
        rfl
      gi_wp2_with fail
      refine ⟨by simp, .inl ⟨_, _, rfl, run_takeDeferred hK, ?_⟩⟩
      have far : ∀ k, k ≠ W7.heap.size → (W.putObj W7.heap.size (.deferred none)).heap[k]? = W.heap[k]? := fun k hk => World.putObj_heap_other hk
      refine ⟨_, results_walk _ _ (w.heap.size + 1) (w.heap.size + 1 + 1) _ _ rfl rfl (one_cell ((far _ (by omega)).trans e1)) (one_cell ((far _ (by omega)).trans e2)), ?_, .inl ⟨e, HP.out, rfl⟩⟩
      exact hbw.trans ⟨rfl, rfl, rfl, by simp, fun k hk => far k (by omega)⟩
end Go.Proofs.YtnangnnflmdjbaaDoor.Ext
