/- A range over a function whose iterator keeps cells of its own (a captured variable): one law, over any program. 'lo' is where the iterator's own blocks begin. -/
import Derived.RangeFuncOwn
import Derived.RangeFuncKeeps
import Derived.Deep.Draws
import Derived.WalkKit
namespace Go.Proofs.YtnangnnflmdjbaaDoor.Rng
open Go Go.RowKit

/-- Nothing outside [lo, hi) has turned. -/
def Out (lo hi : Nat) (W W' : World) : Prop :=
  W'.os = W.os ∧ W'.tape = W.tape ∧ W'.output = W.output ∧ W.heap.size ≤ W'.heap.size ∧ ∀ k, k < W.heap.size → k < lo ∨ hi ≤ k → W'.heap[k]? = W.heap[k]?
/-- Nothing inside [lo, hi) has turned. -/
def Inn (lo hi : Nat) (W W' : World) : Prop := W.heap.size ≤ W'.heap.size ∧ ∀ k, lo ≤ k → k < hi → W'.heap[k]? = W.heap[k]?

theorem Out.refl (lo hi : Nat) (W : World) : Out lo hi W W := ⟨rfl, rfl, rfl, Nat.le_refl _, fun _ _ _ => rfl⟩
theorem Out.trans {lo hi : Nat} {A B C : World} (h : Out lo hi A B) (k : Out lo hi B C) : Out lo hi A C := by
  obtain ⟨a1, a2, a3, a4, a5⟩ := h
  obtain ⟨b1, b2, b3, b4, b5⟩ := k
  exact ⟨b1.trans a1, b2.trans a2, b3.trans a3, Nat.le_trans a4 b4, fun j hj hr => (b5 j (Nat.lt_of_lt_of_le hj a4) hr).trans (a5 j hj hr)⟩
theorem Out.wider {lo hi hi' : Nat} {A B : World} (h : Out lo hi A B) (hh : hi ≤ hi') : Out lo hi' A B := by
  obtain ⟨a1, a2, a3, a4, a5⟩ := h
  exact ⟨a1, a2, a3, a4, fun j hj hr => a5 j hj (by omega)⟩
theorem Out.alloc (lo hi : Nat) (W : World) (o : Obj) : Out lo hi W (W.alloc o) :=
  ⟨rfl, rfl, rfl, by rw [World.size_alloc]; omega, fun k hk _ => Below.heap_alloc W o k hk⟩
theorem Out.drew (lo hi : Nat) (W : World) : Out lo hi W W.drew := ⟨rfl, rfl, rfl, Nat.le_refl _, fun _ _ _ => rfl⟩
theorem Out.drewN (lo hi : Nat) (W : World) (n : Nat) : Out lo hi W (W.drewN n) := ⟨rfl, rfl, rfl, Nat.le_refl _, fun _ _ _ => rfl⟩
theorem Out.set {lo hi : Nat} (W : World) {b : Nat} (hb : lo ≤ b) (hb' : b < hi) (j : Nat) (v : Value) : Out lo hi W (W.setCell ⟨b, j, none⟩ v) :=
  ⟨rfl, rfl, rfl, by simp [World.setCell], fun k _ hr => Below.heap_setCell W ⟨b, j, none⟩ v k (by show k ≠ b; omega)⟩
theorem Out.put {lo hi : Nat} (W : World) {b : Nat} (hb : lo ≤ b) (hb' : b < hi) (o : Obj) : Out lo hi W (W.putObj b o) :=
  ⟨rfl, rfl, rfl, by simp, fun _ _ hr => World.putObj_heap_other (by omega)⟩
theorem Inn.refl (lo hi : Nat) (W : World) : Inn lo hi W W := ⟨Nat.le_refl _, fun _ _ _ => rfl⟩
theorem Inn.trans {lo hi : Nat} {A B C : World} (h : Inn lo hi A B) (k : Inn lo hi B C) : Inn lo hi A C :=
  ⟨Nat.le_trans h.1 k.1, fun j h1 h2 => (k.2 j h1 h2).trans (h.2 j h1 h2)⟩
theorem Inn.narrow {lo hi hi' : Nat} {A B : World} (h : Inn lo hi A B) (hh : hi' ≤ hi) : Inn lo hi' A B := ⟨h.1, fun j h1 h2 => h.2 j h1 (by omega)⟩
theorem Inn.of_below {lo hi : Nat} {A B : World} (h : Below hi A B) : Inn lo hi A B := ⟨h.size, fun j _ h2 => h.block j h2⟩
theorem Inn.set {lo hi : Nat} (W : World) {b : Nat} (hb : b < lo ∨ hi ≤ b) (j : Nat) (v : Value) : Inn lo hi W (W.setCell ⟨b, j, none⟩ v) :=
  ⟨by simp [World.setCell], fun k _ _ => Below.heap_setCell W ⟨b, j, none⟩ v k (by show k ≠ b; omega)⟩
theorem Inn.put {lo hi : Nat} (W : World) {b : Nat} (hb : b < lo ∨ hi ≤ b) (o : Obj) : Inn lo hi W (W.putObj b o) :=
  ⟨by simp, fun k _ _ => World.putObj_heap_other (by omega)⟩

/-- What an iterator tells: all of xs comes, or a round leaves behind a part of it. Its own blocks lie in [lo, hi). -/
def SeqAt {α : Type} (n : Nat) (P : Program) (gf : Nat) (lb : Array Value) (encs : α → Array Value) (xs : List α) (lo hi : Nat) (w : World) : Prop :=
  ∀ (l : Nat) (J Jx : List α → World → Prop) (W : World), Inn lo hi w W → hi ≤ W.heap.size →
    (∀ pre A B, J pre A → Out lo hi A B → J pre B) → (∀ pre A B, Jx pre A → Out lo hi A B → Jx pre B) →
    (∀ pre x W1, J pre W1 → pre ++ [x] <+: xs → YieldAt Fence.wide (n - 1) P l (encs x) W1 fun e W' =>
      (e = .returned (.bool true) ∧ J (pre ++ [x]) W' ∧ Inn lo hi W1 W') ∨ (e = .returned (.bool false) ∧ Jx (pre ++ [x]) W')) →
    J [] W →
    CallsIn Fence.wide n P gf (#[.func (.yield l) #[] #[]] ++ lb) W fun e W' => (∃ v, e = .returned v) ∧ (J xs W' ∨ ∃ pre, pre <+: xs ∧ Jx pre W')

/-- How the body of a round may be left. -/
def roundEnd {α : Type} (lo hi : Nat) (I : List α → World → Prop) (Ix : Code → List α → World → Prop) (ys : List α) (W : World) : Exit → Act → World → Prop
  | .normal, _, W' => Inn lo hi W W' ∧ I ys W'
  | .ret, _, W' => Inn lo hi W W' ∧ Ix .ret ys W'
  | .exit id, _, W' => Inn lo hi W W' ∧ Ix (.exit id) ys W'
  | .goto t, _, W' => Inn lo hi W W' ∧ Ix (.goto t) ys W'
  | .panic _, _, _ => False
  | .outgrown, _, _ => False

theorem range_law {α : Type} {n : Nat} {P : Program} {g : Operand} {ps : Array Tmp} {assign body : Code} {Q : Exit → Act → World → Prop} {a : Act} {w : World} {gf : Nat} {lb : Array Value}
    (hg : a.eval g = .func (.func gf) #[] lb) (eg : ∀ args w, (callFunc gf args).run P w = .ok (.enter gf args) w)
    {encs : α → Array Value} {xs : List α} {lo : Nat} (hlo : lo ≤ w.heap.size) (hseq : SeqAt (n - 1) P gf lb encs xs lo w.heap.size w) (hps : ∀ x, (encs x).size = ps.size)
    (I : List α → World → Prop) (Ix : Code → List α → World → Prop)
    (hI : ∀ pre A B, I pre A → Out lo (w.heap.size + 2) A B → I pre B) (hIx : ∀ c pre A B, Ix c pre A → Out lo (w.heap.size + 2) A B → Ix c pre B) (h0 : I [] w) (a₁ : α → Act)
    (hassign : ∀ (l : Nat) (x : α) (W : World) (K : Act → World → Prop), K (a₁ x) W →
      assign.wpIn (Fence.wide.inRound l) (n - 1 - 1) P (Exit.then K (fun _ _ _ => False)) { tmps := (ps.zip (encs x)).foldl (fun t (p, v) => t.setIfInBounds p v) a.tmps, defers := [] } W)
    (hbody : ∀ (l : Nat) (pre : List α) (x : α) (W : World), I pre W → w.heap.size + 2 ≤ W.heap.size → pre ++ [x] <+: xs → body.wpIn (Fence.wide.inRound l) (n - 1 - 1) P (roundEnd lo (w.heap.size + 2) I Ix (pre ++ [x]) W) (a₁ x) W)
    (hdone : ∀ (W : World), I xs W → W.heap[w.heap.size]? = some (.deferred (some [])) → Q .normal { a with defers := { target := .collected w.heap.size, args := #[] } :: a.defers } W)
    (hstop : ∀ (c : Code) (pre : List α) (W : World), pre <+: xs → Ix c pre W → W.heap[w.heap.size]? = some (.deferred (some [])) →
      c.wpIn Fence.wide n P Q { a with defers := { target := .collected w.heap.size, args := #[] } :: a.defers } W) :
    (Code.rangeFunc g ps assign body).wpIn Fence.wide n P Q a w := by
  refine wpIn_rangeFunc ?_
  intro fn _
  rw [show Fence.wide.round = none from rfl]
  obtain ⟨rec, hrec⟩ : ∃ rec : LoopState → Option Code → Loop, rec = fun st pe => { state := st, pending := pe, fn, tmps := a.tmps, params := ps, assign, body, defers := w.heap.size } := ⟨_, rfl⟩
  obtain ⟨W1, hW1⟩ : ∃ W1, (w.alloc (.deferred (some []))).alloc (.loop (rec .ready none)) = W1 := ⟨_, rfl⟩
  have hz1 : W1.heap.size = w.heap.size + 2 := by rw [← hW1]; simp
  have hO1 : Out lo w.heap.size w W1 := by rw [← hW1]; exact (Out.alloc _ _ _ _).trans (Out.alloc _ _ _ _)
  have hB1 : Below w.heap.size w W1 := by rw [← hW1]; exact ((Below.refl _ w).alloc (Nat.le_refl _) _).alloc (by simp) _
  have hL1 : W1.heap[w.heap.size + 1]? = some (.loop (rec .ready none)) := by
    rw [← hW1]; have := World.alloc_heap_new (w.alloc (.deferred (some []))) (.loop (rec .ready none)); rwa [World.size_alloc] at this
  have hK1 : W1.heap[w.heap.size]? = some (.deferred (some [])) := by
    rw [← hW1]; exact (Below.heap_alloc _ _ _ (by simp)).trans (World.alloc_heap_new w _)
  refine ⟨w.heap.size + 1, [{ target := .collected w.heap.size, args := #[] }], W1, { target := .fn (.func gf) lb, args := #[.func (.yield (w.heap.size + 1)) #[] #[]] }, W1, gf,
    #[.func (.yield (w.heap.size + 1)) #[] #[]] ++ lb, W1, ?_, ?_, fun _ _ => trivial, ?_, fun h => by simp [Fence.wide] at h, ?_⟩
  · rw [← hW1, hrec]; exact run_enterLoop_outer _ _ _ _ _
  · simp only [resolve, hg]
    simp [go_sem]
  · simp [invoke, go_sem, eg]
  · refine (hseq (w.heap.size + 1)
      (fun pre W => I pre W ∧ W.heap[w.heap.size + 1]? = some (.loop (rec .ready none)) ∧ W.heap[w.heap.size]? = some (.deferred (some [])))
      (fun pre W => ∃ c, Ix c pre W ∧ W.heap[w.heap.size + 1]? = some (.loop (rec .done (some c))) ∧ W.heap[w.heap.size]? = some (.deferred (some [])))
      W1 (Inn.of_below hB1) (by omega)
      (fun pre A B hs ho => ⟨hI pre A B hs.1 (ho.wider (by omega)), (ho.2.2.2.2 _ (Array.getElem?_eq_some_iff.1 hs.2.1).1 (.inr (by omega))).trans hs.2.1, (ho.2.2.2.2 _ (Array.getElem?_eq_some_iff.1 hs.2.2).1 (.inr (by omega))).trans hs.2.2⟩)
      (fun pre A B hs ho => by
        obtain ⟨c, hc, hl, hk⟩ := hs
        exact ⟨c, hIx c pre A B hc (ho.wider (by omega)), (ho.2.2.2.2 _ (Array.getElem?_eq_some_iff.1 hl).1 (.inr (by omega))).trans hl, (ho.2.2.2.2 _ (Array.getElem?_eq_some_iff.1 hk).1 (.inr (by omega))).trans hk⟩)
      ?_ ⟨hI _ _ _ h0 (hO1.wider (by omega)), hL1, hK1⟩).mono ?_
    · rintro pre x W ⟨hi, hl, hk⟩ hpre
      have hlt : w.heap.size + 1 < W.heap.size := (Array.getElem?_eq_some_iff.1 hl).1
      have hy := run_yield (P := P) (args := encs x) hl (by rw [hrec]; exact hps x)
      rw [hrec] at hy
      refine ⟨fn, _, assign, body, hy, roundIn_of_wpIn trivial (hassign _ x W _ ⟨_, run_beginRound hl (by rw [hrec]), ?_⟩)⟩
      obtain ⟨W2, hW2⟩ : ∃ W2, W.putObj (w.heap.size + 1) (.loop { rec .ready none with state := .busy }) = W2 := ⟨_, rfl⟩
      rw [hW2]
      have hl2 : W2.heap[w.heap.size + 1]? = some (.loop { rec .ready none with state := .busy }) := by rw [← hW2]; exact World.putObj_heap_same hlt
      have hk2 : W2.heap[w.heap.size]? = some (.deferred (some [])) := by rw [← hW2]; exact (World.putObj_heap_other (by omega)).trans hk
      have hz2 : W2.heap.size = W.heap.size := by rw [← hW2]; simp
      have hO2 : Out lo (w.heap.size + 2) W W2 := by rw [← hW2]; exact Out.put W (by omega) (by omega) _
      have hN2 : Inn lo w.heap.size W W2 := by rw [← hW2]; exact Inn.put W (.inr (by omega)) _
      refine wpIn_mono (hbody _ pre x W2 (hI _ _ _ hi hO2) (by omega) hpre) ?_
      have fin : ∀ (jump : Option Code) (W3 : World), Inn lo (w.heap.size + 2) W2 W3 →
          (Instr.endRound (w.heap.size + 1) jump).run P W3 = .ok (.bool jump.isNone) (W3.putObj (w.heap.size + 1) (.loop (rec (if jump.isNone then .ready else .done) jump))) ∧
          Out lo (w.heap.size + 2) W3 (W3.putObj (w.heap.size + 1) (.loop (rec (if jump.isNone then .ready else .done) jump))) ∧
          (W3.putObj (w.heap.size + 1) (.loop (rec (if jump.isNone then .ready else .done) jump))).heap[w.heap.size + 1]? = some (.loop (rec (if jump.isNone then .ready else .done) jump)) ∧
          (W3.putObj (w.heap.size + 1) (.loop (rec (if jump.isNone then .ready else .done) jump))).heap[w.heap.size]? = some (.deferred (some [])) ∧
          Inn lo w.heap.size W (W3.putObj (w.heap.size + 1) (.loop (rec (if jump.isNone then .ready else .done) jump))) := fun jump W3 hn => by
        have hl3 : W3.heap[w.heap.size + 1]? = some (.loop { rec .ready none with state := .busy }) := (hn.2 _ (by omega) (by omega)).trans hl2
        have hk3 := (hn.2 w.heap.size (by omega) (by omega)).trans hk2
        have hr := run_endRound (P := P) jump hl3
        have e : (.loop { ({ rec .ready none with state := .busy } : Loop) with state := if jump.isNone then .ready else .done, pending := jump } : Obj) = .loop (rec (if jump.isNone then .ready else .done) jump) := by rw [hrec]
        rw [e] at hr
        exact ⟨hr, Out.put W3 (by omega) (by omega) _, World.putObj_heap_same (Array.getElem?_eq_some_iff.1 hl3).1, (World.putObj_heap_other (by omega)).trans hk3,
          hN2.trans ((hn.narrow (by omega)).trans (Inn.put W3 (.inr (by omega)) _))⟩
      rintro e a3 W3 hp
      cases e with
      | normal =>
        obtain ⟨hr, ho, hl4, hk4, hn4⟩ := fin none W3 hp.1
        exact ⟨_, _, hr, .inl ⟨rfl, ⟨hI _ _ _ hp.2 ho, hl4, hk4⟩, hn4⟩⟩
      | ret =>
        obtain ⟨hr, ho, hl4, hk4, _⟩ := fin (some .ret) W3 hp.1
        exact ⟨_, _, hr, .inr ⟨rfl, .ret, hIx _ _ _ _ hp.2 ho, hl4, hk4⟩⟩
      | exit id =>
        obtain ⟨hr, ho, hl4, hk4, _⟩ := fin (some (.exit id)) W3 hp.1
        exact ⟨_, _, hr, .inr ⟨rfl, .exit id, hIx _ _ _ _ hp.2 ho, hl4, hk4⟩⟩
      | goto t =>
        obtain ⟨hr, ho, hl4, hk4, _⟩ := fin (some (.goto t)) W3 hp.1
        exact ⟨_, _, hr, .inr ⟨rfl, .goto t, hIx _ _ _ _ hp.2 ho, hl4, hk4⟩⟩
      | panic ch => exact hp.elim
      | outgrown => exact hp.elim
    · rintro e W2 ⟨⟨v, rfl⟩, (⟨hi, hl, hk⟩ | ⟨pre, hpre, c, hi, hl, hk⟩)⟩
      · have hr := run_endLoop (P := P) hl (by rw [hrec]; simp)
        rw [hrec] at hr
        exact ⟨none, _, hr, hdone _ (hI _ _ _ hi (Out.put W2 (by omega) (by omega) _)) ((World.putObj_heap_other (by omega)).trans hk)⟩
      · have hr := run_endLoop (P := P) hl (by rw [hrec]; simp)
        rw [hrec] at hr
        exact ⟨some c, _, hr, hstop c pre _ hpre (hIx _ _ _ _ hi (Out.put W2 (by omega) (by omega) _)) ((World.putObj_heap_other (by omega)).trans hk)⟩
end Go.Proofs.YtnangnnflmdjbaaDoor.Rng
