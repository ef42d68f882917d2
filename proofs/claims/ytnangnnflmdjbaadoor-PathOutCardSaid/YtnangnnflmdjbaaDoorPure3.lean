/- The plain statements of PathCleans, PathJoins, PathBounds. -/
import Derived.Test.YtnangnnflmdjbaaDoorPure2
import Derived.KernelRfl
namespace Go.Proofs.YtnangnnflmdjbaaDoor.Pure
open Go Go.RowKit Go.Proofs.YtnangnnflmdjbaaDoor.P Go.Proofs.YtnangnnflmdjbaaDoor.Ext Go.Proofs.YtnangnnflmdjbaaDoorW.PrintWords

set_option maxRecDepth 100000 in
theorem known_ok (m : Nat) : haversacklaw7_known.f (m + 10) = some true := by kernel_rfl
theorem known_k (k : Nat) (hk : 10 ≤ k) : haversacklaw7_known.f k = some true := by
  obtain ⟨m, rfl⟩ : ∃ m, k = m + 10 := ⟨k - 10, by omega⟩
  exact known_ok m

theorem both_ok (s : ByteArray) (h : s.size ≤ 10000) (k : Nat) (hk : 30000 ≤ k) :
    ((path_Clean.f s).bind fun b => (haversackref7_Clean.f k s).bind fun c => (if b.1.toList = c.1.toList then (some (b.2 == c.2)) else (some false))) = some true := by
  rw [path_Clean_eq s h, ref_Clean s h k hk]
  simp

theorem PathCleans : haversacklaw7_PathCleans.Pure := by
  intro s hs
  refine ⟨30000, ?_⟩
  unfold haversacklaw7_PathCleans.f
  rw [known_k _ (by omega)]
  simp only [Option.bind_some, if_true]
  by_cases h : (s.size : Int) > 500
  · rw [if_pos h]
  · rw [if_neg h]
    exact both_ok s (by omega) 30000 (Nat.le_refl _)

theorem bounds_l2 (d : Nat) : ∀ (k : Nat) (x2 i : Int) (s : ByteArray), 0 ≤ x2 → x2 ≤ 255 → 0 ≤ i → 4 - i ≤ d → s.size + 3 * d ≤ 10000 → 30000 + d < k → haversacklaw7_PathBounds.l2 k x2 s i = some true := by
  induction d with
  | zero =>
    intro k x2 i s h0 h1 h2 hd hs hk
    obtain ⟨k, rfl⟩ : ∃ m, k = m + 1 := ⟨k - 1, by omega⟩
    rw [haversacklaw7_PathBounds.l2, if_neg (by unfold wrap64; rw [Int.tmod_eq_emod_of_nonneg h0]; omega)]
    exact both_ok s (by omega) k (by omega)
  | succ d ih =>
    intro k x2 i s h0 h1 h2 hd hs hk
    obtain ⟨k, rfl⟩ : ∃ m, k = m + 1 := ⟨k - 1, by omega⟩
    rw [haversacklaw7_PathBounds.l2]
    by_cases h : i < wrap64 (Int.tmod x2 4)
    · have h3 : i < 4 := by unfold wrap64 at h; rw [Int.tmod_eq_emod_of_nonneg h0] at h; omega
      rw [if_pos h, if_pos (by omega), show wrap64 (i + 1) = i + 1 by unfold wrap64; omega]
      exact ih k x2 (i + 1) _ h0 h1 (by omega) (by omega) (by rw [app_size]; show s.size + 3 + _ ≤ _; omega) (by omega)
    · rw [if_neg h]
      exact both_ok s (by omega) k (by omega)
theorem bounds_l1 (d : Nat) : ∀ (k : Nat) (x1 x2 i : Int) (a s : ByteArray), 0 ≤ x1 → x1 ≤ 255 → 0 ≤ x2 → x2 ≤ 255 → 0 ≤ i → 16 - i ≤ d → a.size ≤ 100 → s.size + 101 * d ≤ 9000 → 30010 + d < k → haversacklaw7_PathBounds.l1 k x1 x2 a s i = some true := by
  induction d with
  | zero =>
    intro k x1 x2 i a s h0 h1 g0 g1 h2 hd ha hs hk
    obtain ⟨k, rfl⟩ : ∃ m, k = m + 1 := ⟨k - 1, by omega⟩
    rw [haversacklaw7_PathBounds.l1, if_neg (by unfold wrap64; rw [Int.tmod_eq_emod_of_nonneg h0]; omega)]
    exact bounds_l2 4 k x2 0 s g0 g1 (by omega) (by omega) (by omega) (by omega)
  | succ d ih =>
    intro k x1 x2 i a s h0 h1 g0 g1 h2 hd ha hs hk
    obtain ⟨k, rfl⟩ : ∃ m, k = m + 1 := ⟨k - 1, by omega⟩
    rw [haversacklaw7_PathBounds.l1]
    by_cases h : i < wrap64 (Int.tmod x1 16)
    · have h3 : i < 16 := by unfold wrap64 at h; rw [Int.tmod_eq_emod_of_nonneg h0] at h; omega
      have hsz : (s ++ (⟨#[47]⟩ : ByteArray)).size = s.size + 1 := app_size _ _
      rw [if_pos h, if_pos (by omega), if_pos (by omega), show wrap64 (i + 1) = i + 1 by unfold wrap64; omega]
      exact ih k x1 x2 (i + 1) a _ h0 h1 g0 g1 (by omega) (by omega) ha (by rw [app_size]; omega) (by omega)
    · rw [if_neg h]
      exact bounds_l2 4 k x2 0 s g0 g1 (by omega) (by omega) (by omega) (by omega)
theorem bounds_l0 (d : Nat) : ∀ (k : Nat) (x0 x1 x2 i : Int) (a : ByteArray), 0 ≤ x0 → x0 ≤ 255 → 0 ≤ x1 → x1 ≤ 255 → 0 ≤ x2 → x2 ≤ 255 → 0 ≤ i → 41 - i ≤ d → a.size + d ≤ 100 → 30030 + d < k → haversacklaw7_PathBounds.l0 k x0 x1 x2 a i = some true := by
  induction d with
  | zero =>
    intro k x0 x1 x2 i a f0 f1 h0 h1 g0 g1 h2 hd ha hk
    obtain ⟨k, rfl⟩ : ∃ m, k = m + 1 := ⟨k - 1, by omega⟩
    rw [haversacklaw7_PathBounds.l0, if_neg (by unfold wrap64; rw [Int.tmod_eq_emod_of_nonneg f0]; omega)]
    exact bounds_l1 16 k x1 x2 0 a a h0 h1 g0 g1 (by omega) (by omega) (by omega) (by omega) (by omega)
  | succ d ih =>
    intro k x0 x1 x2 i a f0 f1 h0 h1 g0 g1 h2 hd ha hk
    obtain ⟨k, rfl⟩ : ∃ m, k = m + 1 := ⟨k - 1, by omega⟩
    rw [haversacklaw7_PathBounds.l0]
    by_cases h : i < wrap64 (wrap64 (Int.tmod x0 40) + 1)
    · have h3 : i < 41 := by unfold wrap64 at h; rw [Int.tmod_eq_emod_of_nonneg f0] at h; omega
      rw [if_pos h, if_pos (by omega), show wrap64 (i + 1) = i + 1 by unfold wrap64; omega]
      exact ih k x0 x1 x2 (i + 1) _ f0 f1 h0 h1 g0 g1 (by omega) (by omega) (by rw [app_size]; show a.size + 1 + _ ≤ _; omega) (by omega)
    · rw [if_neg h]
      exact bounds_l1 16 k x1 x2 0 a a h0 h1 g0 g1 (by omega) (by omega) (by omega) (by omega) (by omega)
theorem u8_bd {x : Int} (h : (Lit.int .u8 x).wf = true) : 0 ≤ x ∧ x ≤ 255 := by
  simp [Lit.wf, IntKind.min, IntKind.max, IntKind.signed, IntKind.bits] at h
  omega
theorem PathBounds : haversacklaw7_PathBounds.Pure := by
  intro a b c ha hb hc
  have ha := u8_bd ha
  have hb := u8_bd hb
  have hc := u8_bd hc
  refine ⟨40000, ?_⟩
  unfold haversacklaw7_PathBounds.f
  rw [known_k _ (by omega)]
  simp only [Option.bind_some, if_true]
  exact bounds_l0 41 40000 a b c 0 ⟨#[]⟩ ha.1 ha.2 hb.1 hb.2 hc.1 hc.2 (by omega) (by omega) (by decide) (by omega)
end Go.Proofs.YtnangnnflmdjbaaDoor.Pure
