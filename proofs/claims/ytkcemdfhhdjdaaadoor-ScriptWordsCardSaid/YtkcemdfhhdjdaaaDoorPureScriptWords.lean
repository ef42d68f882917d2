/- ScriptWords, plainly: the law's own function answers true at every text. -/
import Derived.Test.YtkcemdfhhdjdaaaDoorPureV
import Derived.Test.YtkcemdfhhdjdaaaDoorPx6
import Derived.KernelRfl
namespace Go.Proofs.YtkcemdfhhdjdaaaDoor.Pure
open Go Go.RowKit Go.Lib Go.Proofs.YtkcemdfhhdjdaaaDoor.P Go.Proofs.YtkcemdfhhdjdaaaDoor.Ext Go.Proofs.YtkcemdfhhdjdaaaDoorW.PrintWords
set_option linter.unusedVariables false
set_option linter.unusedSimpArgs false

theorem known_ev : Ev (fun k => haversacklaw17_known.f k) true := Ev.of (fun k => haversacklaw17_known.mono k) (k := 60) (by kernel_rfl)
theorem strings_self (l : List ByteArray) (hl : l.length ≤ 1000000) : ∀ (d i : Nat), i + d = l.length → Ev (fun k => haversackhelp_Strings.l0 k l l (i : Int)) true
  | 0, i, h => by
    refine Ev.step (f := fun _ => some true) (fun k => ?_) (Ev.now _)
    simp only [haversackhelp_Strings.l0]
    rw [if_neg (by omega)]
  | d + 1, i, h => by
    refine Ev.step (fun k => ?_) (strings_self l hl d (i + 1) (by omega))
    simp only [haversackhelp_Strings.l0]
    rw [if_pos (by omega), if_pos (by omega), if_pos (by omega), if_pos trivial, w64 (by omega)]
theorem strings_same (l : List ByteArray) (hl : l.length ≤ 1000000) : Ev (fun k => haversackhelp_Strings.f k l l) true := by
  refine Ev.congr (fun k => ?_) (strings_self l hl l.length 0 (by omega))
  unfold haversackhelp_Strings.f
  rw [if_pos rfl]
  rfl
theorem ScriptWords : haversacklaw17_ScriptWords.Pure := by
  intro s _
  by_cases h : s.size ≤ 500
  · obtain ⟨r, hlen, h1, h2⟩ := words_pure s h
    have h3 := strings_same r.1 (by omega)
    have : Ev (fun k => haversacklaw17_ScriptWords.f k s) true := by
      unfold haversacklaw17_ScriptWords.f
      refine Ev.bind known_ev ?_
      refine Ev.congr (fun k => by rw [if_pos rfl, if_neg (by omega)]) ?_
      refine Ev.bind h1 (Ev.bind h2 ?_)
      refine Ev.congr (fun k => by rw [if_pos (by simp)]) (Ev.bind h3 (Ev.now _))
    exact this.rounds
  · have : Ev (fun k => haversacklaw17_ScriptWords.f k s) true := by
      unfold haversacklaw17_ScriptWords.f
      refine Ev.bind known_ev ?_
      refine Ev.congr (fun k => by rw [if_pos rfl, if_pos (by omega)]) (Ev.now _)
    exact this.rounds
end Go.Proofs.YtkcemdfhhdjdaaaDoor.Pure
