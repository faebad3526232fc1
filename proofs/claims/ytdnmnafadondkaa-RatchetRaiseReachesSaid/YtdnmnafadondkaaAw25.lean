/- Loops of a few rounds, round by round. No condition. -/
import Derived.Test.YtdnmnafadondkaaAw24
import Derived.LoopN
set_option linter.unusedVariables false
set_option linter.unusedSimpArgs false
namespace Go.Proofs.Ytdnmnafadondkaa
open Go Go.RowKit

section
variable (P : Program) (X : Nat → Prop) (w0 : World) (E0 : Env)

/-- At most n rounds of c from σ. -/
def AR (c : Code) (Q : Exit → St → Prop) : Nat → St → Prop
  | 0, _ => False
  | n + 1, σ => AW P X w0 E0 c σ (kQ (AR c Q n) Q)

variable {P X w0 E0}

theorem AR_rounds {c : Code} {Q : Exit → St → Prop} : ∀ (n : Nat) (σ : St), AR P X w0 E0 c Q n σ → ∀ E a w, Grow w0 E0 E → Sim X w0 E σ a w → Code.rounds P c (Conc X w0 E0 Q) n a w
  | 0, _, h, _, _, _, _, _ => h.elim
  | n + 1, σ, h, E, a, w, hg, hs => by
    rw [rounds_succ]
    refine wp_mono (h E a w hg hs) ?_
    rintro e a' w' ⟨E', σ', q, hg', hs'⟩
    cases e with
    | normal => exact AR_rounds n σ' q E' a' w' hg' hs'
    | _ => exact ⟨E', σ', q, hg', hs'⟩

/-- A loop, round by round. -/
theorem AW_rounds (n : Nat) {c : Code} {σ : St} {Q : Exit → St → Prop} (h : AR P X w0 E0 c Q n σ) : AW P X w0 E0 (.loop c) σ Q :=
  fun E a w hg hs => wp_loop_rounds n (AR_rounds n σ h E a w hg hs)

/-- A round, with what follows behind a name. -/
theorem AR_round {n : Nat} {c : Code} {σ : St} {Q : Exit → St → Prop} (h : ∀ K : St → Prop, (∀ σ', AR P X w0 E0 c Q n σ' → K σ') → AW P X w0 E0 c σ (kQ K Q)) : AR P X w0 E0 c Q (n + 1) σ := h _ fun _ h => h

end
end Go.Proofs.Ytdnmnafadondkaa
