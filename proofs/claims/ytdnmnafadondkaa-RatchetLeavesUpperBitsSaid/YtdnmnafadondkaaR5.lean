/- For every bank of cells and every session, no cell of a bit at or above both the reported level and the target changes: the statement RatchetLeavesUpperBits. No condition. -/
import Derived.Test.YtdnmnafadondkaaL4
import Derived.Test.YtdnmnafadondkaaD1b
set_option linter.unusedVariables false
set_option linter.unusedSimpArgs false
set_option maxRecDepth 100000
namespace Go.Proofs.Ytdnmnafadondkaa
open Go Go.RowKit Go.ChangeShapes Go.WideShapes Go.ChangeAt

theorem ratchetLeavesUpperBits_lifted (os : Os) (started : os.Started) (H : Type) (enc : TypeId × Value → H) :
    ReturnsInHanded {} Try.checked os 7 .any (Rows.ratchetLeavesUpperBitsSpec.pre6 enc Try.prog Try.f7 Rows.ratchetLeavesUpperBitsRow.domain false) (Rows.ratchetLeavesUpperBitsSpec.post enc Try.prog Try.f7 false true false false) := by
  refine returnsInHanded_of_change (C := Try.checked) own started (by kernel_rfl) Try.func7
    (ChangeSpec.witness6 (enc := enc) (C := Try.checked) false ⟨#[], #[.slice none 0 0, .agg #[.bool false, .int .u8 0, .slice none 0 0]], []⟩ 8 (by kernel_rfl) (by kernel_rfl) (by kernel_rfl) (by kernel_rfl)) ?_
  intro W base args ds gs before hval0 hW _ _
  have hval : ∀ (j : Nat) t v, Try.f7.params[j]? = some t → args[j]? = some v → Value.okWide Try.prog W .any base t v := hval0
  refine law_step (P := Try.prog) (tb := 4) laidOut (by kernel_rfl) rfl Try.underlying4 rfl (fun ds hds => ?_) hW ?_
  · match ds, hds with
    | [d0, d1], _ => rfl
  · obtain ⟨p, q, hA0, _⟩ := hW
    have hA : DataW.TrodAll enc Try.prog W 0 (fun _ => true) true Try.f7.params.toList args.toList ds p := hA0
    rw [Try.params7] at hA hval
    obtain ⟨v0, vs0, d0, ds0, p0, q0, hargs, rfl, rfl, h0, r0⟩ := trodAll_cons hA
    obtain ⟨v1, vs1, d1, ds1, p1, q1, rfl, rfl, rfl, h1, r1⟩ := trodAll_cons r0
    obtain ⟨rfl, rfl, rfl⟩ := trodAll_nil r1
    obtain rfl : args = #[v0, v1] := by cases args; simp_all
    obtain ⟨l, hl, hm0⟩ := decV_u8s.run enc W base 0 _ _ v0 d0 p0 (hval 0 35 v0 rfl rfl) h0
    obtain ⟨s, hs, hm1⟩ := decV_ses.run enc W base 0 _ _ v1 d1 p1 (hval 1 47 v1 rfl rfl) h1
    rw [flat_yv] at hm0
    rw [sesE_cs] at hm1
    exact calls_of_spec (leaves_spec l (sesOf s) (fun x hx => u8_wf (hl.2 x hx)) hl.1 (sesOk_ok hs)) (Ms_cons.2 ⟨v0, _, rfl, hm0, Ms_cons.2 ⟨v1, [], rfl, hm1, rfl⟩⟩) (fun g => trivial)

theorem ratchetLeavesUpperBits_over : Rows.ratchetLeavesUpperBitsRow.holds Try.pinned (OpenSpec.ofChange Rows.ratchetLeavesUpperBitsSpec) :=
  OpenClaim.holds_of_wide 7 Try.f7 rfl rfl rfl rfl rfl rfl rfl ⟨rfl, rfl, rfl, rfl, rfl⟩ rfl rfl rfl rfl rfl (by kernel_rfl) Try.func7 (by kernel_rfl)
    (of_decide_eq_true (by kernel_rfl)) (by unfold Func.isWrapper; first | (rw [if_pos (by decide +kernel)]; kernel_rfl) | (rw [if_neg (by decide +kernel)]; exact ⟨rfl, rfl⟩))
    (fun os started H enc _ => ratchetLeavesUpperBits_lifted os started H enc)

/-- THE STATEMENT. -/
theorem ratchetLeavesUpperBits_holds : Rows.RatchetLeavesUpperBitsSaid := ratchetLeavesUpperBits_over
#print axioms ratchetLeavesUpperBits_holds
end Go.Proofs.Ytdnmnafadondkaa
