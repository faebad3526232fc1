/- For every bank, number of bits and target and every log of at most 200 results, Level and Raise return what the specification says: the statement RatchetMatchesSpec. No condition. -/
import Derived.Test.YtdnmnafadondkaaL1
import Derived.Test.YtdnmnafadondkaaD1
set_option linter.unusedVariables false
set_option linter.unusedSimpArgs false
set_option maxRecDepth 100000
namespace Go.Proofs.Ytdnmnafadondkaa
open Go Go.RowKit Go.ChangeShapes Go.WideShapes Go.ChangeAt

set_option linter.defProp false in
def dec_in1 :=
  decV_struct Try.underlying24 (by kernel_rfl) (decF_cons 1 (dec_int Try.underlying3) rfl (by kernel_rfl) (decF_cons 1 (dec_int Try.underlying3) rfl (by kernel_rfl) (decF_cons 1 (dec_int Try.underlying3) rfl (by kernel_rfl) (decF_cons 1 dec_ress rfl (by kernel_rfl) decF_nil))))

theorem lifted1 (os : Os) (started : os.Started) (H : Type) (enc : TypeId × Value → H) :
    ReturnsInHanded {} Try.checked os 3 .any (Rows.ratchetMatchesSpecSpec.pre6 enc Try.prog Try.f3 Rows.ratchetMatchesSpecRow.domain false) (Rows.ratchetMatchesSpecSpec.post enc Try.prog Try.f3 false true false false) := by
  refine returnsInHanded_of_change (C := Try.checked) own started (by kernel_rfl) Try.func3
    (ChangeSpec.witness6 (enc := enc) (C := Try.checked) false ⟨#[], #[.agg #[.int .i64 0, .int .i64 0, .int .i64 0, .slice none 0 0]], []⟩ 8 (by kernel_rfl) (by kernel_rfl) (by kernel_rfl) (by kernel_rfl)) ?_
  intro W base args ds gs before hval0 hW _ _
  have hval : ∀ (j : Nat) t v, Try.f3.params[j]? = some t → args[j]? = some v → Value.okWide Try.prog W .any base t v := hval0
  refine law_step (P := Try.prog) (tb := 4) laidOut (by kernel_rfl) rfl Try.underlying4 rfl (fun ds hds => ?_) hW ?_
  · match ds, hds with
    | [d], _ => rfl
  · obtain ⟨p, q, hA0, _⟩ := hW
    have hA : DataW.TrodAll enc Try.prog W 0 (fun _ => true) true Try.f3.params.toList args.toList ds p := hA0
    rw [Try.params3] at hA hval
    obtain ⟨v0, vs0, d0, ds0, p0, q0, hargs, rfl, rfl, h0, r0⟩ := trodAll_cons hA
    obtain ⟨rfl, rfl, rfl⟩ := trodAll_nil r0
    obtain rfl : args = #[v0] := by cases args; simp_all
    obtain ⟨⟨bank, bits, target, l, u⟩, hok, hm⟩ := dec_in1.run enc W base 0 _ _ v0 d0 p0 (hval 0 24 v0 rfl rfl) h0
    refine calls_of_spec (matches_spec bank bits target (l.map fun p => ⟨p.1, p.2.1⟩)) (Ms_cons.2 ⟨v0, [], rfl, ?_, rfl⟩) (fun g => trivial)
    simp only [log_of] at hm
    simpa using hm

theorem over1 : Rows.ratchetMatchesSpecRow.holds Try.pinned (OpenSpec.ofChange Rows.ratchetMatchesSpecSpec) :=
  OpenClaim.holds_of_wide 3 Try.f3 rfl rfl rfl rfl rfl rfl rfl ⟨rfl, rfl, rfl, rfl, rfl⟩ rfl rfl rfl rfl rfl (by kernel_rfl) Try.func3 (by kernel_rfl)
    (of_decide_eq_true (by kernel_rfl)) (by unfold Func.isWrapper; first | (rw [if_pos (by decide +kernel)]; kernel_rfl) | (rw [if_neg (by decide +kernel)]; exact ⟨rfl, rfl⟩))
    (fun os started H enc _ => lifted1 os started H enc)

/-- THE STATEMENT. -/
theorem ratchetMatchesSpec_holds : Rows.RatchetMatchesSpecSaid := over1
#print axioms ratchetMatchesSpec_holds
end Go.Proofs.Ytdnmnafadondkaa
