/- For every bank of cells, sound or not, Raise without faults ends with ErrWorn only if two cells of the bit with the reported index are stuck, and then the level is that index: the statement RatchetWornOnlyIfStuck. No condition. -/
import Derived.Test.YtdnmnafadondkaaL4
import Derived.Test.YtdnmnafadondkaaD1
set_option linter.unusedVariables false
set_option linter.unusedSimpArgs false
set_option maxRecDepth 100000
namespace Go.Proofs.Ytdnmnafadondkaa
open Go Go.RowKit Go.ChangeShapes Go.WideShapes Go.ChangeAt

theorem ratchetWornOnlyIfStuck_lifted (os : Os) (started : os.Started) (H : Type) (enc : TypeId × Value → H) :
    ReturnsInHanded {} Try.checked os 6 .any (Rows.ratchetWornOnlyIfStuckSpec.pre6 enc Try.prog Try.f6 Rows.ratchetWornOnlyIfStuckRow.domain false) (Rows.ratchetWornOnlyIfStuckSpec.post enc Try.prog Try.f6 false true false false) := by
  refine returnsInHanded_of_change (C := Try.checked) own started (by kernel_rfl) Try.func6
    (ChangeSpec.witness6 (enc := enc) (C := Try.checked) false ⟨#[], #[.slice none 0 0, .int .u8 0], []⟩ 8 (by kernel_rfl) (by kernel_rfl) (by kernel_rfl) (by kernel_rfl)) ?_
  intro W base args ds gs before hval0 hW _ _
  have hval : ∀ (j : Nat) t v, Try.f6.params[j]? = some t → args[j]? = some v → Value.okWide Try.prog W .any base t v := hval0
  refine law_step (P := Try.prog) (tb := 4) laidOut (by kernel_rfl) rfl Try.underlying4 rfl (fun ds hds => ?_) hW ?_
  · match ds, hds with
    | [d0, d1], _ => rfl
  · obtain ⟨p, q, hA0, _⟩ := hW
    have hA : DataW.TrodAll enc Try.prog W 0 (fun _ => true) true Try.f6.params.toList args.toList ds p := hA0
    rw [Try.params6] at hA hval
    obtain ⟨v0, vs0, d0, ds0, p0, q0, hargs, rfl, rfl, h0, r0⟩ := trodAll_cons hA
    obtain ⟨v1, vs1, d1, ds1, p1, q1, rfl, rfl, rfl, h1, r1⟩ := trodAll_cons r0
    obtain ⟨rfl, rfl, rfl⟩ := trodAll_nil r1
    obtain rfl : args = #[v0, v1] := by cases args; simp_all
    obtain ⟨l, hl, hm0⟩ := decV_u8s.run enc W base 0 _ _ v0 d0 p0 (hval 0 35 v0 rfl rfl) h0
    obtain ⟨t, ht, hm1⟩ := (decV_int Try.underlying5).run enc W base 0 _ _ v1 d1 p1 (hval 1 5 v1 rfl rfl) h1
    rw [flat_yv] at hm0
    exact calls_of_spec (worn_spec l t (fun x hx => u8_wf (hl.2 x hx)) hl.1 (u8_wf ht)) (Ms_cons.2 ⟨v0, _, rfl, hm0, Ms_cons.2 ⟨v1, [], rfl, hm1, rfl⟩⟩) (fun g => trivial)

theorem ratchetWornOnlyIfStuck_over : Rows.ratchetWornOnlyIfStuckRow.holds Try.pinned (OpenSpec.ofChange Rows.ratchetWornOnlyIfStuckSpec) :=
  OpenClaim.holds_of_wide 6 Try.f6 rfl rfl rfl rfl rfl rfl rfl ⟨rfl, rfl, rfl, rfl, rfl⟩ rfl rfl rfl rfl rfl (by kernel_rfl) Try.func6 (by kernel_rfl)
    (of_decide_eq_true (by kernel_rfl)) (by unfold Func.isWrapper; first | (rw [if_pos (by decide +kernel)]; kernel_rfl) | (rw [if_neg (by decide +kernel)]; exact ⟨rfl, rfl⟩))
    (fun os started H enc _ => ratchetWornOnlyIfStuck_lifted os started H enc)

/-- THE STATEMENT. -/
theorem ratchetWornOnlyIfStuck_holds : Rows.RatchetWornOnlyIfStuckSaid := ratchetWornOnlyIfStuck_over
#print axioms ratchetWornOnlyIfStuck_holds
end Go.Proofs.Ytdnmnafadondkaa
