/- For every bank of sound cells and every sequence of at most 8 sessions with power cuts and noisy reads, each session that ends reports at least the greatest level that an earlier session reported, and from then on the bank reads at least that level even in the worst case: the statement RatchetNeverFalls. No condition. -/
import Derived.Test.YtdnmnafadondkaaL2
import Derived.Test.YtdnmnafadondkaaD1b
set_option linter.unusedVariables false
set_option linter.unusedSimpArgs false
set_option maxRecDepth 100000
namespace Go.Proofs.Ytdnmnafadondkaa
open Go Go.RowKit Go.ChangeShapes Go.WideShapes Go.ChangeAt

theorem ratchetNeverFalls_lifted (os : Os) (started : os.Started) (H : Type) (enc : TypeId × Value → H) :
    ReturnsInHanded {} Try.checked os 4 .any (Rows.ratchetNeverFallsSpec.pre6 enc Try.prog Try.f4 Rows.ratchetNeverFallsRow.domain false) (Rows.ratchetNeverFallsSpec.post enc Try.prog Try.f4 false true false false) := by
  refine returnsInHanded_of_change (C := Try.checked) own started (by kernel_rfl) Try.func4
    (ChangeSpec.witness6 (enc := enc) (C := Try.checked) false ⟨#[], #[.slice none 0 0, .slice none 0 0], []⟩ 8 (by kernel_rfl) (by kernel_rfl) (by kernel_rfl) (by kernel_rfl)) ?_
  intro W base args ds gs before hval0 hW _ _
  have hval : ∀ (j : Nat) t v, Try.f4.params[j]? = some t → args[j]? = some v → Value.okWide Try.prog W .any base t v := hval0
  refine law_step (P := Try.prog) (tb := 4) laidOut (by kernel_rfl) rfl Try.underlying4 rfl (fun ds hds => ?_) hW ?_
  · match ds, hds with
    | [d0, d1], _ => rfl
  · obtain ⟨p, q, hA0, _⟩ := hW
    have hA : DataW.TrodAll enc Try.prog W 0 (fun _ => true) true Try.f4.params.toList args.toList ds p := hA0
    rw [Try.params4] at hA hval
    obtain ⟨v0, vs0, d0, ds0, p0, q0, hargs, rfl, rfl, h0, r0⟩ := trodAll_cons hA
    obtain ⟨v1, vs1, d1, ds1, p1, q1, rfl, rfl, rfl, h1, r1⟩ := trodAll_cons r0
    obtain ⟨rfl, rfl, rfl⟩ := trodAll_nil r1
    obtain rfl : args = #[v0, v1] := by cases args; simp_all
    obtain ⟨l, hl, hm0⟩ := decV_u8s.run enc W base 0 _ _ v0 d0 p0 (hval 0 35 v0 rfl rfl) h0
    obtain ⟨ss, hss, hm1⟩ := decV_sess.run enc W base 0 _ _ v1 d1 p1 (hval 1 36 v1 rfl rfl) h1
    rw [flat_yv] at hm0
    refine calls_of_spec (never_spec l (ss.map sesOf) (fun x hx => u8_wf (hl.2 x hx)) hl.1 (by simpa using hss.1) (fun s hs => ?_)) (Ms_cons.2 ⟨v0, _, rfl, hm0, Ms_cons.2 ⟨v1, [], rfl, ?_, rfl⟩⟩) (fun g => trivial)
    · obtain ⟨p, hp, rfl⟩ := List.mem_map.1 hs
      exact sesOk_ok (hss.2 p hp)
    · have e : sesC (ss.map sesOf) = ss.flatMap sesE := by
        unfold sesC
        rw [List.flatMap_map]
        congr 1; funext p; exact (sesE_cs p).symm
      rw [e, List.length_map]
      exact hm1

theorem ratchetNeverFalls_over : Rows.ratchetNeverFallsRow.holds Try.pinned (OpenSpec.ofChange Rows.ratchetNeverFallsSpec) :=
  OpenClaim.holds_of_wide 4 Try.f4 rfl rfl rfl rfl rfl rfl rfl ⟨rfl, rfl, rfl, rfl, rfl⟩ rfl rfl rfl rfl rfl (by kernel_rfl) Try.func4 (by kernel_rfl)
    (of_decide_eq_true (by kernel_rfl)) (by unfold Func.isWrapper; first | (rw [if_pos (by decide +kernel)]; kernel_rfl) | (rw [if_neg (by decide +kernel)]; exact ⟨rfl, rfl⟩))
    (fun os started H enc _ => ratchetNeverFalls_lifted os started H enc)

/-- THE STATEMENT. -/
theorem ratchetNeverFalls_holds : Rows.RatchetNeverFallsSaid := ratchetNeverFalls_over
#print axioms ratchetNeverFalls_holds
end Go.Proofs.Ytdnmnafadondkaa
