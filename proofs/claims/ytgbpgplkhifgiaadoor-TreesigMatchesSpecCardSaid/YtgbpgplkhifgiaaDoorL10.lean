/- For every seed, height, index and message, Root and Sign return what the specification says: the statement TreesigMatchesSpec. No condition. -/
import Derived.Test.YtgbpgplkhifgiaaDoorMD
import Derived.Test.YtgbpgplkhifgiaaDoorMH
set_option linter.unusedVariables false
set_option linter.unusedSimpArgs false
set_option maxRecDepth 100000
namespace Go.Proofs.YtgbpgplkhifgiaaDoor
open Go Go.RowKit Go.ChangeShapes Go.WideShapes Go.ChangeAt

theorem decV_b : DecV Tryd.prog 5 UInt8 (fun b => bw b) (fun _ => True) :=
  decV_of dec_b fun W base v h => by obtain ⟨n, rfl⟩ := okWide_int Tryd.underlying5 h; rfl
theorem decV_dig : DecV Tryd.prog 23 (List UInt8) (fun d => .agg (d.map bw)) (fun d => d.length = 16) :=
  decV_agg dec_dig fun W base v h => by
    unfold Value.okWide at h
    rw [Tryd.underlying23] at h
    obtain ⟨cs, h1, _⟩ := h
    exact ⟨cs, h1⟩

/-- A list of digests that comes in. -/
theorem flat_fl (l : List (List UInt8)) : (l.flatMap fun d => d.map bw) = fl l := by
  unfold fl
  rw [List.map_flatten]
  rfl
theorem dec_digs : Dec Tryd.prog 43 (List (List UInt8)) (fun l => [.ds true l.length (fl l)]) (fun l => l.length ≤ maxLen ∧ All16 l) :=
  (dec_slice Tryd.underlying43 dec_dig (z := 16) (by kernel_rfl) (by decide)).conv id (fun l h => ⟨⟨h.1, h.2⟩, by rw [← flat_fl]; rfl⟩)

/-- A signature that comes in. -/
theorem dec_sig : Dec Tryd.prog 45 (Int × List (List UInt8) × List (List UInt8) × Unit) (fun s => [iv s.1] ++ ([.ds true s.2.1.length (fl s.2.1)] ++ ([.ds true s.2.2.1.length (fl s.2.2.1)] ++ [])))
    (fun s => (Lit.int .i64 s.1).wf = true ∧ (s.2.1.length ≤ maxLen ∧ All16 s.2.1) ∧ (s.2.2.1.length ≤ maxLen ∧ All16 s.2.2.1) ∧ True) :=
  by
  have h := dec_struct Tryd.underlying45 (by kernel_rfl) (decF_cons 1 (dec_int Tryd.underlying3) rfl (by kernel_rfl) (decF_cons 1 dec_digs rfl (by kernel_rfl) (decF_cons 1 dec_digs rfl (by kernel_rfl) decF_nil)))
  exact h

end Go.Proofs.YtgbpgplkhifgiaaDoor

set_option linter.unusedVariables false
set_option linter.unusedSimpArgs false
set_option maxRecDepth 100000
namespace Go.Proofs.YtgbpgplkhifgiaaDoor
open Go Go.RowKit Go.ChangeShapes Go.WideShapes Go.ChangeAt

set_option linter.defProp false in
def dec_in10 :=
  decV_struct Tryd.underlying53 (by kernel_rfl) (decF_cons 16 dec_dig rfl (by kernel_rfl) (decF_cons 1 (dec_int Tryd.underlying3) rfl (by kernel_rfl) (decF_cons 1 (dec_int Tryd.underlying3) rfl (by kernel_rfl) (decF_cons 16 dec_dig rfl (by kernel_rfl) decF_nil))))

theorem lifted10 (os : Os) (started : os.Started) (H : Type) (enc : TypeId × Value → H) :
    ReturnsInHanded {} Tryd.checked os 4 .any (fun w args => (Rows.treesigMatchesSpecSpec.pre enc Tryd.prog Tryd.f4 [] false w args ∧ laidMetH Tryd.prog laidL w) ∧ sizedMet enc Tryd.prog Tryd.f4 (OpenSpec.ofChange Rows.treesigMatchesSpecSpec) false w args)
      (Rows.treesigMatchesSpecSpec.post enc Tryd.prog Tryd.f4 false true false false) := by
  refine returnsInHanded_of_change_and (C := Tryd.checked) (X := fun w _ => laidMetH Tryd.prog laidL w) (fun _ _ _ hh h => h.of_heap hh) own started (by kernel_rfl) Tryd.func4
    (ChangeSpec.witness_shaped (enc := enc) (C := Tryd.checked) (os := os) (X := fun w _ => laidMetH Tryd.prog laidL w) false (World.doorLaid Tryd.prog 400 os) #[.agg #[.int .u8 0, .int .u8 0, .int .u8 0, .int .u8 0, .int .u8 0, .int .u8 0, .int .u8 0, .int .u8 0, .int .u8 0, .int .u8 0, .int .u8 0, .int .u8 0, .int .u8 0, .int .u8 0, .int .u8 0, .int .u8 0, .int .i64 0, .int .i64 0, .int .u8 0, .int .u8 0, .int .u8 0, .int .u8 0, .int .u8 0, .int .u8 0, .int .u8 0, .int .u8 0, .int .u8 0, .int .u8 0, .int .u8 0, .int .u8 0, .int .u8 0, .int .u8 0, .int .u8 0, .int .u8 0]] 8 rfl (World.shaped_of_RefB (by kernel_rfl) (by kernel_rfl)) (by kernel_rfl) (by kernel_rfl) (by kernel_rfl) (door_met os _)) ?_
  intro W base args ds gs before hval0 hW _ _ hL _
  have hval : ∀ (j : Nat) t v, Tryd.f4.params[j]? = some t → args[j]? = some v → Value.okWide Tryd.prog W .any base t v := hval0
  refine law_step (P := Tryd.prog) (tb := 4) laidOut (by kernel_rfl) rfl Tryd.underlying4 rfl (fun ds hds => ?_) hW ?_
  · match ds, hds with
    | [d], _ => rfl
  · obtain ⟨p, q, hA0, _⟩ := hW
    have hA : DataW.TrodAll enc Tryd.prog W 0 (fun _ => true) true Tryd.f4.params.toList args.toList ds p := hA0
    rw [Tryd.params4] at hA hval
    obtain ⟨v0, vs0, d0, ds0, p0, q0, hargs, rfl, rfl, h0, r0⟩ := trodAll_cons hA
    obtain ⟨rfl, rfl, rfl⟩ := trodAll_nil r0
    obtain rfl : args = #[v0] := by cases args; simp_all
    obtain ⟨⟨seed, hh, ii, m, u⟩, hok, hm⟩ := dec_in10.run enc W base 0 _ _ v0 d0 p0 (hval 0 53 v0 rfl rfl) h0
    obtain ⟨h1, h2, h3, h4, _⟩ := hok
    refine calls_of_spec (match_spec seed m hh ii h1 h4) (Ms_cons.2 ⟨v0, [], rfl, ?_, rfl⟩) (gl_of_laid hL)
    simpa using hm

theorem over10 : Rows.treesigMatchesSpecRow.holds Tryd.pinned (OpenSpec.ofChange Rows.treesigMatchesSpecSpec) :=
  OpenClaim.holds_of_wide 4 Tryd.f4 rfl rfl rfl rfl rfl rfl rfl ⟨rfl, rfl, rfl, rfl, rfl⟩ rfl rfl rfl rfl rfl (by kernel_rfl) Tryd.func4 (by kernel_rfl)
    (of_decide_eq_true (by kernel_rfl)) (by unfold Func.isWrapper; first | (rw [if_pos (by decide +kernel)]; kernel_rfl) | (rw [if_neg (by decide +kernel)]; exact ⟨rfl, rfl⟩))
    (fun os started H enc _ => lifted10 os started H enc)

/-- THE STATEMENT. -/
theorem treesigMatchesSpec_holds : Rows.TreesigMatchesSpecCardSaid :=
  Claim7.holds_tied_plain_at .later [] [.data, .data] true (true, "1f7228ecc30db96422f7eff86bcd234cff7766a2089915b410f6763b33ffab23") true
    over10 (fun _ h => by cases h) (by kernel_rfl) (fun _ h => by cases h) treesigMatchesSpec_row_tie rfl ⟨rfl, rfl⟩ (by kernel_rfl) rfl
    (fun f fn hf hfn => by
      obtain rfl : f = 4 := Option.some.inj ((show Tryd.prog.funcNamed "bootchain/bootchainlaw05.TreesigMatchesSpec" = some 4 by kernel_rfl).symm.trans hf) |>.symm
      obtain rfl : fn = Tryd.f4 := (Option.some.inj (Tryd.func4.symm.trans hfn)).symm
      exact ⟨by kernel_rfl, fun j t ht => by
        rw [Tryd.params4] at ht
        have hm : t ∈ [53] := by simpa using Array.mem_of_getElem? ht
        have hall : ([53].all fun u => !Tryd.prog.wantsStandIn u) = true := by kernel_rfl
        exact (show Tryd.prog.wantsStandIn t = false by simpa using List.all_eq_true.1 hall t hm)⟩)
    (by kernel_rfl)
#print axioms treesigMatchesSpec_holds
end Go.Proofs.YtgbpgplkhifgiaaDoor
