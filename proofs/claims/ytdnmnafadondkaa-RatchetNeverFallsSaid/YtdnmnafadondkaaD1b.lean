/- How the ratchet laws' sessions read. No condition. -/
import Derived.Test.YtdnmnafadondkaaD1
set_option linter.unusedVariables false
set_option linter.unusedSimpArgs false
set_option maxRecDepth 100000
namespace Go.Proofs.Ytdnmnafadondkaa
open Go Go.RowKit Go.ChangeShapes Go.WideShapes Go.ChangeAt

abbrev SesD : Type := Bool × Int × List Int × Unit
def sesE (p : SesD) : List AV := [bv p.1] ++ ([yv p.2.1] ++ ([.ds true p.2.2.1.length (p.2.2.1.flatMap fun n => [yv n])] ++ []))
def sesOk (p : SesD) : Prop := True ∧ (Lit.int .u8 p.2.1).wf = true ∧ (p.2.2.1.length ≤ maxLen ∧ ∀ n ∈ p.2.2.1, (Lit.int .u8 n).wf = true) ∧ True
def sesOf (p : SesD) : Ses := ⟨p.1, p.2.1, p.2.2.1⟩

set_option linter.defProp false in
def dec_ses0 := dec_struct Try.underlying47 (by kernel_rfl) (decF_cons 1 (dec_bool Try.underlying4) rfl (by kernel_rfl) (decF_cons 1 (dec_int Try.underlying5) rfl (by kernel_rfl) (decF_cons 1 dec_u8s rfl (by kernel_rfl) decF_nil)))
set_option linter.defProp false in
def decV_ses0 := decV_struct Try.underlying47 (by kernel_rfl) (decF_cons 1 (dec_bool Try.underlying4) rfl (by kernel_rfl) (decF_cons 1 (dec_int Try.underlying5) rfl (by kernel_rfl) (decF_cons 1 dec_u8s rfl (by kernel_rfl) decF_nil)))
theorem dec_ses : Dec Try.prog 47 SesD sesE sesOk := dec_ses0
theorem decV_ses : DecV Try.prog 47 SesD (fun p => .agg (sesE p)) sesOk := decV_ses0
theorem decV_sess : DecV Try.prog 36 (List SesD) (fun l => .ds true l.length (l.flatMap sesE)) (fun l => l.length ≤ maxLen ∧ ∀ p ∈ l, sesOk p) := decV_slice Try.underlying36 dec_ses (z := 3) (by kernel_rfl) (by decide)

theorem sesE_cs (p : SesD) : sesE p = (sesOf p).cs := by simp [sesE, sesOf, Ses.cs, flat_yv]
theorem sesOk_ok {p : SesD} (h : sesOk p) : (sesOf p).ok := ⟨(u8_wf h.2.1).1, (u8_wf h.2.1).2, fun x hx => u8_wf (h.2.2.1.2 x hx)⟩
end Go.Proofs.Ytdnmnafadondkaa
