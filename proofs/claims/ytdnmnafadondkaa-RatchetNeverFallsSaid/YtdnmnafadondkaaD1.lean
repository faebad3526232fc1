/- How the ratchet laws' arguments read. No condition. -/
import Derived.Test.YtdnmnafadondkaaTab
import Derived.Test.YtdnmnafadondkaaAw27
import Derived.Test.YtdnmnafadondkaaW17
import Derived.Test.YtdnmnafadondkaaRows
set_option linter.unusedVariables false
set_option linter.unusedSimpArgs false
set_option maxRecDepth 100000
namespace Go.Proofs.Ytdnmnafadondkaa
open Go Go.RowKit Go.ChangeShapes Go.WideShapes Go.ChangeAt

theorem own : ownKnob Try.prog.godebug = none := by kernel_rfl
theorem laidOut : laidOutB Try.prog = true := by kernel_rfl

theorem u8_wf {n : Int} (h : (Lit.int .u8 n).wf = true) : 0 ≤ n ∧ n < 256 := by
  simp only [Lit.wf, Bool.and_eq_true, decide_eq_true_eq] at h
  obtain ⟨h1, h2⟩ := h
  have e1 : IntKind.u8.min = 0 := rfl
  have e2 : IntKind.u8.max = 255 := rfl
  omega

theorem flat_yv (l : List Int) : (l.flatMap fun n => [yv n]) = l.map yv := by induction l with
  | nil => rfl
  | cons x l ih => simp [ih]

theorem dec_res : Dec Try.prog 79 (Int × ByteArray × Unit) (fun p => [iv p.1] ++ ([sv p.2.1] ++ [])) (fun p => (Lit.int .i64 p.1).wf = true ∧ p.2.1.size ≤ maxLen ∧ True) :=
  dec_struct Try.underlying79 (by kernel_rfl) (decF_cons 1 (dec_int Try.underlying3) rfl (by kernel_rfl) (decF_cons 1 (dec_str Try.underlying9) rfl (by kernel_rfl) decF_nil))

theorem dec_u8s : Dec Try.prog 35 (List Int) (fun l => [.ds true l.length (l.flatMap fun n => [yv n])]) (fun l => l.length ≤ maxLen ∧ ∀ n ∈ l, (Lit.int .u8 n).wf = true) :=
  dec_slice Try.underlying35 (dec_int Try.underlying5) (z := 1) (by kernel_rfl) (by decide)

theorem decV_u8s : DecV Try.prog 35 (List Int) (fun l => .ds true l.length (l.flatMap fun n => [yv n])) (fun l => l.length ≤ maxLen ∧ ∀ n ∈ l, (Lit.int .u8 n).wf = true) :=
  decV_slice Try.underlying35 (dec_int Try.underlying5) (z := 1) (by kernel_rfl) (by decide)

theorem dec_ress : Dec Try.prog 22 (List (Int × ByteArray × Unit)) (fun l => [.ds true l.length (l.flatMap fun p => [iv p.1] ++ ([sv p.2.1] ++ []))]) (fun l => l.length ≤ maxLen ∧ ∀ p ∈ l, (Lit.int .i64 p.1).wf = true ∧ p.2.1.size ≤ maxLen ∧ True) :=
  dec_slice Try.underlying22 dec_res (z := 2) (by kernel_rfl) (by decide)

/-- A log that came in. -/
theorem log_of (l : List (Int × ByteArray × Unit)) : (l.flatMap fun p => [iv p.1] ++ ([sv p.2.1] ++ [])) = logC (l.map fun p => ⟨p.1, p.2.1⟩) := by
  unfold logC
  rw [List.flatMap_map]
  rfl
end Go.Proofs.Ytdnmnafadondkaa
