/- Calls in a region whose order is drawn, in the form of use. No condition. -/
import Derived.Test.YtdnmnafadondkaaAw25
set_option linter.unusedVariables false
set_option linter.unusedSimpArgs false
namespace Go.Proofs.Ytdnmnafadondkaa
open Go Go.RowKit

section
variable {P : Program} {X : Nat → Prop} {w0 : World} {E0 : Env} {T : TypeId → Option TI} {eqt : List TypeId}

theorem DL_rest (hT : Tab P T eqt) {ops : Array Oper} {ms : List (List Nat)} {n0 N i : Nat} {acc : List (Nat × Foot)} {l : List Oper} {σ : St} {Q : St → Prop} (hN : N = n0 + 8 * ops.size)
    (h : ∀ D K, (∀ σ', Q σ' → D σ') → (∀ i acc l σ', DL P X w0 E0 ops ms n0 N Q i acc l σ' → K i acc l σ') → runD T eqt ops ms n0 N D K i acc l σ) : DL P X w0 E0 ops ms n0 N Q i acc l σ :=
  DL_run hT hN (fun _ h => h) (fun _ _ _ _ h => h) l i acc σ (h Q _ (fun _ h => h) (fun _ _ _ _ h => h))

/-- A call that only computes. -/
theorem DL_callP {ops : Array Oper} {ms : List (List Nat)} {n0 N i : Nat} (hN : N = n0 + 8 * ops.size) {acc : List (Nat × Foot)} {o : Oper} {l : List Oper} {σ : St} {Q : St → Prop} {f : Operand} {fargs : Array Operand} {fty : Array TypeId} {K : FuncId} {caps : List AV} {args' : List AV} {x : AV}
    (ho : o.op = .call ⟨.value f, fargs, fty⟩) (hgd : o.guard = none) (hd : dstOk σ o.dst = true) (hf : σ.ev f = .clo K caps) (hen : Enters P K) (hspec : Spec P [] K args' [] (fun out => out = .ret x [] []))
    (lb : List Nat) (hargs : (evs σ fargs.toList ++ caps).map (lendA (lentBx lb σ)) = AVs.map (ioMap N []) args')
    (hlb : ∀ k ∈ lb, (blook k σ.bx).isSome) (hk : (lb.isEmpty || x.kept) = true) (hx : x.map (gMap (n0 + 8 * i) []) = x) (hfine : fine ms i ([], lb) acc = true)
    (h : DL P X w0 E0 ops ms n0 N Q (i + 1) (addFoot i ([], lb) acc) l { σ with nx := N, tm := tput o.dst x σ.tm }) : DL P X w0 E0 ops ms n0 N Q i acc (o :: l) σ := by
  refine DL_call hN ho hgd hd hf hen hspec (fun out h => h) [] lb rfl rfl List.nodup_nil (by simp) hargs (by simp) (fun k hk => ⟨hlb k hk, by simp⟩) (by simp) (by simpa [keptAll] using hk) (by simp) (by simpa [newIo] using hfine) ?_
  simp only [St.behindB, zipIo, newIo, List.nil_append, List.map_nil, hx]
  exact h
end
end Go.Proofs.Ytdnmnafadondkaa
