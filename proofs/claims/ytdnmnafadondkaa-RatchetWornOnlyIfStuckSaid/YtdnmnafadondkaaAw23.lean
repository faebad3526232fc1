/- Boxes that are only read from here on; calls whose contracts say one thing. No condition. -/
import Derived.Test.YtdnmnafadondkaaAw22
set_option linter.unusedVariables false
set_option linter.unusedSimpArgs false
namespace Go.Proofs.Ytdnmnafadondkaa
open Go Go.RowKit

mutual
def frz (k : Nat) (cs : List AV) : AV → AV
  | .sl j off n z gr => if j = k then .ds true n ((cs.drop off).take (n * z)) else .sl j off n z gr
  | .ptr j off => if j = k then .dp true (cs.drop off) else .ptr j off
  | .ds b n l => .ds b n (frzs k cs l)
  | .dp b l => .dp b (frzs k cs l)
  | .agg l => .agg (frzs k cs l)
  | .tup l => .tup (frzs k cs l)
  | .clo f l => .clo f (frzs k cs l)
  | .ifc t x => .ifc t (frz k cs x)
  | .any => .any
  | .val v => .val v
def frzs (k : Nat) (cs : List AV) : List AV → List AV
  | [] => []
  | x :: l => frz k cs x :: frzs k cs l
end

def Env.frz (E : Env) (k : Nat) : Env := { E with S := fun g => E.S g ∨ E.bl k = some g }

def St.freeze (σ : St) (k : Nat) (cs : List AV) : St :=
  { σ with tm := σ.tm.map fun p => (p.1, frz k cs p.2), bx := (k, none) :: σ.bx.map fun p => (p.1, p.2.map (frzs k cs)) }

section
variable {P : Program} {X : Nat → Prop} {w0 : World} {E0 : Env} {T : TypeId → Option TI} {eqt : List TypeId}

theorem Stays.frz {w : World} {E : Env} {k : Nat} : Stays w E w (E.frz k) := ⟨fun _ _ h => h, fun _ h => h, fun _ h => .inl h, fun _ h => h, fun _ _ h => h, fun _ _ => rfl⟩

mutual
theorem M.frz {w : World} {E : Env} {k : Nat} {cs : List AV} (hb : boxAt w E k cs) (hp : E.ph k → E.bl k = none) : ∀ (x : AV) (v : Value), M w E x v → M w (E.frz k) (frz k cs x) v
  | .any, _, _ => trivial
  | .val _, _, hm => hm
  | .ptr j off, v, hm => by
    simp only [Go.Proofs.Ytdnmnafadondkaa.frz]
    split
    · rename_i h
      subst h
      obtain ⟨g, hg, rfl⟩ := hm
      rcases hb with ⟨h1, _⟩ | ⟨g', c, ty, vs, h1, h2, h3, h4, h5⟩
      · rw [hp h1] at hg; simp at hg
      · obtain rfl : g = g' := by rw [hg] at h1; simpa using h1
        refine ⟨g, off, vs.drop off, rfl, .inl (.inr hg), ⟨c, ty, _, h2, fun i hi => ?_⟩, Ms.stays Stays.frz _ _ (h5.drop off)⟩
        simp at hi
        rw [h4 (off + i) (by omega), List.getElem?_drop]
    · exact M.stays Stays.frz _ _ hm
  | .sl j off n z gr, v, hm => by
    simp only [Go.Proofs.Ytdnmnafadondkaa.frz]
    split
    · rename_i h
      subst h
      rcases hm with ⟨_, _, rfl, _, rfl⟩ | ⟨_, rfl, a, cap, rfl⟩ | ⟨g, cap, ty, sz, hg, rfl, hc, hr, _, _⟩
      · exact .inl ⟨rfl, by simp, none, 0, rfl⟩
      · exact .inl ⟨rfl, by simp, a, cap, rfl⟩
      · rcases hb with ⟨h1, _⟩ | ⟨g', c, ty', vs, h1, h2, h3, h4, h5⟩
        · rw [hp h1] at hg; simp at hg
        · obtain rfl : g = g' := by rw [hg] at h1; simpa using h1
          refine .inr ⟨g, off, cap, (vs.drop off).take (n * z), rfl, hc, .inl (.inr hg), ⟨c, ty', _, h2, fun i hi => ?_⟩, Ms.stays Stays.frz _ _ ((h5.drop off).take _)⟩
          simp at hi
          rw [h4 (off + i) (by omega), List.getElem?_take, if_pos (by omega), List.getElem?_drop]
    · exact M.stays Stays.frz _ _ hm
  | .ds b n l, v, hm => by
    rcases hm with ⟨h1, h2, h3⟩ | ⟨g, off, cap, vs, h1, h2, h3, h4, h5⟩
    · subst h2; exact .inl ⟨h1, rfl, h3⟩
    · exact .inr ⟨g, off, cap, vs, h1, h2, h3.imp .inl id, h4, Ms.frz hb hp l vs h5⟩
  | .dp b l, v, hm => by
    obtain ⟨g, off, vs, h1, h3, h4, h5⟩ := hm
    exact ⟨g, off, vs, h1, h3.imp .inl id, h4, Ms.frz hb hp l vs h5⟩
  | .agg l, v, ⟨vs, h1, h2⟩ => ⟨vs, h1, Ms.frz hb hp l vs h2⟩
  | .tup l, v, ⟨vs, h1, h2⟩ => ⟨vs, h1, Ms.frz hb hp l vs h2⟩
  | .clo _ l, v, ⟨vs, h1, h2⟩ => ⟨vs, h1, Ms.frz hb hp l vs h2⟩
  | .ifc _ x, v, ⟨u, h1, h2⟩ => ⟨u, h1, M.frz hb hp x u h2⟩
theorem Ms.frz {w : World} {E : Env} {k : Nat} {cs : List AV} (hb : boxAt w E k cs) (hp : E.ph k → E.bl k = none) : ∀ (l : List AV) (vs : List Value), Ms w E l vs → Ms w (E.frz k) (frzs k cs l) vs
  | [], _, hm => hm
  | x :: l, _, ⟨v, vs', h1, h2, h3⟩ => ⟨v, vs', h1, M.frz hb hp x v h2, Ms.frz hb hp l vs' h3⟩
end

theorem alook_mapf {f : AV → AV} (hf : f .any = .any) {q : Nat} : ∀ {l : List (Nat × AV)}, alook q (l.map fun p => (p.1, f p.2)) = f (alook q l)
  | [] => by simp [alook, hf]
  | (s, x) :: l => by
    simp only [List.map_cons, alook]
    split
    · rfl
    · exact alook_mapf hf

theorem blook_mapf {f : List AV → List AV} {q : Nat} : ∀ {l : List (Nat × Option (List AV))}, blook q (l.map fun p => (p.1, p.2.map f)) = (blook q l).map f
  | [] => by simp [blook]
  | (s, x) :: l => by
    simp only [List.map_cons, blook]
    split
    · rfl
    · exact blook_mapf

/-- From here on box k is only read, and may be kept. -/
theorem AW_freeze (k : Nat) {cs : List AV} {c : Code} {σ : St} {Q : Exit → St → Prop} (hX : ∀ g, ¬ X g) (hk : blook k σ.bx = some cs) (h : AW P X w0 E0 c (σ.freeze k cs) Q) : AW P X w0 E0 c σ Q := by
  intro E a w hg hs
  have hb := hs.bx k cs hk
  have live : (blook k σ.bx).isSome := by rw [hk]; rfl
  have bk : ∀ k', blook k' (σ.freeze k cs).bx = if k' = k then none else (blook k' σ.bx).map (frzs k cs) := by
    intro k'
    simp only [St.freeze, blook]
    split
    · rfl
    · exact blook_mapf
  have olive : ∀ k', (blook k' (σ.freeze k cs).bx).isSome → k' ≠ k ∧ (blook k' σ.bx).isSome := by
    intro k' h'
    rw [bk] at h'
    split at h'
    · simp at h'
    · rename_i hne; exact ⟨hne, by simpa using h'⟩
  refine h (E.frz k) a w (hg.trans ⟨fun _ _ h => h, fun _ h => h, fun _ h => .inl h, fun _ => Iff.rfl, fun g hg' => ?_⟩) ⟨hs.nt, fun t => ?_, fun g => M.stays Stays.frz _ _ (hs.gl g), fun k' cs' hk' => ?_, fun k' g h1 h2 => ?_, fun k1 k2 g h1 h2 => ?_, fun g hg' => ?_, hs.keep, hs.rw, hs.fr, hs.px, Md.stays Stays.frz hs.df⟩
  · rcases hg' with h1 | h1
    · exact .inl h1
    · exact .inr ((hs.own k g live h1).2.2.resolve_right (hX g))
  · have := M.frz hb (hs.px k) _ _ (hs.tm t)
    rw [← alook_mapf (f := frz k cs) rfl] at this
    exact this
  · rw [bk] at hk'
    split at hk'
    · simp at hk'
    · simp only [Option.map_eq_some_iff] at hk'
      obtain ⟨cs0, h0, rfl⟩ := hk'
      rcases hs.bx k' cs0 h0 with ⟨h1, rfl⟩ | ⟨g, c, ty, vs, h1, h2, h3, h4, h5⟩
      · exact .inl ⟨h1, rfl⟩
      · exact .inr ⟨g, c, ty, vs, h1, h2, h3, h4, Ms.frz hb (hs.px k) _ _ h5⟩
  · obtain ⟨hne, hl⟩ := olive k' h1
    obtain ⟨o1, o2, o3⟩ := hs.own k' g hl h2
    refine ⟨fun hS => ?_, o2, o3⟩
    rcases hS with h3 | h3
    · exact o1 h3
    · exact hne (hs.inj k' k g hl live h2 h3)
  · exact hs.inj k1 k2 g (olive k1 h1).2 (olive k2 h2).2
  · rcases hg' with (h1 | h1) | h1
    · exact hs.lim g (.inl h1)
    · exact hs.live_lt live h1
    · exact hs.lim g (.inr h1)

/-- A call whose contract says one thing. -/
theorem AL_callD {ops : Array Oper} {o : Oper} {l : List Oper} {σ : St} {Q : Exit → St → Prop} {f : Operand} {fargs : Array Operand} {fty : Array TypeId} {K : FuncId} {caps : List AV} {args' : List AV} {io io' nb : List (List AV)} {x : AV}
    (ho : o.op = .call ⟨.value f, fargs, fty⟩) (hgd : o.guard = none) (hd : dstOk σ o.dst = true) (hf : σ.ev f = .clo K caps) (hen : Enters P K) (hspec : Spec P [] K args' io (fun out => out = .ret x io' nb))
    (ios lb : List Nat) (hlen : ios.length = io.length) (hnd : ios.Nodup) (hne : ∀ cs ∈ io, cs ≠ [])
    (hargs : (evs σ fargs.toList ++ caps).map (lendA (lentBx lb σ)) = AVs.map (ioMap σ.nx ios) args')
    (hio : ∀ (j k : Nat) (cs : List AV), ios[j]? = some k → io[j]? = some cs → blook k σ.bx = some (AVs.map (ioMap σ.nx ios) cs))
    (hlb : ∀ k ∈ lb, (blook k σ.bx).isSome ∧ k ∉ ios) (hk : (lb.isEmpty || keptAll x io' nb) = true) (hn : nb.length ≤ 8)
    (h : AL P X w0 E0 ops l (σ.behind (tput o.dst (x.map (gMap σ.nx ios)) σ.tm) ios io' nb) Q) : AL P X w0 E0 ops (o :: l) σ Q :=
  AL_call ho hgd hd hf hen hspec ios lb hlen hnd hne hargs hio hlb (by simp) (fun x2 io2 nb2 hR _ => by simp only [Out.ret.injEq] at hR; obtain ⟨rfl, rfl, rfl⟩ := hR; exact ⟨hk, hn, h⟩) (fun v io2 hR _ => by simp at hR)

/-- A call that only computes. -/
theorem AL_callP {ops : Array Oper} {o : Oper} {l : List Oper} {σ : St} {Q : Exit → St → Prop} {f : Operand} {fargs : Array Operand} {fty : Array TypeId} {K : FuncId} {caps : List AV} {args' : List AV} {x : AV}
    (ho : o.op = .call ⟨.value f, fargs, fty⟩) (hgd : o.guard = none) (hd : dstOk σ o.dst = true) (hf : σ.ev f = .clo K caps) (hen : Enters P K) (hspec : Spec P [] K args' [] (fun out => out = .ret x [] []))
    (lb : List Nat) (hargs : (evs σ fargs.toList ++ caps).map (lendA (lentBx lb σ)) = AVs.map (ioMap σ.nx []) args')
    (hlb : ∀ k ∈ lb, (blook k σ.bx).isSome) (hk : (lb.isEmpty || x.kept) = true) (hx : x.map (gMap σ.nx []) = x)
    (h : AL P X w0 E0 ops l { σ with nx := σ.nx + 8, tm := tput o.dst x σ.tm } Q) : AL P X w0 E0 ops (o :: l) σ Q :=
  AL_callD ho hgd hd hf hen hspec [] lb rfl List.nodup_nil (by simp) hargs (by simp) (fun k hk => ⟨hlb k hk, by simp⟩) (by simpa [keptAll] using hk) (by simp) (by rw [hx]; exact h)

/-- A call whose contract says one thing. -/
theorem AL_callDW {ops : Array Oper} {o : Oper} {l : List Oper} {σ : St} {Q : Exit → St → Prop} {f : Operand} {fargs : Array Operand} {fty : Array TypeId} {K : FuncId} {caps : List AV} {args' : List AV} {io io' nb : List (List AV)} {x : AV}
    (ho : o.op = .call ⟨.value f, fargs, fty⟩) (hgd : Wanted ops σ o) (hd : dstOk σ o.dst = true) (hf : σ.ev f = .clo K caps) (hen : Enters P K) (hspec : Spec P [] K args' io (fun out => out = .ret x io' nb))
    (ios lb : List Nat) (hlen : ios.length = io.length) (hnd : ios.Nodup) (hne : ∀ cs ∈ io, cs ≠ [])
    (hargs : (evs σ fargs.toList ++ caps).map (lendA (lentBx lb σ)) = AVs.map (ioMap σ.nx ios) args')
    (hio : ∀ (j k : Nat) (cs : List AV), ios[j]? = some k → io[j]? = some cs → blook k σ.bx = some (AVs.map (ioMap σ.nx ios) cs))
    (hlb : ∀ k ∈ lb, (blook k σ.bx).isSome ∧ k ∉ ios) (hk : (lb.isEmpty || keptAll x io' nb) = true) (hn : nb.length ≤ 8)
    (h : AL P X w0 E0 ops l (σ.behind (tput o.dst (x.map (gMap σ.nx ios)) σ.tm) ios io' nb) Q) : AL P X w0 E0 ops (o :: l) σ Q :=
  AL_callW ho hgd hd hf hen hspec ios lb hlen hnd hne hargs hio hlb (by simp) (fun x2 io2 nb2 hR _ => by simp only [Out.ret.injEq] at hR; obtain ⟨rfl, rfl, rfl⟩ := hR; exact ⟨hk, hn, h⟩) (fun v io2 hR _ => by simp at hR)

/-- A call that only computes. -/
theorem AL_callPW {ops : Array Oper} {o : Oper} {l : List Oper} {σ : St} {Q : Exit → St → Prop} {f : Operand} {fargs : Array Operand} {fty : Array TypeId} {K : FuncId} {caps : List AV} {args' : List AV} {x : AV}
    (ho : o.op = .call ⟨.value f, fargs, fty⟩) (hgd : Wanted ops σ o) (hd : dstOk σ o.dst = true) (hf : σ.ev f = .clo K caps) (hen : Enters P K) (hspec : Spec P [] K args' [] (fun out => out = .ret x [] []))
    (lb : List Nat) (hargs : (evs σ fargs.toList ++ caps).map (lendA (lentBx lb σ)) = AVs.map (ioMap σ.nx []) args')
    (hlb : ∀ k ∈ lb, (blook k σ.bx).isSome) (hk : (lb.isEmpty || x.kept) = true) (hx : x.map (gMap σ.nx []) = x)
    (h : AL P X w0 E0 ops l { σ with nx := σ.nx + 8, tm := tput o.dst x σ.tm } Q) : AL P X w0 E0 ops (o :: l) σ Q :=
  AL_callDW ho hgd hd hf hen hspec [] lb rfl List.nodup_nil (by simp) hargs (by simp) (fun k hk => ⟨hlb k hk, by simp⟩) (by simpa [keptAll] using hk) (by simp) (by rw [hx]; exact h)

theorem retp {rs : List ResultVar} {R : Out → Prop} {σ : St} (x : AV) (hd : σ.df = []) (hx : resOf T σ rs = some x) (hmap : x.map (nmap σ.nx []) = x) (hR : R (.ret x [] [])) : RetV T rs 0 R σ := ret_plain x rfl hd hx hmap hR

end
end Go.Proofs.Ytdnmnafadondkaa
