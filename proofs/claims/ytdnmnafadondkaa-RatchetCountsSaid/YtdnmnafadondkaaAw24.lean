/- Helpers: states that keep their names, returns with boxes. No condition. -/
import Derived.Test.YtdnmnafadondkaaAw23
import Derived.Scope
set_option linter.unusedVariables false
set_option linter.unusedSimpArgs false
namespace Go.Proofs.Ytdnmnafadondkaa
open Go Go.RowKit

def idl (n : Nat) : List (Nat × Nat) := (List.range n).map fun k => (k, k)

theorem nmap_idl {base n k : Nat} : nmap base (idl n) k = if k < n then k else base + k := by
  have key : ∀ (l : List Nat), nmap base (l.map fun k => (k, k)) k = if k ∈ l then k else base + k := by
    intro l
    induction l with
    | nil => simp [nmap]
    | cons x l ih =>
      simp only [List.map_cons, nmap, ih]
      by_cases h : k = x
      · subst h; simp
      · simp [h]
  unfold idl
  rw [key]
  simp

/-- A value without names. -/
def Flat (x : AV) : Prop := ∀ f, x.map f = x
def Flats (cs : List AV) : Prop := ∀ f, AVs.map f cs = cs

theorem flats_of {cs : List AV} (h : ∀ x ∈ cs, Flat x) : Flats cs := fun f => AVs_map_eq fun x hx => h x hx f
theorem flats_map {α : Type} {g : α → AV} (hg : ∀ a, Flat (g a)) (l : List α) : Flats (l.map g) := fun f => AVs_map_map (fun a => hg a f) l
theorem flats_append {a b : List AV} (ha : Flats a) (hb : Flats b) : Flats (a ++ b) := by
  intro f
  have key : ∀ a b : List AV, AVs.map f (a ++ b) = AVs.map f a ++ AVs.map f b := by
    intro a b
    induction a with
    | nil => rfl
    | cons x a ih => simp [AVs.map, ih]
  rw [key, ha f, hb f]

theorem AVs_map_append {f : Nat → Nat} : ∀ a b : List AV, AVs.map f (a ++ b) = AVs.map f a ++ AVs.map f b
  | [], _ => rfl
  | x :: a, b => by simp [AVs.map, AVs_map_append a b]

theorem ivs_map (f : Nat → Nat) (xs : List Int) : AVs.map f (xs.map iv) = xs.map iv := AVs_map_map (fun _ => rfl) xs
theorem yvs_map (f : Nat → Nat) (xs : List Int) : AVs.map f (xs.map yv) = xs.map yv := AVs_map_map (fun _ => rfl) xs

section
variable {P : Program} {X : Nat → Prop} {w0 : World} {E0 : Env} {T : TypeId → Option TI} {eqt : List TypeId}

theorem sub_id {σ F : St} {m : Nat} (n : Nat) (hm : m ≤ n) (hnt : F.nt = σ.nt) (hnx : n ≤ F.nx) (hgl : F.gl = []) (hdf : σ.df = []) (hdf' : F.df = [])
    (htm : ∀ p ∈ F.tm, alook p.1 σ.tm = p.2.map (nmap σ.nx (idl n))) (hbx : ∀ p ∈ F.bx, p.1 < n ∧ ∀ cs, p.2 = some cs → blook p.1 σ.bx = some (AVs.map (nmap σ.nx (idl n)) cs)) : Sub σ F (idl n) m := by
  refine ⟨hnt, by simp [hgl], ⟨hdf, hdf'⟩, htm, fun p hp cs hc => ?_, fun p hp => ?_, fun p hp q hq h => ?_, fun k hk => ?_⟩
  · rw [nmap_idl, if_pos (hbx p hp).1]
    exact (hbx p hp).2 cs hc
  · obtain ⟨a, ha, rfl⟩ := List.mem_map.1 hp
    simp at ha
    show a < F.nx
    omega
  · rw [nmap_idl, nmap_idl, if_pos (hbx p hp).1, if_pos (hbx q hq).1] at h
    exact h
  · rw [nmap_idl, if_pos (by omega)]

theorem idx_mem {α : Type} {l : List α} : ∀ {i : Nat} {p : Nat × α}, p ∈ idx i l → ∃ j, p.1 = i + j ∧ l[j]? = some p.2 := by
  induction l with
  | nil => intro i p h; simp [idx] at h
  | cons x l ih =>
    intro i p h
    simp only [idx, List.mem_cons] at h
    rcases h with rfl | h
    · exact ⟨0, by simp, by simp⟩
    · obtain ⟨j, h1, h2⟩ := ih h
      exact ⟨j + 1, by omega, by simpa using h2⟩

theorem left_sub {σ : St} {io : List (List AV)} (hd : σ.df = []) (hio : (List.range io.length).map (fun k => blook k σ.bx) = io.map some) (hfl : ∀ cs ∈ io, Flats cs) : Sub σ (leftSt σ io []) (idl io.length) io.length := by
  refine sub_id io.length (Nat.le_refl _) rfl (by simp [leftSt]) rfl hd rfl (by simp [leftSt]) ?_
  intro p hp
  simp only [leftSt, List.append_nil] at hp
  obtain ⟨j, h1, h2⟩ := idx_mem hp
  simp only [Nat.zero_add] at h1
  have hj : j < io.length := by
    rcases Nat.lt_or_ge j io.length with h3 | h3
    · exact h3
    · rw [List.getElem?_eq_none (by simpa using h3)] at h2; simp at h2
  refine ⟨by omega, fun cs hc => ?_⟩
  have h4 := congrArg (fun l : List (Option (List AV)) => l[j]?) hio
  simp only [List.getElem?_map, List.getElem?_range hj, Option.map_some] at h4
  rw [List.getElem?_map] at h2
  rw [h1]
  have h5 : io[j]? = some io[j] := List.getElem?_eq_getElem hj
  rw [h5] at h2 h4
  simp at h2 h4
  rw [hc] at h2
  simp at h2
  subst h2
  rw [h4, hfl _ (List.getElem_mem hj)]

theorem retio {rs : List ResultVar} {R : Out → Prop} {σ : St} {m : Nat} (x : AV) (io : List (List AV)) (hm : io.length = m) (hd : σ.df = []) (hx : resOf T σ rs = some x) (hfx : Flat x)
    (hio : (List.range io.length).map (fun k => blook k σ.bx) = io.map some) (hfl : ∀ cs ∈ io, Flats cs) (hR : R (.ret x io [])) : RetV T rs m R σ := by
  subst hm
  exact ⟨x, io, [], idl io.length, rfl, by rw [hfx]; exact hx, left_sub hd hio hfl, hR⟩

theorem retpan {R : Out → Prop} {σ : St} {m : Nat} {v : Value} (io : List (List AV)) (hm : io.length = m) (hd : σ.df = [])
    (hio : (List.range io.length).map (fun k => blook k σ.bx) = io.map some) (hfl : ∀ cs ∈ io, Flats cs) (hR : R (.pan v io)) : RetP m R σ v := by
  subst hm
  exact ⟨io, idl io.length, rfl, left_sub hd hio hfl, hR⟩

def scopeQ (Q : Exit → St → Prop) : Exit → St → Prop
  | .goto _, _ => False
  | e, σ => Q e σ

/-- A piece with labels to which nobody jumps. -/
theorem AW_scope {c : Code} {σ : St} {Q : Exit → St → Prop} (h : AW P X w0 E0 c σ (scopeQ Q)) : AW P X w0 E0 (.scope c) σ Q := by
  intro E a w hg hs
  refine wp_scope_straight (wp_mono (h E a w hg hs) ?_)
  rintro e a' w' ⟨E', σ', q, hg', hs'⟩
  cases e with
  | goto l => exact q.elim
  | _ => exact ⟨E', σ', q, hg', hs'⟩

/-- Whether an interface value that is known is nil. -/
theorem AL_eqNil (hT : Tab P T eqt) {ops : Array Oper} {o : Oper} {l : List Oper} {σ : St} {Q : Exit → St → Prop} {t u : TypeId} {x : Operand} {ti : TI} {v : Value} (r : Bool)
    (ho : o.op = .binOp .eql t x (.const .nilIface) u) (hgd : o.guard = none) (hd : dstOk σ o.dst = true) (ht : T t = some ti) (hti : ti.d = .ifc) (hx : σ.ev x = .val v) (hv : (v = .nilIface ∧ r = true) ∨ (∃ s y, v = .iface s y) ∧ r = false)
    (h : AL P X w0 E0 ops l (σ.app (σ.nx + 8) o.dst ⟨.val (.bool r), []⟩) Q) : AL P X w0 E0 ops (o :: l) σ Q := by
  intro i hi E a w hg hs
  obtain ⟨hoi, hl⟩ := drop_cons hi
  have ho' : ops[i]? = some o := by simpa using hoi
  simp only [List.length_cons, List.range', wpOps, ho']
  have hw : Region.wanted o (yielded ops a.tmps) = true := by simp [Region.wanted, hgd]
  rw [if_pos hw]
  refine .inl ?_
  have hxe := hs.ev x
  rw [hx] at hxe
  simp only [M] at hxe
  obtain ⟨td, hu, hotd⟩ := (hT.t _ _ ht).und
  rw [hti] at hotd
  cases td <;> simp [TD.of] at hotd
  rename_i ms
  have hun := run_underlying hu w
  have hrun : (execOp a.eval o).run P w = .ok (.value (.bool r)) w := by
    simp only [execOp, ho, hxe]
    have e1 : ∀ d, (Op.equalIn (d + 1) t .nilIface .nilIface).run P w = .ok true w := by
      intro d
      unfold Op.equalIn
      simp [hun]
    have e2 : ∀ d s y, (Op.equalIn (d + 1) t (.iface s y) .nilIface).run P w = .ok false w := by
      intro d s y
      unfold Op.equalIn
      simp [hun]
    rcases hv with ⟨rfl, rfl⟩ | ⟨⟨s, y, rfl⟩, rfl⟩
    · have e3 : (eqGuard .eql t x (.const .nilIface) .nilIface .nilIface).run P w = .ok () w := by
        unfold eqGuard
        simp
      have e4 : (binOp .eql t .nilIface .nilIface).run P w = .ok (.bool true) w := by
        have : binOp .eql t .nilIface .nilIface = (do pure (.bool (← Op.equal t .nilIface .nilIface)) : Sem Value) := rfl
        rw [this]
        have := e1 9999
        simp only [Op.equal, Op.maxDepth, Sem.run_bind, Sem.run_pure]
        rw [this]
        rfl
      simp only [Act.eval, Sem.run_bind, e3, e4, Result.andThen_ok, Sem.run_pure]
    · have e3 : (eqGuard .eql t x (.const .nilIface) (.iface s y) .nilIface).run P w = .ok () w := by
        unfold eqGuard
        simp
      have e4 : (binOp .eql t (.iface s y) .nilIface).run P w = .ok (.bool false) w := by
        have : binOp .eql t (.iface s y) .nilIface = (do pure (.bool (← Op.equal t (.iface s y) .nilIface)) : Sem Value) := rfl
        rw [this]
        have := e2 9999 s y
        simp only [Op.equal, Op.maxDepth, Sem.run_bind, Sem.run_pure]
        rw [this]
        rfl
      simp only [Act.eval, Sem.run_bind, e3, e4, Result.andThen_ok, Sem.run_pure]
  unfold Oper.wp
  rw [hrun]
  exact h (i + 1) hl E _ w hg (hs.val (dst_lt hd) rfl (by omega))

end
end Go.Proofs.Ytdnmnafadondkaa
