/- What append, copy and a store do to memory, with the blocks that turn named. No condition. -/
import Derived.Test.YtdnmnafadondkaaAw7
import Derived.Laws.AppendOwn
import Derived.Lib.ConvBytes
set_option linter.unusedVariables false
set_option linter.unusedSimpArgs false
namespace Go.Proofs.Ytdnmnafadondkaa
open Go Go.RowKit

section
variable {P : Program} {w : World}

/-- What append takes its new cells from. -/
structure Src (P : Program) (w : World) (size m : Nat) (x : Value) (news : List Value) : Prop where
  len : ∀ w', (Builtin.lenOf x).run P w' = .ok m w'
  upto : ∀ w' n, n ≤ m → w'.heap = w.heap → (Builtin.firstCells size n x).run P w' = .ok ⟨news.take (n * size)⟩ w'
  size : news.length = m * size
  one : ∀ u ∈ news, u.oneCell' = true

theorem Src.cells {size m : Nat} {x : Value} {news : List Value} (h : Src P w size m x news) (w' : World) (hw : w'.heap = w.heap) : (Builtin.firstCells size m x).run P w' = .ok ⟨news⟩ w' := by
  have := h.upto w' m (Nat.le_refl _) hw
  rwa [List.take_of_length_le (by rw [h.size]; exact Nat.le_refl _)] at this

theorem no_int (d : TypeDesc) (h : ∀ k, d ≠ .int k) : (match d with | .int _ => true | _ => false) = false := by cases d <;> first | rfl | exact absurd rfl (h _)

/-- Append to a row of one's own: in place, or into a new block. -/
theorem run_app {t u ty e : TypeId} {i : TypeInfo} {z : Value} (ht : P.underlying t = some (.slice e)) (hu : ∃ d, P.underlying u = some d ∧ (∀ k, d ≠ .int k)) (hi : P.info? e = some i) (hz : i.zero = some z)
    (hzs : z.cells.size = i.size) {v x : Value} {n m : Nat} {xs news : List Value} (hown : w.ownsRow 0 e i.size v n xs) (hs : Src P w i.size m x news)
    (h63 : n + m ≤ maxLen) (hbytes : (n + m) * i.bytes ≤ 140737488355328) :
    ∃ v' w', (Builtin.append_ #[t, u] ty #[v, x]).run P w = .ok v' w' ∧ w'.ownsRow 0 e i.size v' (n + m) (xs ++ news) ∧
      ((v = .slice none 0 0 ∧ m = 0 ∧ v' = .slice none 0 0 ∧ w' = w) ∨
       (∃ cap c, v' = .slice (some ⟨w.heap.size, 0, none⟩) (n + m) cap ∧ w' = w.drew.alloc (.cells c e)) ∨
       (∃ g cap c, v = .slice (some ⟨g, 0, none⟩) n cap ∧ v' = .slice (some ⟨g, 0, none⟩) (n + m) cap ∧ w' = w.setRow g c)) := by
  obtain ⟨d, hud, hnint⟩ := hu
  have hsmall : n + m ≤ 9223372036854775807 := by simp only [maxLen] at h63; omega
  have hlen : (xs ++ news).length = (n + m) * i.size := by rw [List.length_append, hown.1, hs.size, Nat.add_mul]
  have hzeros := no_int d hnint
  have hl := hs.len w
  have grown : ∀ (old : Nat), old < n + m →
      (w.drew.alloc (.cells (⟨xs⟩ ++ ⟨news⟩ ++ Builtin.zeroCells z.cells (grownCap w (n + m) old e - (n + m))) e)).ownsRow 0 e i.size
        (.slice (some ⟨w.heap.size, 0, none⟩) (n + m) (grownCap w (n + m) old e)) (n + m) (xs ++ news) := by
    intro old ho
    have hge := grownCap_ge w (n + m) old e
    have hcm : grownCap w (n + m) old e ≤ maxLen := grownCap_le_maxLen w (n + m) old e h63
    refine ⟨hlen, .inr ⟨w.heap.size, _, _, rfl, Nat.zero_le _, heap_alloc_new w.drew _, hge, hcm, ?_, ?_⟩⟩
    · simp only [Array.size_append, List.size_toArray, size_zeroCells, hzs, hown.1, hs.size, ← Nat.add_mul]
      congr 1
      omega
    · simp only [Array.toList_append, List.append_assoc]
      rw [← List.append_assoc, ← hlen]
      exact List.take_left
  rcases hown.2 with ⟨rfl, rfl⟩ | ⟨g, cap, cur, rfl, hbg, hg, hnc, hcm, hcs, htake⟩
  · have hx : xs = [] := List.eq_nil_of_length_eq_zero (by simpa using hown.1)
    subst hx
    by_cases hm : m = 0
    · subst hm
      have hn : news = [] := List.eq_nil_of_length_eq_zero (by simpa using hs.size)
      subst hn
      refine ⟨.slice none 0 0, w, ?_, World.ownsRow_nil w 0 e i.size, .inl ⟨rfl, rfl, rfl, rfl⟩⟩
      have hf := hs.cells w rfl
      simp [Builtin.append_, run_underlying ht, run_underlying hud, sizeOf, typeInfo, hi, hl, hf, hzeros]
    · have hfit : Builtin.nextslicecap m 0 * i.bytes ≤ 281474976710656 := growslice_fits (by omega) (by simpa using hbytes)
      have hf := hs.cells w.drew rfl
      refine ⟨_, _, ?_, grown 0 (by omega), .inr (.inl ⟨_, _, rfl, rfl⟩)⟩
      have h1 : ¬ (281474976710656 < Builtin.nextslicecap m 0 * i.bytes) := by omega
      have h2 : ¬ (9223372036854775807 < (m : Int)) := by omega
      have h0 : ∀ w', (Builtin.firstCells i.size 0 (.slice none 0 0)).run P w' = .ok #[] w' := fun w' => by simp [Builtin.firstCells]
      simp [Builtin.append_, run_underlying ht, run_underlying hud, sizeOf, typeInfo, zeroValue, hi, hz, hl, hf, hzeros, hm, h1, h2, Question.forced, newRow, grownCap, h0]
  · have hold : ∀ w', w'.heap = w.heap → (Builtin.firstCells i.size n (.slice (some ⟨g, 0, none⟩) n cap)).run P w' = .ok ⟨xs⟩ w' := by
      intro w' hw
      refine run_firstCells_some (P := P) w' i.size n ⟨g, 0, none⟩ n cap xs hown.1 (fun j u hu => ?_)
      have := hown.cells (g := g) rfl j u hu
      simpa [World.cell?, hw] using this
    by_cases hroom : n + m ≤ cap
    · have hfit : n * i.size + news.length ≤ cur.size := by rw [hs.size, hcs, ← Nat.add_mul]; exact Nat.mul_le_mul_right _ hroom
      have hst := run_storeCells_at P g (n * i.size) e news 0 cur w hg (by simpa using hfit) hs.one
      simp only [Nat.add_zero] at hst
      have hf := hs.cells w rfl
      refine ⟨_, w.setRow g (cur.toList.take (n * i.size) ++ news ++ cur.toList.drop (n * i.size + news.length)).toArray, ?_,
        ⟨hlen, .inr ⟨g, cap, _, rfl, hbg, setRow_heap w g cur _ e _ hg, hroom, hcm, ?_, ?_⟩⟩, .inr (.inr ⟨g, cap, _, rfl, rfl, rfl⟩)⟩
      · simp [Builtin.append_, run_underlying ht, run_underlying hud, sizeOf, typeInfo, hi, hl, hroom, hf, hzeros, Addr.add_lit, hst]
      · simp only [List.size_toArray, List.length_append, List.length_take, List.length_drop, Array.length_toList]
        omega
      · rw [htake, ← hlen]
        exact List.take_left
    · have hfit : Builtin.nextslicecap (n + m) cap * i.bytes ≤ 281474976710656 := growslice_fits (by omega) hbytes
      have hf := hs.cells w.drew rfl
      have ho := hold w.drew rfl
      refine ⟨_, _, ?_, grown cap (by omega), .inr (.inl ⟨_, _, rfl, rfl⟩)⟩
      have h1 : ¬ (281474976710656 < Builtin.nextslicecap (n + m) cap * i.bytes) := by omega
      have h2 : ¬ (9223372036854775807 < (n : Int) + (m : Int)) := by omega
      simp [Builtin.append_, run_underlying ht, run_underlying hud, sizeOf, typeInfo, zeroValue, hi, hz, hl, hf, ho, hzeros, hroom, h1, h2, Question.forced, newRow, grownCap]
      congr 2
      apply Array.ext'
      simp [List.append_assoc]

end

def AV.cell : AV → Bool
  | .any => false
  | .agg _ => false
  | .tup _ => false
  | .val (.agg _) => false
  | .val (.tuple _) => false
  | _ => true

theorem M.cell {w : World} {E : Env} {x : AV} {v : Value} (hm : M w E x v) (h : x.cell = true) : v.oneCell' = true := by
  cases x <;> simp [AV.cell] at h
  case val u =>
    simp only [M] at hm
    subst hm
    cases v <;> simp [AV.cell] at h <;> rfl
  case ptr => obtain ⟨g, _, rfl⟩ := hm; rfl
  case sl => rcases hm with ⟨_, _, _, _, rfl⟩ | ⟨_, _, a, cap, rfl⟩ | ⟨g, cap, ty, sz, _, rfl, _⟩ <;> rfl
  case ds => rcases hm with ⟨_, _, a, cap, rfl⟩ | ⟨g, off, cap, vs, rfl, _⟩ <;> rfl
  case dp => obtain ⟨g, off, vs, rfl, _⟩ := hm; rfl
  case clo => obtain ⟨vs, rfl, _⟩ := hm; rfl
  case ifc => obtain ⟨u, rfl, _⟩ := hm; rfl

theorem Ms.cells {w : World} {E : Env} : ∀ {cs : List AV} {vs : List Value}, Ms w E cs vs → cs.all AV.cell = true → ∀ v ∈ vs, v.oneCell' = true
  | [], vs, h, _, v, hv => by simp [Ms] at h; simp [h] at hv
  | x :: cs, vs, h, hc, v, hv => by
    obtain ⟨u, vs', rfl, h1, h2⟩ := Ms_cons.1 h
    simp at hc hv
    rcases hv with rfl | hv
    · exact h1.cell hc.1
    · exact Ms.cells h2 (by simpa using hc.2) v hv

end Go.Proofs.Ytdnmnafadondkaa
