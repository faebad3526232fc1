/- Small laws that the walks use. No condition. -/
import Derived.Test.YtdnmnafadondkaaAw21
set_option linter.unusedVariables false
set_option linter.unusedSimpArgs false
namespace Go.Proofs.Ytdnmnafadondkaa
open Go Go.RowKit

abbrev iv (n : Int) : AV := .val (.int .i64 n)
abbrev bv (b : Bool) : AV := .val (.bool b)
abbrev yv (n : Int) : AV := .val (.int .u8 n)
abbrev sv (s : ByteArray) : AV := .val (.string s)

theorem wrap_i64 {x : Int} (h1 : -9223372036854775808 ≤ x) (h2 : x < 9223372036854775808) : IntKind.i64.wrap x = x := by
  simp only [IntKind.wrap, IntKind.signed, IntKind.bits]; simp; omega

theorem wrap_u8 {x : Int} (h1 : 0 ≤ x) (h2 : x < 256) : IntKind.u8.wrap x = x := by
  simp only [IntKind.wrap, IntKind.signed, IntKind.bits]; simp; omega

theorem AVs_map_eq {f : Nat → Nat} : ∀ {l : List AV}, (∀ x ∈ l, x.map f = x) → AVs.map f l = l
  | [], _ => rfl
  | x :: l, h => by simp only [AVs.map]; rw [h x (by simp), AVs_map_eq (fun y hy => h y (by simp [hy]))]

theorem AVs_map_map {α : Type} {f : Nat → Nat} {g : α → AV} (hg : ∀ a, (g a).map f = g a) (l : List α) : AVs.map f (l.map g) = l.map g :=
  AVs_map_eq fun x hx => by obtain ⟨a, _, rfl⟩ := List.mem_map.1 hx; exact hg a

theorem drop_head {α : Type} {l : List α} {i : Nat} (h : i < l.length) : (l.drop i)[0]? = l[i]? := by simp

theorem loadC_one {ti : TI} {cs : List AV} {off : Nat} {x : AV} (hd : ti.d.isAgg = false) (hx : cs[off]? = some x) (hk : x.known = some x) : loadC ti cs off = some x := by
  unfold loadC
  rw [hd, hx]
  cases x <;> simp [AV.known] at hk ⊢

theorem cast_lit0 : ((0 : Nat) : Int) = 0 := rfl
theorem cast_lit1 : ((1 : Nat) : Int) = 1 := rfl
theorem cast_lit2 : ((2 : Nat) : Int) = 2 := rfl
theorem cast_lit3 : ((3 : Nat) : Int) = 3 := rfl
theorem zero_le_true (n : Nat) : (0 ≤ n) = True := by simp

end Go.Proofs.Ytdnmnafadondkaa
