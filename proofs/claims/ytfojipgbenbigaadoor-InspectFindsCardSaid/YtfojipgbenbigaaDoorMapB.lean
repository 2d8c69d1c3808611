/-
  A map[string]bool that the call has made, told by a function from names to bools; what a look-up and a store do to it.
-/
import Derived.Test.YtfojipgbenbigaaDoorRows
import Derived.WalkKit
import Derived.WalkSpells
import Derived.WalkSmall
import Derived.Maps.Own
import Derived.Maps.OwnOps
import Derived.Maps.OwnSet
namespace Go.Proofs.YtfojipgbenbigaaDoor
open Go.RowKit Go.Maps Go.WideMaps Go.ChangeMaps

theorem zeroB (w : World) : (zeroValue 4).run Tryd.prog w = .ok (.bool false) w := by kernel_rfl
theorem keyedS : Keyed Tryd.prog 9 := string_keyed Tryd.underlying9

def BoolMap (w : World) (b n : Nat) (f : ByteArray → Bool) : Prop :=
  ∃ D : DataW Unit, w.ownsMap Tryd.prog 9 (plainElem Tryd.prog 4) b n D ∧ IsMap D ∧ ∀ s : ByteArray, s.size ≤ 20 → D.atKey (.string s.data.toList) (.lit (.bool false)) = .lit (.bool (f s))

theorem BoolMap.made (w : World) : BoolMap (w.alloc (.map #[] 0)) w.heap.size 0 (fun _ => false) :=
  ⟨.map [], World.ownsMap_made _ _ _ _, isMap_empty, fun _ _ => rfl⟩
theorem BoolMap.lt {w : World} {b n : Nat} {f : ByteArray → Bool} (h : BoolMap w b n f) : b < w.heap.size := let ⟨_, h, _⟩ := h; h.lt
theorem BoolMap.kept {w w' : World} {b n : Nat} {f : ByteArray → Bool} {row : Option Nat} (h : BoolMap w b n f) (hg : w.grownBy w' row) (hne : some b ≠ row) : BoolMap w' b n f :=
  let ⟨D, h1, h2, h3⟩ := h; ⟨D, h1.kept hg hne, h2, h3⟩
theorem BoolMap.alloc {w : World} {b n : Nat} {f : ByteArray → Bool} (h : BoolMap w b n f) (o : Obj) : BoolMap (w.alloc o) b n f := let ⟨D, h1, h2, h3⟩ := h; ⟨D, h1.alloc o, h2, h3⟩
theorem BoolMap.below {w w' : World} {b n : Nat} {f : ByteArray → Bool} (h : BoolMap w b n f) (hB : Below w.heap.size w w') : BoolMap w' b n f := by
  obtain ⟨D, h1, h2, h3⟩ := h
  have hlt := h1.lt
  obtain ⟨es, clock, hb, F, hs, hD⟩ := h1
  exact ⟨D, ⟨es, clock, (hB.block b hlt).trans hb, F, hs, hD⟩, h2, h3⟩
theorem BoolMap.look {w : World} {b n : Nat} {f : ByteArray → Bool} (h : BoolMap w b n f) (s : ByteArray) (hs : s.size ≤ 20) :
    (Instr.lookup 69 (.map (some b)) (.string s) false).run Tryd.prog w = .ok (.bool (f s)) w := by
  obtain ⟨D, h1, h2, h3⟩ := h
  obtain ⟨v, ps, hrun, hv⟩ := h1.lookup keyedS Tryd.underlying69 (zeroB w) (plainElem_bool Tryd.underlying4 false) (keyOf_string_mk Tryd.underlying9 (show s.size ≤ maxLen by unfold maxLen; omega))
  rw [h3 s hs] at hv
  rw [hrun]
  have e : v = .bool (f s) := by
    cases v <;> simp [plainElem, Tryd.underlying4] at hv
    rw [hv.1]
  rw [e]
theorem bytes_ne {a b : ByteArray} (h : a ≠ b) : (Lit.string a.data.toList) ≠ .string b.data.toList := by
  intro e
  apply h
  obtain ⟨⟨x⟩⟩ := a
  obtain ⟨⟨y⟩⟩ := b
  simp at e
  rw [e]
/-- What a store leaves. -/
theorem BoolMap.put {w : World} {b n : Nat} {f : ByteArray → Bool} {D : DataW Unit} {s : ByteArray} {v : Bool} (h : w.ownsMap Tryd.prog 9 (plainElem Tryd.prog 4) b n (D.put (.string s.data.toList) (.lit (.bool v)))) (h2 : IsMap D)
    (h3 : ∀ s : ByteArray, s.size ≤ 20 → D.atKey (.string s.data.toList) (.lit (.bool false)) = .lit (.bool (f s))) : BoolMap w b n (fun t => if t = s then v else f t) := by
  refine ⟨_, h, h2.put _ _, fun t ht => ?_⟩
  by_cases e : t = s
  · subst e
    rw [atKey_put_same h2 (show WideAt.IsKeyLit (.string _) from trivial)]
    simp
  · rw [atKey_put_other (bytes_ne e)]
    simp [e, h3 t ht]
end Go.Proofs.YtfojipgbenbigaaDoor
