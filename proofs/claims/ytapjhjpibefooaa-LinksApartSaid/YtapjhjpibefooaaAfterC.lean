/-
  What the law LinksAfter's two closures ask.
-/
import Derived.Test.YtapjhjpibefooaaFind
namespace Go.Proofs.Ytapjhjpibefooaa
open Go.RowKit Go.Shelf

theorem ent_after1 (args : Array Value) (w : World) : (callFunc 38 args).run Try.prog w = .ok (.enter 38 args) w := enters_of Try.func38 (by kernel_rfl) rfl args w
theorem ent_after2 (args : Array Value) (w : World) : (callFunc 39 args).run Try.prog w = .ok (.enter 39 args) w := enters_of Try.func39 (by kernel_rfl) rfl args w
set_option maxHeartbeats 1000000 in
theorem asks_after1 (bx : Nat) (s : ByteArray) (n₀ : Nat) (w : World) (hbx : bx < n₀) (hc : w.cell? ⟨bx, 1, none⟩ = some (.string s)) :
    AsksC 38 #[.pointer (some ⟨bx, 0, none⟩)] n₀ w (fun r => decide (r.name = s)) := by
  intro W r hB
  have hc' := (hB.cell (p := ⟨bx, 1, none⟩) hbx).trans hc
  have hc2 : ∀ o, (W.alloc o).cell? ⟨bx, 1, none⟩ = some (.string s) := fun o => ((Below.refl W.heap.size W).alloc (Nat.le_refl _) o |>.cell (p := ⟨bx, 1, none⟩) (World.block_lt_of_cell? W _ hc')).trans hc'
  have H := Lib.hid (str_eq r.name s)
  show Calls _ _ #[cueV r, .pointer (some ⟨bx, 0, none⟩)] _ _
  unfold cueV
  go_enter Try.func38, Try.ntmps38
  go_wp2
  go_ret
  exact ⟨ret_bool H.out, (Below.refl _ _).alloc (Nat.le_refl _) _⟩
set_option maxHeartbeats 1000000 in
theorem asks_after2 (bx : Nat) (s : ByteArray) (n₀ : Nat) (w : World) (hbx : bx < n₀) (hc : w.cell? ⟨bx, 0, none⟩ = some (.string s)) :
    AsksC 39 #[.pointer (some ⟨bx, 0, none⟩)] n₀ w (fun r => decide (r.name = s)) := by
  intro W r hB
  have hc' := (hB.cell (p := ⟨bx, 0, none⟩) hbx).trans hc
  have hc2 : ∀ o, (W.alloc o).cell? ⟨bx, 0, none⟩ = some (.string s) := fun o => ((Below.refl W.heap.size W).alloc (Nat.le_refl _) o |>.cell (p := ⟨bx, 0, none⟩) (World.block_lt_of_cell? W _ hc')).trans hc'
  have H := Lib.hid (str_eq r.name s)
  show Calls _ _ #[cueV r, .pointer (some ⟨bx, 0, none⟩)] _ _
  unfold cueV
  go_enter Try.func39, Try.ntmps39
  go_wp2
  go_ret
  exact ⟨ret_bool H.out, (Below.refl _ _).alloc (Nat.le_refl _) _⟩
end Go.Proofs.Ytapjhjpibefooaa
