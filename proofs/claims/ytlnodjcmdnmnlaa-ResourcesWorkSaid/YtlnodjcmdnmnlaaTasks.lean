/-
  THE WALKS of tasks, Energy (package resources), Tasks, Energy (reference 42).
-/
import Derived.Test.YtlnodjcmdnmnlaaSteps
namespace Go.Proofs.Ytlnodjcmdnmnlaa
open Go.RowKit Go.Shelf

def taskBad (r : TaskR) : Bool := decide (r.length < 1) || decide (10000 < r.length) || decide (min r.crew r.power < 0) || decide (100 < max r.crew r.power)
set_option maxHeartbeats 4000000 in
theorem asks_taskBad (n₀ : Nat) (w : World) : AsksTasks 32 #[] n₀ w taskBad := by
  intro W r hB
  show Calls _ _ #[taskV r] _ _
  unfold taskV
  have key : ∀ b1 b2 b3 b4 : Bool, decide (r.length < 1) = b1 → decide (10000 < r.length) = b2 → decide (min r.crew r.power < 0) = b3 → decide (100 < max r.crew r.power) = b4 → Hid (taskBad r = (b1 || b2 || b3 || b4)) := fun b1 b2 b3 b4 h1 h2 h3 h4 => Lib.hid (by unfold taskBad; rw [h1, h2, h3, h4])
  by_cases a1 : r.length < 1
  · have H := key _ _ _ _ (decide_eq_true a1) rfl rfl rfl
    clear key
    go_enter Try.func32, Try.ntmps32
    go_wp2
    go_ret
    exact ⟨ret_bool (by rw [H.out]; simp), (Below.refl _ _).alloc (Nat.le_refl _) _⟩
  · by_cases a2 : 10000 < r.length
    · have H := key _ _ _ _ (decide_eq_false a1) (decide_eq_true a2) rfl rfl
      clear key
      go_enter Try.func32, Try.ntmps32
      go_wp2
      go_ret
      exact ⟨ret_bool (by rw [H.out]; simp), (Below.refl _ _).alloc (Nat.le_refl _) _⟩
    · by_cases a3 : min r.crew r.power < 0
      · have H := key _ _ _ _ (decide_eq_false a1) (decide_eq_false a2) (decide_eq_true a3) rfl
        clear key
        have m1 := decide_eq_true a3
        go_enter Try.func32, Try.ntmps32
        go_wp2
        go_ret
        exact ⟨ret_bool (by rw [H.out]; simp), (Below.refl _ _).alloc (Nat.le_refl _) _⟩
      · by_cases a4 : 100 < max r.crew r.power
        · have H := key _ _ _ _ (decide_eq_false a1) (decide_eq_false a2) (decide_eq_false a3) (decide_eq_true a4)
          clear key
          have m1 := decide_eq_false a3
          have m2 := decide_eq_true a4
          go_enter Try.func32, Try.ntmps32
          go_wp2
          go_ret
          exact ⟨ret_bool (by rw [H.out]; simp), (Below.refl _ _).alloc (Nat.le_refl _) _⟩
        · have H := key _ _ _ _ (decide_eq_false a1) (decide_eq_false a2) (decide_eq_false a3) (decide_eq_false a4)
          clear key
          have m1 := decide_eq_false a3
          have m2 := decide_eq_false a4
          go_enter Try.func32, Try.ntmps32
          go_wp2
          go_ret
          exact ⟨ret_bool (by rw [H.out]; simp), (Below.refl _ _).alloc (Nat.le_refl _) _⟩
theorem ent_taskBad (args : Array Value) (w : World) : (callFunc 32 args).run Try.prog w = .ok (.enter 32 args) w := enters_of Try.func32 (by kernel_rfl) rfl args w
def tasksB (L : List TaskR) : Bool := decide (L.length ≤ 60) && !task_any L taskBad
set_option maxHeartbeats 4000000 in
theorem tasks_any (a : Option Addr) (L : List TaskR) (cap : Nat) (w : World) (hl : L.length ≤ 1000) (hL : Tasks w.heap.size w a L) :
    Calls Try.prog 25 #[.slice a L.length cap] w fun e w' => e = .returned (.bool (tasksB L)) ∧ Below w.heap.size w w' := by
  have HL := Lib.hid hL; clear hL
  by_cases p : L.length ≤ 60
  · have H : Hid (tasksB L = !task_any L taskBad) := Lib.hid (by unfold tasksB; rw [decide_eq_true p]; rfl)
    go_enter Try.func25, Try.ntmps25
    go_wp2_with (go_at_call 31; (with_reducible refine (task_containsFunc _ L _ _ _ _ taskBad _ ent_taskBad (by omega) (Nat.le_refl _) HL.out (asks_taskBad _ _)).mono ?_); rintro e w2 ⟨rfl, hb2⟩)
    go_ret
    exact ⟨ret_bool H.out.symm, hb2⟩
  · have H : Hid (tasksB L = false) := Lib.hid (by unfold tasksB; rw [decide_eq_false p]; rfl)
    go_enter Try.func25, Try.ntmps25
    go_wp2
    go_ret
    exact ⟨ret_bool H.out.symm, Below.refl _ _⟩
/-- What right tasks are. -/
theorem tasks_ok {L : List TaskR} (h : tasksB L = true) : L.length ≤ 60 ∧ ∀ k, k < L.length → (1 ≤ (tg L k).length ∧ (tg L k).length ≤ 10000) ∧ (0 ≤ (tg L k).crew ∧ (tg L k).crew ≤ 100) ∧ 0 ≤ (tg L k).power ∧ (tg L k).power ≤ 100 := by
  unfold tasksB at h
  rw [Bool.and_eq_true, decide_eq_true_eq, task_any_eq] at h
  refine ⟨h.1, fun k hk => ?_⟩
  have h2 : L.any taskBad = false := by simpa using h.2
  have h3 := List.any_eq_false.1 h2 (tg L k) (by rw [tg_eq L k hk]; exact List.getElem_mem hk)
  unfold taskBad at h3
  simp only [Bool.or_eq_true, decide_eq_true_eq, not_or] at h3
  omega
theorem tasks_of {L : List TaskR} (h1 : L.length ≤ 60) (h : ∀ k, k < L.length → (1 ≤ (tg L k).length ∧ (tg L k).length ≤ 10000) ∧ (0 ≤ (tg L k).crew ∧ (tg L k).crew ≤ 100) ∧ 0 ≤ (tg L k).power ∧ (tg L k).power ≤ 100) : tasksB L = true := by
  unfold tasksB
  rw [decide_eq_true h1, task_any_eq, Bool.true_and, Bool.not_eq_true', List.any_eq_false]
  intro x hx
  obtain ⟨k, hk, e⟩ := List.getElem_of_mem hx
  have := h k hk
  rw [tg_eq L k hk, e] at this
  unfold taskBad
  simp only [Bool.or_eq_true, decide_eq_true_eq, not_or]
  omega
/-- The work of the first k tasks. -/
def workTo (f : TaskR → Int) (L : List TaskR) : Nat → Int
  | 0 => 0
  | k + 1 => workTo f L k + f (tg L k) * (tg L k).length
theorem workTo_b {f : TaskR → Int} {L : List TaskR} (h : ∀ k, k < L.length → (1 ≤ (tg L k).length ∧ (tg L k).length ≤ 10000) ∧ 0 ≤ f (tg L k) ∧ f (tg L k) ≤ 100) : ∀ k, k ≤ L.length → 0 ≤ workTo f L k ∧ workTo f L k ≤ 1000000 * (k : Int) := by
  intro k
  induction k with
  | zero => intro _; exact ⟨Int.le_refl _, Int.le_refl _⟩
  | succ k ih =>
    intro hk
    have h1 := ih (by omega)
    obtain ⟨h2, h3, h4⟩ := h k (by omega)
    have h5 : 0 ≤ f (tg L k) * (tg L k).length := Int.mul_nonneg h3 (by omega)
    have h6 : f (tg L k) * (tg L k).length ≤ 100 * 10000 := Int.mul_le_mul h4 h2.2 (by omega) (by omega)
    simp only [workTo]
    omega
set_option maxRecDepth 100000 in
set_option maxHeartbeats 8000000 in
theorem energy_any (a : Option Addr) (L : List TaskR) (cap : Nat) (w : World) (hl : L.length ≤ 1000) (hL : Tasks w.heap.size w a L) :
    Calls Try.prog 10 #[.slice a L.length cap] w fun e w' => Hid (e = .returned (if tasksB L then .tuple #[.int .i64 (workTo TaskR.crew L L.length), .int .i64 (workTo TaskR.power L L.length), .int .i64 0] else .tuple #[.int .i64 0, .int .i64 0, .int .i64 1]) ∧ Below w.heap.size w w') := by
  have HL := Lib.hid hL; clear hL
  cases ht : tasksB L
  · have HT := Lib.hid ht; clear ht
    go_enter Try.func10, Try.ntmps10
    go_wp2_with (go_at_call 25; (with_reducible refine (tasks_any _ L _ _ (by omega) HL.out).mono ?_); rintro e w1 ⟨rfl, hb1⟩; rw [HT.out])
    go_ret3
    exact Lib.hid ⟨by simp, hb1⟩
  · obtain ⟨h60, hok⟩ := tasks_ok ht
    have HOK := Lib.hid hok
    have HW1 : Hid (∀ k, k ≤ L.length → 0 ≤ workTo TaskR.crew L k ∧ workTo TaskR.crew L k ≤ 1000000 * (k : Int)) := Lib.hid (workTo_b fun k hk => ⟨(hok k hk).1, (hok k hk).2.1⟩)
    have HW2 : Hid (∀ k, k ≤ L.length → 0 ≤ workTo TaskR.power L k ∧ workTo TaskR.power L k ≤ 1000000 * (k : Int)) := Lib.hid (workTo_b fun k hk => ⟨(hok k hk).1, (hok k hk).2.2⟩)
    have HT := Lib.hid ht; clear ht hok
    go_enter Try.func10, Try.ntmps10
    go_wp2_with (go_at_call 25; (with_reducible refine (tasks_any _ L _ _ (by omega) HL.out).mono ?_); rintro e w1 ⟨rfl, hb1⟩; rw [HT.out])
    go_loopw [5, 6, 14] (fun c p i wr => ∃ k : Nat, k ≤ L.length ∧ i = .int .i64 k ∧ c = .int .i64 (workTo TaskR.crew L k) ∧ p = .int .i64 (workTo TaskR.power L k) ∧ Below w.heap.size w wr) (fun _ _ i _ => L.length - (intOf i).toNat)
    case atStart => exact ⟨0, Nat.zero_le _, rfl, rfl, rfl, hb1⟩
    case round =>
      clear hb1
      obtain ⟨k, hk, rfl, rfl, rfl, hB⟩ := hrel
      have hbs := hB.size
      by_cases hlt : k < L.length
      · obtain ⟨b, off, rfl, hb, hc⟩ := HL.out (by omega)
        obtain ⟨c0, c1, c2, c3, c4⟩ := hc k hlt
        have d0 := (hB.cell (p := ⟨b, off + k * 5, none⟩) hb).trans c0
        have d1 := (hB.cell (p := ⟨b, off + k * 5 + 1, none⟩) hb).trans c1
        have d2 := (hB.cell (p := ⟨b, off + k * 5 + 2, none⟩) hb).trans c2
        have d3 := (hB.cell (p := ⟨b, off + k * 5 + 3, none⟩) hb).trans c3
        have d4 := (hB.cell (p := ⟨b, off + k * 5 + 4, none⟩) hb).trans c4
        have W1 := Lib.hid (HW1.out (k + 1) (by omega))
        have W2 := Lib.hid (HW2.out (k + 1) (by omega))
        have HS1 : Hid (workTo TaskR.crew L (k + 1) = workTo TaskR.crew L k + (tg L k).crew * (tg L k).length) := Lib.hid rfl
        have HS2 : Hid (workTo TaskR.power L (k + 1) = workTo TaskR.power L k + (tg L k).power * (tg L k).length) := Lib.hid rfl
        obtain ⟨⟨l1, l2⟩, ⟨l3, l4⟩, l5, l6⟩ := HOK.out k hlt
        have m1 : 0 ≤ (tg L k).crew * (tg L k).length ∧ (tg L k).crew * (tg L k).length ≤ 1000000 := ⟨Int.mul_nonneg l3 (by omega), by have := Int.mul_le_mul l4 l2 (by omega) (by omega); omega⟩
        have m2 : 0 ≤ (tg L k).power * (tg L k).length ∧ (tg L k).power * (tg L k).length ≤ 1000000 := ⟨Int.mul_nonneg l5 (by omega), by have := Int.mul_le_mul l6 l2 (by omega) (by omega); omega⟩
        obtain ⟨b1, b2⟩ := HW1.out k hk
        obtain ⟨b3, b4⟩ := HW2.out k hk
        obtain ⟨m3, m4⟩ := m1
        obtain ⟨m5, m6⟩ := m2
        clear hc c0 c1 c2 c3 c4
        generalize hx : (tg L k).crew * (tg L k).length = x at *
        generalize hy : (tg L k).power * (tg L k).length = y at *
        have n1 : IntKind.i64.wrap ((tg L k).crew * (tg L k).length) = x := by rw [hx]; exact IntWalk.i64_in _ (by omega)
        have n2 : IntKind.i64.wrap ((tg L k).power * (tg L k).length) = y := by rw [hy]; exact IntWalk.i64_in _ (by omega)
        go_wp2_with fail
        go_roundw
        case rel => exact ⟨k + 1, by omega, by go_num, by rw [HS1.out], by rw [HS2.out], hB.alloc hbs _⟩
        case measure => simp [intOf]; omega
      · obtain rfl : k = L.length := by omega
        go_wp2_with fail
        go_ret3
        exact Lib.hid ⟨by simp, hB⟩
end Go.Proofs.Ytlnodjcmdnmnlaa
