/-
  PLAIN: days of years and months, the day of a date, and that a day has one date. No program in sight.
-/
namespace Go.Proofs.YtfojipgbenbigaaDoor

def leapB (y : Int) : Bool := decide (y % 4 = 0 ∧ y % 100 ≠ 0 ∨ y % 400 = 0)
def longI (y : Int) : Int := if leapB y then 366 else 365
def monI (y m : Int) : Int := if m = 2 then (if leapB y then 29 else 28) else if m = 4 ∨ m = 6 ∨ m = 9 ∨ m = 11 then 30 else 31
def isDayB (n : Int) : Bool := decide (0 ≤ n ∧ n ≤ 109572)
def everyB (n : Int) : Bool := decide (1 ≤ n ∧ n ≤ 36600)

/-- The days of the k years from 1900 on, and of the k first months of a year. -/
def yr : Nat → Int
  | 0 => 0
  | k + 1 => yr k + longI (1900 + k)
def mo (y : Int) : Nat → Int
  | 0 => 0
  | k + 1 => mo y k + monI y (1 + k)
def dateOK (y m d : Int) : Bool := decide (1900 ≤ y ∧ y ≤ 2199 ∧ 1 ≤ m ∧ m ≤ 12 ∧ 1 ≤ d ∧ d ≤ monI y m)
def dayI (y m d : Int) : Int := d - 1 + yr (y - 1900).toNat + mo y (m - 1).toNat

theorem longI_bd (y : Int) : 365 ≤ longI y ∧ longI y ≤ 366 := by unfold longI; split <;> omega
theorem monI_bd (y m : Int) : 28 ≤ monI y m ∧ monI y m ≤ 31 := by unfold monI; split <;> split <;> omega
theorem yr_bd (k : Nat) : 365 * (k : Int) ≤ yr k ∧ yr k ≤ 366 * (k : Int) := by
  induction k with
  | zero => simp [yr]
  | succ k ih => have := longI_bd (1900 + k); simp only [yr]; omega
theorem mo_bd (y : Int) (k : Nat) : 28 * (k : Int) ≤ mo y k ∧ mo y k ≤ 31 * (k : Int) := by
  induction k with
  | zero => simp [mo]
  | succ k ih => have := monI_bd y (1 + k); simp only [mo]; omega
theorem yr_mono {j k : Nat} (h : j ≤ k) : yr j ≤ yr k := by
  induction k with
  | zero => obtain rfl : j = 0 := by omega
            exact Int.le_refl _
  | succ k ih =>
    rcases Nat.lt_or_ge j (k + 1) with h' | h'
    · have := ih (by omega); have := longI_bd (1900 + k); simp only [yr]; omega
    · obtain rfl : j = k + 1 := by omega
      exact Int.le_refl _
theorem mo_mono (y : Int) {j k : Nat} (h : j ≤ k) : mo y j ≤ mo y k := by
  induction k with
  | zero => obtain rfl : j = 0 := by omega
            exact Int.le_refl _
  | succ k ih =>
    rcases Nat.lt_or_ge j (k + 1) with h' | h'
    · have := ih (by omega); have := monI_bd y (1 + k); simp only [mo]; omega
    · obtain rfl : j = k + 1 := by omega
      exact Int.le_refl _
theorem yr_all : yr 300 = 109573 := by decide +kernel
theorem mo_all (y : Int) : mo y 12 = longI y := by
  simp only [mo, monI, longI]
  cases leapB y <;> rfl
theorem yr_succ (k : Nat) : yr (k + 1) = yr k + longI (1900 + k) := rfl
theorem mo_succ (y : Int) (k : Nat) : mo y (k + 1) = mo y k + monI y (1 + k) := rfl

theorem dateOK_iff (y m d : Int) : dateOK y m d = true ↔ 1900 ≤ y ∧ y ≤ 2199 ∧ 1 ≤ m ∧ m ≤ 12 ∧ 1 ≤ d ∧ d ≤ monI y m := by simp [dateOK]

theorem nat_of (x : Int) (h : 0 ≤ x) : ∃ k : Nat, x = k := Int.eq_ofNat_of_zero_le h

/-- The rest of the year lies within it. -/
theorem in_year (y m d : Int) (h : dateOK y m d = true) : 0 ≤ d - 1 + mo y (m - 1).toNat ∧ d - 1 + mo y (m - 1).toNat < longI y := by
  rw [dateOK_iff] at h
  obtain ⟨_, _, h3, h4, h5, h6⟩ := h
  obtain ⟨j, hj⟩ := nat_of (m - 1) (by omega)
  obtain rfl : m = 1 + (j : Int) := by omega
  rw [show (1 + (j : Int) - 1).toNat = j from by omega]
  have a := mo_bd y j
  have b := mo_mono y (show j + 1 ≤ 12 by omega)
  rw [mo_succ, mo_all] at b
  omega

theorem dayI_bd (y m d : Int) (h : dateOK y m d = true) : 0 ≤ dayI y m d ∧ dayI y m d ≤ 109572 := by
  have a := in_year y m d h
  rw [dateOK_iff] at h
  obtain ⟨k, hk⟩ := nat_of (y - 1900) (by omega)
  obtain rfl : y = 1900 + (k : Int) := by omega
  unfold dayI
  rw [show (1900 + (k : Int) - 1900).toNat = k from by omega]
  have b := yr_bd k
  have c := yr_mono (show k + 1 ≤ 300 by omega)
  rw [yr_succ, yr_all] at c
  omega

/-- A day has one date. -/
theorem dayI_inj (y m d y' m' d' : Int) (h : dateOK y m d = true) (h' : dateOK y' m' d' = true) (e : dayI y m d = dayI y' m' d') : y = y' ∧ m = m' ∧ d = d' := by
  have a := in_year y m d h
  have a' := in_year y' m' d' h'
  rw [dateOK_iff] at h h'
  unfold dayI at e
  obtain ⟨k, hk⟩ := nat_of (y - 1900) (by omega)
  obtain rfl : y = 1900 + (k : Int) := by omega
  obtain ⟨k', hk'⟩ := nat_of (y' - 1900) (by omega)
  obtain rfl : y' = 1900 + (k' : Int) := by omega
  rw [show (1900 + (k : Int) - 1900).toNat = k from by omega, show (1900 + (k' : Int) - 1900).toNat = k' from by omega] at e
  obtain rfl : k = k' := by
    rcases Nat.lt_trichotomy k k' with l | l | l
    · have := yr_mono (show k + 1 ≤ k' by omega); rw [yr_succ] at this; omega
    · exact l
    · have := yr_mono (show k' + 1 ≤ k by omega); rw [yr_succ] at this; omega
  obtain ⟨j, hj⟩ := nat_of (m - 1) (by omega)
  obtain rfl : m = 1 + (j : Int) := by omega
  obtain ⟨j', hj'⟩ := nat_of (m' - 1) (by omega)
  obtain rfl : m' = 1 + (j' : Int) := by omega
  rw [show (1 + (j : Int) - 1).toNat = j from by omega, show (1 + (j' : Int) - 1).toNat = j' from by omega] at e
  obtain rfl : j = j' := by
    rcases Nat.lt_trichotomy j j' with l | l | l
    · have := mo_mono (1900 + (k : Int)) (show j + 1 ≤ j' by omega); rw [mo_succ] at this; omega
    · exact l
    · have := mo_mono (1900 + (k : Int)) (show j' + 1 ≤ j by omega); rw [mo_succ] at this; omega
  exact ⟨rfl, rfl, by omega⟩

/-- y, m, d is the date of the day n. -/
def IsDate (n y m d : Int) : Prop := dateOK y m d = true ∧ dayI y m d = n
theorem isDate_one {n y m d y' m' d' : Int} (h : IsDate n y m d) (h' : IsDate n y' m' d') : y = y' ∧ m = m' ∧ d = d' :=
  dayI_inj _ _ _ _ _ _ h.1 h'.1 (h.2.trans h'.2.symm)

theorem isDate_mk (n : Int) (k j : Nat) (hk : k ≤ 299) (h0 : 0 ≤ n - yr k - mo (1900 + k) j) (h1 : n - yr k - mo (1900 + k) j < monI (1900 + k) (1 + j)) (hj : j ≤ 11) :
    IsDate n (1900 + k) (1 + j) (n - yr k - mo (1900 + k) j + 1) := by
  refine ⟨(dateOK_iff _ _ _).2 ⟨by omega, by omega, by omega, by omega, by omega, by omega⟩, ?_⟩
  unfold dayI
  rw [show (1900 + (k : Int) - 1900).toNat = k from by omega, show (1 + (j : Int) - 1).toNat = j from by omega]
  omega

/-- What follows a date. -/
theorem isDate_next (n y m d : Int) (h : IsDate n y m d) :
    (d < monI y m ∧ IsDate (n + 1) y m (d + 1)) ∨ (d = monI y m ∧ m < 12 ∧ IsDate (n + 1) y (m + 1) 1) ∨ (d = monI y m ∧ m = 12 ∧ (y < 2199 → IsDate (n + 1) (y + 1) 1 1) ∧ (y = 2199 → n = 109572)) := by
  obtain ⟨h1, h2⟩ := h
  have hy := in_year y m d h1
  rw [dateOK_iff] at h1
  obtain ⟨k, hk⟩ := nat_of (y - 1900) (by omega)
  obtain rfl : y = 1900 + (k : Int) := by omega
  obtain ⟨j, hj⟩ := nat_of (m - 1) (by omega)
  obtain rfl : m = 1 + (j : Int) := by omega
  unfold dayI at h2
  rw [show (1900 + (k : Int) - 1900).toNat = k from by omega, show (1 + (j : Int) - 1).toNat = j from by omega] at h2
  have e1 := mo_succ (1900 + (k : Int)) j
  by_cases a : d < monI (1900 + k) (1 + j)
  · refine .inl ⟨a, (dateOK_iff _ _ _).2 ⟨by omega, by omega, by omega, by omega, by omega, by omega⟩, ?_⟩
    unfold dayI
    rw [show (1900 + (k : Int) - 1900).toNat = k from by omega, show (1 + (j : Int) - 1).toNat = j from by omega]
    omega
  · have hd : d = monI (1900 + k) (1 + j) := by omega
    by_cases b : j < 11
    · refine .inr (.inl ⟨hd, by omega, (dateOK_iff _ _ _).2 ⟨by omega, by omega, by omega, by omega, by omega, ?_⟩, ?_⟩)
      · have := monI_bd (1900 + k) (1 + (j : Int) + 1); omega
      · unfold dayI
        rw [show (1900 + (k : Int) - 1900).toNat = k from by omega, show (1 + (j : Int) + 1 - 1).toNat = j + 1 from by omega]
        omega
    · obtain rfl : j = 11 := by omega
      have e2 := mo_all (1900 + (k : Int))
      rw [show (12 : Nat) = 11 + 1 from rfl] at e2
      refine .inr (.inr ⟨hd, by omega, fun hl => ⟨(dateOK_iff _ _ _).2 ⟨by omega, by omega, by omega, by omega, by omega, ?_⟩, ?_⟩, fun hl => ?_⟩)
      · have := monI_bd (1900 + (k : Int) + 1) 1; omega
      · unfold dayI
        rw [show (1900 + (k : Int) + 1 - 1900).toNat = k + 1 from by omega, yr_succ]
        simp only [Int.sub_self, Int.toNat_zero, mo]
        omega
      · obtain rfl : k = 299 := by omega
        have e3 := yr_all
        rw [show (300 : Nat) = 299 + 1 from rfl, yr_succ] at e3
        omega
theorem day_eq (k j : Nat) (d : Int) : d - 1 + yr k + mo (1900 + (k : Int)) j = dayI (1900 + (k : Int)) (1 + (j : Int)) d := by
  unfold dayI
  rw [show (1900 + (k : Int) - 1900).toNat = k from by omega, show (1 + (j : Int) - 1).toNat = j from by omega]
theorem isDate_bd {n y m d : Int} (h : IsDate n y m d) : 1900 ≤ y ∧ y ≤ 2199 ∧ 1 ≤ m ∧ m ≤ 12 ∧ 1 ≤ d ∧ d ≤ 31 ∧ d ≤ monI y m := by
  have := (dateOK_iff _ _ _).1 h.1
  have := monI_bd y m
  omega
end Go.Proofs.YtfojipgbenbigaaDoor
