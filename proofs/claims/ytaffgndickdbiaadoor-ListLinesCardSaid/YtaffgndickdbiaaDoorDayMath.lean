/-
  list.Day and its reference: the calendar.
-/
import Derived.Test.YtaffgndickdbiaaDoorData
namespace Go.Creel
set_option linter.unusedVariables false
theorem yoe_eq (o y : Int) (h0 : 0 ≤ y) (h1 : y ≤ 399) (ha : 365*y + y/4 - y/100 ≤ o) (hb : o < 365*(y+1) + (y+1)/4 - (y+1)/100 ∨ (y = 399 ∧ o ≤ 146096)) :
    (o - o/1460 + o/36524 - o/146096)/365 = y := by
  obtain ⟨c, r, hc, hr0, hr1⟩ : ∃ c r : Int, y = 100*c + r ∧ 0 ≤ r ∧ r ≤ 99 := ⟨y/100, y%100, by omega, by omega, by omega⟩
  obtain ⟨q, s, hq, hs0, hs1⟩ : ∃ q s : Int, r = 4*q + s ∧ 0 ≤ s ∧ s ≤ 3 := ⟨r/4, r%4, by omega, by omega, by omega⟩
  have e1 : y/4 = 25*c + q := by omega
  have e2 : y/100 = c := by omega
  rw [e1, e2] at ha
  have hq1 : q ≤ 24 := by omega
  have hq0 : 0 ≤ q := by omega
  have hc0 : 0 ≤ c := by omega
  have hc3 : c ≤ 3 := by omega
  obtain ⟨t, ht⟩ : ∃ t : Int, o = 36524*c + 1461*q + 365*s + t := ⟨o - (36524*c + 1461*q + 365*s), by omega⟩
  have ht0 : 0 ≤ t := by omega
  have ht1 : t ≤ 364 ∨ (t = 365 ∧ s = 3 ∧ (q ≤ 23 ∨ c = 3)) := by
    rcases hb with hb | ⟨hb, hb'⟩
    · have e3 : ((y+1)/4 = 25*c + q ∧ s ≤ 2) ∨ ((y+1)/4 = 25*c + q + 1 ∧ s = 3) := by omega
      have e4 : ((y+1)/100 = c ∧ r ≤ 98) ∨ ((y+1)/100 = c + 1 ∧ r = 99) := by omega
      clear e1 e2
      generalize (y+1)/4 = a at *
      generalize (y+1)/100 = b at *
      omega
    · omega
  clear hb ha e1 e2
  have k1 : o/1460 = 25*c + q + (24*c + q + 365*s + t)/1460 := by omega
  have k2 : o/36524 - o/146096 = c := by
    have : (o/36524 = c ∧ o/146096 = 0) ∨ (o/36524 = 4 ∧ c = 3 ∧ o/146096 = 1) := by
      by_cases hz : o = 146096
      · right; subst hz; exact ⟨rfl, by omega, rfl⟩
      · left; constructor <;> omega
    omega
  have k3 : (24*c + q + 365*s + t)/1460 = 0 ∨ ((24*c + q + 365*s + t)/1460 = 1 ∧ s = 3 ∧ 1 ≤ t) := by omega
  have k4 : s = 3 ∧ t = 365 → (24*c + q + 365*s + t)/1460 = 1 := by omega
  generalize (24*c + q + 365*s + t)/1460 = e at *
  have k5 : o - o/1460 + o/36524 - o/146096 = 365*(100*c+4*q+s) + (t - e) := by omega
  rw [k5]
  have hy : y = 100*c+4*q+s := by omega
  rw [← hy]
  omega
theorem yoe_to (o : Int) (h : 0 ≤ o) : ∀ n : Nat, o < 365*(n:Int) + (n:Int)/4 - (n:Int)/100 → ∃ y : Int, 0 ≤ y ∧ y < n ∧ 365*y + y/4 - y/100 ≤ o ∧ o < 365*(y+1) + (y+1)/4 - (y+1)/100
  | 0, h1 => by simp at h1; omega
  | n + 1, h1 => by
    by_cases h2 : o < 365*(n:Int) + (n:Int)/4 - (n:Int)/100
    · obtain ⟨y, a, b, c, d⟩ := yoe_to o h n h2
      exact ⟨y, a, by omega, c, d⟩
    · exact ⟨n, by omega, by omega, by omega, by simpa using h1⟩
theorem yoe_bd (o : Int) (h : 0 ≤ o) (h2 : o ≤ 146096) : 0 ≤ (o - o/1460 + o/36524 - o/146096)/365 ∧ (o - o/1460 + o/36524 - o/146096)/365 ≤ 399 ∧
    0 ≤ o - (365*((o - o/1460 + o/36524 - o/146096)/365) + ((o - o/1460 + o/36524 - o/146096)/365)/4 - ((o - o/1460 + o/36524 - o/146096)/365)/100) ∧ o - (365*((o - o/1460 + o/36524 - o/146096)/365) + ((o - o/1460 + o/36524 - o/146096)/365)/4 - ((o - o/1460 + o/36524 - o/146096)/365)/100) ≤ 366 := by
  have key : ∃ y : Int, 0 ≤ y ∧ y ≤ 399 ∧ 365*y + y/4 - y/100 ≤ o ∧ (o < 365*(y+1) + (y+1)/4 - (y+1)/100 ∨ (y = 399 ∧ o ≤ 146096)) := by
    by_cases h3 : o < 365*((399:Nat):Int) + ((399:Nat):Int)/4 - ((399:Nat):Int)/100
    · obtain ⟨y, a, b, c, d⟩ := yoe_to o h 399 h3
      exact ⟨y, a, by omega, c, .inl d⟩
    · exact ⟨399, by omega, by omega, by omega, .inr ⟨rfl, h2⟩⟩
  obtain ⟨y, a, b, c, d⟩ := key
  rw [yoe_eq o y a b c d]
  refine ⟨a, b, by omega, ?_⟩
  rcases d with d | ⟨d, d'⟩ <;> omega
def dateD (D : Int) : Int × Int × Int :=
  let era := D / 146097
  let o := D - 146097 * era
  let yoe := (o - o/1460 + o/36524 - o/146096)/365
  let doy := o - (365*yoe + yoe/4 - yoe/100)
  let mp := (5*doy+2)/153
  let d := doy - (153*mp+2)/5 + 1
  if mp < 10 then (yoe + 400*era, mp + 3, d) else (yoe + 400*era + 1, mp - 9, d)
def leapI (y : Int) : Int := if y % 4 = 0 ∧ (y % 100 ≠ 0 ∨ y % 400 = 0) then 1 else 0
theorem leapI_bd (y : Int) : leapI y = 0 ∨ leapI y = 1 := by unfold leapI; split <;> simp
def jan (y : Int) : Int := 365*(y-1) + (y-1)/4 - (y-1)/100 + (y-1)/400 + 306
theorem jan_succ (y : Int) : jan (y+1) = jan y + 365 + leapI y := by
  unfold jan leapI
  rw [show y + 1 - 1 = y by omega]
  split <;> omega
theorem jan_round (y k : Int) : jan (y + 400*k) = jan y + 146097*k := by
  unfold jan; omega
theorem dateD_of (e yoe doy : Int) (h0 : 0 ≤ yoe) (h1 : yoe ≤ 399) (hd : 0 ≤ doy) (hd1 : doy ≤ 364 ∨ (doy = 365 ∧ leapI (yoe+1) = 1)) :
    dateD (146097*e + (365*yoe + yoe/4 - yoe/100) + doy) = (if (5*doy+2)/153 < 10 then (yoe + 400*e, (5*doy+2)/153 + 3, doy - (153*((5*doy+2)/153)+2)/5 + 1) else (yoe + 400*e + 1, (5*doy+2)/153 - 9, doy - (153*((5*doy+2)/153)+2)/5 + 1)) := by
  have hlp : doy = 365 → (yoe + 1) % 4 = 0 ∧ ((yoe + 1) % 100 ≠ 0 ∨ (yoe + 1) % 400 = 0) := by
    intro h
    have h2 : leapI (yoe+1) = 1 := by omega
    unfold leapI at h2
    split at h2
    · assumption
    · omega
  have hlt : 365*yoe + yoe/4 - yoe/100 + doy < 365*(yoe+1) + (yoe+1)/4 - (yoe+1)/100 ∨ (yoe = 399 ∧ 365*yoe + yoe/4 - yoe/100 + doy ≤ 146096) := by
    rcases hd1 with h | ⟨h, _⟩
    · by_cases h9 : yoe = 399
      · right; subst h9; exact ⟨rfl, by omega⟩
      · left
        have : (yoe+1)/4 - (yoe+1)/100 ≥ yoe/4 - yoe/100 := by omega
        omega
    · have := hlp h
      by_cases h9 : yoe = 399
      · right; subst h9; exact ⟨rfl, by omega⟩
      · left
        have : (yoe+1)/4 - (yoe+1)/100 = yoe/4 - yoe/100 + 1 := by omega
        omega
  have hy := yoe_eq (365*yoe + yoe/4 - yoe/100 + doy) yoe h0 h1 (by omega) hlt
  have he : (146097*e + (365*yoe + yoe/4 - yoe/100) + doy) / 146097 = e := by omega
  have ho : 146097*e + (365*yoe + yoe/4 - yoe/100) + doy - 146097 * e = 365*yoe + yoe/4 - yoe/100 + doy := by omega
  unfold dateD
  simp only [he, ho, hy]
  rw [show 365*yoe + yoe/4 - yoe/100 + doy - (365*yoe + yoe/4 - yoe/100) = doy by omega]
def mcum (m L : Int) : Int := if m = 1 then 0 else if m = 2 then 31 else (153*(m-3)+2)/5 + 59 + L
def mlen (m L : Int) : Int := if m = 2 then 28 + L else if m = 4 ∨ m = 6 ∨ m = 9 ∨ m = 11 then 30 else 31
theorem mcum_succ (m L : Int) (h1 : 1 ≤ m) (h2 : m ≤ 12) : mcum (m+1) L = mcum m L + mlen m L := by
  have : m = 1 ∨ m = 2 ∨ m = 3 ∨ m = 4 ∨ m = 5 ∨ m = 6 ∨ m = 7 ∨ m = 8 ∨ m = 9 ∨ m = 10 ∨ m = 11 ∨ m = 12 := by omega
  rcases this with rfl | rfl | rfl | rfl | rfl | rfl | rfl | rfl | rfl | rfl | rfl | rfl <;> simp [mcum, mlen] <;> omega
theorem dateD_fits (y m d : Int) (h1 : 1 ≤ m) (h2 : m ≤ 12) (h3 : 1 ≤ d) (h4 : d ≤ mlen m (leapI y)) : dateD (jan y + mcum m (leapI y) + (d - 1)) = (y, m, d) := by
  by_cases hm : m ≤ 2
  · obtain ⟨e, yoe, hy, g0, g1⟩ : ∃ e yoe : Int, y - 1 = 400*e + yoe ∧ 0 ≤ yoe ∧ yoe ≤ 399 := ⟨(y-1)/400, (y-1)%400, by omega, by omega, by omega⟩
    have hl : leapI (yoe+1) = leapI y := by
      unfold leapI
      rw [show (yoe+1)%4 = y%4 by omega, show (yoe+1)%100 = y%100 by omega, show (yoe+1)%400 = y%400 by omega]
    have hj : jan y = 146097*e + (365*yoe + yoe/4 - yoe/100) + 306 := by unfold jan; omega
    rw [hj]
    have hlb := leapI_bd y
    rcases (show m = 1 ∨ m = 2 by omega) with rfl | rfl
    · have h4' : d ≤ 31 := by simpa [mlen] using h4
      have hc : mcum 1 (leapI y) = 0 := by simp [mcum]
      rw [hc, show 146097*e + (365*yoe + yoe/4 - yoe/100) + 306 + 0 + (d-1) = 146097*e + (365*yoe + yoe/4 - yoe/100) + (306 + (d-1)) by omega]
      rw [dateD_of e yoe _ g0 g1 (by omega) (by omega)]
      have : (5*(306 + (d-1))+2)/153 = 10 := by omega
      rw [this, if_neg (by omega)]
      refine Prod.ext (by simp; omega) (Prod.ext (by simp) (by simp; omega))
    · have h4' : d ≤ 28 + leapI y := by simpa [mlen] using h4
      have hc : mcum 2 (leapI y) = 31 := by simp [mcum]
      rw [hc, show 146097*e + (365*yoe + yoe/4 - yoe/100) + 306 + 31 + (d-1) = 146097*e + (365*yoe + yoe/4 - yoe/100) + (337 + (d-1)) by omega]
      rw [dateD_of e yoe _ g0 g1 (by omega) (by rw [hl]; omega)]
      have : (5*(337 + (d-1))+2)/153 = 11 := by omega
      rw [this, if_neg (by omega)]
      refine Prod.ext (by simp; omega) (Prod.ext (by simp) (by simp; omega))
  · obtain ⟨e, yoe, hy, g0, g1⟩ : ∃ e yoe : Int, y = 400*e + yoe ∧ 0 ≤ yoe ∧ yoe ≤ 399 := ⟨y/400, y%400, by omega, by omega, by omega⟩
    have hj : jan y + 59 + leapI y = 146097*e + (365*yoe + yoe/4 - yoe/100) := by
      have := jan_succ y
      have h2 : jan (y+1) = 146097*e + (365*yoe + yoe/4 - yoe/100) + 306 := by unfold jan; omega
      omega
    have hD : jan y + mcum m (leapI y) + (d-1) = 146097*e + (365*yoe + yoe/4 - yoe/100) + ((153*(m-3)+2)/5 + (d-1)) := by
      unfold mcum
      rw [if_neg (by omega), if_neg (by omega)]
      omega
    have hb : (m-3) = 0 ∨ (m-3) = 1 ∨ (m-3) = 2 ∨ (m-3) = 3 ∨ (m-3) = 4 ∨ (m-3) = 5 ∨ (m-3) = 6 ∨ (m-3) = 7 ∨ (m-3) = 8 ∨ (m-3) = 9 := by omega
    have hmp : (5*((153*(m-3)+2)/5 + (d-1))+2)/153 = m-3 := by
      unfold mlen at h4
      rw [if_neg (by omega)] at h4
      split at h4 <;> omega
    have hmb : 0 ≤ (153*(m-3)+2)/5 + (d-1) ∧ (153*(m-3)+2)/5 + (d-1) ≤ 364 := by
      have : d ≤ 31 := by
        unfold mlen at h4
        rw [if_neg (by omega)] at h4
        split at h4 <;> omega
      omega
    rw [hD, dateD_of e yoe _ g0 g1 hmb.1 (.inl hmb.2), hmp, if_pos (by omega)]
    refine Prod.ext (by simp; omega) (Prod.ext (by simp) (by simp; omega))

theorem tdiv_floor (s : Int) : (s - Int.tmod s 86400 % 86400).tdiv 86400 = s / 86400 := by
  have h1 : Int.tmod s 86400 = s % 86400 ∨ (Int.tmod s 86400 = s % 86400 - 86400 ∧ s % 86400 ≠ 0) := by
    rcases Int.le_total 0 s with h | h
    · left; exact Int.tmod_eq_emod_of_nonneg h
    · have hm := Int.tmod_eq_emod (a := s) (b := 86400)
      have h8 : ((86400 : Int).natAbs : Int) = 86400 := rfl
      by_cases hd : 0 ≤ s ∨ (86400 : Int) ∣ s
      · rw [if_pos hd] at hm; left; omega
      · rw [if_neg hd] at hm
        right
        refine ⟨by omega, fun e => hd (.inr (Int.dvd_of_emod_eq_zero e))⟩
  have h2 : Int.tmod s 86400 % 86400 = s % 86400 := by omega
  rw [h2]
  have h3 : s - s % 86400 = s / 86400 * 86400 := by omega
  rw [h3]
  exact Int.mul_tdiv_cancel _ (by decide)
theorem leapI_round (y k : Int) : leapI (y + 400*k) = leapI y := by
  unfold leapI
  rw [show (y + 400*k)%4 = y%4 by omega, show (y + 400*k)%100 = y%100 by omega, show (y + 400*k)%400 = y%400 by omega]
theorem day_ends (day E y r m q : Int) (h2 : day - 146097*E + 719468 = jan y + r) (h3 : r = mcum m (leapI y) + q) (m1 : 1 ≤ m) (m2 : m ≤ 12) (q0 : 0 ≤ q) (q1 : q < mlen m (leapI y)) : dateD (day + 719468) = (y + 400*E, m, q + 1) := by
  have := dateD_fits (y + 400*E) m (q + 1) m1 m2 (by omega) (by rw [leapI_round]; omega)
  rw [leapI_round, jan_round] at this
  rw [← this]
  congr 1
  omega
theorem jan_le {y r o : Int} (h : o + 719468 = jan y + r) (hr : 0 ≤ r) (ho : o ≤ 146096) (hy : 1970 ≤ y) : y ≤ 2400 := by
  unfold jan at h; omega
theorem mcum_end (L : Int) : mcum 13 L = 365 + L := by simp [mcum]
def dayP (s : Int) : Int × Int × Int := dateD (s / 86400 + 719468)
def dayOf (s : Int) : Int × Int × Int × Int := if s < -1099511627776 ∨ 1099511627776 < s then (0, 0, 0, 4) else ((dayP s).1, (dayP s).2.1, (dayP s).2.2, 0)
end Go.Creel
