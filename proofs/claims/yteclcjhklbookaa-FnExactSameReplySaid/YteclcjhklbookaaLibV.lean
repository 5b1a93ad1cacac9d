/- The laws' helpers over values: what they measure, copy and compare. -/
import Derived.Test.YteclcjhklbookaaPl
import Derived.Test.YteclcjhklbookaaQ4
import Derived.Test.YteclcjhklbookaaQ5
import Derived.Test.YteclcjhklbookaaQ6
namespace Go.Proofs.Yteclcjhklbookaa.Pure
open Go.RowKit Go.Proofs.Yteclcjhklbookaa.Q Go.Proofs.YteclcjhklbookaaW.PrintWords Go.Proofs.YteclcjhklbookaaW.PrintLast Go.Proofs.YteclcjhklbookaaW.Pl
/-- the law's values and the program's -/
abbrev LVal := S50
abbrev IVal := S51
def iv (v : LVal) : IVal := ⟨v.f0, v.f1, v.f2⟩
theorem ival_ext {a b : IVal} (h0 : a.f0 = b.f0) (h1 : a.f1 = b.f1) (h2 : a.f2 = b.f2) : a = b := by cases a; cases b; simp_all
theorem szValue_tells (v : LVal) (h : v.f2.size ≤ 9223372036854775807) {left : Int} (h0 : 0 ≤ left) (h1 : left ≤ 1048576) :
    laws_szValue.f v.f0 v.f1 v.f2 left = some (if left - v.f2.size < 0 then -1 else left - v.f2.size) := by
  unfold laws_szValue.f
  rw [w64 (by omega) (by omega)]
  split <;> rfl
theorem toValue_tells (v : LVal) : laws_toValue.f v.f0 v.f1 v.f2 = some (v.f0, v.f1, v.f2) := rfl
/-- two values, field by field -/
def ve (a b : IVal) : Bool := a.f0 == b.f0 && (a.f1 == b.f1 && a.f2.toList == b.f2.toList)
theorem ve_iff (a b : IVal) : ve a b = true ↔ a = b := by
  unfold ve
  constructor
  · intro h
    simp only [Bool.and_eq_true, beq_iff_eq] at h
    exact ival_ext h.1 h.2.1 (ba_ext h.2.2)
  · rintro rfl; simp
theorem eqValue_tells (a b : IVal) : laws_eqValue.f a.f0 a.f1 a.f2 b.f0 b.f1 b.f2 = some (ve a b) := by
  unfold laws_eqValue.f ve
  by_cases h0 : a.f0 = b.f0
  · rw [if_pos h0]
    by_cases h1 : a.f1 = b.f1
    · rw [if_pos h1]
      by_cases h2 : a.f2.toList = b.f2.toList
      · rw [if_pos h2]; simp [h0, h1, h2]
      · rw [if_neg h2]; simp [h2]
    · rw [if_neg h1]; simp [h1]
  · rw [if_neg h0]; simp [h0]
theorem neValue (a b : IVal) : (!(a.f0 == b.f0) || (!(a.f1 == b.f1) || !(a.f2.toList == b.f2.toList))) = !ve a b := by
  unfold ve
  cases a.f0 == b.f0 <;> cases a.f1 == b.f1 <;> cases a.f2.toList == b.f2.toList <;> rfl
theorem rdL_at (l : List LVal) (i : Nat) (h : i < l.length) : rd_T50 l (i : Int) = l[i] := getD_at _ l i h
theorem rdI_at (l : List IVal) (i : Nat) (h : i < l.length) : rd_T51 l (i : Int) = l[i] := getD_at _ l i h
theorem szValueS_tells (l : List LVal) (hl : l.length ≤ 9223372036854775807) (hs : ∀ x ∈ l, x.f2.size ≤ 9223372036854775807) {left : Int} (h0 : 0 ≤ left) (h1 : left ≤ 1048576) {k : Nat} (hk : l.length < k) :
    laws_szValueS.f k l left = some (if left - l.length < 0 then -1 else less (fun v => v.f2.size) l (left - l.length)) := by
  unfold laws_szValueS.f
  rw [w64 (by omega) (by omega)]
  by_cases h : left - l.length < 0
  · rw [if_pos h, if_pos h]
  · rw [if_neg h, if_neg h]
    have := less_loop (fun k l' i => laws_szValueS.l0 k l l' i) l (fun v => v.f2.size) (fun k i l' hi a b => by
      have hsz := hs l[i] (List.getElem_mem hi)
      simp only [laws_szValueS.l0]
      rw [if_pos (by omega), if_pos (by omega), rdL_at _ _ hi, szValue_tells _ hsz a b, w64 (i := (i : Int) + 1) (by omega) (by omega)]
      simp only [Option.bind_some]
      by_cases h2 : l' - (l[i].f2.size : Int) < 0
      · rw [if_pos h2, if_pos h2, if_pos (by omega)]
      · rw [if_neg h2, if_neg h2, if_neg h2]; rfl) (fun k l' => by simp only [laws_szValueS.l0]; rw [if_neg (by omega)]) l.length k 0 (left - l.length) (by omega) hk (by omega) (by omega)
    simpa using this
theorem toValueS_tells (l : List LVal) (hl : l.length ≤ 1048576) {k : Nat} (hk : l.length < k) : laws_toValueS.f k l = some (l.map iv) := by
  unfold laws_toValueS.f
  rw [if_pos (by omega), if_pos (by omega)]
  have := map_loop0 (fun k ys i => laws_toValueS.l0 k l ys i) l iv (fun k ys i hi hy => by
    simp only [laws_toValueS.l0]
    rw [if_pos (by omega), if_pos (by omega), rdL_at _ _ hi, toValue_tells]
    simp only [Option.bind_some]
    rw [if_pos (by omega), w64 (by omega) (by omega)]
    rfl) (fun k ys hy => by simp only [laws_toValueS.l0]; rw [if_neg (by omega)]) hk z51
  simpa using this
theorem eqValueS_tells (a b : List IVal) (hl : a.length ≤ 1048576) {k : Nat} (hk : a.length < k) : laws_eqValueS.f k a b = some (decide (a.length = b.length) && all2 ve a b) := by
  unfold laws_eqValueS.f
  by_cases h : a.length = b.length
  · rw [if_pos (by omega)]
    have := all2_loop (fun k i => laws_eqValueS.l0 k a b i) a b h ve (fun k i hi => by
      simp only [laws_eqValueS.l0]
      rw [if_pos (by omega), if_pos (by omega), if_pos (by omega), rdI_at _ _ hi, rdI_at _ _ (by omega), eqValue_tells, w64 (by omega) (by omega)]
      rfl) (fun k => by simp only [laws_eqValueS.l0]; rw [if_neg (by omega)]) a.length k 0 (by omega) hk
    rw [show ((0 : Nat) : Int) = 0 from rfl, List.drop_zero, List.drop_zero] at this
    rw [this]; simp [h]
  · rw [if_neg (by omega)]; simp [h]
theorem eqValueS_self (a : List IVal) (hl : a.length ≤ 1048576) {k : Nat} (hk : a.length < k) : laws_eqValueS.f k a a = some true := by
  rw [eqValueS_tells a a hl hk, all2_refl ve (fun x => (ve_iff x x).mpr rfl)]; simp
end Go.Proofs.Yteclcjhklbookaa.Pure
