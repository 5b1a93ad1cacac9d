/- SameReply answers as the reference does, for all replies. -/
import Derived.Test.YteclcjhklbookaaLibV
import Derived.Test.YteclcjhklbookaaQStmtFnExactSameReply
namespace Go.Proofs.Yteclcjhklbookaa.Pure
open Go.RowKit Go.Proofs.Yteclcjhklbookaa.Q Go.Proofs.YteclcjhklbookaaW.PrintWords Go.Proofs.YteclcjhklbookaaW.PrintLast Go.Proofs.YteclcjhklbookaaW.Pl
/-- what both sides tell of two rows of values -/
def same (a b : List IVal) : Bool := decide (a.length = b.length) && all2 ve a b
theorem spec_rows (n0 n2 m0 m2 : Int) (a b : List IVal) (h : a.length = b.length) (hl : a.length ≤ 1048576) {k : Nat} (hk : a.length < k) :
    spec_l12Same.l0 k 0 n0 a n2 m0 b m2 = some (all2 ve a b) := by
  have := all2_loop (fun k i => spec_l12Same.l0 k i n0 a n2 m0 b m2) a b h ve (fun k i hi => by
    simp only [spec_l12Same.l0]
    rw [if_pos (by omega), if_pos (by omega), if_pos (by omega), rdI_at _ _ hi, rdI_at _ _ (by omega), neValue, w64 (by omega) (by omega)]
    cases ve a[i] (b[i]'(h ▸ hi)) <;> rfl) (fun k => by simp only [spec_l12Same.l0]; rw [if_neg (by omega)]) a.length k 0 (by omega) hk
  simpa using this
theorem impl_rows (a b : List IVal) (hl : a.length ≤ 1048576) {k : Nat} (hk : a.length < k) : impl_Value.f k a b = some (same a b) := by
  unfold impl_Value.f same
  by_cases h : a.length = b.length
  · rw [if_pos (by omega)]
    have := all2_loop (fun k i => impl_Value.l0 k a b (a.length : Int) i) a b h ve (fun k i hi => by
      simp only [impl_Value.l0]
      rw [if_pos (by omega), if_pos (by omega), if_pos (by omega), if_pos (by omega), rdI_at _ _ hi, rdI_at _ _ (by omega), neValue, w64 (by omega) (by omega)]
      cases ve a[i] (b[i]'(h ▸ hi)) <;> rfl) (fun k => by simp only [impl_Value.l0]; rw [if_neg (by omega)]) a.length k 0 (by omega) hk
    rw [show ((0 : Nat) : Int) = 0 from rfl, List.drop_zero, List.drop_zero] at this
    rw [this]; simp [h]
  · rw [if_neg (by omega)]; simp [h]
theorem both (n0 n2 m0 m2 : Int) (a b : List IVal) (hl : a.length ≤ 1048576) {k : Nat} (hk : a.length + 1 < k) :
    ∃ r, spec_SameReply.f k n0 a n2 m0 b m2 = some r ∧ impl_SameReply.f k n0 a n2 m0 b m2 = some r := by
  obtain ⟨k, rfl, hk'⟩ := fuel hk
  unfold spec_SameReply.f impl_SameReply.f
  by_cases h1 : (a.length : Int) ≤ 4096
  · rw [if_pos h1, if_pos h1]
    by_cases h2 : (b.length : Int) ≤ 4096
    · rw [if_pos h2, if_pos h2]
      unfold impl_sameReply.f spec_l12Same.f
      rw [impl_rows a b hl (by omega)]
      have hj : spec_l12Same.j0 (k + 1) ((a.length : Int) != (b.length : Int)) n0 a n2 m0 b m2 = some (same a b) := by
        simp only [spec_l12Same.j0]
        by_cases h : a.length = b.length
        · have hn : ((a.length : Int) != (b.length : Int)) = false := by simp [h]
          rw [hn, if_neg (by simp), spec_rows n0 n2 m0 m2 a b h hl (by omega)]
          simp [same, h]
        · have hn : ((a.length : Int) != (b.length : Int)) = true := by simp; omega
          rw [hn, if_pos rfl]
          simp [same, h]
      have ht : spec_l12Same.j0 (k + 1) true n0 a n2 m0 b m2 = some false := by
        simp only [spec_l12Same.j0]
        rw [if_pos trivial]
      rw [hj, ht]
      by_cases h3 : n0 = m0
      · rw [if_pos h3, if_pos h3]
        by_cases h4 : n2 = m2
        · rw [if_pos h4, if_pos h4]; exact ⟨_, rfl, rfl⟩
        · rw [if_neg h4, if_neg h4]; exact ⟨_, rfl, rfl⟩
      · rw [if_neg h3, if_neg h3]; exact ⟨_, rfl, rfl⟩
    · rw [if_neg h2, if_neg h2]; exact ⟨_, rfl, rfl⟩
  · rw [if_neg h1, if_neg h1]; exact ⟨_, rfl, rfl⟩
theorem szReply_tells (n0 n2 : Int) (l : List LVal) (hl : l.length ≤ 9223372036854775807) (hs : ∀ x ∈ l, x.f2.size ≤ 9223372036854775807) {left : Int} (h0 : 0 ≤ left) (h1 : left ≤ 1048576) {k : Nat} (hk : l.length < k) :
    ∃ r, laws_szReply.f k n0 l n2 left = some r ∧ (0 ≤ r → l.length ≤ 1048576 ∧ r ≤ left) := by
  unfold laws_szReply.f
  rw [szValueS_tells l hl hs h0 h1 hk]
  simp only [Option.bind_some]
  by_cases h : left - l.length < 0
  · rw [if_pos h]; exact ⟨-1, by rw [if_pos (by omega)], fun h => by omega⟩
  · rw [if_neg h, less_is _ _ _ (by omega)]
    by_cases h2 : left - l.length < (total (fun v : LVal => v.f2.size) l : Nat)
    · rw [if_pos h2]; exact ⟨-1, by rw [if_pos (by omega)], fun h => by omega⟩
    · rw [if_neg h2]; exact ⟨_, by rw [if_neg (by omega)], fun _ => ⟨by omega, by omega⟩⟩
theorem toReply_tells (n0 n2 : Int) (l : List LVal) (hl : l.length ≤ 1048576) {k : Nat} (hk : l.length < k) : laws_toReply.f k n0 l n2 = some (n0, l.map iv, n2) := by
  unfold laws_toReply.f
  rw [toValueS_tells l hl hk]; rfl
theorem eqReply_self (n0 n2 : Int) (l : List IVal) (hl : l.length ≤ 1048576) {k : Nat} (hk : l.length < k) : laws_eqReply.f k n0 l n2 n0 l n2 = some true := by
  unfold laws_eqReply.f
  rw [if_pos rfl, eqValueS_self l hl hk]; simp
theorem FnExactSameReply : laws_FnExactSameReply.Pure := by
  rintro ⟨n0, l, n2⟩ ⟨m0, l', m2⟩ ⟨_, ⟨hl, hs⟩, _⟩ ⟨_, ⟨hl', hs'⟩, _⟩
  have hs2 : ∀ x ∈ l, x.f2.size ≤ 9223372036854775807 := fun x hx => (hs x hx).2.2
  have hs2' : ∀ x ∈ l', x.f2.size ≤ 9223372036854775807 := fun x hx => (hs' x hx).2.2
  refine ⟨l.length + l'.length + 3, ?_⟩
  show laws_FnExactSameReply.f (l.length + l'.length + 3) n0 l n2 m0 l' m2 = some true
  unfold laws_FnExactSameReply.f
  obtain ⟨r, hr, hr'⟩ := szReply_tells n0 n2 l hl hs2 (left := 1048576) (by omega) (by omega) (k := l.length + l'.length + 3) (by omega)
  rw [hr]; simp only [Option.bind_some]
  by_cases h : r < 0
  · rw [if_pos h]
  rw [if_neg h]
  obtain ⟨hlen, hle⟩ := hr' (by omega)
  obtain ⟨q, hq, hq'⟩ := szReply_tells m0 m2 l' hl' hs2' (left := r) (by omega) (by omega) (k := l.length + l'.length + 3) (by omega)
  rw [hq]; simp only [Option.bind_some]
  by_cases h : q < 0
  · rw [if_pos h]
  rw [if_neg h]
  obtain ⟨hlen', _⟩ := hq' (by omega)
  rw [toReply_tells n0 n2 l hlen (by omega)]; simp only [Option.bind_some]
  rw [toReply_tells m0 m2 l' hlen' (by omega)]; simp only [Option.bind_some]
  obtain ⟨b, hb, hb'⟩ := both n0 n2 m0 m2 (l.map iv) (l'.map iv) (by simpa using hlen) (k := l.length + l'.length + 3) (by simp; omega)
  rw [hb]; simp only [Option.bind_some]
  rw [hb']; simp only [Option.bind_some]
  rw [if_neg (by simp), eqReply_self n0 n2 _ (by simpa using hlen) (by simp; omega)]; simp only [Option.bind_some]
  rw [if_pos trivial, eqReply_self m0 m2 _ (by simpa using hlen') (by simp; omega)]; simp
end Go.Proofs.Yteclcjhklbookaa.Pure
