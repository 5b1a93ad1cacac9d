/- JoinKeys answers as the reference does, for every list of texts. -/
import Derived.Test.YteclcjhklbookaaLibS
import Derived.Test.YteclcjhklbookaaQStmtFnExactJoinKeys
namespace Go.Proofs.Yteclcjhklbookaa.Pure
open Go.RowKit Go.Proofs.Yteclcjhklbookaa.Q Go.Proofs.YteclcjhklbookaaW.PrintWords Go.Proofs.YteclcjhklbookaaW.PrintLast Go.Proofs.YteclcjhklbookaaW.Pl
/-- one behind the other -/
def cat (acc : ByteArray) (l : List ByteArray) : ByteArray := l.foldl (· ++ ·) acc
def long (t : ByteArray) : Bool := decide ((t.size : Int) > 1000)
theorem spec_loop (l : List ByteArray) (h8 : l.length ≤ 8) : ∀ (d k i : Nat) (acc : ByteArray), i + d = l.length → d < k → acc.size ≤ 1000 * i →
    spec_JoinKeys.l0 k l acc (i : Int) = some (if (l.drop i).any long = true then ((⟨#[]⟩ : ByteArray), 10) else (cat acc (l.drop i), 0)) := by
  intro d
  induction d with
  | zero =>
    intro k i acc hi hk ha
    obtain ⟨k, rfl, _⟩ := fuel hk
    obtain rfl : i = l.length := by omega
    simp only [spec_JoinKeys.l0]
    rw [if_neg (by omega), List.drop_length]; rfl
  | succ d ih =>
    intro k i acc hi hk ha
    obtain ⟨k, rfl, _⟩ := fuel hk
    have hlt : i < l.length := by omega
    simp only [spec_JoinKeys.l0]
    rw [if_pos (by omega), if_pos (by omega), rdOf_at _ _ _ hlt, drop_at l i hlt]
    by_cases h : (l[i].size : Int) > 1000
    · have ht : long l[i] = true := by simpa [long] using h
      rw [if_pos h, List.any_cons, ht, Bool.true_or, if_pos rfl]
    · rw [if_neg h, if_neg (by omega), if_pos (by omega), w64 (by omega) (by omega)]
      have := ih k (i + 1) (acc ++ l[i]) (by omega) (by omega) (by rw [ByteArray.size_append]; omega)
      rw [show ((i : Int) + 1) = ((i + 1 : Nat) : Int) by omega, this]
      have hf : long l[i] = false := by simp [long, h]
      rw [List.any_cons, hf, Bool.false_or]
      rfl
theorem impl_loop (l : List ByteArray) (h8 : l.length ≤ 8) (hs : l.any long = false) : ∀ (d k i : Nat) (acc : ByteArray), i + d = l.length → d < k → acc.size ≤ 1000 * i →
    impl_JoinKeys.l0 k acc l (l.length : Int) (i : Int) = some (cat acc (l.drop i), 0) := by
  intro d
  induction d with
  | zero =>
    intro k i acc hi hk ha
    obtain ⟨k, rfl, _⟩ := fuel hk
    obtain rfl : i = l.length := by omega
    simp only [impl_JoinKeys.l0]
    rw [if_neg (by omega), List.drop_length]; rfl
  | succ d ih =>
    intro k i acc hi hk ha
    obtain ⟨k, rfl, _⟩ := fuel hk
    have hlt : i < l.length := by omega
    have hz : ¬ (l[i].size : Int) > 1000 := by
      have := List.any_eq_false.1 hs l[i] (List.getElem_mem hlt)
      simpa [long] using this
    simp only [impl_JoinKeys.l0]
    rw [if_pos (by omega), if_pos (by omega), if_pos (by omega), rdOf_at _ _ _ hlt, drop_at l i hlt, if_pos (by omega), w64 (by omega) (by omega)]
    have := ih k (i + 1) (acc ++ l[i]) (by omega) (by omega) (by rw [ByteArray.size_append]; omega)
    rw [show ((i : Int) + 1) = ((i + 1 : Nat) : Int) by omega, this]
    rfl
theorem any_tells (l : List ByteArray) (hl : l.length ≤ 1048576) {k : Nat} (hk : l.length < k) : slices_ContainsFunc_string_string_at_JoinKeys_1.f k l = some (l.any long) := by
  unfold slices_ContainsFunc_string_string_at_JoinKeys_1.f slices_IndexFunc_string_string_at_JoinKeys_1.f
  have := first_loop (fun k i => slices_IndexFunc_string_string_at_JoinKeys_1.l0 k l (l.length : Int) i) l long (fun k i hi => by
    simp only [slices_IndexFunc_string_string_at_JoinKeys_1.l0]
    rw [if_pos (by omega), if_pos (by omega), if_pos (by omega), rdOf_at _ _ _ hi, w64 (by omega) (by omega)]
    rfl) (fun k => by simp only [slices_IndexFunc_string_string_at_JoinKeys_1.l0]; rw [if_neg (by omega)]) l.length k 0 (by omega) hk
  rw [show ((0 : Nat) : Int) = 0 from rfl, List.drop_zero] at this
  rw [this]
  simp only [Option.bind_some, first_any]
theorem FnExactJoinKeys : laws_FnExactJoinKeys.Pure := by
  rintro l ⟨hl, hs⟩
  refine ⟨l.length + 2, ?_⟩
  unfold laws_FnExactJoinKeys.f
  rw [szStringS_tells l hl hs (by omega) (by omega) (by omega)]
  simp only [Option.bind_some]
  by_cases hneg : (if (1048576 : Int) - l.length < 0 then -1 else less ByteArray.size l (1048576 - l.length)) < 0
  · rw [if_pos hneg]
  rw [if_neg hneg]
  have hlen : l.length ≤ 1048576 := by
    by_cases h : (1048576 : Int) - l.length < 0
    · rw [if_pos h] at hneg; omega
    · omega
  rw [toStringS_tells l hlen (by omega)]
  simp only [Option.bind_some]
  have hr : ∃ r : ByteArray × Int, spec_JoinKeys.f (l.length + 2) l = some r ∧ impl_JoinKeys.f (l.length + 2) l = some r := by
    unfold spec_JoinKeys.f impl_JoinKeys.f
    by_cases h1 : (l.length : Int) > 4096
    · exact ⟨_, by rw [if_pos h1], by rw [if_pos h1]⟩
    rw [if_neg h1, if_neg h1]
    by_cases h2 : (l.length : Int) > 8
    · refine ⟨((⟨#[]⟩ : ByteArray), 10), ?_, by rw [if_pos h2]⟩
      simp only [spec_JoinKeys.l0]
      rw [if_pos (by omega), if_pos (by omega)]
      by_cases h3 : ((rdOf ByteArray.empty l 0).size : Int) > 1000
      · rw [if_pos h3]
      · rw [if_neg h3, if_pos h2]
    rw [if_neg h2, any_tells l hlen (by omega)]
    simp only [Option.bind_some]
    have hsp := spec_loop l (by omega) l.length (l.length + 2) 0 (⟨#[]⟩ : ByteArray) (by omega) (by omega) (by decide)
    rw [show ((0 : Nat) : Int) = 0 from rfl, List.drop_zero] at hsp
    refine ⟨_, hsp, ?_⟩
    by_cases h3 : l.any long = true
    · rw [if_pos h3, if_pos h3]
    · rw [if_neg h3, if_neg h3]
      have := impl_loop l (by omega) (by simpa using h3) l.length (l.length + 2) 0 (⟨#[]⟩ : ByteArray) (by omega) (by omega) (by decide)
      rw [show ((0 : Nat) : Int) = 0 from rfl, List.drop_zero] at this
      exact this
  obtain ⟨r, hsp, him⟩ := hr
  rw [hsp, him]
  simp only [Option.bind_some]
  rw [if_pos trivial]
  have hb : (r.2 != r.2) = false := by simp
  rw [hb]
  simp only [laws_FnExactJoinKeys.j0]
  rw [if_neg (by simp)]
  rw [toStringS_tells l hlen (by omega)]
  simp only [Option.bind_some]
  rw [eqStringS_self l hlen (by omega)]
  simp
end Go.Proofs.Yteclcjhklbookaa.Pure
