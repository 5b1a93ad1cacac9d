/- FnExactTreeSize: for every argument the law answers true, and the argument reads behind the call as it read before. No condition. -/
import Derived.Test.YtoceopjhacpjnaaKLawFnExactTreeSizep2
import Derived.Test.YtoceopjhacpjnaaKLawFnExactTreeSizep0
import Derived.Lib.Bytealg
import Derived.Test.YtoceopjhacpjnaaKLawFnExactTreeSizep1
import Derived.Test.YtoceopjhacpjnaaRows
import Derived.WalkKit
import Derived.ProofKit
import Derived.OpenShut
import Derived.ShutString
import Derived.ChangeOld
import Derived.Below
import Derived.SizedLaws
import Derived.Carry
namespace Go.Proofs.Ytoceopjhacpjnaa.Pure
open Go.RowKit Go.Proofs.Ytoceopjhacpjnaa.Q Go.Proofs.YtoceopjhacpjnaaW.PrintWords Go.Proofs.YtoceopjhacpjnaaW.PrintLast Go.Proofs.YtoceopjhacpjnaaW.Pl
abbrev LEnt := S49
abbrev IEnt := S52
abbrev LPag := S105
abbrev IPag := S76
def ie (e : LEnt) : IEnt := ⟨e.f0, e.f1⟩
def ip (p : LPag) : IPag := ⟨p.f0, p.f1.map ie⟩
theorem wi {i : Nat} (h : i ≤ 9223372036854775806) : wrap64 ((i : Int) + 1) = ((i + 1 : Nat) : Int) := w64 (by omega) (by omega)
theorem rdLE (l : List LEnt) (i : Nat) (h : i < l.length) : rd_T49 l (i : Int) = l[i] := getD_at _ l i h
theorem rdIE (l : List IEnt) (i : Nat) (h : i < l.length) : rd_T52 l (i : Int) = l[i] := getD_at _ l i h
theorem rdLP (l : List LPag) (i : Nat) (h : i < l.length) : rd_T105 l (i : Int) = l[i] := getD_at _ l i h
theorem rdIP (l : List IPag) (i : Nat) (h : i < l.length) : rd_T76 l (i : Int) = l[i] := getD_at _ l i h
theorem szEntry_tells (e : LEnt) (h : e.f0.size ≤ 9223372036854775807) {left : Int} (h0 : 0 ≤ left) (h1 : left ≤ 1048576) :
    laws_szEntry.f e.f0 e.f1 left = some (if left - e.f0.size < 0 then -1 else left - e.f0.size) := by
  unfold laws_szEntry.f
  rw [w64 (by omega) (by omega)]
  split <;> rfl
def szES (l : List LEnt) : Nat := l.length + total (fun e => e.f0.size) l
theorem szEntryS_tells (l : List LEnt) (hl : l.length ≤ 9223372036854775807) (hs : ∀ x ∈ l, x.f0.size ≤ 9223372036854775807) {left : Int} (h0 : 0 ≤ left) (h1 : left ≤ 1048576) :
    Eve (fun k => laws_szEntryS.f k l left) (if left - szES l < 0 then -1 else left - szES l) := by
  simp only [laws_szEntryS.f]
  rw [w64 (by omega) (by omega)]
  refine Eve.ite (fun h => Eve.one.eq ?_) (fun h => ?_)
  · rw [if_pos (by simp [szES]; omega)]
  refine (ev_less l (fun k l' i => laws_szEntryS.l0 k l l' i) (fun e => e.f0.size) (fun l' => ?_) (fun i hi l' v a b ih => ?_) (by omega) (by omega)).eq ?_
  · simp only [laws_szEntryS.l0]
    exact Eve.ite (fun h => absurd h (by omega)) (fun _ => Eve.one)
  · have hsz := hs l[i] (List.getElem_mem hi)
    simp only [laws_szEntryS.l0]
    refine Eve.ite (fun _ => ?_) (fun h => absurd h (by omega))
    refine Eve.ite (fun _ => ?_) (fun h => absurd h (by omega))
    simp only [rdLE _ _ hi, szEntry_tells _ hsz a b, Option.bind_some, wi (show i ≤ 9223372036854775806 by omega)]
    by_cases h2 : l' - (l[i].f0.size : Int) < 0
    · simp only [if_pos h2]
      exact Eve.ite (fun _ => Eve.one) (fun h => absurd h (by omega))
    · simp only [if_neg h2]
      exact ih (by omega)
  · have : ((szES l : Nat) : Int) = l.length + total (fun e => e.f0.size) l := by simp [szES]
    rw [this, Int.sub_sub]
theorem szPage_tells (p : LPag) (hl : p.f1.length ≤ 9223372036854775807) (hs : ∀ x ∈ p.f1, x.f0.size ≤ 9223372036854775807) {left : Int} (h0 : 0 ≤ left) (h1 : left ≤ 1048576) :
    Eve (fun k => laws_szPage.f k p.f0 p.f1 left) (if left - szES p.f1 < 0 then -1 else left - szES p.f1) := by
  simp only [laws_szPage.f]
  refine Eve.bind (szEntryS_tells p.f1 hl hs h0 h1) ?_
  by_cases h : left - szES p.f1 < 0
  · simp only [if_pos h]; exact Eve.ite (fun _ => Eve.one) (fun h => absurd h (by omega))
  · simp only [if_neg h]; exact Eve.one
def goodP (p : LPag) : Prop := p.f1.length ≤ 9223372036854775807 ∧ ∀ x ∈ p.f1, x.f0.size ≤ 9223372036854775807
def szPS (l : List LPag) : Nat := l.length + total (fun p => szES p.f1) l
theorem szPageS_tells (l : List LPag) (hl : l.length ≤ 9223372036854775807) (hs : ∀ x ∈ l, goodP x) {left : Int} (h0 : 0 ≤ left) (h1 : left ≤ 1048576) :
    Eve (fun k => laws_szPageS.f k l left) (if left - szPS l < 0 then -1 else left - szPS l) := by
  simp only [laws_szPageS.f]
  rw [w64 (by omega) (by omega)]
  refine Eve.ite (fun h => Eve.one.eq ?_) (fun h => ?_)
  · rw [if_pos (by simp [szPS]; omega)]
  refine (ev_less l (fun k l' i => laws_szPageS.l0 k l l' i) (fun p => szES p.f1) (fun l' => ?_) (fun i hi l' v a b ih => ?_) (by omega) (by omega)).eq ?_
  · simp only [laws_szPageS.l0]
    exact Eve.ite (fun h => absurd h (by omega)) (fun _ => Eve.one)
  · have hsz := hs l[i] (List.getElem_mem hi)
    simp only [laws_szPageS.l0]
    refine Eve.ite (fun _ => ?_) (fun h => absurd h (by omega))
    refine Eve.ite (fun _ => ?_) (fun h => absurd h (by omega))
    simp only [rdLP _ _ hi, wi (show i ≤ 9223372036854775806 by omega)]
    refine Eve.bind (szPage_tells l[i] hsz.1 hsz.2 a b) ?_
    by_cases h2 : l' - (szES l[i].f1 : Int) < 0
    · simp only [if_pos h2]
      exact Eve.ite (fun _ => Eve.one) (fun h => absurd h (by omega))
    · simp only [if_neg h2]
      exact ih (by omega)
  · have : ((szPS l : Nat) : Int) = l.length + total (fun p => szES p.f1) l := by simp [szPS]
    rw [this, Int.sub_sub]
theorem szTree_tells (l : List LPag) (n : Int) (hl : l.length ≤ 9223372036854775807) (hs : ∀ x ∈ l, goodP x) {left : Int} (h0 : 0 ≤ left) (h1 : left ≤ 1048576) :
    Eve (fun k => laws_szTree.f k l n left) (if left - szPS l < 0 then -1 else left - szPS l) := by
  simp only [laws_szTree.f]
  refine Eve.bind (szPageS_tells l hl hs h0 h1) ?_
  by_cases h : left - szPS l < 0
  · simp only [if_pos h]; exact Eve.ite (fun _ => Eve.one) (fun h => absurd h (by omega))
  · simp only [if_neg h]; exact Eve.one
/-- the tree is within the law's limit -/
def Fits (l : List LPag) : Prop := szPS l ≤ 1048576
theorem Fits.len {l : List LPag} (h : Fits l) : l.length ≤ 1048576 := by unfold Fits szPS at h; omega
theorem Fits.page {l : List LPag} (h : Fits l) (p : LPag) (hp : p ∈ l) : p.f1.length ≤ 1048576 := by
  unfold Fits szPS at h
  have := total_le (fun p => szES p.f1) l p hp
  simp only [szES] at this
  unfold szES at h
  omega
theorem flat_le : ∀ l : List LPag, (l.flatMap (·.f1)).length ≤ total (fun p => szES p.f1) l
  | [] => by simp
  | p :: l => by
    have := flat_le l
    simp [total, szES] at *
    omega
theorem Fits.flat {l : List LPag} (h : Fits l) : (l.flatMap (·.f1)).length ≤ 1048576 := by
  have := flat_le l
  unfold Fits szPS at h
  omega
theorem toEntryS_tells (l : List LEnt) (hl : l.length ≤ 1048576) : Eve (fun k => laws_toEntryS.f k l) (l.map ie) := by
  simp only [laws_toEntryS.f]
  refine Eve.ite (fun _ => ?_) (fun h => absurd h (by omega))
  refine Eve.ite (fun _ => ?_) (fun h => absurd h (by omega))
  refine (ev_map l (fun k ys i => laws_toEntryS.l0 k l ys i) ie z52 (fun ys hy => ?_) (fun i hi ys v hy ih => ?_))
  · simp only [laws_toEntryS.l0]
    exact Eve.ite (fun h => absurd h (by omega)) (fun _ => Eve.one)
  · simp only [laws_toEntryS.l0]
    refine Eve.ite (fun _ => ?_) (fun h => absurd h (by omega))
    refine Eve.ite (fun _ => ?_) (fun h => absurd h (by omega))
    simp only [rdLE _ _ hi, laws_toEntry.f, Option.bind_some, wi (show i ≤ 9223372036854775806 by omega)]
    refine Eve.ite (fun _ => ?_) (fun h => absurd h (by omega))
    exact ih
theorem toPage_tells (p : LPag) (hl : p.f1.length ≤ 1048576) : Eve (fun k => laws_toPage.f k p.f0 p.f1) (p.f0, p.f1.map ie) := by
  simp only [laws_toPage.f]
  exact Eve.bind (toEntryS_tells p.f1 hl) Eve.one
theorem toPageS_tells (l : List LPag) (hl : l.length ≤ 1048576) (hs : ∀ p ∈ l, p.f1.length ≤ 1048576) : Eve (fun k => laws_toPageS.f k l) (l.map ip) := by
  simp only [laws_toPageS.f]
  refine Eve.ite (fun _ => ?_) (fun h => absurd h (by omega))
  refine Eve.ite (fun _ => ?_) (fun h => absurd h (by omega))
  refine (ev_map l (fun k ys i => laws_toPageS.l0 k l ys i) ip z76 (fun ys hy => ?_) (fun i hi ys v hy ih => ?_))
  · simp only [laws_toPageS.l0]
    exact Eve.ite (fun h => absurd h (by omega)) (fun _ => Eve.one)
  · simp only [laws_toPageS.l0]
    refine Eve.ite (fun _ => ?_) (fun h => absurd h (by omega))
    refine Eve.ite (fun _ => ?_) (fun h => absurd h (by omega))
    simp only [rdLP _ _ hi, wi (show i ≤ 9223372036854775806 by omega)]
    refine Eve.bind (toPage_tells l[i] (hs _ (List.getElem_mem hi))) ?_
    refine Eve.ite (fun _ => ?_) (fun h => absurd h (by omega))
    exact ih
theorem toTree_tells (l : List LPag) (n : Int) (h : Fits l) : Eve (fun k => laws_toTree.f k l n) (l.map ip, n) := by
  simp only [laws_toTree.f]
  exact Eve.bind (toPageS_tells l h.len h.page) Eve.one
theorem eqEntryS_self (l : List IEnt) (hl : l.length ≤ 1048576) : Eve (fun k => laws_eqEntryS.f k l l) true := by
  simp only [laws_eqEntryS.f, if_true]
  refine (ev_all l (fun k i => laws_eqEntryS.l0 k l l i) (fun _ => true) ?_ (fun i hi v ih => ?_)).eq (by simp)
  · simp only [laws_eqEntryS.l0]
    exact Eve.ite (fun h => absurd h (by omega)) (fun _ => Eve.one)
  · simp only [laws_eqEntryS.l0]
    refine Eve.ite (fun _ => ?_) (fun h => absurd h (by omega))
    refine Eve.ite (fun _ => ?_) (fun h => absurd h (by omega))
    simp only [laws_eqEntry.f, if_true, Option.bind_some, wi (show i ≤ 9223372036854775806 by omega), Bool.true_and]
    exact Eve.ite (fun _ => ih) (fun h => absurd (by omega) h)
theorem eqPageS_self (l : List IPag) (hl : l.length ≤ 1048576) (hs : ∀ p ∈ l, p.f1.length ≤ 1048576) : Eve (fun k => laws_eqPageS.f k l l) true := by
  simp only [laws_eqPageS.f, if_true]
  refine (ev_all l (fun k i => laws_eqPageS.l0 k l l i) (fun _ => true) ?_ (fun i hi v ih => ?_)).eq (by simp)
  · simp only [laws_eqPageS.l0]
    exact Eve.ite (fun h => absurd h (by omega)) (fun _ => Eve.one)
  · simp only [laws_eqPageS.l0]
    refine Eve.ite (fun _ => ?_) (fun h => absurd h (by omega))
    refine Eve.ite (fun _ => ?_) (fun h => absurd h (by omega))
    refine Eve.ite (fun _ => ?_) (fun h => absurd (by omega) h)
    simp only [rdIP _ _ hi, laws_eqPage.f, if_true, Bool.true_and, wi (show i ≤ 9223372036854775806 by omega)]
    refine Eve.bind (v := true) (Eve.bind (eqEntryS_self _ (hs _ (List.getElem_mem hi))) ?_) ?_
    · simp only [if_true]; exact Eve.one
    · simp only [if_true]; exact ih
theorem eqTree_self (l : List IPag) (n : Int) (hl : l.length ≤ 1048576) (hs : ∀ p ∈ l, p.f1.length ≤ 1048576) : Eve (fun k => laws_eqTree.f k l n l n) true := by
  simp only [laws_eqTree.f, if_true]
  refine Eve.bind (eqPageS_self l hl hs) ?_
  simp only [if_true]; exact Eve.one
theorem eqTree_to (l : List LPag) (n : Int) (h : Fits l) : Eve (fun k => laws_eqTree.f k (l.map ip) n (l.map ip) n) true := by
  refine eqTree_self _ n (by simpa using h.len) (fun p hp => ?_)
  obtain ⟨q, hq, rfl⟩ := List.mem_map.1 hp
  simpa [ip] using h.page q hq
theorem good_pages {l : List LPag} (h : l.length ≤ 9223372036854775807 ∧ ∀ y ∈ l, good105 y) : ∀ p ∈ l, goodP p :=
  fun p hp => ⟨(h.2 p hp).2.1, fun e he => ((h.2 p hp).2.2 e he).1⟩
end Go.Proofs.Ytoceopjhacpjnaa.Pure
namespace Go.Proofs.Ytoceopjhacpjnaa.Pure
open Go.RowKit Go.Proofs.Ytoceopjhacpjnaa.Q Go.Proofs.YtoceopjhacpjnaaW.PrintWords Go.Proofs.YtoceopjhacpjnaaW.PrintLast Go.Proofs.YtoceopjhacpjnaaW.PrintMore Go.Proofs.YtoceopjhacpjnaaW.Pl
/-- an order of texts, as two functions tell it -/
theorem cb_is : ∀ x y : List UInt8, Lib.compareBytes x y = if Op.bytesLess x y = true then -1 else if x = y then 0 else 1
  | [], [] => by simp [Lib.compareBytes, Op.bytesLess]
  | [], _ :: _ => by simp [Lib.compareBytes, Op.bytesLess]
  | _ :: _, [] => by simp [Lib.compareBytes, Op.bytesLess]
  | a :: x, b :: y => by
    simp only [Lib.compareBytes, Op.bytesLess]
    rw [cb_is x y]
    by_cases h : a < b
    · simp [h]
    · by_cases h2 : b < a
      · have h3 : ¬ a = b := by rintro rfl; exact h h2
        simp [h, h2, h3]
      · have h3 : a = b := by
          apply UInt8.toNat_inj.mp
          rw [UInt8.lt_iff_toNat_lt] at h h2
          omega
        subst h3
        simp [h]
/-- e comes before f -/
def el (a b : IEnt) : Bool := Op.bytesLess a.f0.toList b.f0.toList || (decide (a.f0.toList = b.f0.toList) && decide (a.f1 < b.f1))
theorem less_tells (a b : IEnt) : spec_l05Less.f a.f0 a.f1 b.f0 b.f1 = some (el a b) := by
  unfold spec_l05Less.f el
  by_cases h : Op.bytesLess a.f0.toList b.f0.toList = true
  · rw [if_pos h, h]; rfl
  · rw [if_neg h]
    by_cases h2 : a.f0.toList = b.f0.toList
    · rw [if_pos h2]; simp [h2] at *; simp [h]
    · rw [if_neg h2]; simp [h, h2]
def ce (a b : IEnt) : Int := if Op.bytesLess a.f0.toList b.f0.toList = true then -1 else if a.f0.toList = b.f0.toList then (if a.f1 < b.f1 then -1 else if a.f1 > b.f1 then 1 else 0) else 1
theorem compare_tells (a b : IEnt) : Eve (fun k => impl_compareEntries.f k a.f0 a.f1 b.f0 b.f1) (ce a b) := by
  refine ⟨4, fun k hk => ?_⟩
  obtain ⟨k, rfl⟩ : ∃ m, k = m + 3 := ⟨k - 3, by omega⟩
  have w1 : wrap64 (0 + 1) = 1 := w64 (by omega) (by omega)
  have w2 : wrap64 (1 + 1) = 2 := w64 (by omega) (by omega)
  have hor : ∀ p q : Int, cmp_Or_int.f (k + 3) [p, q] = some (if p = 0 then q else p) := by
    intro p q
    have r0 : rd [p, q] 0 = p := rfl
    have r1 : rd [p, q] 1 = q := rfl
    simp only [cmp_Or_int.f, cmp_Or_int.l0, List.length_cons, List.length_nil, w1, w2, r0, r1]
    by_cases hp : p = 0
    · by_cases hq : q = 0
      · simp [hp, hq]
      · simp [hp, hq]
    · simp [hp]
  have hc : cmp_Compare_int.f a.f1 b.f1 = some (if a.f1 < b.f1 then -1 else if a.f1 > b.f1 then 1 else 0) := by
    simp only [cmp_Compare_int.f, cmp_isNaN_int.f, Option.bind_some, bne_self_eq_false, Bool.false_eq_true, if_false]
    repeat' split
    all_goals rfl
  unfold impl_compareEntries.f strings_Compare.f
  rw [hc]
  simp only [Option.bind_some, hor, ← ba_toList, cb_is]
  unfold ce
  by_cases h : Op.bytesLess a.f0.toList b.f0.toList = true
  · simp [h]
  · by_cases h2 : a.f0.toList = b.f0.toList
    · simp only [if_neg h, if_pos h2, if_true]
    · simp [h, h2]
theorem less_irrefl (x : List UInt8) : Op.bytesLess x x = false := by
  rw [← bytesLess_total x x]; simp
theorem ce_lt (a b : IEnt) : ce a b ≥ 0 ↔ ¬ el a b = true := by
  unfold ce el
  by_cases h : Op.bytesLess a.f0.toList b.f0.toList = true
  · simp [h]
  · by_cases h2 : a.f0.toList = b.f0.toList
    · rw [h2, less_irrefl]
      by_cases h3 : a.f1 < b.f1
      · simp [h3]
      · by_cases h4 : a.f1 > b.f1
        · simp [h3, h4]
        · simp [h3, h4]
    · simp [h, h2]
theorem ce_le (a b : IEnt) : ce a b ≤ 0 ↔ ¬ el b a = true := by
  unfold ce el
  have ht := bytesLess_total a.f0.toList b.f0.toList
  rw [← ht]
  by_cases h : Op.bytesLess a.f0.toList b.f0.toList = true
  · have : ¬ b.f0.toList = a.f0.toList := by intro e; rw [e, less_irrefl] at h; simp at h
    simp [h, this]
  · by_cases h2 : a.f0.toList = b.f0.toList
    · rw [h2, less_irrefl]
      by_cases h3 : a.f1 < b.f1
      · have : ¬ b.f1 < a.f1 := by omega
        simp [h3, this]
      · by_cases h4 : a.f1 > b.f1
        · have : b.f1 < a.f1 := by omega
          simp [h3, h4]
        · have : ¬ b.f1 < a.f1 := by omega
          simp [h3, h4]
    · simp [h, h2]
def inr (a b c : Int) : Bool := decide (b ≤ a) && decide (a ≤ c)
theorem in_spec (a b c : Int) : spec_l01In.f a b c = some (inr a b c) := by
  unfold spec_l01In.f inr
  by_cases h : b ≤ a
  · rw [if_pos h]; simp [h]
  · rw [if_neg h]; simp [h]
theorem in_impl (a b c : Int) : impl_inRange.f a b c = some (inr a b c) := in_spec a b c
def eok (e : IEnt) : Bool := decide ((e.f0.size : Int) ≤ 2000) && inr e.f1 0 9999
theorem eok_spec (e : IEnt) : spec_l05Entry.f e.f0 e.f1 = some (eok e) := by
  unfold spec_l05Entry.f eok
  by_cases h : (e.f0.size : Int) ≤ 2000
  · rw [if_pos h, in_spec]; simp [h]
  · rw [if_neg h]; simp [h]
theorem eok_impl (e : IEnt) : impl_entryOK.f e.f0 e.f1 = some (eok e) := eok_spec e
/-- entries after one entry, each after the one ahead of it -/
def ens : IEnt → List IEnt → Bool
  | _, [] => true
  | p, e :: es => eok e && (el p e && ens e es)
def lastE : IEnt → List IEnt → IEnt
  | p, [] => p
  | _, e :: es => lastE e es
theorem ens_append : ∀ (p : IEnt) (xs ys : List IEnt), ens p (xs ++ ys) = (ens p xs && ens (lastE p xs) ys)
  | p, [], ys => by simp [ens, lastE]
  | p, e :: xs, ys => by simp only [List.cons_append, ens, lastE, ens_append e xs ys, Bool.and_assoc]
def noE : IEnt := ⟨(⟨#[]⟩ : ByteArray), -1⟩
theorem noE_less (e : IEnt) (h : eok e = true) : el noE e = true := by
  unfold eok inr at h
  simp only [Bool.and_eq_true, decide_eq_true_eq] at h
  have h0 : noE.f0.toList = [] := by rw [ba_toList]; rfl
  have h1 : noE.f1 = -1 := rfl
  unfold el
  rw [h0, h1]
  cases e.f0.toList with
  | nil => simp [Op.bytesLess]; omega
  | cons a x => simp [Op.bytesLess]
/-- what is asked of one page behind others -/
def pok (T : List IPag) (n : Int) (seen : List Int) (p : IPag) : Bool := inr p.f0 1 (n - 1) && (!seen.contains p.f0 && (decide ((p.f1.length : Int) ≤ 4) && !(decide ((p.f1.length : Int) = 0) && decide ((T.length : Int) > 1))))
def poks (T : List IPag) (n : Int) : List Int → List IPag → Bool
  | _, [] => true
  | seen, p :: ps => pok T n seen p && poks T n (seen ++ [p.f0]) ps
def tok (T : List IPag) (n : Int) : Bool := inr T.length 1 60 && (inr n 2 100000 && (poks T n [] T && ens noE (T.flatMap (·.f1))))
theorem entries_tells (T : List IPag) (n : Int) (hT : T.length ≤ 1048576) (hf : (T.flatMap (·.f1)).length ≤ 1048576) : Eve (fun k => impl_Tree_entries.f k T n) (T.flatMap (·.f1)) := by
  simp only [impl_Tree_entries.f]
  have := ev_loop0 T (fun k ys i => impl_Tree_entries.l0 k ys T (T.length : Int) i) (fun _ ys r => ys ++ r.flatMap (·.f1)) (fun i ys => ys ++ (T.drop i).flatMap (·.f1) = T.flatMap (·.f1)) (fun ys _ => by
    simp only [impl_Tree_entries.l0]
    exact Eve.ite (fun h => absurd h (by omega)) (fun _ => Eve.one.eq (by simp))) (fun i hi ys hI ih => by
    rw [drop_at T i hi, List.flatMap_cons] at hI
    simp only [impl_Tree_entries.l0]
    refine Eve.ite (fun _ => ?_) (fun h => absurd (by omega) h)
    refine Eve.ite (fun _ => ?_) (fun h => absurd (by omega) h)
    refine Eve.ite (fun _ => ?_) (fun h => absurd (by omega) h)
    simp only [rdIP _ _ hi, wi (show i ≤ 9223372036854775806 by omega)]
    refine Eve.ite (fun _ => ?_) (fun h => absurd ?_ h)
    · exact (ih (ys ++ T[i].f1) (by rw [← hI, List.append_assoc])).eq (by rw [List.append_assoc, List.flatMap_cons])
    · have := congrArg List.length hI
      simp only [List.length_append] at this
      omega) [] (by simp)
  simpa using this
theorem contains_tells (xs : List Int) (a : Int) (h : xs.length ≤ 1048576) : Eve (fun k => slices_Contains_int_int.f k xs a) (xs.contains a) := by
  simp only [slices_Contains_int_int.f, slices_Index_int_int.f]
  refine Eve.bind (v := first (fun x => decide (a = x)) xs 0) ?_ (Eve.one.eq ?_)
  · refine ev_loop0 xs (fun k (_ : Unit) i => slices_Index_int_int.l0 k xs a (xs.length : Int) i) (fun i _ r => first (fun x => decide (a = x)) r i) (fun _ _ => True) (fun _ _ => ?_) (fun i hi s _ ih => ?_) () trivial
    · simp only [slices_Index_int_int.l0]
      exact Eve.ite (fun h => absurd h (by omega)) (fun _ => Eve.one)
    · simp only [slices_Index_int_int.l0]
      refine Eve.ite (fun _ => ?_) (fun h => absurd (by omega) h)
      refine Eve.ite (fun _ => ?_) (fun h => absurd (by omega) h)
      refine Eve.ite (fun _ => ?_) (fun h => absurd (by omega) h)
      simp only [rd_at _ _ hi, wi (show i ≤ 9223372036854775806 by omega)]
      refine Eve.ite (fun h => Eve.one.eq ?_) (fun h => (ih () trivial).eq ?_)
      · simp [first, h]
      · simp [first, h]
  · rw [first_any]
    induction xs with
    | nil => rfl
    | cons x xs ih =>
      rw [List.any_cons, ih (by simp at h; omega), List.contains_cons]
      by_cases e : a = x <;> simp [e]
theorem implOK_tells (T : List IPag) (n : Int) (hT : T.length ≤ 1048576) (hf : (T.flatMap (·.f1)).length ≤ 1048576) : Eve (fun k => impl_TreeOK.f k T n) (tok T n) := by
  have hj1 : Eve (fun k => impl_TreeOK.j0 k true T n) false := Eve.succ (by simp only [impl_TreeOK.j0, if_true]; exact Eve.one)
  simp only [impl_TreeOK.f, in_impl, Option.bind_some]
  refine Eve.ite (fun h1 => ?_) (fun h1 => hj1.eq (by simp [tok, h1]))
  cases h2 : inr n 2 100000
  · exact hj1.eq (by simp [tok, h2])
  refine Eve.succ ?_
  simp only [impl_TreeOK.j0, Bool.not_true, Bool.false_eq_true, if_false]
  have hn : wrap64 (n - 1) = n - 1 := by
    unfold inr at h2
    simp only [Bool.and_eq_true, decide_eq_true_eq] at h2
    exact w64 (by omega) (by omega)
  have := ev_loop0 T (fun k ys i => impl_TreeOK.l0 k ys T (T.length : Int) i T n) (fun _ ys r => poks T n ys r && ens noE (T.flatMap (·.f1))) (fun i ys => ys.length = i) (fun ys hy => by
    simp only [impl_TreeOK.l0]
    refine Eve.ite (fun h => absurd h (by omega)) (fun _ => ?_)
    refine Eve.bind (entries_tells T n hT hf) ?_
    generalize hE : T.flatMap (·.f1) = E at hf ⊢
    have hl := ev_loop0 E (fun k (_ : Unit) i => impl_TreeOK.l1 k E E (E.length : Int) i) (fun i _ r => ens (if i = 0 then noE else E.getD (i - 1) noE) r) (fun _ _ => True) (fun _ _ => by
      simp only [impl_TreeOK.l1]
      exact Eve.ite (fun h => absurd h (by omega)) (fun _ => Eve.one)) (fun i hi s _ ih => by
      simp only [impl_TreeOK.l1]
      refine Eve.ite (fun _ => ?_) (fun h => absurd (by omega) h)
      refine Eve.ite (fun _ => ?_) (fun h => absurd (by omega) h)
      refine Eve.ite (fun _ => ?_) (fun h => absurd (by omega) h)
      simp only [rdIE _ _ hi, eok_impl, Option.bind_some, wi (show i ≤ 9223372036854775806 by omega)]
      have hnx := ih () trivial
      simp only [Nat.add_one_ne_zero, if_false, Nat.add_sub_cancel, List.getD_eq_getElem?_getD, List.getElem?_eq_getElem hi, Option.getD_some] at hnx
      refine Eve.ite (fun h1 => ?_) (fun h1 => Eve.one.eq (by simp [ens, h1]))
      refine Eve.ite (fun h2 => ?_) (fun h2 => hnx.eq ?_)
      · have hw : wrap64 ((i : Int) - 1) = ((i - 1 : Nat) : Int) := by rw [w64 (by omega) (by omega)]; omega
        simp only [hw]
        refine Eve.ite (fun _ => ?_) (fun h => absurd (by omega) h)
        refine Eve.ite (fun _ => ?_) (fun h => absurd (by omega) h)
        rw [if_neg (by omega), List.getD_eq_getElem?_getD, List.getElem?_eq_getElem (show i - 1 < E.length by omega), Option.getD_some]
        simp only [rdIE _ _ (show i - 1 < E.length by omega)]
        refine Eve.bind (compare_tells _ _) ?_
        refine Eve.ite (fun h3 => Eve.one.eq ?_) (fun h3 => hnx.eq ?_)
        · have := (ce_lt _ _).1 h3
          simp [ens, this]
        · have : el (E[i - 1]) E[i] = true := by
            by_cases h4 : el (E[i - 1]) E[i] = true
            · exact h4
            · exact absurd ((ce_lt _ _).2 h4) h3
          simp [ens, this, h1]
      · obtain rfl : i = 0 := by omega
        rw [if_pos rfl]
        simp [ens, h1, noE_less _ h1]) () trivial
    rw [if_pos rfl] at hl
    exact hl.eq (by simp [poks])) (fun i hi ys hI ih => by
    simp only [impl_TreeOK.l0]
    refine Eve.ite (fun _ => ?_) (fun h => absurd (by omega) h)
    refine Eve.ite (fun _ => ?_) (fun h => absurd (by omega) h)
    refine Eve.ite (fun _ => ?_) (fun h => absurd (by omega) h)
    simp only [rdIP _ _ hi, hn, in_impl, Option.bind_some, wi (show i ≤ 9223372036854775806 by omega)]
    refine Eve.ite (fun h1 => ?_) (fun h1 => Eve.one.eq (by simp [poks, pok, h1]))
    refine Eve.bind (contains_tells ys _ (by omega)) ?_
    refine Eve.ite (fun h2 => Eve.one.eq (by simp only [poks, pok, h2]; simp)) (fun h2 => ?_)
    refine Eve.ite (fun h3 => Eve.one.eq ?_) (fun h3 => ?_)
    · have : ¬ ((T[i].f1.length : Int) ≤ 4) := by omega
      simp only [poks, pok, this]; simp
    have h3' : ((T[i].f1.length : Int) ≤ 4) := by omega
    have hnx := ih (ys ++ [T[i].f0]) (by simp [hI])
    refine Eve.ite (fun h4 => ?_) (fun h4 => ?_)
    · refine Eve.ite (fun h5 => Eve.one.eq ?_) (fun h5 => ?_)
      · simp only [poks, pok, h4, h5]; simp
      · refine Eve.ite (fun _ => hnx.eq ?_) (fun h => absurd (by omega) h)
        simp only [poks, pok, h1, h2, h4, h5]; simp
    · refine Eve.ite (fun _ => hnx.eq ?_) (fun h => absurd (by omega) h)
      simp only [poks, pok, h1, h2, h3', h4]; simp) [] rfl
  exact this.eq (by simp [tok, h1, h2])
theorem specOK_tells (T : List IPag) (n : Int) (hT : T.length ≤ 1048576) (hf : ∀ p ∈ T, p.f1.length ≤ 1048576) : Eve (fun k => spec_TreeOK.f k T n) (tok T n) := by
  have hj1 : Eve (fun k => spec_TreeOK.j0 k true T n) false := Eve.succ (by simp only [spec_TreeOK.j0, if_true]; exact Eve.one)
  simp only [spec_TreeOK.f, in_spec, Option.bind_some]
  refine Eve.ite (fun h1 => ?_) (fun h1 => hj1.eq (by simp [tok, h1]))
  cases h2 : inr n 2 100000
  · exact hj1.eq (by simp [tok, h2])
  refine Eve.succ ?_
  simp only [spec_TreeOK.j0, Bool.not_true, Bool.false_eq_true, if_false]
  have hn : wrap64 (n - 1) = n - 1 := by
    unfold inr at h2
    simp only [Bool.and_eq_true, decide_eq_true_eq] at h2
    exact w64 (by omega) (by omega)
  have := ev_loop0 T (fun k (e : IEnt) i => spec_TreeOK.l0 k i T n e.f0 e.f1) (fun i e r => poks T n ((T.take i).map (·.f0)) r && ens e (r.flatMap (·.f1))) (fun _ _ => True) (fun e _ => by
    simp only [spec_TreeOK.l0]
    exact Eve.ite (fun h => absurd h (by omega)) (fun _ => Eve.one)) (fun i hi e _ ih => by
    have htk : (T.take (i + 1)).map (·.f0) = (T.take i).map (·.f0) ++ [T[i].f0] := by
      rw [List.take_succ_eq_append_getElem hi, List.map_append]; rfl
    simp only [htk] at ih
    simp only [spec_TreeOK.l0]
    refine Eve.ite (fun _ => ?_) (fun h => absurd (by omega) h)
    refine Eve.ite (fun _ => ?_) (fun h => absurd (by omega) h)
    simp only [rdIP _ _ hi, hn, in_spec, Option.bind_some]
    generalize hp : T[i] = p at ih ⊢
    have hpl : p.f1.length ≤ 1048576 := by rw [← hp]; exact hf _ (List.getElem_mem hi)
    have hjt : ∀ v, v = false → Eve (fun k => spec_TreeOK.j2 k (i : Int) true T n e.f0 e.f1 p.f0 p.f1) v := fun v hv => Eve.succ (by simp only [spec_TreeOK.j2, if_true]; exact Eve.one.eq hv.symm)
    have hjf : ∀ v, Eve (fun k => spec_TreeOK.l1 k (i : Int) 0 T n e.f0 e.f1 p.f0 p.f1) v → Eve (fun k => spec_TreeOK.j2 k (i : Int) false T n e.f0 e.f1 p.f0 p.f1) v := fun v hv => Eve.succ (by simp only [spec_TreeOK.j2, Bool.false_eq_true, if_false]; exact hv)
    have hl2 : Eve (fun k => spec_TreeOK.l2 k (i : Int) 0 T n e.f0 e.f1 p.f0 p.f1) (ens e p.f1 && (poks T n ((T.take i).map (·.f0) ++ [p.f0]) (T.drop (i + 1)) && ens (lastE e p.f1) ((T.drop (i + 1)).flatMap (·.f1)))) := by
      refine ev_loop0 p.f1 (fun k (e : IEnt) j => spec_TreeOK.l2 k (i : Int) j T n e.f0 e.f1 p.f0 p.f1) (fun _ e r => ens e r && (poks T n ((T.take i).map (·.f0) ++ [p.f0]) (T.drop (i + 1)) && ens (lastE e r) ((T.drop (i + 1)).flatMap (·.f1)))) (fun _ _ => True) (fun e' _ => ?_) (fun j hj e' _ ih2 => ?_) e trivial
      · simp only [spec_TreeOK.l2]
        refine Eve.ite (fun h => absurd h (by omega)) (fun _ => ?_)
        simp only [wi (show i ≤ 9223372036854775806 by omega)]
        exact (ih e' trivial).eq (by simp [ens, lastE])
      · simp only [spec_TreeOK.l2]
        refine Eve.ite (fun _ => ?_) (fun h => absurd (by omega) h)
        refine Eve.ite (fun _ => ?_) (fun h => absurd (by omega) h)
        simp only [rdIE _ _ hj, eok_spec, less_tells, Option.bind_some, wi (show j ≤ 9223372036854775806 by omega)]
        refine Eve.ite (fun h1 => ?_) (fun h1 => Eve.one.eq (by simp [ens, h1]))
        refine Eve.ite (fun h2 => (ih2 p.f1[j] trivial).eq ?_) (fun h2 => Eve.one.eq (by simp [ens, h2]))
        simp only [ens, h1, h2, lastE, Bool.true_and]
    have hl1 : Eve (fun k => spec_TreeOK.l1 k (i : Int) 0 T n e.f0 e.f1 p.f0 p.f1) (!((T.take i).map (·.f0)).contains p.f0 && (ens e p.f1 && (poks T n ((T.take i).map (·.f0) ++ [p.f0]) (T.drop (i + 1)) && ens (lastE e p.f1) ((T.drop (i + 1)).flatMap (·.f1))))) := by
      have hx : (T.take i).length = i := by simp; omega
      refine ev_loop0 (T.take i) (fun k (_ : Unit) j => spec_TreeOK.l1 k (i : Int) j T n e.f0 e.f1 p.f0 p.f1) (fun _ _ r => !(r.map (·.f0)).contains p.f0 && (ens e p.f1 && (poks T n ((T.take i).map (·.f0) ++ [p.f0]) (T.drop (i + 1)) && ens (lastE e p.f1) ((T.drop (i + 1)).flatMap (·.f1))))) (fun _ _ => True) (fun _ _ => ?_) (fun j hj s _ ih2 => ?_) () trivial
      · simp only [spec_TreeOK.l1, hx]
        exact Eve.ite (fun h => absurd h (by omega)) (fun _ => hl2.eq (by simp))
      · have hjT : j < T.length := by omega
        simp only [spec_TreeOK.l1]
        refine Eve.ite (fun _ => ?_) (fun h => absurd (by omega) h)
        refine Eve.ite (fun _ => ?_) (fun h => absurd (by omega) h)
        refine Eve.ite (fun _ => ?_) (fun h => absurd (by omega) h)
        simp only [rdIP _ _ hjT, wi (show j ≤ 9223372036854775806 by omega), List.getElem_take]
        refine Eve.ite (fun h => Eve.one.eq ?_) (fun h => (ih2 () trivial).eq ?_)
        · simp [h]
        · simp [Ne.symm h]
    have happ : ∀ b : Bool, (b && poks T n ((T.take i).map (·.f0) ++ [p.f0]) (T.drop (i + 1)) && ens e ((p :: T.drop (i + 1)).flatMap (·.f1))) = (b && (ens e p.f1 && (poks T n ((T.take i).map (·.f0) ++ [p.f0]) (T.drop (i + 1)) && ens (lastE e p.f1) ((T.drop (i + 1)).flatMap (·.f1))))) := by
      intro b
      rw [List.flatMap_cons, ens_append]
      generalize poks T n ((T.take i).map (·.f0) ++ [p.f0]) (T.drop (i + 1)) = u
      cases b <;> cases u <;> simp
    simp only [poks, happ]
    refine Eve.ite (fun h1 => ?_) (fun h1 => hjt _ (by simp [pok, h1]))
    refine Eve.ite (fun h3 => hjt _ ?_) (fun h3 => ?_)
    · have : ¬ ((p.f1.length : Int) ≤ 4) := by omega
      simp only [pok, this]; simp
    have h3' : ((p.f1.length : Int) ≤ 4) := by omega
    refine Eve.ite (fun h4 => ?_) (fun h4 => ?_)
    · by_cases h5 : (T.length : Int) > 1
      · simp only [h5, decide_true]
        refine hjt _ ?_
        simp only [pok, h4, h5]; simp
      · simp only [h5, decide_false]
        refine (hjf _ hl1).eq ?_
        simp only [pok, h1, h4, h5]; simp
    · refine (hjf _ hl1).eq ?_
      simp only [pok, h1, h3', h4]; simp) noE trivial
  exact this.eq (by simp [tok, h1, h2])
end Go.Proofs.Ytoceopjhacpjnaa.Pure
namespace Go.Proofs.Ytoceopjhacpjnaa.Pure
open Go.RowKit Go.Proofs.Ytoceopjhacpjnaa.Q Go.Proofs.YtoceopjhacpjnaaW.PrintWords Go.Proofs.YtoceopjhacpjnaaW.PrintLast Go.Proofs.YtoceopjhacpjnaaW.Pl
theorem size_tells (T : List IPag) (n : Int) (hT : T.length ≤ 1048576) (hf : (T.flatMap (·.f1)).length ≤ 1048576) : Eve (fun k => spec_l05Size.f k T n) ((T.flatMap (·.f1)).length : Int) := by
  simp only [spec_l05Size.f]
  have := ev_loop0 T (fun k (c : Int) i => spec_l05Size.l0 k c i T n) (fun _ c r => c + ((r.flatMap (·.f1)).length : Int)) (fun i c => 0 ≤ c ∧ c + (((T.drop i).flatMap (·.f1)).length : Int) ≤ 1048576) (fun c _ => by
    simp only [spec_l05Size.l0]
    exact Eve.ite (fun h => absurd h (by omega)) (fun _ => Eve.one.eq (by simp))) (fun i hi c hI ih => by
    rw [drop_at T i hi, List.flatMap_cons, List.length_append] at hI
    simp only [spec_l05Size.l0]
    refine Eve.ite (fun _ => ?_) (fun h => absurd (by omega) h)
    refine Eve.ite (fun _ => ?_) (fun h => absurd (by omega) h)
    simp only [rdIP _ _ hi, wi (show i ≤ 9223372036854775806 by omega)]
    rw [w64 (by omega) (by omega)]
    refine (ih (c + (T[i].f1.length : Int)) ⟨by omega, by omega⟩).eq ?_
    rw [List.flatMap_cons, List.length_append]
    omega) 0 ⟨by omega, by rw [List.drop_zero]; omega⟩
  exact this.eq (by omega)
theorem map_flat (l : List LPag) : (l.map ip).flatMap (·.f1) = (l.flatMap (·.f1)).map ie := by
  rw [List.flatMap_map, List.map_flatMap]; rfl
theorem FnExactTreeSize : laws_FnExactTreeSize.Pure := by
  rintro ⟨l, n⟩ ⟨hl, hn⟩
  refine Eve.get (g := fun k => laws_FnExactTreeSize.f k l n) ?_
  simp only [laws_FnExactTreeSize.f]
  refine Eve.bind (szTree_tells l n hl.1 (good_pages hl) (by omega) (by omega)) ?_
  by_cases h : (1048576 : Int) - szPS l < 0
  · simp only [if_pos h]; exact Eve.ite (fun _ => Eve.one) (fun h => absurd h (by omega))
  simp only [if_neg h]
  have hF : Fits l := by unfold Fits; omega
  have hT : (l.map ip).length ≤ 1048576 := by simpa using hF.len
  have hf : ((l.map ip).flatMap (·.f1)).length ≤ 1048576 := by rw [map_flat]; simpa using hF.flat
  have hp : ∀ p ∈ l.map ip, p.f1.length ≤ 1048576 := fun p hp => by
    obtain ⟨q, hq, rfl⟩ := List.mem_map.1 hp
    simpa [ip] using hF.page q hq
  refine Eve.bind (toTree_tells l n hF) ?_
  have hs : Eve (fun k => spec_TreeSize.f k (l.map ip) n) (if tok (l.map ip) n = true then (((l.map ip).flatMap (·.f1)).length, 0) else (0, 1)) := by
    simp only [spec_TreeSize.f]
    refine Eve.bind (specOK_tells _ n hT hp) ?_
    by_cases h : tok (l.map ip) n = true
    · simp only [if_pos h]; exact Eve.bind (size_tells _ n hT hf) Eve.one
    · simp only [if_neg h]; exact Eve.one
  have hi : Eve (fun k => impl_TreeSize.f k (l.map ip) n) (if tok (l.map ip) n = true then (((l.map ip).flatMap (·.f1)).length, 0) else (0, 1)) := by
    simp only [impl_TreeSize.f]
    refine Eve.bind (implOK_tells _ n hT hf) ?_
    by_cases h : tok (l.map ip) n = true
    · simp only [if_pos h]; exact Eve.bind (entries_tells _ n hT hf) Eve.one
    · simp only [if_neg h]; exact Eve.one
  refine Eve.bind hs ?_
  refine Eve.bind (toTree_tells l n hF) ?_
  refine Eve.bind hi ?_
  generalize (if tok (l.map ip) n = true then ((((l.map ip).flatMap (·.f1)).length : Int), (0 : Int)) else (0, 1)) = r
  have hj : Eve (fun k => laws_FnExactTreeSize.j0 k false l n (l.map ip) n) true := Eve.succ (by
    simp only [laws_FnExactTreeSize.j0, Bool.false_eq_true, if_false]
    refine Eve.bind (toTree_tells l n hF) ?_
    refine Eve.bind (eqTree_to l n hF) ?_
    simp only [if_true]; exact Eve.one)
  refine Eve.ite (fun _ => ?_) (fun h => absurd rfl h)
  simpa using hj
end Go.Proofs.Ytoceopjhacpjnaa.Pure
namespace Go.Proofs.Ytoceopjhacpjnaa.fnExactTreeSize
open Go.ChangeShapes Go.WideShapes Go.ChangeAt Go.RowKit Go.Proofs.YtoceopjhacpjnaaW.PrintWords Go.Proofs.YtoceopjhacpjnaaW.PrintOpen Go.Proofs.Ytoceopjhacpjnaa.Q
open Go.ChangeMaps (open_string shut_string)
set_option linter.unusedVariables false
theorem own : ownKnob Try.prog.godebug = none := by kernel_rfl
theorem laidOut : laidOutB Try.prog = true := by kernel_rfl
set_option maxRecDepth 100000 in
theorem lifted (os : Os) (started : os.Started) (H : Type) (enc : TypeId × Value → H) :
    ReturnsInHanded {} Try.checked os 7 .any (Rows.fnExactTreeSizeSpec.pre6 enc Try.prog Try.f7 Rows.fnExactTreeSizeRow.domain false) (Rows.fnExactTreeSizeSpec.post enc Try.prog Try.f7 false true false false) := by
  refine returnsInHanded_of_change_sized (C := Try.checked) own started (by kernel_rfl) Try.func7
    (ChangeSpec.witness6 (enc := enc) (C := Try.checked) false ⟨#[], #[.agg #[.slice none 0 0, .int .i64 0]], []⟩ 8 (by kernel_rfl) (by kernel_rfl) (by kernel_rfl) (by kernel_rfl)) ?_
  intro W base args ds gs before hval0 hW hcnd hsz0 _
  have hval : ∀ (j : Nat) t v, Try.f7.params[j]? = some t → args[j]? = some v → Value.okWide Try.prog W .any base t v := hval0
  have hW' := hW
  obtain ⟨p, q, hA0, hV, rfl, hfz, hnd⟩ := hW
  have hA : DataW.TrodAll enc Try.prog W 0 (fun _ => true) true Try.f7.params.toList args.toList ds p := hA0
  rw [Try.params7] at hA hval
  obtain ⟨v0, vs0, d0, ds0, p0, q0, hargs, rfl, rfl, h0, r0⟩ := trodAll_cons hA
  obtain ⟨rfl, rfl, rfl⟩ := trodAll_nil r0
  obtain rfl : args = #[v0] := by cases args; simp_all
  obtain ⟨rfl, rfl⟩ := trodVars_none hV
  have t0 := h0
  have lt0 : ∀ x ∈ p0, x.block < W.heap.size := by obtain ⟨m, hm⟩ := t0; exact DataW.trod_lt m _ _ _ hm
  obtain ⟨x0, cs0, rfl, K0, g0⟩ := arg_struct Try.underlying41 opens41 (hval 0 41 v0 rfl rfl) h0
  obtain ⟨A0_0, c0_0, rfl, hl0_0, hc0_0⟩ := k41_open K0
  clear hA0 hval0 hsz0
  obtain ⟨k, hp⟩ := Pure.FnExactTreeSize x0 g0
  refine (laws_FnExactTreeSize.calls k A0_0 c0_0 x0.f0 x0.f1 true W hc0_0 hl0_0 hp).mono fun e W' ⟨he, bel0⟩ => ?_
  have bel : Below W.heap.size W W' := bel0
  subst he
  exact ⟨_, rfl, _, _, _, [], _, [], hW', trodAll_mk1 (shut_bool Try.underlying4 _), (trodAll_cons_mk (Below.trod laidOut (by kernel_rfl) (of_decide_eq_true (by kernel_rfl)) t0 bel lt0) trodAll_mk0), rfl, bel.frame _, fun h => by cases h⟩
theorem over : Rows.fnExactTreeSizeRow.holds Try.pinned (OpenSpec.ofChange Rows.fnExactTreeSizeSpec) :=
  OpenClaim.holds_of_wide 7 Try.f7 rfl rfl rfl rfl rfl rfl rfl ⟨rfl, rfl, rfl, rfl, rfl⟩ rfl rfl rfl rfl rfl (by kernel_rfl) Try.func7 (by kernel_rfl)
    (of_decide_eq_true (by kernel_rfl)) (by unfold Func.isWrapper; first | (rw [if_pos (by decide +kernel)]; kernel_rfl) | (rw [if_neg (by decide +kernel)]; exact ⟨rfl, rfl⟩))
    (fun os started H enc _ => lifted os started H enc)
theorem proved : Rows.FnExactTreeSizeSaid := over
#print axioms proved
end Go.Proofs.Ytoceopjhacpjnaa.fnExactTreeSize
namespace Go.Proofs.Ytoceopjhacpjnaa
/-- The row, under a short name, for the claim. -/
theorem fnExactTreeSize_holds : Rows.FnExactTreeSizeSaid := fnExactTreeSize.proved
end Go.Proofs.Ytoceopjhacpjnaa
