/- FnExactUpdateOK: for every argument the law answers true, and the argument reads behind the call as it read before. Condition: the package-level variables that it reads start as the program's text lays them; the card ties them to it. -/
import Derived.Test.YthjgfjlogilleaaDoorKLawFnExactUpdateOKp22
import Derived.Test.YthjgfjlogilleaaDoorKLawFnExactUpdateOKp25
import Derived.Test.YthjgfjlogilleaaDoorKLawFnExactUpdateOKp11
import Derived.Test.YthjgfjlogilleaaDoorKLawFnExactUpdateOKp12
import Derived.Test.YthjgfjlogilleaaDoorKLawFnExactUpdateOKp23
import Derived.Laws.Entries
import Derived.Test.YthjgfjlogilleaaDoorKLawFnExactUpdateOKp24
import Derived.Test.YthjgfjlogilleaaDoorRows
import Derived.Test.YthjgfjlogilleaaDoorTie
import Derived.Test.YthjgfjlogilleaaDoorCards
import Derived.LaidMore
import Derived.Stop.Joined
import Derived.SevenTiedAt
import Derived.WalkKit
import Derived.ProofKit
import Derived.OpenShut
import Derived.ShutString
import Derived.ChangeOld
import Derived.Below
import Derived.SizedLaws
import Derived.Carry
section
namespace Go.Proofs.YthjgfjlogilleaaDoor.Q
open Go.RowKit Go.Proofs.YthjgfjlogilleaaDoorW.PrintWords Go.Proofs.YthjgfjlogilleaaDoorW.PrintLast Go.Proofs.YthjgfjlogilleaaDoorW.PrintMore Go.Proofs.YthjgfjlogilleaaDoorW.PrintOpen
def good73 (x_ : S73) : Prop:=(x_.f0.size≤9223372036854775807)∧((True))
def good24 (x_ : S24) : Prop:=(x_.f0.size≤9223372036854775807)∧(((x_.f1.length≤9223372036854775807 ∧ ∀ y0_ ∈ x_.f1,good73 y0_)))
def good34 (x_ : S34) : Prop:=((Lit.int .i64 x_.f0).wf=true)∧(((Lit.int .i64 x_.f1).wf=true)∧((x_.f2.size≤9223372036854775807)))
theorem opens34 : Opens Tryd.prog k34 34 good34 :=
 opens_struct (f:=(fun x : S34 => (x.f0,x.f1,x.f2))) (fun ⟨x0,x1,x2⟩ => ⟨x0,x1,x2⟩) (fun _ => rfl) Tryd.underlying34 (by kernel_rfl) (opensF_cons rfl (by kernel_rfl) (opens_int Tryd.underlying3) (opensF_cons rfl (by kernel_rfl) (opens_int Tryd.underlying3) (opensF_one rfl (by kernel_rfl) (opens_string Tryd.underlying9))))
def good36 (x_ : S36) : Prop:=((Lit.int .i64 x_.f0).wf=true)∧((x_.f1.size≤9223372036854775807)∧((good34 x_.f2)))
theorem opens36 : Opens Tryd.prog k36 36 good36 :=
 opens_struct (f:=(fun x : S36 => (x.f0,x.f1,x.f2))) (fun ⟨x0,x1,x2⟩ => ⟨x0,x1,x2⟩) (fun _ => rfl) Tryd.underlying36 (by kernel_rfl) (opensF_cons rfl (by kernel_rfl) (opens_int Tryd.underlying3) (opensF_cons rfl (by kernel_rfl) (opens_string Tryd.underlying9) (opensF_one rfl (by kernel_rfl) opens34)))
def good44 (x_ : S44) : Prop:=((Lit.int .i64 x_.f0).wf=true)∧((x_.f1.size≤9223372036854775807)∧((good34 x_.f2)))
end Go.Proofs.YthjgfjlogilleaaDoor.Q
end
section
namespace Go.Proofs.YthjgfjlogilleaaDoor.Q
def laws_FnExactUpdateOK.Pure : Prop:=∀ (x0 : S36),(good36 x0) → ∃ k,laws_FnExactUpdateOK.f k x0.f0 x0.f1 x0.f2.f0 x0.f2.f1 x0.f2.f2=some true
end Go.Proofs.YthjgfjlogilleaaDoor.Q
end
section
namespace Go.Proofs.YthjgfjlogilleaaDoorW.Pl
open Go Go.RowKit Go.Proofs.YthjgfjlogilleaaDoorW.PrintWords Go.Proofs.YthjgfjlogilleaaDoorW.PrintMore
theorem w64 {i : Int} (h0 : -9223372036854775808≤i) (h1 : i≤9223372036854775807) : wrap64 i=i:=by unfold wrap64;omega
theorem fuel {k d : Nat} (h : d<k) : ∃ m,k=m + 1∧d≤m:=⟨k - 1,by omega,by omega⟩
theorem rdOf_at {α : Type} (d : α) (xs : List α) (i : Nat) (h : i<xs.length) : rdOf d xs (i : Int)=xs[i]:=by
 unfold rdOf;simp [List.getD,h]
theorem rd_at (xs : List Int) (i : Nat) (h : i<xs.length) : rd xs (i : Int)=xs[i]:=by
 unfold rd;simp [List.getD,h]
theorem getD_at {α : Type} (d : α) (xs : List α) (i : Nat) (h : i<xs.length) : xs.getD (i : Int).toNat d=xs[i]:=by
 simp [List.getD,h]
theorem drop_at {α : Type} (xs : List α) (i : Nat) (h : i<xs.length) : xs.drop i=xs[i] :: xs.drop (i + 1):=List.drop_eq_getElem_cons h
theorem ba_toList (a : ByteArray) : a.toList=a.data.toList:=ByteArray.toList_eq a
def all2 {α β : Type} (e : α→β→Bool) : List α→List β→Bool
 | [],_ => true
 | _ :: _,[] => true
 | x :: xs,y :: ys => e x y && all2 e xs ys
def first {α : Type} (p : α→Bool) : List α→Nat→Int
 | [],_ => -1
 | x :: xs,i => if p x=true then i else first p xs (i + 1)
theorem first_any {α : Type} (p : α→Bool) : ∀ (xs : List α) (i : Nat),decide (first p xs i ≥ 0)=xs.any p
 | [],i => rfl
 | x :: xs,i => by
  by_cases h : p x=true
  ·
   simp [first,h]
  simp only [first,if_neg h,List.any_cons,first_any p xs (i + 1)];simp [h]
theorem first_loop {α : Type} (g : Nat→Int→Option Int) (xs : List α) (p : α→Bool)
  (hstep : ∀ (k i : Nat) (h : i<xs.length),g (k + 1) (i : Int)=if p xs[i]=true then some (i : Int) else g k ((i + 1 : Nat) : Int))
  (hend : ∀ k,g (k + 1) (xs.length : Int)=some (-1)) : ∀ (d k i : Nat),i + d=xs.length→d<k→g k (i : Int)=some (first p (xs.drop i) i):=by
 intro d
 induction d with
 | zero =>
  intro k i hi hk;obtain ⟨k,rfl,_⟩:=fuel hk;obtain rfl : i=xs.length:=by omega
  rw [hend,List.drop_length];rfl
 | succ d ih =>
  intro k i hi hk;obtain ⟨k,rfl,_⟩:=fuel hk;have hlt : i<xs.length:=by omega
  rw [hstep k i hlt,drop_at xs i hlt]
  by_cases h : p xs[i]=true
  ·
   rw [if_pos h]
   simp [first,h]
  rw [if_neg h,ih k (i + 1) (by omega) (by omega)];simp [first,h]
def total {α : Type} (s : α→Nat) : List α→Nat
 | [] => 0
 | x :: xs => s x + total s xs
def less {α : Type} (s : α→Nat) : List α→Int→Int
 | [],l => l
 | x :: xs,l => if l - s x<0 then -1 else less s xs (l - s x)
def Eve {α : Type} (g : Nat→Option α) (v : α) : Prop:=∃ K,∀ k,K≤k→g k=some v
theorem Eve.one {α : Type} {v : α} : Eve (fun _ => some v) v:=⟨0,fun _ _ => rfl⟩
theorem Eve.all {α : Type} {g : Nat→Option α} {v : α} (h : ∀ k,g k=some v) : Eve g v:=⟨0,fun k _ => h k⟩
theorem Eve.of {α : Type} {g : Nat→Option α} {v : α} {n : Nat} (h : ∀ k,n<k→g k=some v) : Eve g v:=⟨n + 1,fun k hk => h k (by omega)⟩
theorem Eve.succ {α : Type} {g : Nat→Option α} {v : α} (h : Eve (fun k => g (k + 1)) v) : Eve g v:=by
 obtain ⟨K,h⟩:=h;refine ⟨K + 1,fun k hk => ?_⟩;obtain ⟨k,rfl⟩ : ∃ m,k=m + 1:=⟨k - 1,by omega⟩;exact h k (by omega)
theorem Eve.bind {α β : Type} {g : Nat→Option α} {f : Nat→α→Option β} {v : α} {u : β} (h : Eve g v) (h2 : Eve (fun k => f k v) u) : Eve (fun k => (g k).bind (f k)) u:=by
 obtain ⟨K,h⟩:=h;obtain ⟨K2,h2⟩:=h2;refine ⟨max K K2,fun k hk => ?_⟩;show (g k).bind (f k)=some u;rw [h k (by omega),Option.bind_some];exact h2 k (by omega)
theorem Eve.ite {α : Type} {c : Prop} [Decidable c] {a b : Nat→Option α} {v : α} (h1 : c→Eve a v) (h2 : ¬ c→Eve b v) : Eve (fun k => if c then a k else b k) v:=by
 by_cases h : c
 ·
  simp only [if_pos h];exact h1 h
 simp only [if_neg h];exact h2 h
theorem Eve.get {α : Type} {g : Nat→Option α} {v : α} (h : Eve g v) : ∃ k,g k=some v:=by
 obtain ⟨K,h⟩:=h;exact ⟨K,h K (by omega)⟩
theorem Eve.eq {α : Type} {g : Nat→Option α} {v u : α} (h : Eve g v) (e : v=u) : Eve g u:=e ▸ h
theorem Eve.congr {α : Type} {g f : Nat→Option α} {v : α} (h : Eve g v) (e : ∀ k,f k=g k) : Eve f v:=by
 obtain ⟨K,h⟩:=h;exact ⟨K,fun k hk => by rw [e,h k hk]⟩
theorem ev_loop {σ α β : Type} (xs : List α) (g : Nat→σ→Int→Option β) (R : Nat→σ→List α→β) (I : Nat→σ→Prop)
  (hend : ∀ s,I xs.length s→Eve (fun k => g (k + 1) s (xs.length : Int)) (R xs.length s []))
  (hstep : ∀ (i : Nat) (h : i<xs.length) (s : σ),I i s→(∀ s',I (i + 1) s' → Eve (fun k => g k s' ((i + 1 : Nat) : Int)) (R (i + 1) s' (xs.drop (i + 1)))) →
   Eve (fun k => g (k + 1) s (i : Int)) (R i s (xs[i] :: xs.drop (i + 1)))) :
  ∀ (d i : Nat) (s : σ),i + d=xs.length→I i s→Eve (fun k => g k s (i : Int)) (R i s (xs.drop i)):=by
 intro d
 induction d with
 | zero =>
  intro i s hi hI;obtain rfl : i=xs.length:=by omega
  rw [List.drop_length];exact Eve.succ (hend s hI)
 | succ d ih =>
  intro i s hi hI;have hlt : i<xs.length:=by omega
  rw [drop_at xs i hlt];exact Eve.succ (hstep i hlt s hI (fun s' h' => ih (i + 1) s' (by omega) h'))
theorem ev_loop0 {σ α β : Type} (xs : List α) (g : Nat→σ→Int→Option β) (R : Nat→σ→List α→β) (I : Nat→σ→Prop)
  (hend : ∀ s,I xs.length s→Eve (fun k => g (k + 1) s (xs.length : Int)) (R xs.length s []))
  (hstep : ∀ (i : Nat) (h : i<xs.length) (s : σ),I i s→(∀ s',I (i + 1) s' → Eve (fun k => g k s' ((i + 1 : Nat) : Int)) (R (i + 1) s' (xs.drop (i + 1)))) →
   Eve (fun k => g (k + 1) s (i : Int)) (R i s (xs[i] :: xs.drop (i + 1)))) (s : σ) (h0 : I 0 s) : Eve (fun k => g k s 0) (R 0 s xs):=by
 have:=ev_loop xs g R I hend hstep xs.length 0 s (by omega) h0
 simpa using this
theorem ev_all {α : Type} (xs : List α) (g : Nat→Int→Option Bool) (q : α→Bool)
  (hend : Eve (fun k => g (k + 1) (xs.length : Int)) true)
  (hstep : ∀ (i : Nat) (h : i<xs.length) (v : Bool),Eve (fun k => g k ((i + 1 : Nat) : Int)) v→Eve (fun k => g (k + 1) (i : Int)) (q xs[i] && v)) : Eve (fun k => g k 0) (xs.all q) :=
 ev_loop0 xs (fun k (_ : Unit) i => g k i) (fun _ _ r => r.all q) (fun _ _ => True) (fun _ _ => hend) (fun i hi s _ ih => by
  rw [List.all_cons];exact hstep i hi _ (ih () trivial)) () trivial
end Go.Proofs.YthjgfjlogilleaaDoorW.Pl
end
section
namespace Go.Proofs.YthjgfjlogilleaaDoor.Pure
open Go Go.RowKit Go.Proofs.YthjgfjlogilleaaDoor.Q Go.Proofs.YthjgfjlogilleaaDoorW.PrintWords Go.Proofs.YthjgfjlogilleaaDoorW.PrintLast Go.Proofs.YthjgfjlogilleaaDoorW.PrintMore Go.Proofs.YthjgfjlogilleaaDoorW.Pl
def cutA (c : UInt8) : List UInt8→List UInt8→List (List UInt8)
 | acc,[] => [acc]
 | acc,b :: l => if b=c then acc :: cutA c [] l else cutA c (acc ++ [b]) l
def mkB (l : List UInt8) : ByteArray:=⟨l.toArray⟩
theorem mkB_of (s : ByteArray) : mkB s.data.toList=s:=by obtain ⟨⟨l⟩⟩:=s;rfl
theorem cutA_miss (c : UInt8) : ∀ (l acc : List UInt8),Lib.indexByte l c = -1→cutA c acc l=[acc ++ l]
 | [],acc,_ => by simp [cutA]
 | b :: l,acc,h => by
  unfold Lib.indexByte at h
  by_cases hb : b=c
  ·
   subst hb;simp at h
  have h1 : Lib.indexByte l c = -1:=by
   by_cases h2 : Lib.indexByte l c = -1
   ·
    exact h2
   have:=Lib.indexByte_ge l c;simp [hb,h2] at h
   omega
  rw [cutA,if_neg hb,cutA_miss c l _ h1];simp
theorem cutA_hit (c : UInt8) : ∀ (l acc : List UInt8) (i : Nat),Lib.indexByte l c=i→cutA c acc l=(acc ++ l.take i) :: cutA c [] (l.drop (i + 1))
 | [],acc,i,h => by simp [Lib.indexByte] at h
 | b :: l,acc,i,h => by
  unfold Lib.indexByte at h
  by_cases hb : b=c
  ·
   subst hb
   simp at h;obtain rfl : i=0:=by omega
   rw [cutA,if_pos rfl];simp
  by_cases h2 : Lib.indexByte l c = -1
  ·
   simp [hb,h2] at h
  have hge:=Lib.indexByte_ge l c;simp [hb,h2] at h;obtain ⟨j,rfl⟩ : ∃ j,i=j + 1:=⟨i - 1,by omega⟩;rw [cutA,if_neg hb,cutA_hit c l _ j (by omega)];simp
theorem splitK_cutA (c : UInt8) : ∀ (k : Nat) (l : List UInt8),Lib.count l [c]=k→Lib.splitK [c] 0 k l=cutA c [] l
 | 0,l,h => by
  have hm : Lib.indexByte l c = -1:=by
   by_cases h2 : Lib.indexByte l c = -1
   ·
    exact h2
   have hge:=Lib.indexByte_ge l c;have:=Lib.count_hit (sub:=[c]) (s:=l) (by simp) (i:=(Lib.indexByte l c).toNat) (by rw [Lib.index_one];omega)
   omega
  rw [cutA_miss c l [] hm];rfl
 | k + 1,l,h => by
  have hh : ¬ Lib.indexByte l c = -1:=fun e => by
   have:=Lib.count_miss (s:=l) (sub:=[c]) (by rw [Lib.index_one];exact e)
   omega
  have hge:=Lib.indexByte_ge l c;obtain ⟨i,hi⟩ : ∃ i : Nat,Lib.indexByte l c=i:=⟨(Lib.indexByte l c).toNat,by omega⟩;have hc:=Lib.count_hit (sub:=[c]) (s:=l) (by simp) (i:=i) (by rw [Lib.index_one];exact hi);have hlen : ([c] : List UInt8).length=1:=rfl;rw [cutA_hit c l [] i hi,Lib.splitK,if_neg (by rw [Lib.index_one];simpa using hh),Lib.index_one,hi,Int.toNat_natCast,Nat.add_zero,hlen,List.nil_append];rw [splitK_cutA c k (l.drop (i + 1)) (by rw [hlen] at hc;omega)]
theorem pieces_cutA (s : ByteArray) (c : UInt8) : pieces s ⟨#[c]⟩=(cutA c [] s.data.toList).map mkB:=by
 have h:=Lib.splitB_data ⟨#[c]⟩ 0 (Lib.countB s ⟨#[c]⟩) s;have h2 : Lib.splitK [c] 0 (Lib.countB s ⟨#[c]⟩) s.data.toList=cutA c [] s.data.toList:=splitK_cutA c _ _ rfl;have h3 : (pieces s ⟨#[c]⟩).map (·.data.toList)=cutA c [] s.data.toList:=h.trans h2;rw [← h3,List.map_map];have : (mkB ∘ fun x : ByteArray => x.data.toList)=id:=by funext x;exact mkB_of x
 rw [this,List.map_id]
theorem cutA_le (c : UInt8) : ∀ (l acc x : List UInt8),x ∈ cutA c acc l→x.length≤acc.length + l.length
 | [],acc,x,h => by simp [cutA] at h;subst h;simp
 | b :: l,acc,x,h => by
  unfold cutA at h
  split at h
  ·
   rcases List.mem_cons.1 h with rfl|h
   ·
    simp
   have:=cutA_le c l [] x h;simp at this ⊢;omega
  have:=cutA_le c l _ x h;simp at this ⊢;omega
theorem bt_data (s : ByteArray) (i : Nat) (h : i<s.data.toList.length) : bt s (i : Int)=((s.data.toList[i]).toNat : Int):=by
 have hs : i<s.size:=by simpa using h
 rw [← bt_at s (i : Int) (by simpa using hs)]
 rfl
theorem cut_spec (s : ByteArray) (hs : s.size≤1048576) : Eve (fun k => spec_l00Cut.f k s 46) ((cutA 46 [] s.data.toList).map mkB):=by
 simp only [spec_l00Cut.f];have hlen : s.data.toList.length=s.size:=by rw [Array.length_toList];rfl
 have hz : ((s.data.toList.length : Nat) : Int)=(s.size : Int):=by rw [hlen]
 have ext : ∀ a b : Nat,s.extract a b=mkB ((s.data.toList.take b).drop a):=fun a b => by
  have : (s.extract a b).data.toList=(s.data.toList.take b).drop a:=by
   rw [Lib.extract_data];simp [List.drop_take]
  rw [← mkB_of (s.extract a b),this]
 have key:=ev_loop0 s.data.toList (fun k (σ : List ByteArray×Int) i => spec_l00Cut.l0 k s 46 σ.1 σ.2 i)
  (fun i σ rest => σ.1 ++ (cutA 46 ((s.data.toList.take i).drop σ.2.toNat) rest).map mkB)
  (fun i σ => 0≤σ.2∧σ.2≤i∧σ.1.length≤i) ?_ ?_ ([],0) ⟨by simp,by simp,by simp⟩
 ·
  simpa using key
 ·
  rintro ⟨out,from_⟩ ⟨h0,h1,h2⟩
  simp only at h0 h1 h2;simp only [spec_l00Cut.l0];refine Eve.ite (fun h => absurd h (by omega)) (fun _ => ?_);refine Eve.ite (fun _ => ?_) (fun h => absurd h0 h);refine Eve.ite (fun _ => ?_) (fun h => absurd (by omega) h);refine Eve.ite (fun _ => Eve.one.eq ?_) (fun h => absurd (by omega) h);simp only [cutA,List.map_cons,List.map_nil];rw [ext,hlen]
 rintro i hi ⟨out,from_⟩ ⟨h0,h1,h2⟩ ih;simp only at h0 h1 h2;simp only [spec_l00Cut.l0,bt_data s i hi];have hw : wrap64 ((i : Int) + 1)=((i + 1 : Nat) : Int):=by rw [w64] <;> omega
 have htk : s.data.toList.take (i + 1)=s.data.toList.take i ++ [s.data.toList[i]]:=by rw [List.take_succ_eq_append_getElem hi]
 refine Eve.ite (fun _ => ?_) (fun h => absurd (by omega) h);refine Eve.ite (fun _ => ?_) (fun h => absurd (by omega) h);refine Eve.ite (fun h => ?_) (fun h => ?_)
 ·
  have hc : s.data.toList[i]=46:=by
   have : (s.data.toList[i]).toNat=(46 : UInt8).toNat:=by
    have e : (46 : UInt8).toNat=46:=rfl
    omega
   exact UInt8.toNat_inj.mp this
  refine Eve.ite (fun _ => ?_) (fun h => absurd h0 h);refine Eve.ite (fun _ => ?_) (fun h => absurd h1 h);refine Eve.ite (fun _ => ?_) (fun h => absurd (by omega) h);refine Eve.ite (fun _ => ?_) (fun h => absurd (by omega) h);rw [hw];refine (ih (out ++ [s.extract from_.toNat (i : Int).toNat],((i + 1 : Nat) : Int)) ⟨by simp;omega,by simp,by simp;omega⟩).eq ?_;simp only [Int.toNat_natCast];have e1 : (s.data.toList.take (i + 1)).drop (i + 1)=[]:=List.drop_of_length_le (by simp;omega);rw [e1,cutA,if_pos hc,ext,List.map_cons,List.append_assoc]
  rfl
 have hc : ¬ s.data.toList[i]=46:=fun e => h (by rw [e];rfl);rw [hw];refine (ih (out,from_) ⟨h0,by show from_≤((i + 1 : Nat) : Int);omega,by show out.length≤i + 1;omega⟩).eq ?_;show out ++ _=out ++ (cutA 46 _ (s.data.toList[i] :: _)).map mkB;rw [cutA,if_neg hc,htk,List.drop_append_of_le_length (by simp;omega)]
theorem split_impl (s : ByteArray) (hs : s.size≤1048576) : strings_Split.f s (⟨#[46]⟩ : ByteArray)=some ((cutA 46 [] s.data.toList).map mkB):=by
 unfold strings_Split.f;rw [if_pos (show (⟨#[46]⟩ : ByteArray).size=1 from rfl),if_pos (by omega),pieces_cutA]
theorem wi {i : Nat} (h : i≤9223372036854775806) : wrap64 ((i : Int) + 1)=((i + 1 : Nat) : Int):=w64 (by omega) (by omega)
theorem w64m (y : Int) : wrap64 y=(y + 9223372036854775808) % 18446744073709551616 - 9223372036854775808:=by unfold wrap64;omega
def stp (x b : Int) : Int:=wrap64 (wrap64 (x * 256) + wrap64 b)
theorem or_byte (x b : Int) (h0 : 0≤b) (h1 : b≤255) : Go.bits .or .i64 (wrap64 (x * 256)) (wrap64 b)=stp x b:=by
 have e1 : (BitVec.ofInt 64 (wrap64 (x * 256))).toNat=2 ^ 8 * (x % 72057594037927936).toNat:=by
  rw [BitVec.toNat_ofInt,w64m];omega
 have e2 : (BitVec.ofInt 64 (wrap64 b)).toNat=b.toNat:=by
  rw [BitVec.toNat_ofInt,w64m];omega
 have e3 : (BitVec.ofInt 64 (wrap64 (x * 256)) ||| BitVec.ofInt 64 (wrap64 b)).toNat=2 ^ 8 * (x % 72057594037927936).toNat + b.toNat:=by
  rw [BitVec.toNat_or,e1,e2,Nat.two_pow_add_eq_or_of_lt (by omega)]
 show IntKind.wrap .i64 ((BitVec.ofInt 64 (wrap64 (x * 256)) ||| BitVec.ofInt 64 (wrap64 b)).toNat : Int)=_;rw [e3,i64_w];unfold stp;rw [w64m,w64m,w64m,w64m]
 omega
def bigV (l : List Int) : Int:=l.foldl stp 0
theorem bytes_in (a : ByteArray) : ∀ b ∈ bytesOf a,0≤b∧b≤255:=by
 intro b hb;obtain ⟨c,_,rfl⟩:=List.mem_map.1 hb;have:=c.toNat_lt
 omega
theorem bt_get (a : ByteArray) (i : Nat) (h : i<(bytesOf a).length) : bt a (i : Int)=(bytesOf a)[i]:=by
 rw [← rd_bytesOf,rd_at _ _ h]
theorem big_tells (l : List Int) (hl : l.length≤1048576) (hb : ∀ b ∈ l,0≤b∧b≤255) : Eve (fun k => impl_big.f k l) (bigV l):=by
 simp only [impl_big.f];refine ev_loop0 l (fun k (s : Int) i => impl_big.l0 k s l (l.length : Int) i) (fun _ s r => r.foldl stp s) (fun _ _ => True) (fun s _ => ?_) (fun i hi s _ ih => ?_) 0 trivial
 ·
  simp only [impl_big.l0]
  exact Eve.ite (fun h => absurd h (by omega)) (fun _ => Eve.one)
 have hx:=hb l[i] (List.getElem_mem hi);simp only [impl_big.l0];refine Eve.ite (fun _ => ?_) (fun h => absurd (by omega) h);refine Eve.ite (fun _ => ?_) (fun h => absurd (by omega) h);refine Eve.ite (fun _ => ?_) (fun h => absurd (by omega) h);simp only [rd_at _ _ hi,or_byte _ _ hx.1 hx.2,wi (show i≤9223372036854775806 by omega)];exact ih _ trivial
theorem of_tells (a : ByteArray) (hl : a.size≤1048576) : Eve (fun k => spec_l01Of.f k a) (bigV (bytesOf a)):=by
 have hn : (bytesOf a).length=a.size:=bytesOf_length a;simp only [spec_l01Of.f];refine ev_loop0 (bytesOf a) (fun k (s : Int) i => spec_l01Of.l0 k a s i) (fun _ s r => r.foldl stp s) (fun _ _ => True) (fun s _ => ?_) (fun i hi s _ ih => ?_) 0 trivial
 ·
  simp only [spec_l01Of.l0]
  exact Eve.ite (fun h => absurd h (by omega)) (fun _ => Eve.one)
 simp only [spec_l01Of.l0];refine Eve.ite (fun _ => ?_) (fun h => absurd (by omega) h);refine Eve.ite (fun _ => ?_) (fun h => absurd (by omega) h);simp only [bt_get a i hi,wi (show i≤9223372036854775806 by omega)];exact ih _ trivial
def zer (n : Nat) : ByteArray:=⟨(Lib.repeatL [0] n).toArray⟩
def takV (a : ByteArray) (f : Bool) (n : Nat) : ByteArray×ByteArray×Bool:=if a.size<n then (zer n,a,true) else (a.extract 0 n,a.extract n a.size,f)
def numV (a : ByteArray) (f : Bool) (n : Nat) : Int×ByteArray×Bool:=if a.size<n then (0,a,true) else (bigV (bytesOf (a.extract 0 n)),a.extract n a.size,f)
theorem take_tells (a : ByteArray) (f : Bool) (n : Nat) (hn : n≤65535) : impl_byteReader_take.f a f (n : Int)=some (takV a f n):=by
 unfold impl_byteReader_take.f takV
 by_cases h : a.size<n
 ·
  rw [if_pos (by omega),if_pos h]
  unfold strings_Repeat.f;rw [if_pos (by omega),if_pos (by rw [show (⟨#[0]⟩ : ByteArray).size=1 from rfl];omega),if_pos (by omega)]
  rfl
 rw [if_neg (by omega),if_pos (by omega),if_pos (by omega),if_neg h]
 rfl
theorem zer_size (n : Nat) : (zer n).size=n:=by
 show (Lib.repeatL [0] n).toArray.size=n;rw [List.size_toArray,Lib.repeatL_length];simp
theorem fold_zero : ∀ n : Nat,((Lib.repeatL [0] n).map fun b : UInt8 => (b.toNat : Int)).foldl stp 0=0
 | 0 => rfl
 | n + 1 => by
  have e : stp 0 0=0:=by unfold stp;rw [w64m,w64m,w64m];omega
  simp only [Lib.repeatL,List.cons_append,List.nil_append,List.map_cons,List.foldl_cons];rw [show ((0 : UInt8).toNat : Int)=0 from rfl,e];exact fold_zero n
theorem big_zer (n : Nat) : bigV (bytesOf (zer n))=0:=by
 unfold bigV bytesOf zer;exact fold_zero n
theorem num_tells (a : ByteArray) (f : Bool) (n : Nat) (hn : n≤65535) : Eve (fun k => impl_byteReader_num.f k a f (n : Int)) (numV a f n):=by
 simp only [impl_byteReader_num.f,take_tells a f n hn,Option.bind_some];unfold takV numV
 by_cases h : a.size<n
 ·
  simp only [if_pos h]
  have hz:=zer_size n;refine Eve.ite (fun _ => ?_) (fun h => absurd (by omega) h);refine Eve.bind (big_tells _ (by rw [bytesOf_length,hz];omega) (bytes_in _)) ?_;rw [big_zer];exact Eve.one
 simp only [if_neg h];have hz : (a.extract 0 n).size≤n:=by rw [ByteArray.size_extract];omega
 refine Eve.ite (fun _ => ?_) (fun h => absurd (by omega) h);exact Eve.bind (big_tells _ (by rw [bytesOf_length];omega) (bytes_in _)) Eve.one
theorem big1 (x : Int) (h : 0≤x∧x≤255) : bigV [x]=x:=by
 simp only [bigV,List.foldl_cons,List.foldl_nil,stp];rw [w64m,w64m,w64m];omega
theorem big2 (x y : Int) (h : 0≤x∧x≤255) (h2 : 0≤y∧y≤255) : 0≤bigV [x,y]∧bigV [x,y]≤65535:=by
 simp only [bigV,List.foldl_cons,List.foldl_nil,stp];simp only [w64m];omega
theorem len1 {l : List Int} (h : l.length=1) : ∃ x,l=[x]:=by
 match l,h with
 | [x],_ => exact ⟨x,rfl⟩
theorem len2 {l : List Int} (h : l.length=2) : ∃ x y,l=[x,y]:=by
 match l,h with
 | [x,y],_ => exact ⟨x,y,rfl⟩
theorem bytes_ext1 (a : ByteArray) (i : Nat) (h : i<a.size) : bigV (bytesOf (a.extract i (i + 1)))=bt a (i : Int):=by
 have hl : (bytesOf (a.extract i (i + 1))).length=1:=by rw [bytesOf_length,ByteArray.size_extract];omega
 obtain ⟨x,hx⟩:=len1 hl;have h2:=bytes_in (a.extract i (i + 1)) x (by rw [hx];simp);have h3:=bt_get (a.extract i (i + 1)) 0 (by omega);rw [hx,big1 x h2];simp only [hx,List.getElem_cons_zero] at h3;rw [← h3];unfold bt;have e0 : (((0 : Nat) : Int)).toNat=0:=rfl;have e1 : ((i : Int)).toNat=i:=Int.toNat_natCast i;simp only [e0,e1];rw [dif_pos (by rw [ByteArray.size_extract];omega),dif_pos h]
 congr 2
 rw [ByteArray.getElem_extract];simp
theorem bytes_ext2 (a : ByteArray) (i : Nat) (h : i + 2≤a.size) : 0≤bigV (bytesOf (a.extract i (i + 2)))∧bigV (bytesOf (a.extract i (i + 2)))≤65535:=by
 have hl : (bytesOf (a.extract i (i + 2))).length=2:=by rw [bytesOf_length,ByteArray.size_extract];omega
 obtain ⟨x,y,hx⟩:=len2 hl;have hb:=bytes_in (a.extract i (i + 2));rw [hx] at hb ⊢;exact big2 x y (hb x (by simp)) (hb y (by simp))
abbrev IVal:=S39
abbrev eB : ByteArray:=⟨#[]⟩
abbrev Rd:=Int×Int×ByteArray×ByteArray×Bool
def valV (a : ByteArray) (f : Bool) : Rd :=
  let q:=numV a f 1
  if q.1=1 then (q.1,(numV q.2.1 q.2.2 1).1,eB,(numV q.2.1 q.2.2 1).2.1,(numV q.2.1 q.2.2 1).2.2)
  else if q.1=2 then (q.1,wrap64 ((numV q.2.1 q.2.2 8).1 - 4611686018427387904),eB,(numV q.2.1 q.2.2 8).2.1,(numV q.2.1 q.2.2 8).2.2)
  else if q.1=3∨q.1=4∨q.1=5 then
    let r:=numV q.2.1 q.2.2 2
    (q.1,0,(takV r.2.1 r.2.2 r.1.toNat).1,(takV r.2.1 r.2.2 r.1.toNat).2.1,(takV r.2.1 r.2.2 r.1.toNat).2.2)
  else (q.1,0,eB,q.2.1,q.2.2)
theorem num2_in (a : ByteArray) (f : Bool) : 0≤(numV a f 2).1∧(numV a f 2).1≤65535:=by
  unfold numV
  by_cases h : a.size<2
  · rw [if_pos h];simp
  rw [if_neg h];exact bytes_ext2 a 0 (by omega)
theorem j0_tells (q x1 : Int) (t : ByteArray) (a : ByteArray) (f : Bool) : Eve (fun k => impl_byteReader_value.j0 k true a f q x1 t) (q,x1,(takV (numV a f 2).2.1 (numV a f 2).2.2 (numV a f 2).1.toNat).1,(takV (numV a f 2).2.1 (numV a f 2).2.2 (numV a f 2).1.toNat).2.1,(takV (numV a f 2).2.1 (numV a f 2).2.2 (numV a f 2).1.toNat).2.2):=by
  refine Eve.succ ?_;simp only [impl_byteReader_value.j0,if_true];refine Eve.bind (num_tells a f 2 (by omega)) ?_;have hb:=num2_in a f;have ht:=take_tells (numV a f 2).2.1 (numV a f 2).2.2 (numV a f 2).1.toNat (by omega);rw [show (((numV a f 2).1.toNat : Nat) : Int)=(numV a f 2).1 from Int.toNat_of_nonneg hb.1] at ht;simp only [ht,Option.bind_some];exact Eve.one
theorem value_tells (a : ByteArray) (f : Bool) : Eve (fun k => impl_byteReader_value.f k a f) (valV a f):=by
  simp only [impl_byteReader_value.f];refine Eve.bind (num_tells a f 1 (by omega)) ?_;unfold valV;generalize numV a f 1=q;simp only;refine Eve.ite (fun h => ?_) (fun h => ?_)
  · rw [if_pos h]
    exact Eve.bind (num_tells q.2.1 q.2.2 1 (by omega)) Eve.one
  rw [if_neg h];refine Eve.ite (fun h2 => ?_) (fun h2 => ?_)
  · rw [if_pos h2]
    exact Eve.bind (num_tells q.2.1 q.2.2 8 (by omega)) Eve.one
  rw [if_neg h2];refine Eve.ite (fun h3 => ?_) (fun h3 => ?_)
  · rw [if_pos (.inl h3)]
    simp only [h3,beq_self_eq_true];exact j0_tells _ _ _ _ _
  refine Eve.ite (fun h4 => ?_) (fun h4 => ?_)
  · rw [if_pos (.inr (.inl h4))]
    simp only [h4,beq_self_eq_true];exact j0_tells _ _ _ _ _
  by_cases h5 : q.1=5
  · rw [if_pos (.inr (.inr h5))]
    simp only [h5,beq_self_eq_true];exact j0_tells _ _ _ _ _
  rw [if_neg (by omega)];have : (q.1 == 5)=false:=by simpa using h5
  simp only [this];refine Eve.succ ?_;simp only [impl_byteReader_value.j0,Bool.false_eq_true,if_false];exact Eve.one
def nxtV (a : ByteArray) : Option (IVal×ByteArray) :=
  if a.size=0 then none
  else if bt a 0=0 then some (⟨0,0,eB⟩,a.extract 1 a.size)
  else if bt a 0=1 then (if a.size<2 then none else some (⟨1,bt a 1,eB⟩,a.extract 2 a.size))
  else if bt a 0=2 then (if a.size<9 then none else if bt a 1 > 127 then none else some (⟨2,wrap64 (bigV (bytesOf (a.extract 1 9)) - 4611686018427387904),eB⟩,a.extract 9 a.size))
  else if bt a 0=3∨bt a 0=4∨bt a 0=5 then
    (if a.size<3 then none else if (a.size : Int)<3 + bigV (bytesOf (a.extract 1 3)) then none
     else some (⟨bt a 0,0,a.extract 3 (3 + bigV (bytesOf (a.extract 1 3))).toNat⟩,a.extract (3 + bigV (bytesOf (a.extract 1 3))).toNat a.size))
  else none
def told (o : Option (IVal×ByteArray)) : Rd:=match o with|some (v,r) => (v.f0,v.f1,v.f2,r,true)|none => (0,0,eB,eB,false)
theorem wbt (a : ByteArray) (i : Int) : wrap64 (bt a i)=bt a i:=w64 (by have:=bt_range a i;omega) (by have:=bt_range a i;omega)
theorem n0_tells (a : ByteArray) (q : Int) (hs : a.size≤1048576) : Eve (fun k => spec_l01Next.j0 k a true q 0 eB)
    (told (if a.size<3 then none else if (a.size : Int)<3 + bigV (bytesOf (a.extract 1 3)) then none
     else some (⟨q,0,a.extract 3 (3 + bigV (bytesOf (a.extract 1 3))).toNat⟩,a.extract (3 + bigV (bytesOf (a.extract 1 3))).toNat a.size))):=by
  refine Eve.succ ?_;simp only [spec_l01Next.j0,if_true];refine Eve.ite (fun h => ?_) (fun h => ?_)
  · rw [if_pos (by omega)];exact Eve.one
  rw [if_neg (by omega)];refine Eve.ite (fun _ => ?_) (fun h => absurd (by omega) h);refine Eve.ite (fun _ => ?_) (fun h => absurd (by omega) h);refine Eve.bind (of_tells (a.extract 1 3) (by rw [ByteArray.size_extract];omega)) ?_;have hb:=bytes_ext2 a 1 (by omega);simp only [show 1 + 2=3 from rfl] at hb;have hw : wrap64 (3 + bigV (bytesOf (a.extract 1 3)))=3 + bigV (bytesOf (a.extract 1 3)):=w64 (by omega) (by omega);simp only [hw];refine Eve.ite (fun h2 => ?_) (fun h2 => ?_)
  · rw [if_pos h2];exact Eve.one
  rw [if_neg h2];refine Eve.ite (fun _ => ?_) (fun h => absurd (by omega) h);refine Eve.ite (fun _ => ?_) (fun h => absurd (by omega) h);exact Eve.ite (fun _ => Eve.one) (fun h => absurd (by omega) h)
theorem next_tells (a : ByteArray) (hs : a.size≤1048576) : Eve (fun k => spec_l01Next.f k a) (told (nxtV a)):=by
  unfold nxtV;simp only [spec_l01Next.f,wbt];refine Eve.ite (fun h => ?_) (fun h => ?_)
  · have hz : a.size=0:=by omega
    rw [if_pos hz];exact Eve.one
  have hz : ¬ a.size=0:=by omega
  rw [if_neg hz];refine Eve.ite (fun _ => ?_) (fun h => absurd (by omega) h);refine Eve.ite (fun h0 => ?_) (fun h0 => ?_)
  · rw [if_pos h0]
    refine Eve.ite (fun _ => ?_) (fun h => absurd (by omega) h);exact Eve.one.eq (by rw [h0];rfl)
  rw [if_neg h0];refine Eve.ite (fun h1 => ?_) (fun h1 => ?_)
  · rw [if_pos h1]
    refine Eve.succ ?_;simp only [spec_l01Next.j1,wbt,h1];have hw : wrap64 (1 + 1)=2:=w64 (by omega) (by omega);simp only [hw,if_true];refine Eve.ite (fun h => ?_) (fun h => ?_)
    · have hy : a.size<2:=by omega
      rw [if_pos hy];exact Eve.one
    have hy : ¬ a.size<2:=by omega
    rw [if_neg hy];refine Eve.ite (fun _ => ?_) (fun h => absurd (by omega) h);refine Eve.ite (fun _ => ?_) (fun h => absurd (by omega) h);exact Eve.ite (fun _ => Eve.one) (fun h => absurd (by omega) h)
  rw [if_neg h1];refine Eve.ite (fun h2 => ?_) (fun h2 => ?_)
  · rw [if_pos h2]
    refine Eve.succ ?_;simp only [spec_l01Next.j1,h2];have hw : wrap64 (1 + 8)=9:=w64 (by omega) (by omega);simp only [hw];refine Eve.ite (fun h => ?_) (fun h => ?_)
    · have hy : a.size<9:=by omega
      rw [if_pos hy];exact Eve.one
    have hy : ¬ a.size<9:=by omega
    rw [if_neg hy];refine Eve.ite (fun h => absurd h (by omega)) (fun _ => ?_);refine Eve.ite (fun _ => ?_) (fun h => absurd (by omega) h);refine Eve.ite (fun h => ?_) (fun h => ?_)
    · rw [if_pos h];exact Eve.one
    rw [if_neg h];refine Eve.ite (fun _ => ?_) (fun h => absurd (by omega) h);refine Eve.ite (fun _ => ?_) (fun h => absurd (by omega) h);refine Eve.bind (of_tells (a.extract 1 9) (by rw [ByteArray.size_extract];omega)) ?_;refine Eve.ite (fun _ => ?_) (fun h => absurd (by omega) h);exact Eve.ite (fun _ => Eve.one) (fun h => absurd (by omega) h)
  rw [if_neg h2];refine Eve.ite (fun h3 => ?_) (fun h3 => ?_)
  · rw [if_pos (show bt a 0=3∨bt a 0=4∨bt a 0=5 from .inl h3)]
    simp only [h3,beq_self_eq_true];exact n0_tells a 3 hs
  refine Eve.ite (fun h4 => ?_) (fun h4 => ?_)
  · rw [if_pos (show bt a 0=3∨bt a 0=4∨bt a 0=5 from .inr (.inl h4))]
    simp only [h4,beq_self_eq_true];exact n0_tells a 4 hs
  by_cases h5 : bt a 0=5
  · rw [if_pos (show bt a 0=3∨bt a 0=4∨bt a 0=5 from .inr (.inr h5))]
    simp only [h5,beq_self_eq_true];exact n0_tells a 5 hs
  have hy : ¬ (bt a 0=3∨bt a 0=4∨bt a 0=5):=by omega
  rw [if_neg hy];have : (bt a 0 == 5)=false:=by simpa using h5
  simp only [this];refine Eve.succ ?_;simp only [spec_l01Next.j0,Bool.false_eq_true,if_false];exact Eve.one
def Bad (v : IVal) : Prop:=v.f0<0∨v.f0 > 5∨(v.f0=2∧(v.f1 < -1000000000000∨v.f1 > 1000000000000))
def rdv (r : Rd) : IVal:=⟨r.1,r.2.1,r.2.2.1⟩
theorem num_one (a : ByteArray) (f : Bool) (h : 0<a.size) : numV a f 1=(bt a 0,a.extract 1 a.size,f):=by
  unfold numV;rw [if_neg (by omega)];have:=bytes_ext1 a 0 h;simp only [Nat.zero_add] at this;rw [this];rfl
theorem num_none (a : ByteArray) (f : Bool) (n : Nat) (h : a.size<n) : numV a f n=(0,a,true):=by unfold numV;rw [if_pos h]
theorem num_some (a : ByteArray) (f : Bool) (n : Nat) (h : n≤a.size) : numV a f n=(bigV (bytesOf (a.extract 0 n)),a.extract n a.size,f):=by unfold numV;rw [if_neg (by omega)]
theorem tail_size (a : ByteArray) (n : Nat) : (a.extract n a.size).size=a.size - n:=by rw [ByteArray.size_extract];omega
theorem ext_ext (a : ByteArray) (n i j : Nat) (h : n + j≤a.size) : (a.extract n a.size).extract i j=a.extract (n + i) (n + j):=by
  rw [ByteArray.extract_extract,Nat.min_eq_left h]
theorem ext_tail (a : ByteArray) (n i : Nat) (h : n≤a.size) : (a.extract n a.size).extract i (a.extract n a.size).size=a.extract (n + i) a.size:=by
  rw [tail_size,ByteArray.extract_extract]
  congr 1
  omega
theorem big8 (l : List Int) (x : Int) (r : List Int) (hl : l=x :: r) (hr : r.length=7) (hb : ∀ b ∈ l,0≤b∧b≤255) (hx : x > 127) : wrap64 (bigV l - 4611686018427387904) < -1000000000000∨wrap64 (bigV l - 4611686018427387904) > 1000000000000:=by
  subst hl
  match r,hr with
  | [b1,b2,b3,b4,b5,b6,b7],_ =>
    have h0:=hb x (by simp);have h1:=hb b1 (by simp);have h2:=hb b2 (by simp);have h3:=hb b3 (by simp);have h4:=hb b4 (by simp);have h5:=hb b5 (by simp);have h6:=hb b6 (by simp);have h7:=hb b7 (by simp)
    have e : bigV [x,b1,b2,b3,b4,b5,b6,b7]=x * 72057594037927936 + b1 * 281474976710656 + b2 * 1099511627776 + b3 * 4294967296 + b4 * 16777216 + b5 * 65536 + b6 * 256 + b7 - 18446744073709551616:=by
      simp only [bigV,List.foldl_cons,List.foldl_nil];have s0 : stp 0 x=x:=by unfold stp;simp only [w64m];omega
      have s1 : stp x b1=x * 256 + b1:=by unfold stp;simp only [w64m];omega
      have s2 : stp (x * 256 + b1) b2=x * 65536 + b1 * 256 + b2:=by unfold stp;simp only [w64m];omega
      have s3 : stp (x * 65536 + b1 * 256 + b2) b3=x * 16777216 + b1 * 65536 + b2 * 256 + b3:=by unfold stp;simp only [w64m];omega
      have s4 : stp (x * 16777216 + b1 * 65536 + b2 * 256 + b3) b4=x * 4294967296 + b1 * 16777216 + b2 * 65536 + b3 * 256 + b4:=by unfold stp;simp only [w64m];omega
      have s5 : stp (x * 4294967296 + b1 * 16777216 + b2 * 65536 + b3 * 256 + b4) b5=x * 1099511627776 + b1 * 4294967296 + b2 * 16777216 + b3 * 65536 + b4 * 256 + b5:=by unfold stp;simp only [w64m];omega
      have s6 : stp (x * 1099511627776 + b1 * 4294967296 + b2 * 16777216 + b3 * 65536 + b4 * 256 + b5) b6=x * 281474976710656 + b1 * 1099511627776 + b2 * 4294967296 + b3 * 16777216 + b4 * 65536 + b5 * 256 + b6:=by unfold stp;simp only [w64m];omega
      rw [s0,s1,s2,s3,s4,s5,s6];unfold stp;simp only [w64m];omega
    rw [e,w64m]
    omega
theorem nxt_some (a : ByteArray) (v : IVal) (r : ByteArray) (h : nxtV a=some (v,r)) : valV a false=(v.f0,v.f1,v.f2,r,false)∧r.size<a.size:=by
  unfold nxtV at h
  by_cases hz : a.size=0
  · rw [if_pos hz] at h;simp at h
  rw [if_neg hz] at h;unfold valV;rw [num_one a false (by omega)];simp only;have ht:=tail_size a 1
  by_cases h0 : bt a 0=0
  · rw [if_pos h0] at h
    obtain ⟨rfl,rfl⟩ : _∧_:=by simpa using h
    rw [if_neg (by omega),if_neg (by omega),if_neg (by omega),h0];exact ⟨rfl,by omega⟩
  rw [if_neg h0] at h
  by_cases h1 : bt a 0=1
  · rw [if_pos h1] at h
    by_cases h2 : a.size<2
    · rw [if_pos h2] at h;simp at h
    rw [if_neg h2] at h;obtain ⟨rfl,rfl⟩ : _∧_:=by simpa using h
    rw [if_pos h1,num_some _ _ _ (by omega),ext_ext _ _ _ _ (by omega),ext_tail _ _ _ (by omega),h1];have:=bytes_ext1 a 1 (by omega);refine ⟨?_,by rw [tail_size];omega⟩;show (1,bigV (bytesOf (a.extract 1 (1 + 1))),eB,a.extract 2 a.size,false)=_;rw [this];rfl
  rw [if_neg h1] at h
  by_cases h2 : bt a 0=2
  · rw [if_pos h2] at h
    by_cases h3 : a.size<9
    · rw [if_pos h3] at h;simp at h
    rw [if_neg h3] at h
    by_cases h4 : bt a 1 > 127
    · rw [if_pos h4] at h;simp at h
    rw [if_neg h4] at h;obtain ⟨rfl,rfl⟩ : _∧_:=by simpa using h
    rw [if_neg h1,if_pos h2,num_some _ _ _ (by omega),ext_ext _ _ _ _ (by omega),ext_tail _ _ _ (by omega),h2];exact ⟨rfl,by rw [tail_size];omega⟩
  rw [if_neg h2] at h
  by_cases h3 : bt a 0=3∨bt a 0=4∨bt a 0=5
  · rw [if_pos h3] at h
    by_cases h4 : a.size<3
    · rw [if_pos h4] at h;simp at h
    rw [if_neg h4] at h;have hb:=bytes_ext2 a 1 (by omega);simp only [show 1 + 2=3 from rfl] at hb
    by_cases h5 : (a.size : Int)<3 + bigV (bytesOf (a.extract 1 3))
    · rw [if_pos h5] at h;simp at h
    rw [if_neg h5] at h;obtain ⟨rfl,rfl⟩ : _∧_:=by simpa using h
    rw [if_neg h1,if_neg h2,if_pos h3,num_some _ _ _ (by omega),ext_ext _ _ _ _ (by omega),ext_tail _ _ _ (by omega)];simp only [show 1 + 0=1 from rfl,show 1 + 2=3 from rfl];generalize bigV (bytesOf (a.extract 1 3))=n at hb h5 ⊢;obtain ⟨n,rfl⟩ : ∃ m : Nat,n=(m : Int):=⟨n.toNat,by omega⟩;have e1 : ((n : Int)).toNat=n:=Int.toNat_natCast n;have e2 : (3 + (n : Int)).toNat=3 + n:=by omega
    have ht3:=tail_size a 3;unfold takV;simp only [e1,e2];rw [if_neg (by omega),ext_ext _ _ _ _ (by omega),ext_tail _ _ _ (by omega)];exact ⟨rfl,by rw [tail_size];omega⟩
  rw [if_neg h3] at h;simp at h
theorem nxt_none (a : ByteArray) (h : nxtV a=none) : (valV a false).2.2.2.2=true∨Bad (rdv (valV a false)):=by
  by_cases hz : a.size=0
  · left
    unfold valV;rw [num_none a false 1 (by omega)];simp
  unfold nxtV at h;rw [if_neg hz] at h;unfold valV;rw [num_one a false (by omega)];simp only;have ht:=tail_size a 1
  by_cases h0 : bt a 0=0
  · rw [if_pos h0] at h;simp at h
  rw [if_neg h0] at h
  by_cases h1 : bt a 0=1
  · rw [if_pos h1] at h ⊢
    by_cases h2 : a.size<2
    · left;rw [num_none _ _ _ (by omega)]
    rw [if_neg h2] at h;simp at h
  rw [if_neg h1] at h ⊢
  by_cases h2 : bt a 0=2
  · rw [if_pos h2] at h ⊢
    by_cases h3 : a.size<9
    · left;rw [num_none _ _ _ (by omega)]
    rw [if_neg h3] at h
    by_cases h4 : bt a 1 > 127
    · right;right;right
      refine ⟨h2,?_⟩;rw [num_some _ _ _ (by omega),ext_ext _ _ _ _ (by omega)];simp only [show 1 + 0=1 from rfl,show 1 + 8=9 from rfl,rdv];have hl : (bytesOf (a.extract 1 9)).length=8:=by rw [bytesOf_length,ByteArray.size_extract];omega
      have hg:=bt_get (a.extract 1 9) 0 (by omega)
      have he : bt (a.extract 1 9) ((0 : Nat) : Int)=bt a 1:=by
        unfold bt;have e0 : (((0 : Nat) : Int)).toNat=0:=rfl;have e1 : ((1 : Int)).toNat=1:=rfl;simp only [e0,e1];rw [dif_pos (by rw [ByteArray.size_extract];omega),dif_pos (by omega)]
        congr 2
        rw [ByteArray.getElem_extract]
      cases hc : bytesOf (a.extract 1 9) with
      | nil => rw [hc] at hl;simp at hl
      | cons x r =>
        have hb:=bytes_in (a.extract 1 9);rw [he] at hg;simp only [hc,List.getElem_cons_zero] at hg;rw [hc] at hl hb;exact big8 _ x r rfl (by simpa using hl) hb (by omega)
    rw [if_neg h4] at h;simp at h
  rw [if_neg h2] at h ⊢
  by_cases h3 : bt a 0=3∨bt a 0=4∨bt a 0=5
  · rw [if_pos h3] at h ⊢
    left
    by_cases h4 : a.size<3
    · rw [num_none _ _ 2 (by omega)]
      unfold takV;simp
    rw [if_neg h4] at h;have hb:=bytes_ext2 a 1 (by omega);simp only [show 1 + 2=3 from rfl] at hb
    by_cases h5 : (a.size : Int)<3 + bigV (bytesOf (a.extract 1 3))
    · rw [num_some _ _ 2 (by omega),ext_ext _ _ _ _ (by omega),ext_tail _ _ _ (by omega)]
      simp only [show 1 + 0=1 from rfl,show 1 + 2=3 from rfl];unfold takV;rw [if_pos (by rw [tail_size];omega)]
    rw [if_neg h5] at h;simp at h
  rw [if_neg h3]
  right
  have:=bt_range a 0
  right;left
  show bt a 0 > 5
  omega
theorem num_mono (a : ByteArray) (f : Bool) (n : Nat) : (numV a f n).2.1.size≤a.size∧(f=true→(numV a f n).2.2=true):=by
  unfold numV
  by_cases h : a.size<n
  · rw [if_pos h];exact ⟨Nat.le_refl _,fun _ => rfl⟩
  rw [if_neg h];exact ⟨by simp only [tail_size];omega,fun h => h⟩
theorem tak_mono (a : ByteArray) (f : Bool) (n : Nat) : (takV a f n).2.1.size≤a.size∧(f=true→(takV a f n).2.2=true):=by
  unfold takV
  by_cases h : a.size<n
  · rw [if_pos h];exact ⟨Nat.le_refl _,fun _ => rfl⟩
  rw [if_neg h];exact ⟨by simp only [tail_size];omega,fun h => h⟩
theorem val_mono (a : ByteArray) (f : Bool) : (valV a f).2.2.2.1.size≤(numV a f 1).2.1.size∧(f=true→(valV a f).2.2.2.2=true):=by
  have hq:=num_mono a f 1;unfold valV;generalize numV a f 1=q at hq;simp only
  by_cases h1 : q.1=1
  · rw [if_pos h1]
    have:=num_mono q.2.1 q.2.2 1;exact ⟨this.1,fun h => this.2 (hq.2 h)⟩
  rw [if_neg h1]
  by_cases h2 : q.1=2
  · rw [if_pos h2]
    have:=num_mono q.2.1 q.2.2 8;exact ⟨this.1,fun h => this.2 (hq.2 h)⟩
  rw [if_neg h2]
  by_cases h3 : q.1=3∨q.1=4∨q.1=5
  · rw [if_pos h3]
    have hr:=num_mono q.2.1 q.2.2 2;have ht:=tak_mono (numV q.2.1 q.2.2 2).2.1 (numV q.2.1 q.2.2 2).2.2 (numV q.2.1 q.2.2 2).1.toNat;exact ⟨Nat.le_trans ht.1 hr.1,fun h => ht.2 (hr.2 (hq.2 h))⟩
  rw [if_neg h3];exact ⟨Nat.le_refl _,hq.2⟩
theorem val_less (a : ByteArray) (f : Bool) (h : 0<a.size) : (valV a f).2.2.2.1.size<a.size:=by
  have h1:=(val_mono a f).1;rw [num_one a f h] at h1;have:=tail_size a 1;simp only at h1
  omega
abbrev IFld:=S92
theorem emp (a : ByteArray) : a.toList=([] : List UInt8)↔a.size=0:=by
 rw [ba_toList,← data_length,List.length_eq_zero_iff]
def itS : Nat→ByteArray→Option (List IVal)
 | 0,a => if a.size=0 then some [] else none
 | m + 1,a => if a.size=0 then some [] else match nxtV a with
  | none => none
  | some (v,r) => (itS m r).map (v :: ·)
def toldL (acc : List IVal) (o : Option (List IVal)) : List IVal×Bool:=match o with|some l => (acc ++ l,true)|none => ([],false)
theorem items_spec : ∀ (m : Nat) (a : ByteArray) (acc : List IVal),a.size≤m→a.size≤1048576→acc.length + a.size≤1048576→Eve (fun k => spec_l01Items.l0 k a acc) (toldL acc (itS m a)):=by
 intro m
 induction m with
 | zero =>
  intro a acc h1 h2 h3;refine Eve.succ ?_;simp only [spec_l01Items.l0,itS];have hz : a.size=0:=by omega
  rw [if_pos hz];exact Eve.ite (fun h => absurd h (by omega)) (fun _ => Eve.one.eq (by simp [toldL]))
 | succ m ih =>
  intro a acc h1 h2 h3;refine Eve.succ ?_;simp only [spec_l01Items.l0,itS]
  by_cases hz : a.size=0
  ·
   rw [if_pos hz]
   exact Eve.ite (fun h => absurd h (by omega)) (fun _ => Eve.one.eq (by simp [toldL]))
  rw [if_neg hz];refine Eve.ite (fun _ => ?_) (fun h => absurd (by omega) h);refine Eve.bind (next_tells a h2) ?_
  cases hn : nxtV a with
  | none => simp only [told,Bool.false_eq_true,if_false];exact Eve.one
  | some p =>
   obtain ⟨v,r⟩:=p;have hs:=nxt_some a v r hn;simp only [told,if_true];refine Eve.ite (fun _ => ?_) (fun h => absurd (by omega) h);refine (ih r (acc ++ [⟨v.f0,v.f1,v.f2⟩]) (by omega) (by omega) (by simp;omega)).eq ?_
   cases itS m r with
   | none => rfl
   | some l => simp [toldL]
theorem tak_size (a : ByteArray) (f : Bool) (n : Nat) (_h : a.size≤1048576) (hn : n≤65535) : (takV a f n).1.size≤1048576:=by
 unfold takV
 by_cases h2 : a.size<n
 ·
  rw [if_pos h2];simp only [zer_size];omega
 rw [if_neg h2];simp only [ByteArray.size_extract];omega
theorem val_size (a : ByteArray) (f : Bool) (h : a.size≤1048576) : (rdv (valV a f)).f2.size≤1048576:=by
 have hq:=num_mono a f 1;unfold valV;generalize numV a f 1=q at hq;simp only [rdv]
 by_cases h1 : q.1=1
 ·
  rw [if_pos h1];exact Nat.zero_le _
 rw [if_neg h1]
 by_cases h2 : q.1=2
 ·
  rw [if_pos h2];exact Nat.zero_le _
 rw [if_neg h2]
 by_cases h3 : q.1=3∨q.1=4∨q.1=5
 ·
  rw [if_pos h3]
  have hr:=num_mono q.2.1 q.2.2 2;have hn:=num2_in q.2.1 q.2.2;exact tak_size _ _ _ (by omega) (by omega)
 rw [if_neg h3];exact Nat.zero_le _
theorem items_stop (acc : List IVal) (a : ByteArray) : Eve (fun k => impl_items.l0 k acc a true) (acc,false):=by
 refine Eve.succ ?_;simp only [impl_items.l0,if_true,Bool.not_true];exact Eve.ite (fun _ => Eve.one) (fun _ => Eve.one)
theorem items_end (acc : List IVal) (a : ByteArray) (h : a.size=0) : Eve (fun k => impl_items.l0 k acc a false) (acc,true):=by
 refine Eve.succ ?_;simp only [impl_items.l0,Bool.not_false];exact Eve.ite (fun _ => Eve.one) (fun h2 => absurd ((emp a).2 h) h2)
theorem items_step (acc : List IVal) (a : ByteArray) (h : 0<a.size) (hl : acc.length≤1048576) {x : List IVal×Bool}
  (hx : Eve (fun k => impl_items.l0 k (acc ++ [rdv (valV a false)]) (valV a false).2.2.2.1 (valV a false).2.2.2.2) x) : Eve (fun k => impl_items.l0 k acc a false) x:=by
 refine Eve.succ ?_;simp only [impl_items.l0,Bool.false_eq_true,if_false];refine Eve.ite (fun h2 => absurd ((emp a).1 h2) (by omega)) (fun _ => ?_);refine Eve.bind (value_tells a false) ?_;exact Eve.ite (fun _ => hx) (fun h2 => absurd (by omega) h2)
theorem items_some : ∀ (m : Nat) (a : ByteArray) (acc l : List IVal),itS m a=some l→acc.length + a.size≤1048576→Eve (fun k => impl_items.l0 k acc a false) (acc ++ l,true):=by
 intro m
 induction m with
 | zero =>
  intro a acc l h h2;simp only [itS] at h
  by_cases hz : a.size=0
  ·
   rw [if_pos hz] at h
   obtain rfl : []=l:=by simpa using h
   exact (items_end acc a hz).eq (by simp)
  rw [if_neg hz] at h;simp at h
 | succ m ih =>
  intro a acc l h h2;simp only [itS] at h
  by_cases hz : a.size=0
  ·
   rw [if_pos hz] at h
   obtain rfl : []=l:=by simpa using h
   exact (items_end acc a hz).eq (by simp)
  rw [if_neg hz] at h
  cases hn : nxtV a with
  | none => rw [hn] at h;simp at h
  | some p =>
   obtain ⟨v,r⟩:=p;rw [hn] at h;simp only [Option.map_eq_some_iff] at h;obtain ⟨l',h',rfl⟩:=h;obtain ⟨hs,hlt⟩:=nxt_some a v r hn;refine items_step acc a (by omega) (by omega) ?_;rw [hs];refine (ih r (acc ++ [rdv (v.f0,v.f1,v.f2,r,false)]) l' h' (by simp;omega)).eq ?_;simp [rdv]
theorem items_some_end : ∀ (m : Nat) (a : ByteArray) (acc : List IVal),a.size≤m→acc.length + a.size≤1048576 → ∃ l ok,Eve (fun k => impl_items.l0 k acc a false) (acc ++ l,ok)∧(l.length≤a.size ∧ ∀ x ∈ l,x.f2.size≤1048576):=by
 intro m
 induction m with
 | zero => intro a acc h1 h2;exact ⟨[],true,(items_end acc a (by omega)).eq (by simp),by simp,by simp⟩
 | succ m ih =>
  intro a acc h1 h2
  by_cases hz : a.size=0
  ·
   exact ⟨[],true,(items_end acc a hz).eq (by simp),by simp,by simp⟩
  have hlt:=val_less a false (by omega);have hvs:=val_size a false (by omega)
  cases hf : (valV a false).2.2.2.2 with
  | true =>
   refine ⟨[rdv (valV a false)],false,items_step acc a (by omega) (by omega) ?_,by simp;omega,by simpa using hvs⟩;rw [hf];exact items_stop _ _
  | false =>
   obtain ⟨l,ok,hl,hl1,hl2⟩:=ih (valV a false).2.2.2.1 (acc ++ [rdv (valV a false)]) (by omega) (by simp;omega);refine ⟨rdv (valV a false) :: l,ok,items_step acc a (by omega) (by omega) ?_,by simp;omega,by simpa using ⟨hvs,hl2⟩⟩;rw [hf];exact hl.eq (by simp)
theorem items_none : ∀ (m : Nat) (a : ByteArray) (acc : List IVal),a.size≤m→itS m a=none→acc.length + a.size≤1048576 → ∃ l ok,Eve (fun k => impl_items.l0 k acc a false) (acc ++ l,ok)∧(ok=false ∨ ∃ v ∈ l,Bad v)∧(l.length≤a.size ∧ ∀ x ∈ l,x.f2.size≤1048576):=by
 intro m
 induction m with
 | zero =>
  intro a acc h1 h h2;simp only [itS] at h;rw [if_pos (show a.size=0 by omega)] at h;simp at h
 | succ m ih =>
  intro a acc h1 h h2;simp only [itS] at h
  by_cases hz : a.size=0
  ·
   rw [if_pos hz] at h;simp at h
  rw [if_neg hz] at h;have hlt:=val_less a false (by omega);have hvs:=val_size a false (by omega)
  cases hn : nxtV a with
  | some p =>
   obtain ⟨v,r⟩:=p;rw [hn] at h;simp only [Option.map_eq_none_iff] at h;obtain ⟨hs,hlt⟩:=nxt_some a v r hn;rw [hs] at hvs;obtain ⟨l,ok,hl,hb,hl1,hl2⟩:=ih r (acc ++ [rdv (v.f0,v.f1,v.f2,r,false)]) (by omega) h (by simp;omega);refine ⟨rdv (v.f0,v.f1,v.f2,r,false) :: l,ok,?_,?_,by simp;omega,by simpa using ⟨hvs,hl2⟩⟩
   ·
    refine items_step acc a (by omega) (by omega) ?_
    rw [hs];exact hl.eq (by simp)
   rcases hb with hb|⟨x,hx,hb⟩
   ·
    exact .inl hb
   exact .inr ⟨x,by simp [hx],hb⟩
  | none =>
   have hv:=nxt_none a hn
   cases hf : (valV a false).2.2.2.2 with
   | true =>
    refine ⟨[rdv (valV a false)],false,items_step acc a (by omega) (by omega) ?_,.inl rfl,by simp;omega,by simpa using hvs⟩;rw [hf];exact items_stop _ _
   | false =>
    rw [hf] at hv;obtain ⟨l,ok,hl,hl1,hl2⟩:=items_some_end m (valV a false).2.2.2.1 (acc ++ [rdv (valV a false)]) (by omega) (by simp;omega);refine ⟨rdv (valV a false) :: l,ok,items_step acc a (by omega) (by omega) ?_,.inr ⟨_,by simp,hv.resolve_left (by simp)⟩,by simp;omega,by simpa using ⟨hvs,hl2⟩⟩;rw [hf];exact hl.eq (by simp)
def fdS : Nat→ByteArray→Option (List IFld)
 | 0,a => if a.size=0 then some [] else none
 | m + 1,a => if a.size=0 then some [] else if (a.size : Int)<1 + bt a 0 then none else match nxtV (a.extract (1 + bt a 0).toNat a.size) with
  | none => none
  | some (v,r) => (fdS m r).map ((⟨a.extract 1 (1 + bt a 0).toNat,v⟩ : IFld) :: ·)
def toldF (acc : List IFld) (o : Option (List IFld)) : List IFld×Bool:=match o with|some l => (acc ++ l,true)|none => ([],false)
theorem wb1 (a : ByteArray) : wrap64 (1 + bt a 0)=1 + bt a 0:=w64 (by have:=bt_range a 0;omega) (by have:=bt_range a 0;omega)
theorem fields_spec : ∀ (m : Nat) (a : ByteArray) (acc : List IFld),a.size≤m→a.size≤1048576→acc.length + a.size≤1048576→Eve (fun k => spec_l01Fields.l0 k a acc) (toldF acc (fdS m a)):=by
 intro m
 induction m with
 | zero =>
  intro a acc h1 h2 h3;refine Eve.succ ?_;simp only [spec_l01Fields.l0,fdS];have hz : a.size=0:=by omega
  rw [if_pos hz];exact Eve.ite (fun h => absurd h (by omega)) (fun _ => Eve.one.eq (by simp [toldF]))
 | succ m ih =>
  intro a acc h1 h2 h3;refine Eve.succ ?_;simp only [spec_l01Fields.l0,fdS,wbt,wb1]
  by_cases hz : a.size=0
  ·
   rw [if_pos hz]
   exact Eve.ite (fun h => absurd h (by omega)) (fun _ => Eve.one.eq (by simp [toldF]))
  rw [if_neg hz];have hb:=bt_range a 0;refine Eve.ite (fun _ => ?_) (fun h => absurd (by omega) h);refine Eve.ite (fun _ => ?_) (fun h => absurd (by omega) h);refine Eve.ite (fun h => ?_) (fun h => ?_)
  ·
   rw [if_pos h];exact Eve.one
  rw [if_neg h];refine Eve.ite (fun _ => ?_) (fun h => absurd (by omega) h);refine Eve.ite (fun _ => ?_) (fun h => absurd (by omega) h);refine Eve.ite (fun _ => ?_) (fun h => absurd (by omega) h);have ht:=tail_size a (1 + bt a 0).toNat;refine Eve.bind (next_tells _ (by omega)) ?_
  cases hn : nxtV (a.extract (1 + bt a 0).toNat a.size) with
  | none => simp only [told,Bool.false_eq_true,if_false];exact Eve.one
  | some p =>
   obtain ⟨v,r⟩:=p;have hs:=nxt_some _ v r hn;simp only [told,if_true];refine Eve.ite (fun _ => ?_) (fun h => absurd (by omega) h);refine (ih r (acc ++ [⟨a.extract 1 (1 + bt a 0).toNat,⟨v.f0,v.f1,v.f2⟩⟩]) (by omega) (by omega) (by simp;omega)).eq ?_
   cases fdS m r with
   | none => rfl
   | some l => simp [toldF]
def fdV (a : ByteArray) : ByteArray×Rd :=
 let q:=numV a false 1
 let t:=takV q.2.1 q.2.2 q.1.toNat
 (t.1,valV t.2.1 t.2.2)
def fdv (x : ByteArray×Rd) : IFld:=⟨x.1,rdv x.2⟩
theorem fields_stop (acc : List IFld) (a : ByteArray) : Eve (fun k => impl_fields.l0 k acc a true) (acc,false):=by
 have hj : Eve (fun k => impl_fields.j1 k acc false a true) (acc,false):=Eve.succ (by simp only [impl_fields.j1,Bool.false_eq_true,if_false,Bool.not_true];exact Eve.one);refine Eve.succ ?_;simp only [impl_fields.l0,Bool.not_true];exact Eve.ite (fun _ => hj) (fun _ => hj)
theorem fields_end (acc : List IFld) (a : ByteArray) (h : a.size=0) : Eve (fun k => impl_fields.l0 k acc a false) (acc,true):=by
 refine Eve.succ ?_;simp only [impl_fields.l0];refine Eve.ite (fun _ => Eve.succ ?_) (fun h2 => absurd ((emp a).2 h) h2);simp only [impl_fields.j1,Bool.false_eq_true,if_false,Bool.not_false];exact Eve.one
theorem fields_step (acc : List IFld) (a : ByteArray) (h : 0<a.size) (hl : acc.length≤1048576) {x : List IFld×Bool}
  (hx : Eve (fun k => impl_fields.l0 k (acc ++ [fdv (fdV a)]) (fdV a).2.2.2.2.1 (fdV a).2.2.2.2.2) x) : Eve (fun k => impl_fields.l0 k acc a false) x:=by
 refine Eve.succ ?_;simp only [impl_fields.l0,Bool.not_false];refine Eve.ite (fun h2 => absurd ((emp a).1 h2) (by omega)) (fun _ => Eve.succ ?_);simp only [impl_fields.j1,if_true];refine Eve.bind (num_tells a false 1 (by omega)) ?_
 have hb : 0≤(numV a false 1).1∧(numV a false 1).1≤65535:=by
  rw [num_one a false h];have:=bt_range a 0;simp only;omega
 have ht:=take_tells (numV a false 1).2.1 (numV a false 1).2.2 (numV a false 1).1.toNat (by omega);rw [show (((numV a false 1).1.toNat : Nat) : Int)=(numV a false 1).1 from Int.toNat_of_nonneg hb.1] at ht;simp only [ht,Option.bind_some];refine Eve.bind (value_tells _ _) ?_;exact Eve.ite (fun _ => hx) (fun h2 => absurd (by omega) h2)
theorem fdV_less (a : ByteArray) (h : 0<a.size) : (fdV a).2.2.2.2.1.size<a.size:=by
 unfold fdV;rw [num_one a false h];simp only;have h1:=tail_size a 1;have h2:=(tak_mono (a.extract 1 a.size) false (bt a 0).toNat).1;have h3:=(val_mono (takV (a.extract 1 a.size) false (bt a 0).toNat).2.1 (takV (a.extract 1 a.size) false (bt a 0).toNat).2.2).1;have h4:=(num_mono (takV (a.extract 1 a.size) false (bt a 0).toNat).2.1 (takV (a.extract 1 a.size) false (bt a 0).toNat).2.2 1).1
 omega
theorem fdV_ok (a : ByteArray) (h : 0<a.size) (h2 : ¬ (a.size : Int)<1 + bt a 0) : fdV a=(a.extract 1 (1 + bt a 0).toNat,valV (a.extract (1 + bt a 0).toNat a.size) false):=by
 unfold fdV;rw [num_one a false h];simp only;have hb:=bt_range a 0;have ht:=tail_size a 1;have e : (1 + bt a 0).toNat=1 + (bt a 0).toNat:=by omega
 unfold takV;rw [if_neg (by omega),e];simp only;rw [ext_ext _ _ _ _ (by omega),ext_tail _ _ _ (by omega)]
theorem fdV_bad (a : ByteArray) (h : 0<a.size) (h2 : (a.size : Int)<1 + bt a 0) : (fdV a).2.2.2.2.2=true:=by
 unfold fdV;rw [num_one a false h];simp only;have hb:=bt_range a 0;have ht:=tail_size a 1;refine (val_mono _ _).2 ?_;unfold takV;rw [if_pos (by omega)]
theorem fields_some : ∀ (m : Nat) (a : ByteArray) (acc l : List IFld),fdS m a=some l→acc.length + a.size≤1048576→Eve (fun k => impl_fields.l0 k acc a false) (acc ++ l,true):=by
 intro m
 induction m with
 | zero =>
  intro a acc l h h2;simp only [fdS] at h
  by_cases hz : a.size=0
  ·
   rw [if_pos hz] at h
   obtain rfl : []=l:=by simpa using h
   exact (fields_end acc a hz).eq (by simp)
  rw [if_neg hz] at h;simp at h
 | succ m ih =>
  intro a acc l h h2;simp only [fdS] at h
  by_cases hz : a.size=0
  ·
   rw [if_pos hz] at h
   obtain rfl : []=l:=by simpa using h
   exact (fields_end acc a hz).eq (by simp)
  rw [if_neg hz] at h
  by_cases hy : (a.size : Int)<1 + bt a 0
  ·
   rw [if_pos hy] at h;simp at h
  rw [if_neg hy] at h
  cases hn : nxtV (a.extract (1 + bt a 0).toNat a.size) with
  | none => rw [hn] at h;simp at h
  | some p =>
   obtain ⟨v,r⟩:=p;rw [hn] at h;simp only [Option.map_eq_some_iff] at h;obtain ⟨l',h',rfl⟩:=h;obtain ⟨hs,hlt⟩:=nxt_some _ v r hn;have ht:=tail_size a (1 + bt a 0).toNat;have hb:=bt_range a 0;refine fields_step acc a (by omega) (by omega) ?_;rw [fdV_ok a (by omega) hy,hs];refine (ih r (acc ++ [fdv (a.extract 1 (1 + bt a 0).toNat,(v.f0,v.f1,v.f2,r,false))]) l' h' (by simp;omega)).eq ?_;simp [fdv,rdv]
theorem fdV_size (a : ByteArray) (h : 0<a.size) (h2 : a.size≤1048576) : (fdv (fdV a)).f0.size≤1048576∧(fdv (fdV a)).f1.f2.size≤1048576:=by
 unfold fdV fdv;rw [num_one a false h];have hb:=bt_range a 0;have ht:=tail_size a 1;have hm:=(tak_mono (a.extract 1 a.size) false (bt a 0).toNat).1;exact ⟨tak_size (a.extract 1 a.size) false (bt a 0).toNat (by omega) (by omega),val_size (takV (a.extract 1 a.size) false (bt a 0).toNat).2.1 (takV (a.extract 1 a.size) false (bt a 0).toNat).2.2 (by omega)⟩
theorem fields_some_end : ∀ (m : Nat) (a : ByteArray) (acc : List IFld),a.size≤m→acc.length + a.size≤1048576 → ∃ l ok,Eve (fun k => impl_fields.l0 k acc a false) (acc ++ l,ok)∧(l.length≤a.size ∧ ∀ x ∈ l,x.f0.size≤1048576∧x.f1.f2.size≤1048576):=by
 intro m
 induction m with
 | zero => intro a acc h1 h2;exact ⟨[],true,(fields_end acc a (by omega)).eq (by simp),by simp,by simp⟩
 | succ m ih =>
  intro a acc h1 h2
  by_cases hz : a.size=0
  ·
   exact ⟨[],true,(fields_end acc a hz).eq (by simp),by simp,by simp⟩
  have hlt:=fdV_less a (by omega);have hvs:=fdV_size a (by omega) (by omega)
  cases hf : (fdV a).2.2.2.2.2 with
  | true =>
   refine ⟨[fdv (fdV a)],false,fields_step acc a (by omega) (by omega) ?_,by simp;omega,by simpa using hvs⟩;rw [hf];exact fields_stop _ _
  | false =>
   obtain ⟨l,ok,hl,hl1,hl2⟩:=ih (fdV a).2.2.2.2.1 (acc ++ [fdv (fdV a)]) (by omega) (by simp;omega);refine ⟨fdv (fdV a) :: l,ok,fields_step acc a (by omega) (by omega) ?_,by simp;omega,by simpa using ⟨hvs,hl2⟩⟩;rw [hf];exact hl.eq (by simp)
theorem fields_none : ∀ (m : Nat) (a : ByteArray) (acc : List IFld),a.size≤m→fdS m a=none→acc.length + a.size≤1048576 → ∃ l ok,Eve (fun k => impl_fields.l0 k acc a false) (acc ++ l,ok)∧(ok=false ∨ ∃ v ∈ l,Bad v.f1)∧(l.length≤a.size ∧ ∀ x ∈ l,x.f0.size≤1048576∧x.f1.f2.size≤1048576):=by
 intro m
 induction m with
 | zero =>
  intro a acc h1 h h2;simp only [fdS] at h;rw [if_pos (show a.size=0 by omega)] at h;simp at h
 | succ m ih =>
  intro a acc h1 h h2;simp only [fdS] at h
  by_cases hz : a.size=0
  ·
   rw [if_pos hz] at h;simp at h
  rw [if_neg hz] at h;have hlt:=fdV_less a (by omega);have hvs:=fdV_size a (by omega) (by omega)
  by_cases hy : (a.size : Int)<1 + bt a 0
  ·
   refine ⟨[fdv (fdV a)],false,fields_step acc a (by omega) (by omega) ?_,.inl rfl,by simp;omega,by simpa using hvs⟩
   rw [fdV_bad a (by omega) hy];exact fields_stop _ _
  rw [if_neg hy] at h;have ht:=tail_size a (1 + bt a 0).toNat;have hb0:=bt_range a 0;have hok:=fdV_ok a (by omega) hy
  cases hn : nxtV (a.extract (1 + bt a 0).toNat a.size) with
  | some p =>
   obtain ⟨v,r⟩:=p;rw [hn] at h;simp only [Option.map_eq_none_iff] at h;obtain ⟨hs,hlt⟩:=nxt_some _ v r hn;rw [hok,hs] at hvs;obtain ⟨l,ok,hl,hb,hl1,hl2⟩:=ih r (acc ++ [fdv (a.extract 1 (1 + bt a 0).toNat,(v.f0,v.f1,v.f2,r,false))]) (by omega) h (by simp;omega);refine ⟨fdv (a.extract 1 (1 + bt a 0).toNat,(v.f0,v.f1,v.f2,r,false)) :: l,ok,?_,?_,by simp;omega,by simpa using ⟨hvs,hl2⟩⟩
   ·
    refine fields_step acc a (by omega) (by omega) ?_
    rw [hok,hs];exact hl.eq (by simp)
   rcases hb with hb|⟨x,hx,hb⟩
   ·
    exact .inl hb
   exact .inr ⟨x,by simp [hx],hb⟩
  | none =>
   have hv:=nxt_none _ hn
   cases hf : (fdV a).2.2.2.2.2 with
   | true =>
    refine ⟨[fdv (fdV a)],false,fields_step acc a (by omega) (by omega) ?_,.inl rfl,by simp;omega,by simpa using hvs⟩;rw [hf];exact fields_stop _ _
   | false =>
    obtain ⟨l,ok,hl,hl1,hl2⟩:=fields_some_end m (fdV a).2.2.2.2.1 (acc ++ [fdv (fdV a)]) (by omega) (by simp;omega);refine ⟨fdv (fdV a) :: l,ok,fields_step acc a (by omega) (by omega) ?_,.inr ⟨fdv (fdV a),by simp,?_⟩,by simp;omega,by simpa using ⟨hvs,hl2⟩⟩
    ·
     rw [hf]
     exact hl.eq (by simp)
    have e1 : (fdV a).2=valV (a.extract (1 + bt a 0).toNat a.size) false:=by rw [hok]
    have e2 : (fdv (fdV a)).f1=rdv (fdV a).2:=rfl;rw [e2,e1];rw [e1] at hf;rcases hv with hv|hv
    ·
     rw [hf] at hv;cases hv
    exact hv
def isL (c : Int) : Bool:=(decide (97≤c) && decide (c≤122)) || (decide (65≤c) && decide (c≤90)) || (c == 95)
def isD (c : Int) : Bool:=decide (48≤c) && decide (c≤57)
theorem specL (c : Int) : spec_l00Letter.f c=some (isL c):=by
 unfold spec_l00Letter.f isL
 split <;> split <;> (try split) <;> (try split) <;> simp <;> omega
theorem implL (c : Int) : impl_isLetter.f c=some (isL c):=by
 unfold impl_isLetter.f isL
 split <;> split <;> (try split) <;> (try split) <;> simp <;> omega
theorem specD (c : Int) : spec_l00Digit.f c=some (isD c):=by
 unfold spec_l00Digit.f isD
 split <;> simp <;> omega
theorem implD (c : Int) : impl_isDigit.f c=some (isD c):=by
 unfold impl_isDigit.f isD
 split <;> simp <;> omega
def wgo (first : Bool) : List Int→Bool
 | [] => true
 | c :: cs => (isL c || (isD c && !first)) && wgo false cs
def word (s : ByteArray) : Bool:=wgo true (bytesOf s) && (decide (1≤(s.size : Int)) && decide ((s.size : Int)≤40))
theorem word_spec (s : ByteArray) (hs : s.size≤1048576) : Eve (fun k => spec_l00Word.f k s) (word s):=by
 have hn : (bytesOf s).length=s.size:=bytesOf_length s;have hj : Eve (fun k => spec_l00Word.j0 k s true) false:=Eve.succ (by simp only [spec_l00Word.j0,if_true];exact Eve.one);simp only [spec_l00Word.f];refine Eve.ite (fun h => hj.eq ?_) (fun h => ?_)
 ·
  have : decide (1≤(s.size : Int))=false:=by simp;omega
  simp [word,this]
 refine Eve.ite (fun h2 => hj.eq ?_) (fun h2 => ?_)
 ·
  have : decide ((s.size : Int)≤40)=false:=by simp;omega
  simp [word,this]
 refine Eve.ite (fun _ => ?_) (fun h => absurd (by omega) h)
 have hw : word s=wgo true (bytesOf s):=by
  have a1 : decide (1≤(s.size : Int))=true:=by simp;omega
  have a2 : decide ((s.size : Int)≤40)=true:=by simp;omega
  simp [word,a1,a2]
 have hb:=bt_get s 0 (by omega);simp only [show ((0 : Nat) : Int)=0 from rfl] at hb;have hc : bytesOf s=bt s 0 :: (bytesOf s).drop 1:=by rw [hb];exact drop_at (bytesOf s) 0 (by omega)
 simp only [specL,Option.bind_some]
 cases hl : isL (bt s 0) with
 | false =>
  refine hj.eq ?_;rw [hw,hc];simp [wgo,hl]
 | true =>
  refine Eve.succ ?_;simp only [spec_l00Word.j0,Bool.not_true,Bool.false_eq_true,if_false]
  have:=ev_loop (bytesOf s) (fun k (_ : Unit) i => spec_l00Word.l0 k s i) (fun _ _ r => wgo false r) (fun i _ => 1≤i) (fun _ _ => by
   simp only [spec_l00Word.l0]
   exact Eve.ite (fun h => absurd h (by omega)) (fun _ => Eve.one)) (fun i hi _ hI ih => by
   have hnx:=ih () (by omega);simp only [spec_l00Word.l0,specL,specD,Option.bind_some,wi (show i≤9223372036854775806 by omega),bt_get s i hi];refine Eve.ite (fun _ => ?_) (fun h => absurd (by omega) h);refine Eve.ite (fun _ => ?_) (fun h => absurd (by omega) h);refine Eve.ite (fun h1 => hnx.eq (by simp [wgo,h1])) (fun h1 => ?_)
   exact Eve.ite (fun h2 => hnx.eq (by simp [wgo,h2])) (fun h2 => Eve.one.eq (by simp [wgo,h1,h2]))) ((bytesOf s).length - 1) 1 () (by omega) (by omega)
  refine this.eq ?_;rw [hw]
  conv => rhs;rw [hc]
  simp [wgo,hl]
theorem word_impl (s : ByteArray) (hs : s.size≤1048576) : Eve (fun k => impl_NameOK.f k s) (word s):=by
 have hn : (bytesOf s).length=s.size:=bytesOf_length s;simp only [impl_NameOK.f];refine ev_loop0 (bytesOf s) (fun k (_ : Unit) i => impl_NameOK.l0 k s (s.size : Int) i) (fun i _ r => wgo (decide (i=0)) r && (decide (1≤(s.size : Int)) && decide ((s.size : Int)≤40))) (fun _ _ => True) (fun _ _ => ?_) (fun i hi _ _ ih => ?_) () trivial
 ·
  simp only [impl_NameOK.l0]
  refine Eve.ite (fun h => absurd h (by omega)) (fun _ => Eve.all fun k => ?_);unfold impl_inRange.f
  by_cases h : 1≤(s.size : Int)
  ·
   rw [if_pos h];simp [wgo,h]
  rw [if_neg h];simp [wgo,h]
 have hnx:=ih () trivial;simp only [Nat.add_one_ne_zero,decide_false] at hnx;simp only [impl_NameOK.l0,implL,implD,Option.bind_some,wi (show i≤9223372036854775806 by omega),bt_get s i hi];refine Eve.ite (fun _ => ?_) (fun h => absurd (by omega) h);refine Eve.ite (fun _ => ?_) (fun h => absurd (by omega) h);refine Eve.ite (fun _ => ?_) (fun h => absurd (by omega) h);refine Eve.ite (fun h1 => hnx.eq (by simp [wgo,h1])) (fun h1 => ?_);refine Eve.ite (fun h2 => ?_) (fun h2 => Eve.one.eq (by simp [wgo,h1,h2]));refine Eve.ite (fun h3 => Eve.one.eq ?_) (fun h3 => hnx.eq ?_)
 ·
  obtain rfl : i=0:=by omega
  simp [wgo,h1]
 have : ¬ i=0:=by omega
 simp [wgo,h2,this]
def nam (s : ByteArray) : Bool:=word s && decide ((s.size : Int)≤12)
theorem nam_spec (s : ByteArray) (hs : s.size≤1048576) : Eve (fun k => spec_l01Name.f k s) (nam s):=by
 simp only [spec_l01Name.f,spec_NameOK.f];refine Eve.bind (v:=word s) (Eve.bind (word_spec s hs) Eve.one) ?_;refine Eve.ite (fun h => Eve.one.eq (by simp [nam,h])) (fun h => Eve.one.eq (by simp [nam,h]))
theorem nam_impl (s : ByteArray) (hs : s.size≤1048576) : Eve (fun k => impl_isShort.f k s) (nam s):=by
 simp only [impl_isShort.f];refine Eve.ite (fun h => (Eve.bind (word_impl s hs) Eve.one).eq (by simp [nam,h])) (fun h => Eve.one.eq (by simp [nam,h]))
def nms : Option ByteArray→List IFld→Bool
 | _,[] => true
 | p,f :: fs => nam f.f0 && ((match p with|none => true|some q => Op.bytesLess q.toList f.f0.toList) && nms (some f.f0) fs)
def inr (a b c : Int) : Bool:=decide (b≤a) && decide (a≤c)
theorem in_spec (a b c : Int) : spec_l01In.f a b c=some (inr a b c):=by
 unfold spec_l01In.f inr
 by_cases h : b≤a
 ·
  rw [if_pos h];simp [h]
 rw [if_neg h];simp [h]
theorem in_impl (a b c : Int) : impl_inRange.f a b c=some (inr a b c):=in_spec a b c
abbrev emB (a : ByteArray) : Bool:=a.toList == ([] : List UInt8)
def flat (v : IVal) : Bool :=
 if v.f0=0 then decide (v.f1=0) && emB v.f2
 else if v.f0=1 then inr v.f1 0 1 && emB v.f2
 else if v.f0=2 then inr v.f1 (-1000000000000) 1000000000000 && emB v.f2
 else if v.f0=3 then decide (v.f1=0) && decide ((v.f2.size : Int)≤300)
 else false
def rightV : Nat→IVal→Bool
 | 0,v => flat v
 | d + 1,v =>
  if v.f0=4 then decide (v.f1=0) && (decide ((v.f2.size : Int)≤300) && (match itS v.f2.size v.f2 with|some l => l.all (rightV d)|none => false))
  else if v.f0=5 then decide (v.f1=0) && (decide ((v.f2.size : Int)≤300) && (match fdS v.f2.size v.f2 with|some l => nms none l && l.all (fun f => rightV d f.f1)|none => false))
  else flat v
theorem bad_right (v : IVal) (h : Bad v) : ∀ d,rightV d v=false:=by
 have hf : flat v=false:=by
  unfold flat;rcases h with h|h|⟨h,h2⟩
  ·
   rw [if_neg (by omega),if_neg (by omega),if_neg (by omega),if_neg (by omega)]
  ·
   rw [if_neg (by omega),if_neg (by omega),if_neg (by omega),if_neg (by omega)]
  rw [if_neg (by omega),if_neg (by omega),if_pos h];have : inr v.f1 (-1000000000000) 1000000000000=false:=by unfold inr;simp;omega
  rw [this];rfl
 intro d
 cases d with
 | zero => exact hf
 | succ d =>
  unfold rightV;rcases h with h|h|⟨h,h2⟩
  ·
   rw [if_neg (by omega),if_neg (by omega)];exact hf
  ·
   rw [if_neg (by omega),if_neg (by omega)];exact hf
  rw [if_neg (by omega),if_neg (by omega)];exact hf
theorem rdV (l : List IVal) (i : Nat) (h : i<l.length) : rd_T39 l (i : Int)=l[i]:=getD_at _ l i h
theorem rdF (l : List IFld) (i : Nat) (h : i<l.length) : rd_T92 l (i : Int)=l[i]:=getD_at _ l i h
theorem its_size : ∀ (m : Nat) (a : ByteArray) (l : List IVal),itS m a=some l→a.size≤1048576→l.length≤a.size ∧ ∀ x ∈ l,x.f2.size≤1048576:=by
 intro m
 induction m with
 | zero =>
  intro a l h h2;simp only [itS] at h
  by_cases hz : a.size=0
  ·
   rw [if_pos hz] at h
   obtain rfl : []=l:=by simpa using h
   simp
  rw [if_neg hz] at h;simp at h
 | succ m ih =>
  intro a l h h2;simp only [itS] at h
  by_cases hz : a.size=0
  ·
   rw [if_pos hz] at h
   obtain rfl : []=l:=by simpa using h
   simp
  rw [if_neg hz] at h
  cases hn : nxtV a with
  | none => rw [hn] at h;simp at h
  | some p =>
   obtain ⟨v,r⟩:=p;rw [hn] at h;simp only [Option.map_eq_some_iff] at h;obtain ⟨l',h',rfl⟩:=h;obtain ⟨hs,hlt⟩:=nxt_some a v r hn;have hv:=val_size a false h2;rw [hs] at hv;obtain ⟨i1,i2⟩:=ih r l' h' (by omega);refine ⟨by simp;omega,fun x hx => ?_⟩;rcases List.mem_cons.1 hx with rfl|hx
   ·
    exact hv
   exact i2 x hx
theorem fds_size : ∀ (m : Nat) (a : ByteArray) (l : List IFld),fdS m a=some l→a.size≤1048576→l.length≤a.size ∧ ∀ x ∈ l,x.f0.size≤1048576∧x.f1.f2.size≤1048576:=by
 intro m
 induction m with
 | zero =>
  intro a l h h2;simp only [fdS] at h
  by_cases hz : a.size=0
  ·
   rw [if_pos hz] at h
   obtain rfl : []=l:=by simpa using h
   simp
  rw [if_neg hz] at h;simp at h
 | succ m ih =>
  intro a l h h2;simp only [fdS] at h
  by_cases hz : a.size=0
  ·
   rw [if_pos hz] at h
   obtain rfl : []=l:=by simpa using h
   simp
  rw [if_neg hz] at h
  by_cases hy : (a.size : Int)<1 + bt a 0
  ·
   rw [if_pos hy] at h;simp at h
  rw [if_neg hy] at h;have ht:=tail_size a (1 + bt a 0).toNat;have hb:=bt_range a 0
  cases hn : nxtV (a.extract (1 + bt a 0).toNat a.size) with
  | none => rw [hn] at h;simp at h
  | some p =>
   obtain ⟨v,r⟩:=p;rw [hn] at h;simp only [Option.map_eq_some_iff] at h;obtain ⟨l',h',rfl⟩:=h;obtain ⟨hs,hlt⟩:=nxt_some _ v r hn;have hv:=val_size (a.extract (1 + bt a 0).toNat a.size) false (by omega);rw [hs] at hv;obtain ⟨i1,i2⟩:=ih r l' h' (by omega);refine ⟨by simp;omega,fun x hx => ?_⟩;rcases List.mem_cons.1 hx with rfl|hx
   ·
    exact ⟨by simp only [ByteArray.size_extract];omega,hv⟩
   exact i2 x hx
theorem dn (d : Nat) (h : d≤1000) : wrap64 (((d + 1 : Nat) : Int) - 1)=(d : Int):=by rw [w64 (by omega) (by omega)];omega
theorem spec_flat (v : IVal) (e : Int) (h4 : v.f0≠4) (h5 : v.f0≠5) : Eve (fun k => spec_l01OK.f k v.f0 v.f1 v.f2 e) (flat v):=by
 refine Eve.succ ?_;simp only [spec_l01OK.f,in_spec,Option.bind_some];unfold flat;refine Eve.ite (fun h => ?_) (fun h => ?_)
 ·
  rw [if_pos h]
  exact Eve.ite (fun h => Eve.one.eq (by simp [h])) (fun h => Eve.one.eq (by simp [h]))
 rw [if_neg h];refine Eve.ite (fun h => ?_) (fun h => ?_)
 ·
  rw [if_pos h]
  exact Eve.ite (fun h => Eve.one.eq (by simp [h])) (fun h => Eve.one.eq (by simp [h]))
 rw [if_neg h];refine Eve.ite (fun h => ?_) (fun h => ?_)
 ·
  rw [if_pos h]
  exact Eve.ite (fun h => Eve.one.eq (by simp [h])) (fun h => Eve.one.eq (by simp [h]))
 rw [if_neg h];refine Eve.ite (fun h => ?_) (fun h => ?_)
 ·
  rw [if_pos h]
  exact Eve.ite (fun h => Eve.one.eq (by simp [h])) (fun h => Eve.one.eq (by simp [h]))
 rw [if_neg h];refine Eve.ite (fun h => absurd h h4) (fun _ => ?_);exact Eve.ite (fun h => absurd h h5) (fun _ => Eve.one)
theorem impl_flat (v : IVal) (e : Int) (h4 : v.f0≠4) (h5 : v.f0≠5) : Eve (fun k => impl_isRight.f k v.f0 v.f1 v.f2 e) (flat v):=by
 refine Eve.succ ?_;simp only [impl_isRight.f,impl_isNumber.f,in_impl,Option.bind_some];unfold flat;refine Eve.ite (fun h => ?_) (fun h => ?_)
 ·
  rw [if_pos h]
  exact Eve.one.eq (by rw [h];by_cases h1 : v.f1=0 <;> simp [h1])
 rw [if_neg h];refine Eve.ite (fun h => ?_) (fun h => ?_)
 ·
  rw [if_pos h]
  exact Eve.ite (fun h => Eve.one.eq (by simp [h])) (fun h => Eve.one.eq (by simp [h]))
 rw [if_neg h];refine Eve.ite (fun h => ?_) (fun h => ?_)
 ·
  rw [if_pos h]
  exact Eve.ite (fun h => Eve.one.eq (by simp [h])) (fun h => Eve.one.eq (by simp [h]))
 rw [if_neg h];refine Eve.ite (fun h => ?_) (fun h => ?_)
 ·
  rw [if_pos h]
  exact Eve.ite (fun h => Eve.one.eq (by simp [h])) (fun h => Eve.one.eq (by simp [h]))
 rw [if_neg h];refine Eve.ite (fun h => absurd h h4) (fun _ => ?_);have : (v.f0 == 5)=false:=by simpa using h5
 simp only [this];refine Eve.succ ?_;simp only [impl_isRight.j0,Bool.false_eq_true,if_false];exact Eve.one
theorem spec_j0_true (e : Int) (l : List IVal) : Eve (fun k => spec_l01OK.j0 k e l true) false:=Eve.succ (by simp only [spec_l01OK.j0,if_true];exact Eve.one)
theorem spec_j2_true (e : Int) (l : List IFld) : Eve (fun k => spec_l01OK.j2 k e l true) false:=Eve.succ (by simp only [spec_l01OK.j2,if_true];exact Eve.one)
theorem right_spec : ∀ (d : Nat) (v : IVal),d≤1000→v.f2.size≤1048576→Eve (fun k => spec_l01OK.f k v.f0 v.f1 v.f2 (d : Int)) (rightV d v):=by
 intro d
 induction d with
 | zero =>
  intro v hd hs
  by_cases h4 : v.f0=4
  ·
   have hf : flat v=false:=by unfold flat;rw [if_neg (by omega),if_neg (by omega),if_neg (by omega),if_neg (by omega)]
   show Eve _ (flat v);rw [hf];refine Eve.succ ?_;simp only [spec_l01OK.f,h4];simp only [show ¬ (4 : Int)=0 by omega,show ¬ (4 : Int)=1 by omega,show ¬ (4 : Int)=2 by omega,show ¬ (4 : Int)=3 by omega,if_false,if_true];simp only [spec_l01Items.f];refine Eve.bind (items_spec _ v.f2 [] (Nat.le_refl _) hs (by simp;omega)) ?_;have hj:=spec_j0_true ((0 : Nat) : Int) (toldL [] (itS v.f2.size v.f2)).1;refine Eve.ite (fun _ => ?_) (fun _ => hj);refine Eve.ite (fun _ => ?_) (fun _ => hj);exact Eve.ite (fun _ => hj) (fun _ => hj)
  by_cases h5 : v.f0=5
  ·
   have hf : flat v=false:=by unfold flat;rw [if_neg (by omega),if_neg (by omega),if_neg (by omega),if_neg (by omega)]
   show Eve _ (flat v);rw [hf];refine Eve.succ ?_;simp only [spec_l01OK.f,h5];simp only [show ¬ (5 : Int)=0 by omega,show ¬ (5 : Int)=1 by omega,show ¬ (5 : Int)=2 by omega,show ¬ (5 : Int)=3 by omega,show ¬ (5 : Int)=4 by omega,if_false,if_true];simp only [spec_l01Fields.f];refine Eve.bind (fields_spec _ v.f2 [] (Nat.le_refl _) hs (by simp;omega)) ?_;have hj:=spec_j2_true ((0 : Nat) : Int) (toldF [] (fdS v.f2.size v.f2)).1;refine Eve.ite (fun _ => ?_) (fun _ => hj);refine Eve.ite (fun _ => ?_) (fun _ => hj);exact Eve.ite (fun _ => hj) (fun _ => hj)
  exact spec_flat v _ h4 h5
 | succ d ih =>
  intro v hd hs;have he : (((d + 1 : Nat) : Int) == 0)=false:=by simp;omega
  by_cases h4 : v.f0=4
  ·
   unfold rightV
   rw [if_pos h4];refine Eve.succ ?_;simp only [spec_l01OK.f,h4];simp only [show ¬ (4 : Int)=0 by omega,show ¬ (4 : Int)=1 by omega,show ¬ (4 : Int)=2 by omega,show ¬ (4 : Int)=3 by omega,if_false,if_true];simp only [spec_l01Items.f];refine Eve.bind (items_spec _ v.f2 [] (Nat.le_refl _) hs (by simp;omega)) ?_;have hj:=spec_j0_true ((d + 1 : Nat) : Int) (toldL [] (itS v.f2.size v.f2)).1;refine Eve.ite (fun h1 => ?_) (fun h1 => hj.eq (by simp [h1]))
   cases hi : itS v.f2.size v.f2 with
   | none =>
    rw [hi] at hj;simp only [toldL,Bool.false_eq_true,if_false];exact hj.eq (by simp)
   | some l =>
    rw [hi] at hj;simp only [toldL,if_true,List.nil_append] at hj ⊢;refine Eve.ite (fun h2 => hj.eq ?_) (fun h2 => ?_)
    ·
     have : decide ((v.f2.size : Int)≤300)=false:=by simp;omega
     simp [this]
    obtain ⟨hl1,hl2⟩:=its_size _ _ l hi hs;have hsz : decide ((v.f2.size : Int)≤300)=true:=by simp;omega
    simp only [he];refine Eve.succ ?_;simp only [spec_l01OK.j0,Bool.false_eq_true,if_false]
    have:=ev_loop0 l (fun k (_ : Unit) i => spec_l01OK.l0 k ((d + 1 : Nat) : Int) l i) (fun _ _ r => r.all (rightV d)) (fun _ _ => True) (fun _ _ => by
     simp only [spec_l01OK.l0]
     exact Eve.ite (fun h => absurd h (by omega)) (fun _ => Eve.one)) (fun i hi _ _ ih2 => by
     simp only [spec_l01OK.l0];refine Eve.ite (fun _ => ?_) (fun h => absurd (by omega) h);refine Eve.ite (fun _ => ?_) (fun h => absurd (by omega) h);simp only [rdV l i hi,dn d (by omega),wi (show i≤9223372036854775806 by omega)];refine Eve.bind (ih l[i] (by omega) (hl2 _ (List.getElem_mem hi))) ?_
     exact Eve.ite (fun h => (ih2 () trivial).eq (by rw [List.all_cons,h,Bool.true_and])) (fun h => Eve.one.eq (by rw [List.all_cons,Bool.eq_false_iff.mpr h,Bool.false_and]))) () trivial
    exact this.eq (by simp [h1,hsz])
  by_cases h5 : v.f0=5
  ·
   unfold rightV
   rw [if_neg h4,if_pos h5];refine Eve.succ ?_;simp only [spec_l01OK.f,h5];simp only [show ¬ (5 : Int)=0 by omega,show ¬ (5 : Int)=1 by omega,show ¬ (5 : Int)=2 by omega,show ¬ (5 : Int)=3 by omega,show ¬ (5 : Int)=4 by omega,if_false,if_true];simp only [spec_l01Fields.f];refine Eve.bind (fields_spec _ v.f2 [] (Nat.le_refl _) hs (by simp;omega)) ?_;have hj:=spec_j2_true ((d + 1 : Nat) : Int) (toldF [] (fdS v.f2.size v.f2)).1;refine Eve.ite (fun h1 => ?_) (fun h1 => hj.eq (by simp [h1]))
   cases hi : fdS v.f2.size v.f2 with
   | none =>
    rw [hi] at hj;simp only [toldF,Bool.false_eq_true,if_false];exact hj.eq (by simp)
   | some l =>
    rw [hi] at hj;simp only [toldF,if_true,List.nil_append] at hj ⊢;refine Eve.ite (fun h2 => hj.eq ?_) (fun h2 => ?_)
    ·
     have : decide ((v.f2.size : Int)≤300)=false:=by simp;omega
     simp [this]
    obtain ⟨hl1,hl2⟩:=fds_size _ _ l hi hs;have hsz : decide ((v.f2.size : Int)≤300)=true:=by simp;omega
    simp only [he];refine Eve.succ ?_;simp only [spec_l01OK.j2,Bool.false_eq_true,if_false]
    have:=ev_loop0 l (fun k (_ : Unit) i => spec_l01OK.l1 k ((d + 1 : Nat) : Int) l i) (fun i _ r => nms (if i=0 then none else some (l.getD (i - 1) z92).f0) r && r.all (fun f => rightV d f.f1)) (fun _ _ => True) (fun _ _ => by
     simp only [spec_l01OK.l1]
     exact Eve.ite (fun h => absurd h (by omega)) (fun _ => Eve.one.eq (by simp [nms]))) (fun i hi _ _ ih2 => by
     have hnx:=ih2 () trivial;simp only [Nat.add_one_ne_zero,if_false,Nat.add_sub_cancel,List.getD_eq_getElem?_getD,List.getElem?_eq_getElem hi,Option.getD_some] at hnx;simp only [spec_l01OK.l1];refine Eve.ite (fun _ => ?_) (fun h => absurd (by omega) h);refine Eve.ite (fun _ => ?_) (fun h => absurd (by omega) h);have hm:=hl2 _ (List.getElem_mem hi);simp only [rdF l i hi,dn d (by omega),wi (show i≤9223372036854775806 by omega)];refine Eve.bind (nam_spec _ hm.1) ?_;refine Eve.ite (fun hn => ?_) (fun hn => Eve.one.eq (by simp [nms,hn]));refine Eve.ite (fun h3 => ?_) (fun h3 => ?_)
     ·
      have hw : wrap64 ((i : Int) - 1)=((i - 1 : Nat) : Int):=by rw [w64 (by omega) (by omega)];omega
      simp only [hw];refine Eve.ite (fun _ => ?_) (fun h => absurd (by omega) h);refine Eve.ite (fun _ => ?_) (fun h => absurd (by omega) h);rw [if_neg (by omega),List.getD_eq_getElem?_getD,List.getElem?_eq_getElem (show i - 1<l.length by omega),Option.getD_some];simp only [rdF l (i - 1) (show i - 1<l.length by omega)];refine Eve.ite (fun h6 => ?_) (fun h6 => Eve.one.eq (by simp [nms,h6]));refine Eve.bind (ih l[i].f1 (by omega) hm.2) ?_;exact Eve.ite (fun h => hnx.eq (by simp only [nms,hn,h6,List.all_cons,h,Bool.true_and])) (fun h => Eve.one.eq (by rw [List.all_cons,Bool.eq_false_iff.mpr h,Bool.false_and,Bool.and_false]))
     obtain rfl : i=0:=by omega
     rw [if_pos rfl];refine Eve.bind (ih l[0].f1 (by omega) hm.2) ?_
     exact Eve.ite (fun h => hnx.eq (by simp [nms,hn,h])) (fun h => Eve.one.eq (by simp [h]))) () trivial
    rw [if_pos rfl] at this;exact this.eq (by simp [h1,hsz])
  unfold rightV;rw [if_neg h4,if_neg h5];exact spec_flat v _ h4 h5
theorem Eve.list {α β : Type} (g : Nat→α→Option β) (q : α→β) : ∀ l : List α,(∀ x ∈ l,Eve (fun k => g k x) (q x)) → ∃ K,∀ k,K≤k → ∀ x ∈ l,g k x=some (q x)
 | [],_ => ⟨0,fun _ _ x hx => by simp at hx⟩
 | y :: l,h => by
  obtain ⟨K,hK⟩:=Eve.list g q l (fun x hx => h x (by simp [hx]));obtain ⟨K2,hK2⟩:=h y (by simp);refine ⟨max K K2,fun k hk x hx => ?_⟩;rcases List.mem_cons.1 hx with rfl|hx
  ·
   exact hK2 k (by omega)
  exact hK k (by omega) x hx
theorem cf_tells (l : List IVal) (q : IVal→Bool) (e : Int) (hl : l.length≤4194304) (h : ∀ x ∈ l,Eve (fun k => impl_isRight.f k x.f0 x.f1 x.f2 (wrap64 (e - 1))) (q x)) :
  Eve (fun k => impl_Value_at_isRight_1.f k (impl_isRight.f k) l e) (l.any (fun x => !q x)):=by
 obtain ⟨K,hK⟩:=Eve.list (fun k (x : IVal) => impl_isRight.f k x.f0 x.f1 x.f2 (wrap64 (e - 1))) q l h;refine ⟨max K (l.length + 1),fun k hk => ?_⟩;have hG : ∀ x ∈ l,impl_isRight.f k x.f0 x.f1 x.f2 (wrap64 (e - 1))=some (q x):=hK k (by omega);show impl_Value_at_isRight_1.f k (impl_isRight.f k) l e=_;generalize impl_isRight.f k=G at hG;unfold impl_Value_at_isRight_1.f impl_Value_at_isRight_1_200005.f
 have:=first_loop (fun k i => impl_Value_at_isRight_1_200005.l0 G k l (l.length : Int) i e) l (fun x => !q x) (fun k i hi => by
  have hx:=hG l[i] (List.getElem_mem hi);simp only [impl_Value_at_isRight_1_200005.l0];rw [if_pos (by omega),if_pos (by omega),if_pos (by omega),rdV l i hi,wi (show i≤9223372036854775806 by omega)];unfold impl_isRight_1.f;rw [hx]
  rfl) (fun k => by simp only [impl_Value_at_isRight_1_200005.l0];rw [if_neg (by omega)]) l.length k 0 (by omega) (by omega)
 rw [show ((0 : Nat) : Int)=0 from rfl,List.drop_zero] at this;rw [this];simp only [Option.bind_some,first_any]
theorem any_not (l : List IVal) (q : IVal→Bool) : (!(l.any (fun x => !q x)))=l.all q:=by
 induction l with
 | nil => rfl
 | cons x l ih => simp only [List.any_cons,List.all_cons,← ih];cases q x <;> simp
theorem inner_loop (l : List IFld) (hl : l.length≤1048576) (hn : ∀ f ∈ l,f.f0.size≤1048576) (ok : Bool) : Eve (fun k => impl_inner.l0 k l ok [] l (l.length : Int) 0) (l.map (·.f1),ok && nms none l):=by
 have:=ev_loop0 l (fun k (s : Bool×List IVal) i => impl_inner.l0 k l s.1 s.2 l (l.length : Int) i) (fun i s r => (s.2 ++ r.map (·.f1),s.1 && nms (if i=0 then none else some (l.getD (i - 1) z92).f0) r)) (fun i s => s.2.length=i) (fun s _ => by
  simp only [impl_inner.l0]
  exact Eve.ite (fun h => absurd h (by omega)) (fun _ => Eve.one.eq (by simp [nms]))) (fun i hi s hI ih => by
  obtain ⟨b,out⟩:=s;simp only at hI;have hf:=hn l[i] (List.getElem_mem hi);have hnx:=fun b' => ih (b',out ++ [⟨l[i].f1.f0,l[i].f1.f1,l[i].f1.f2⟩]) (by simp;omega);simp only [Nat.add_one_ne_zero,if_false,Nat.add_sub_cancel,List.getD_eq_getElem?_getD,List.getElem?_eq_getElem hi,Option.getD_some] at hnx;have hout : ∀ r : List IFld,out ++ [(⟨l[i].f1.f0,l[i].f1.f1,l[i].f1.f2⟩ : IVal)] ++ r.map (·.f1)=out ++ (l[i] :: r).map (·.f1):=by intro r;simp
  simp only [impl_inner.l0];refine Eve.ite (fun _ => ?_) (fun h => absurd (by omega) h);refine Eve.ite (fun _ => ?_) (fun h => absurd (by omega) h);refine Eve.ite (fun _ => ?_) (fun h => absurd (by omega) h);simp only [rdF l i hi,wi (show i≤9223372036854775806 by omega)];refine Eve.ite (fun hb => ?_) (fun hb => ?_)
  ·
   refine Eve.bind (nam_impl _ hf) ?_
   refine Eve.ite (fun h1 => ?_) (fun h1 => ?_)
   ·
    refine Eve.ite (fun h2 => ?_) (fun h2 => ?_)
    ·
     obtain rfl : i=0:=by omega
     refine Eve.ite (fun _ => (hnx true).eq ?_) (fun h => absurd (by omega) h);rw [hout,if_pos rfl];simp only [nms,h1,hb,Bool.true_and]
    have hw : wrap64 ((i : Int) - 1)=((i - 1 : Nat) : Int):=by rw [w64 (by omega) (by omega)];omega
    simp only [hw];refine Eve.ite (fun _ => ?_) (fun h => absurd (by omega) h);refine Eve.ite (fun _ => ?_) (fun h => absurd (by omega) h);refine Eve.ite (fun _ => ?_) (fun h => absurd (by omega) h);have hi1 : i - 1<l.length:=by omega
    have hz : ¬ i=0:=by omega
    simp only [rdF l (i - 1) hi1];refine (hnx _).eq ?_;rw [hout,if_neg hz,List.getD_eq_getElem?_getD,List.getElem?_eq_getElem hi1,Option.getD_some];simp only [nms,h1,hb,Bool.true_and]
   refine Eve.ite (fun _ => (hnx false).eq ?_) (fun h => absurd (by omega) h);rw [hout];simp only [nms,Bool.eq_false_iff.mpr h1,Bool.false_and,Bool.and_false]
  refine Eve.ite (fun _ => (hnx false).eq ?_) (fun h => absurd (by omega) h);rw [hout]
  simp only [Bool.eq_false_iff.mpr hb,Bool.false_and]) (ok,[]) rfl
 exact this.eq (by simp)
theorem inner_four (v : IVal) (h4 : v.f0=4) (hs : v.f2.size≤1048576) : ∃ l ok,Eve (fun k => impl_inner.f k v.f0 v.f1 v.f2) (l,ok)∧l.length≤1048576∧(∀ x ∈ l,x.f2.size≤1048576) ∧
  ((itS v.f2.size v.f2=some l∧ok=true)∨(itS v.f2.size v.f2=none∧(ok=false ∨ ∃ x ∈ l,Bad x))):=by
 simp only [impl_inner.f,impl_items.f,if_pos h4]
 cases hi : itS v.f2.size v.f2 with
 | some l =>
  obtain ⟨h1,h2⟩:=its_size _ _ l hi hs;exact ⟨l,true,(Eve.bind (items_some _ v.f2 [] l hi (by simp;omega)) Eve.one),by omega,h2,.inl ⟨rfl,rfl⟩⟩
 | none =>
  obtain ⟨l,ok,hl,hb,h1,h2⟩:=items_none _ v.f2 [] (Nat.le_refl _) hi (by simp;omega);exact ⟨l,ok,(Eve.bind hl Eve.one),by omega,h2,.inr ⟨rfl,hb⟩⟩
theorem inner_five (v : IVal) (h5 : v.f0=5) (hs : v.f2.size≤1048576) : ∃ l ok,Eve (fun k => impl_inner.f k v.f0 v.f1 v.f2) (l,ok)∧l.length≤1048576∧(∀ x ∈ l,x.f2.size≤1048576) ∧
  ((∃ fs,fdS v.f2.size v.f2=some fs∧l=fs.map (·.f1)∧ok=nms none fs)∨(fdS v.f2.size v.f2=none∧(ok=false ∨ ∃ x ∈ l,Bad x))):=by
 have h4 : ¬ v.f0=4:=by omega
 simp only [impl_inner.f,impl_fields.f,if_neg h4]
 cases hi : fdS v.f2.size v.f2 with
 | some fs =>
  obtain ⟨h1,h2⟩:=fds_size _ _ fs hi hs;refine ⟨fs.map (·.f1),nms none fs,?_,by simp;omega,?_,.inl ⟨fs,rfl,rfl,rfl⟩⟩
  ·
   refine Eve.bind (fields_some _ v.f2 [] fs hi (by simp;omega)) ?_
   exact (inner_loop fs (by omega) (fun f hf => (h2 f hf).1) true).eq (by simp)
  intro x hx;obtain ⟨f,hf,rfl⟩:=List.mem_map.1 hx;exact (h2 f hf).2
 | none =>
  obtain ⟨fs,ok,hl,hb,h1,h2⟩:=fields_none _ v.f2 [] (Nat.le_refl _) hi (by simp;omega);refine ⟨fs.map (·.f1),ok && nms none fs,?_,by simp;omega,?_,.inr ⟨rfl,?_⟩⟩
  ·
   refine Eve.bind hl ?_
   exact inner_loop fs (by omega) (fun f hf => (h2 f hf).1) ok
  ·
   intro x hx
   obtain ⟨f,hf,rfl⟩:=List.mem_map.1 hx;exact (h2 f hf).2
  rcases hb with hb|⟨f,hf,hb⟩
  ·
   left;rw [hb];rfl
  right;exact ⟨f.f1,List.mem_map.2 ⟨f,hf,rfl⟩,hb⟩
theorem all_bad (l : List IVal) (q : IVal→Bool) (x : IVal) (hx : x ∈ l) (h : q x=false) : l.all q=false:=by
 rw [List.all_eq_false];exact ⟨x,hx,by simp [h]⟩
theorem nest_tells (v : IVal) (d : Nat) (l : List IVal) (ok : Bool) (hd : d≤1000) (h45 : v.f0=4∨v.f0=5) (hin : Eve (fun k => impl_inner.f k v.f0 v.f1 v.f2) (l,ok)) (hl : l.length≤1048576)
  (hq : ∀ x ∈ l,Eve (fun k => impl_isRight.f k x.f0 x.f1 x.f2 (d : Int)) (rightV d x)) :
  Eve (fun k => impl_isRight.f k v.f0 v.f1 v.f2 ((d + 1 : Nat) : Int)) (decide (v.f1=0) && (decide ((v.f2.size : Int)≤300) && (ok && l.all (rightV d)))):=by
 have hj : Eve (fun k => impl_isRight.j0 k true v.f0 v.f1 v.f2 ((d + 1 : Nat) : Int)) (decide (v.f1=0) && (decide ((v.f2.size : Int)≤300) && (ok && l.all (rightV d)))):=by
  refine Eve.succ ?_;simp only [impl_isRight.j0,if_true];refine Eve.bind hin ?_;refine Eve.ite (fun h1 => ?_) (fun h1 => Eve.one.eq (by simp [h1]));refine Eve.ite (fun h2 => ?_) (fun h2 => Eve.one.eq (by simp [h2]));refine Eve.ite (fun _ => ?_) (fun h => absurd (by omega) h);refine Eve.ite (fun h3 => ?_) (fun h3 => Eve.one.eq (by rw [show ok=false from Bool.eq_false_iff.mpr h3];simp));have hc:=cf_tells l (rightV d) ((d + 1 : Nat) : Int) (by omega) (fun x hx => by rw [dn d hd];exact hq x hx);refine Eve.bind hc (Eve.one.eq ?_);rw [any_not,show ok=true from h3];simp [h1,h2]
 refine Eve.succ ?_;simp only [impl_isRight.f];rcases h45 with h|h
 ·
  simp only [h] at hj ⊢
  simp only [show ¬ (4 : Int)=0 by omega,show ¬ (4 : Int)=1 by omega,show ¬ (4 : Int)=2 by omega,show ¬ (4 : Int)=3 by omega,if_false,if_true,beq_self_eq_true];exact hj
 simp only [h] at hj ⊢;simp only [show ¬ (5 : Int)=0 by omega,show ¬ (5 : Int)=1 by omega,show ¬ (5 : Int)=2 by omega,show ¬ (5 : Int)=3 by omega,show ¬ (5 : Int)=4 by omega,if_false,beq_self_eq_true];exact hj
theorem nest_zero (v : IVal) (l : List IVal) (ok : Bool) (h45 : v.f0=4∨v.f0=5) (hin : Eve (fun k => impl_inner.f k v.f0 v.f1 v.f2) (l,ok)) : Eve (fun k => impl_isRight.f k v.f0 v.f1 v.f2 ((0 : Nat) : Int)) false:=by
 have hj : Eve (fun k => impl_isRight.j0 k true v.f0 v.f1 v.f2 ((0 : Nat) : Int)) false:=by
  refine Eve.succ ?_;simp only [impl_isRight.j0,if_true];refine Eve.bind hin ?_;refine Eve.ite (fun _ => ?_) (fun _ => Eve.one);refine Eve.ite (fun _ => ?_) (fun _ => Eve.one);exact Eve.ite (fun h => absurd h (by omega)) (fun _ => Eve.one)
 refine Eve.succ ?_;simp only [impl_isRight.f];rcases h45 with h|h
 ·
  simp only [h] at hj ⊢
  simp only [show ¬ (4 : Int)=0 by omega,show ¬ (4 : Int)=1 by omega,show ¬ (4 : Int)=2 by omega,show ¬ (4 : Int)=3 by omega,if_false,if_true,beq_self_eq_true];exact hj
 simp only [h] at hj ⊢;simp only [show ¬ (5 : Int)=0 by omega,show ¬ (5 : Int)=1 by omega,show ¬ (5 : Int)=2 by omega,show ¬ (5 : Int)=3 by omega,show ¬ (5 : Int)=4 by omega,if_false,beq_self_eq_true];exact hj
theorem right_impl : ∀ (d : Nat) (v : IVal),d≤1000→v.f2.size≤1048576→Eve (fun k => impl_isRight.f k v.f0 v.f1 v.f2 (d : Int)) (rightV d v):=by
 intro d
 induction d with
 | zero =>
  intro v hd hs
  by_cases h4 : v.f0=4
  ·
   obtain ⟨l,ok,hin,_⟩:=inner_four v h4 hs
   refine (nest_zero v l ok (.inl h4) hin).eq ?_;show false=flat v;unfold flat;rw [if_neg (by omega),if_neg (by omega),if_neg (by omega),if_neg (by omega)]
  by_cases h5 : v.f0=5
  ·
   obtain ⟨l,ok,hin,_⟩:=inner_five v h5 hs
   refine (nest_zero v l ok (.inr h5) hin).eq ?_;show false=flat v;unfold flat;rw [if_neg (by omega),if_neg (by omega),if_neg (by omega),if_neg (by omega)]
  exact impl_flat v _ h4 h5
 | succ d ih =>
  intro v hd hs
  by_cases h4 : v.f0=4
  ·
   obtain ⟨l,ok,hin,hl,hsz,hc⟩:=inner_four v h4 hs
   refine (nest_tells v d l ok (by omega) (.inl h4) hin hl (fun x hx => ih x (by omega) (hsz x hx))).eq ?_;unfold rightV;rw [if_pos h4];rcases hc with ⟨hi,rfl⟩|⟨hi,hb⟩
   ·
    rw [hi];simp
   rw [hi];rcases hb with rfl|⟨x,hx,hb⟩
   ·
    simp
   rw [all_bad l (rightV d) x hx (bad_right x hb d)];simp
  by_cases h5 : v.f0=5
  ·
   obtain ⟨l,ok,hin,hl,hsz,hc⟩:=inner_five v h5 hs
   refine (nest_tells v d l ok (by omega) (.inr h5) hin hl (fun x hx => ih x (by omega) (hsz x hx))).eq ?_;unfold rightV;rw [if_neg h4,if_pos h5];rcases hc with ⟨fs,hi,rfl,rfl⟩|⟨hi,hb⟩
   ·
    rw [hi,List.all_map];rfl
   rw [hi];rcases hb with rfl|⟨x,hx,hb⟩
   ·
    simp
   rw [all_bad l (rightV d) x hx (bad_right x hb d)];simp
  unfold rightV;rw [if_neg h4,if_neg h5];exact impl_flat v _ h4 h5
theorem right_small (d : Nat) (v : IVal) (h : 300<v.f2.size) : rightV d v=false:=by
 have he : emB v.f2=false:=by
  have : ¬ v.f2.toList=([] : List UInt8):=fun e => by have:=(emp _).1 e;omega
  simpa [emB] using this
 have hz : decide ((v.f2.size : Int)≤300)=false:=by simp;omega
 have hf : flat v=false:=by
  unfold flat;rw [he,hz]
  repeat' split
  all_goals simp
 cases d with
 | zero => exact hf
 | succ d =>
  unfold rightV;rw [hz,hf]
  repeat' split
  all_goals simp
theorem ok_impl (v : IVal) (hs : v.f2.size≤1048576) : Eve (fun k => impl_ValueOK.f k v.f0 v.f1 v.f2) (rightV 5 v):=by
 simp only [impl_ValueOK.f];exact Eve.bind (right_impl 5 v (by omega) hs) Eve.one
theorem ok_spec (v : IVal) (hs : v.f2.size≤1048576) : Eve (fun k => spec_ValueOK.f k v.f0 v.f1 v.f2) (rightV 5 v):=by
 simp only [spec_ValueOK.f];refine Eve.ite (fun _ => Eve.bind (right_spec 5 v (by omega) hs) Eve.one) (fun h => Eve.one.eq ?_);rw [right_small 5 v (by omega)]
def names (s : ByteArray) : List ByteArray:=(cutA 46 [] s.data.toList).map mkB
theorem names_le (s : ByteArray) (x : ByteArray) (h : x ∈ names s) : x.size≤s.size:=by
 obtain ⟨l,hl,rfl⟩:=List.mem_map.1 h;have:=cutA_le 46 s.data.toList [] l hl;show l.toArray.size≤s.data.size
 simpa using this
def pth (s : ByteArray) : Bool:=decide ((s.size : Int)≤50) && (decide (((names s).length : Int)≤4) && (names s).all nam)
theorem pth_loop (l : List ByteArray) (hl : ∀ x ∈ l,x.size≤1048576) (hn : l.length≤1048576) : Eve (fun k => spec_PathOK.l0 k l 0) (l.all nam):=by
 refine ev_all l (fun k i => spec_PathOK.l0 k l i) nam ?_ ?_
 ·
  simp only [spec_PathOK.l0]
  exact Eve.ite (fun h => absurd h (by omega)) (fun _ => Eve.one)
 intro i hi v ih;simp only [spec_PathOK.l0];refine Eve.ite (fun _ => ?_) (fun h => absurd (by omega) h);refine Eve.ite (fun _ => ?_) (fun h => absurd (by omega) h);rw [rdOf_at _ _ _ hi];refine Eve.bind (nam_spec l[i] (hl _ (List.getElem_mem hi))) ?_;rw [show wrap64 ((i : Int) + 1)=((i + 1 : Nat) : Int) by rw [w64] <;> omega];refine Eve.ite (fun h => ih.eq (by rw [h];simp)) (fun h => Eve.one.eq (by simp at h;rw [h];simp))
theorem names_len (s : ByteArray) : (names s).length≤s.size + 1:=by
 have : ∀ (l acc : List UInt8),(cutA 46 acc l).length≤l.length + 1:=by
  intro l
  induction l with
  | nil => intro acc;simp [cutA]
  | cons b l ih =>
   intro acc;unfold cutA
   split
   ·
    have:=ih [];simp;omega
   have:=ih (acc ++ [b]);simp;omega
 have h:=this s.data.toList [];have hlen : s.data.toList.length=s.size:=by rw [Array.length_toList];rfl
 unfold names;rw [List.length_map]
 omega
theorem pth_spec (s : ByteArray) (hs : s.size≤1048576) : Eve (fun k => spec_PathOK.f k s) (pth s):=by
 simp only [spec_PathOK.f];refine Eve.ite (fun h => Eve.one.eq (by unfold pth;rw [decide_eq_false (by omega)];rfl)) (fun h1 => ?_);refine Eve.bind (cut_spec s hs) ?_;have hl:=pth_loop (names s) (fun x hx => Nat.le_trans (names_le s x hx) hs) (by have:=names_len s;omega);change Eve _ _ at hl;refine Eve.ite (fun h => ?_) (fun h => ?_)
 ·
  refine Eve.succ ?_
  simp only [spec_PathOK.j0,if_true];refine Eve.one.eq ?_;unfold pth;rw [decide_eq_false (p:=((names s).length : Int)≤4) (by unfold names;omega)];simp
 refine Eve.succ ?_;simp only [spec_PathOK.j0,decide_eq_true_eq];refine Eve.ite (fun h2 => Eve.one.eq ?_) (fun h2 => hl.eq ?_)
 ·
  unfold pth;rw [decide_eq_false (p:=(s.size : Int)≤50) (by omega)];rfl
 unfold pth;rw [decide_eq_true (p:=(s.size : Int)≤50) (by omega),decide_eq_true (p:=((names s).length : Int)≤4) (by unfold names;omega)];rfl
theorem pth_index (l : List ByteArray) (hl : ∀ x ∈ l,x.size≤1048576) (hn : l.length≤1048576) : Eve (fun k => slices_ContainsFunc_string_string_at_PathOK_1.f k l) (!(l.all nam)):=by
 simp only [slices_ContainsFunc_string_string_at_PathOK_1.f,slices_IndexFunc_string_string_at_PathOK_1.f];have hi:=ev_loop0 l (fun k (_ : Unit) i => slices_IndexFunc_string_string_at_PathOK_1.l0 k l (l.length : Int) i) (fun i _ r => first (fun x => !(nam x)) r i) (fun _ _ => True) ?_ ?_ () trivial
 ·
  refine Eve.bind hi ?_
  refine Eve.one.eq ?_;have h:=first_any (fun x => !(nam x)) l 0;have h2 : (l.any fun x => !(nam x)) = !(l.all nam):=by rw [List.all_eq_not_any_not];simp
  rw [← h2,← h]
 ·
  intro _ _
  simp only [slices_IndexFunc_string_string_at_PathOK_1.l0];exact Eve.ite (fun h => absurd h (by omega)) (fun _ => Eve.one)
 intro i hi _ _ ih;have ih:=ih () trivial;simp only [slices_IndexFunc_string_string_at_PathOK_1.l0];refine Eve.ite (fun _ => ?_) (fun h => absurd (by omega) h);refine Eve.ite (fun _ => ?_) (fun h => absurd (by omega) h);refine Eve.ite (fun _ => ?_) (fun h => absurd (by omega) h);rw [rdOf_at _ _ _ hi];simp only [impl_PathOK_1.f];refine Eve.bind (v:=!(nam l[i])) (Eve.bind (nam_impl l[i] (hl _ (List.getElem_mem hi))) Eve.one) ?_;rw [show wrap64 ((i : Int) + 1)=((i + 1 : Nat) : Int) by rw [w64] <;> omega];refine Eve.ite (fun h => Eve.one.eq (by simp [first,h])) (fun h => ih.eq (by simp [first,h]))
theorem pth_impl (s : ByteArray) (hs : s.size≤1048576) : Eve (fun k => impl_PathOK.f k s) (pth s):=by
 simp only [impl_PathOK.f,split_impl s hs,Option.bind_some];unfold pth;refine Eve.ite (fun h => ?_) (fun h => Eve.one.eq (by rw [decide_eq_false h];rfl));rw [decide_eq_true h];refine Eve.ite (fun h2 => ?_) (fun h2 => Eve.one.eq (by rw [decide_eq_false (p:=((names s).length : Int)≤4) h2];rfl));rw [decide_eq_true (p:=((names s).length : Int)≤4) h2];refine Eve.bind (pth_index (names s) (fun x hx => Nat.le_trans (names_le s x hx) hs) (by have:=names_len s;omega)) ?_;exact Eve.one.eq (by simp)
abbrev LVal:=S34

def iv (v : LVal) : IVal:=⟨v.f0,v.f1,v.f2⟩
theorem szValue_tells (v : LVal) (h : v.f2.size≤9223372036854775807) {left : Int} (h0 : 0≤left) (h1 : left≤1048576) :
  laws_szValue.f v.f0 v.f1 v.f2 left=some (if left - v.f2.size<0 then -1 else left - v.f2.size):=by
 unfold laws_szValue.f;rw [w64 (by omega) (by omega)]
 split <;> rfl
theorem toValue_tells (v : LVal) : laws_toValue.f v.f0 v.f1 v.f2=some (v.f0,v.f1,v.f2):=rfl
end Go.Proofs.YthjgfjlogilleaaDoor.Pure
end
section
namespace Go.Proofs.YthjgfjlogilleaaDoor.Q
open Go.RowKit Go.Proofs.YthjgfjlogilleaaDoorW.PrintWords Go.Proofs.YthjgfjlogilleaaDoorW.PrintLast Go.Proofs.YthjgfjlogilleaaDoorW.PrintMore
attribute [local go_sem] max2_int min2_int max_two min_two max_three min_three max_four min_four max2_str min2_str str_geq str_gtr str_leq   -- for this text's walks alone
set_option linter.unusedVariables false
set_option linter.unusedSimpArgs false

mutual
def spec_TermOK.j0 : Nat→Bool→Int→ByteArray→Int→Int→ByteArray→Option (Bool)
 | 0,_,_,_,_,_,_ => none
 | k + 1,x18,x401000,x401001,x401002,x401003,x401004 => if x18=true then (some false) else (if x401000=1 then (spec_TermOK.j1 k x401000 (x401000 == 1) x401000 x401001 x401002 x401003 x401004) else (if x401000=2 then (spec_TermOK.j1 k x401000 (x401000 == 2) x401000 x401001 x401002 x401003 x401004) else (if x401000=3 then (spec_TermOK.j1 k x401000 (x401000 == 3) x401000 x401001 x401002 x401003 x401004) else (if x401000=4 then (spec_TermOK.j1 k x401000 (x401000 == 4) x401000 x401001 x401002 x401003 x401004) else (if x401000=5 then (spec_TermOK.j1 k x401000 (x401000 == 5) x401000 x401001 x401002 x401003 x401004) else (spec_TermOK.j1 k x401000 (x401000 == 6) x401000 x401001 x401002 x401003 x401004))))))
def spec_TermOK.j1 : Nat→Int→Bool→Int→ByteArray→Int→Int→ByteArray→Option (Bool)
 | 0,_,_,_,_,_,_,_ => none
 | k + 1,x20,x21,x401000,x401001,x401002,x401003,x401004 => if x21=true then (some true) else (if x20=7 then (some (x401002 == 4)) else (if x20=8 then (some (x401002 == 1)) else (if x20=9 then (if x401002=2 then ((spec_l01In.f x401003 0 5).bind fun t403 => (some t403)) else (some false)) else (if x20=10 then (if x401002=2 then (some (decide (x401003 ≥ 0))) else (some false)) else (some false)))))
end
def spec_TermOK.f (k : Nat) (a0_0 : Int) (a0_1 : ByteArray) (a0_2 : Int) (a0_3 : Int) (a0_4 : ByteArray) : Option (Bool):=if (a0_1.size : Int) > 65536 then (spec_TermOK.j0 k true a0_0 a0_1 a0_2 a0_3 a0_4) else ((spec_PathOK.f k a0_1).bind fun t401 => (if t401=true then ((spec_ValueOK.f k a0_2 a0_3 a0_4).bind fun t402 => (spec_TermOK.j0 k (!t402) a0_0 a0_1 a0_2 a0_3 a0_4)) else (spec_TermOK.j0 k true a0_0 a0_1 a0_2 a0_3 a0_4)))
theorem spec_TermOK.mono_l : ∀ k,(∀ y0 y1 y2 y3 y4 y5,LeO (spec_TermOK.j0 k y0 y1 y2 y3 y4 y5) (spec_TermOK.j0 (k + 1) y0 y1 y2 y3 y4 y5))∧(∀ y0 y1 y2 y3 y4 y5 y6,LeO (spec_TermOK.j1 k y0 y1 y2 y3 y4 y5 y6) (spec_TermOK.j1 (k + 1) y0 y1 y2 y3 y4 y5 y6))
 | 0 => ⟨fun _ _ _ _ _ _ r h => by simp [spec_TermOK.j0] at h,fun _ _ _ _ _ _ _ r h => by simp [spec_TermOK.j1] at h⟩
 | k + 1 => by
  obtain ⟨ih0,ih1⟩:=spec_TermOK.mono_l k;refine ⟨?_,?_⟩
  ·
   intro y0 y1 y2 y3 y4 y5
   unfold spec_TermOK.j0
   repeat' first|(with_reducible exact ih0 _ _ _ _ _ _)|(with_reducible exact ih1 _ _ _ _ _ _ _)|(with_reducible exact spec_PathOK.mono _ _)|(with_reducible exact spec_ValueOK.mono _ _ _ _)|(with_reducible exact zQ _)|(with_reducible exact zN _)|(with_reducible refine zP ?_ ?_)|(with_reducible refine zO ?_ (fun _ => ?_))|refine zP ?_ ?_|refine zO ?_ (fun _ => ?_)
  intro y0 y1 y2 y3 y4 y5 y6;unfold spec_TermOK.j1
  repeat' first|(with_reducible exact ih0 _ _ _ _ _ _)|(with_reducible exact ih1 _ _ _ _ _ _ _)|(with_reducible exact spec_PathOK.mono _ _)|(with_reducible exact spec_ValueOK.mono _ _ _ _)|(with_reducible exact zQ _)|(with_reducible exact zN _)|(with_reducible refine zP ?_ ?_)|(with_reducible refine zO ?_ (fun _ => ?_))|refine zP ?_ ?_|refine zO ?_ (fun _ => ?_)
theorem spec_TermOK.mono : ∀ a0 a1 a2 a3 a4 k,LeO (spec_TermOK.f k a0 a1 a2 a3 a4) (spec_TermOK.f (k + 1) a0 a1 a2 a3 a4):=by
 intro a0 a1 a2 a3 a4 k;obtain ⟨ih0,ih1⟩:=spec_TermOK.mono_l k;unfold spec_TermOK.f
 repeat' first|(with_reducible exact ih0 _ _ _ _ _ _)|(with_reducible exact ih1 _ _ _ _ _ _ _)|(with_reducible exact spec_PathOK.mono _ _)|(with_reducible exact spec_ValueOK.mono _ _ _ _)|(with_reducible exact zQ _)|(with_reducible exact zN _)|(with_reducible refine zP ?_ ?_)|(with_reducible refine zO ?_ (fun _ => ?_))|refine zP ?_ ?_|refine zO ?_ (fun _ => ?_)
set_option maxHeartbeats 8000000 in
set_option maxRecDepth 100000 in
theorem spec_TermOK.calls (k : Nat) (a0_0 : Int) (a0_1 : ByteArray) (a0_2 : Int) (a0_3 : Int) (a0_4 : ByteArray) (r : Bool) (w : World) (h : spec_TermOK.f k a0_0 a0_1 a0_2 a0_3 a0_4=some r) :
  Calls Tryd.prog 17 #[.agg #[.int .i64 a0_0,.string a0_1,.int .i64 a0_2,.int .i64 a0_3,.string a0_4]] w fun e w' => e = .returned (.bool r)∧Below w.heap.size w w':=by
 have hu47:=Tryd.underlying47;have hu39:=Tryd.underlying39;have HB:=zh (Below.refl w.heap.size w);have H : (if (a0_1.size : Int) > 65536 then (spec_TermOK.j0 k true a0_0 a0_1 a0_2 a0_3 a0_4) else ((spec_PathOK.f k a0_1).bind fun t401 => (if t401=true then ((spec_ValueOK.f k a0_2 a0_3 a0_4).bind fun t402 => (spec_TermOK.j0 k (!t402) a0_0 a0_1 a0_2 a0_3 a0_4)) else (spec_TermOK.j0 k true a0_0 a0_1 a0_2 a0_3 a0_4))))=some r:=h;clear h;have HC2:=zh H;clear H
 go_enter Tryd.func17,Tryd.ntmps17
 go_upto_region 1 with (first|((with_reducible refine zK (N:=1) rfl ?_);refine zI ?hg (N:=1) ?hd (cs:=#[.int .i64 a0_0,.string a0_1,.int .i64 a0_2,.int .i64 a0_3,.string a0_4]) (t:=47) ?hr ?_;(case hd => rfl);(case hg => rfl);(case hr => first|(go_simp;done)|(go_simp;rfl));intro gb400 hg w3 hbox hb;have BK400:=zh (hbox);have GW400:=zh ((by rw [hg];exact (zB (by repeat (with_reducible first|exact HB.out|apply za|apply zb|apply zc))) : w.heap.size≤gb400));have GE400:=zh ((by rw [hg];exact (zB (by repeat (with_reducible first|exact HB.out|apply za|apply zb|apply zc))) : w.heap.size≤gb400));replace HB:=zh (zC (by repeat (with_reducible first|exact HB.out|apply za|apply zb|apply zc)) hb);clear hb hbox hg))
 (try simp only [Act.put,zi,zj,zk])
 go_cut [18] (fun v18 wc => ∃ (kq : Nat) (x18_1 : Bool),v18 = .bool x18_1∧Aside0 (spec_TermOK.j0 kq x18_1 a0_0 a0_1 a0_2 a0_3 a0_4=some r)∧Aside0 (kq≤k)∧Aside0 (wc.heap[gb400]? = some (.cells #[.int .i64 a0_0,.string a0_1,.int .i64 a0_2,.int .i64 a0_3,.string a0_4] 47 (0,0)))∧Aside0 (Below w.heap.size w wc))
 case first =>
  have H:=HC2.out;clear HC2
  by_cases c4 : (a0_1.size : Int) > 65536
  ·
   rw [if_pos c4] at H
   have c4b0 : decide (65536<(a0_1.size : Int))=true:=decide_eq_true c4;have c4b1 : decide (65536<a0_1.size)=true:=decide_eq_true (by omega);clear c4;(first|rw [c4b0]|(simp only [zG,zH];rw [c4b0])|skip);have H':=zh H;clear H;have hcz5_0 : w3.cell? ⟨gb400,0,none⟩=some (.int .i64 a0_0):=(zz BK400.out 0).trans rfl;have hcz5_1 : w3.cell? ⟨gb400,1,none⟩=some (.string a0_1):=(zz BK400.out 1).trans rfl;have hcz5_2 : w3.cell? ⟨gb400,2,none⟩=some (.int .i64 a0_2):=(zz BK400.out 2).trans rfl;have hcz5_3 : w3.cell? ⟨gb400,3,none⟩=some (.int .i64 a0_3):=(zz BK400.out 3).trans rfl;have hcz5_4 : w3.cell? ⟨gb400,4,none⟩=some (.string a0_4):=(zz BK400.out 4).trans rfl;have hfz5_0:=zA BK400.out 0;have hfz5_1:=zA BK400.out 1;have hfz5_2:=zA BK400.out 2;have hfz5_3:=zA BK400.out 3;have hfz5_4:=zA BK400.out 4
   go_wp2
   go_meet
   case rel => exact ⟨_,(true),(by first|rfl|(simp;done)|(simp [*];done)),H',⟨by first|omega|exact ye _⟩,⟨by (with_reducible repeat (first|refine ze ?_ _|refine zf ?_|refine zg ?_ _));exact BK400.out⟩,⟨by repeat (with_reducible first|exact HB.out|apply za|apply zb|apply zc|refine zd ?_ GE400.out)⟩⟩
  rw [if_neg c4] at H;have c4b0 : decide (65536<(a0_1.size : Int))=false:=decide_eq_false c4;have c4b1 : decide (65536<a0_1.size)=false:=decide_eq_false (by omega);clear c4;(first|rw [c4b0]|(simp only [zG,zH];rw [c4b0])|skip);replace H:=zT.mp H;obtain ⟨t401,A60,H⟩:=H;replace H : (if t401=true then ((spec_ValueOK.f k a0_2 a0_3 a0_4).bind fun t402 => (spec_TermOK.j0 k (!t402) a0_0 a0_1 a0_2 a0_3 a0_4)) else (spec_TermOK.j0 k true a0_0 a0_1 a0_2 a0_3 a0_4))=some r:=H;have A6:=zh A60;clear A60
  by_cases c7 : t401=true
  ·
   subst c7
   have H1 : ((spec_ValueOK.f k a0_2 a0_3 a0_4).bind fun t402 => (spec_TermOK.j0 k (!t402) a0_0 a0_1 a0_2 a0_3 a0_4))=some r:=by rw [if_pos rfl] at H;exact H
   clear H;have H:=H1;clear H1;replace H:=zT.mp H;obtain ⟨t402,A80,H⟩:=H;replace H : (spec_TermOK.j0 k (!t402) a0_0 a0_1 a0_2 a0_3 a0_4)=some r:=H;have A8:=zh A80;clear A80;have H':=zh H;clear H;have hcz9_0 : w3.cell? ⟨gb400,0,none⟩=some (.int .i64 a0_0):=(zz BK400.out 0).trans rfl;have hcz9_1 : w3.cell? ⟨gb400,1,none⟩=some (.string a0_1):=(zz BK400.out 1).trans rfl;have hcz9_2 : w3.cell? ⟨gb400,2,none⟩=some (.int .i64 a0_2):=(zz BK400.out 2).trans rfl;have hcz9_3 : w3.cell? ⟨gb400,3,none⟩=some (.int .i64 a0_3):=(zz BK400.out 3).trans rfl;have hcz9_4 : w3.cell? ⟨gb400,4,none⟩=some (.string a0_4):=(zz BK400.out 4).trans rfl;have hfz9_0:=zA BK400.out 0;have hfz9_1:=zA BK400.out 1;have hfz9_2:=zA BK400.out 2;have hfz9_3:=zA BK400.out 3;have hfz9_4:=zA BK400.out 4
   go_wp2_with (first|(go_at_call 30;(with_reducible refine (spec_PathOK.calls k  a0_1 true _ A6.out).mono ?_);rintro e w10 ⟨rfl,hb⟩;replace BK400:=zh (zD (g:=gb400) (o:=.cells #[.int .i64 a0_0,.string a0_1,.int .i64 a0_2,.int .i64 a0_3,.string a0_4] 47 (0,0)) (by (with_reducible repeat (first|refine ze ?_ _|refine zf ?_|refine zg ?_ _));exact BK400.out) hb);replace HB:=zh (zC (by repeat (with_reducible first|exact HB.out|apply za|apply zb|apply zc|refine zd ?_ GE400.out)) hb);(try clear hb);(try clear hb2);(try clear hk);(try clear hi);have hcz11_0 : w10.cell? ⟨gb400,0,none⟩=some (.int .i64 a0_0):=(zz BK400.out 0).trans rfl;have hcz11_1 : w10.cell? ⟨gb400,1,none⟩=some (.string a0_1):=(zz BK400.out 1).trans rfl;have hcz11_2 : w10.cell? ⟨gb400,2,none⟩=some (.int .i64 a0_2):=(zz BK400.out 2).trans rfl;have hcz11_3 : w10.cell? ⟨gb400,3,none⟩=some (.int .i64 a0_3):=(zz BK400.out 3).trans rfl;have hcz11_4 : w10.cell? ⟨gb400,4,none⟩=some (.string a0_4):=(zz BK400.out 4).trans rfl;have hfz11_0:=zA BK400.out 0;have hfz11_1:=zA BK400.out 1;have hfz11_2:=zA BK400.out 2;have hfz11_3:=zA BK400.out 3;have hfz11_4:=zA BK400.out 4)|(go_at_call 38;(with_reducible refine (spec_ValueOK.calls k  a0_2 a0_3 a0_4 t402 _ A8.out).mono ?_);rintro e w12 ⟨rfl,hb⟩;replace BK400:=zh (zD (g:=gb400) (o:=.cells #[.int .i64 a0_0,.string a0_1,.int .i64 a0_2,.int .i64 a0_3,.string a0_4] 47 (0,0)) (by (with_reducible repeat (first|refine ze ?_ _|refine zf ?_|refine zg ?_ _));exact BK400.out) hb);replace HB:=zh (zC (by repeat (with_reducible first|exact HB.out|apply za|apply zb|apply zc|refine zd ?_ GE400.out)) hb);(try clear hb);(try clear hb2);(try clear hk);(try clear hi)))
   go_meet
   case rel => exact ⟨_,(!t402),(by first|rfl|(simp;done)|(simp [*];done)),H',⟨by first|omega|exact ye _⟩,⟨by (with_reducible repeat (first|refine ze ?_ _|refine zf ?_|refine zg ?_ _));exact BK400.out⟩,⟨by repeat (with_reducible first|exact HB.out|apply za|apply zb|apply zc|refine zd ?_ GE400.out)⟩⟩
  replace c7:=yb.mpr c7;subst c7;have H1 : (spec_TermOK.j0 k true a0_0 a0_1 a0_2 a0_3 a0_4)=some r:=by rw [if_neg (show ¬ (false=true) by decide)] at H;exact H
  clear H;have H:=H1;clear H1;have H':=zh H;clear H;have hcz13_0 : w3.cell? ⟨gb400,0,none⟩=some (.int .i64 a0_0):=(zz BK400.out 0).trans rfl;have hcz13_1 : w3.cell? ⟨gb400,1,none⟩=some (.string a0_1):=(zz BK400.out 1).trans rfl;have hcz13_2 : w3.cell? ⟨gb400,2,none⟩=some (.int .i64 a0_2):=(zz BK400.out 2).trans rfl;have hcz13_3 : w3.cell? ⟨gb400,3,none⟩=some (.int .i64 a0_3):=(zz BK400.out 3).trans rfl;have hcz13_4 : w3.cell? ⟨gb400,4,none⟩=some (.string a0_4):=(zz BK400.out 4).trans rfl;have hfz13_0:=zA BK400.out 0;have hfz13_1:=zA BK400.out 1;have hfz13_2:=zA BK400.out 2;have hfz13_3:=zA BK400.out 3;have hfz13_4:=zA BK400.out 4
  go_wp2_with (first|(go_at_call 30;(with_reducible refine (spec_PathOK.calls k  a0_1 false _ A6.out).mono ?_);rintro e w14 ⟨rfl,hb⟩;replace BK400:=zh (zD (g:=gb400) (o:=.cells #[.int .i64 a0_0,.string a0_1,.int .i64 a0_2,.int .i64 a0_3,.string a0_4] 47 (0,0)) (by (with_reducible repeat (first|refine ze ?_ _|refine zf ?_|refine zg ?_ _));exact BK400.out) hb);replace HB:=zh (zC (by repeat (with_reducible first|exact HB.out|apply za|apply zb|apply zc|refine zd ?_ GE400.out)) hb);(try clear hb);(try clear hb2);(try clear hk);(try clear hi)))
  go_meet
  case rel => exact ⟨_,(true),(by first|rfl|(simp;done)|(simp [*];done)),H',⟨by first|omega|exact ye _⟩,⟨by (with_reducible repeat (first|refine ze ?_ _|refine zf ?_|refine zg ?_ _));exact BK400.out⟩,⟨by repeat (with_reducible first|exact HB.out|apply za|apply zb|apply zc|refine zd ?_ GE400.out)⟩⟩
 case rest =>
  clear HC2
  try clear c1
  try clear p2
  try clear c4
  try clear c4b0
  try clear c4b1
  try clear c7
  try clear hcz11_0
  try clear hcz11_1
  try clear hcz11_2
  try clear hcz11_3
  try clear hcz11_4
  try clear hcz13_0
  try clear hcz13_1
  try clear hcz13_2
  try clear hcz13_3
  try clear hcz13_4
  try clear hcz5_0
  try clear hcz5_1
  try clear hcz5_2
  try clear hcz5_3
  try clear hcz5_4
  try clear hcz9_0
  try clear hcz9_1
  try clear hcz9_2
  try clear hcz9_3
  try clear hcz9_4
  try clear hfz11_0
  try clear hfz11_1
  try clear hfz11_2
  try clear hfz11_3
  try clear hfz11_4
  try clear hfz13_0
  try clear hfz13_1
  try clear hfz13_2
  try clear hfz13_3
  try clear hfz13_4
  try clear hfz5_0
  try clear hfz5_1
  try clear hfz5_2
  try clear hfz5_3
  try clear hfz5_4
  try clear hfz9_0
  try clear hfz9_1
  try clear hfz9_2
  try clear hfz9_3
  try clear hfz9_4
  obtain ⟨kq,x18_1,rfl,HA,HJ1,BK400,HB⟩:=hcut
  cases kq with
  | zero => exact absurd HA.out (by simp [spec_TermOK.j0])
  | succ kj1 =>
   have H:=HA.out;clear HA;simp only [spec_TermOK.j0] at H
   by_cases c15 : x18_1=true
   ·
    subst c15
    have H1 : (some false)=some r:=by rw [if_pos rfl] at H;exact H
    clear H;have H:=H1;clear H1;obtain rfl:=zU H
    go_wp2
    go_ret
    exact ⟨by first|rfl|(simp [yt,yu] <;> rfl)|(simp [*,yt,yu] <;> rfl),by repeat (with_reducible first|exact HB.out|apply za|apply zb|apply zc|refine zd ?_ GE400.out)⟩
   replace c15:=yb.mpr c15;subst c15;have H1 : (if a0_0=1 then (spec_TermOK.j1 kj1 a0_0 (a0_0 == 1) a0_0 a0_1 a0_2 a0_3 a0_4) else (if a0_0=2 then (spec_TermOK.j1 kj1 a0_0 (a0_0 == 2) a0_0 a0_1 a0_2 a0_3 a0_4) else (if a0_0=3 then (spec_TermOK.j1 kj1 a0_0 (a0_0 == 3) a0_0 a0_1 a0_2 a0_3 a0_4) else (if a0_0=4 then (spec_TermOK.j1 kj1 a0_0 (a0_0 == 4) a0_0 a0_1 a0_2 a0_3 a0_4) else (if a0_0=5 then (spec_TermOK.j1 kj1 a0_0 (a0_0 == 5) a0_0 a0_1 a0_2 a0_3 a0_4) else (spec_TermOK.j1 kj1 a0_0 (a0_0 == 6) a0_0 a0_1 a0_2 a0_3 a0_4))))))=some r:=by rw [if_neg (show ¬ (false=true) by decide)] at H;exact H
   clear H;have H:=H1;clear H1;have HC16:=zh H;clear H;have hcz17_0 : wc.cell? ⟨gb400,0,none⟩=some (.int .i64 a0_0):=(zz BK400.out 0).trans rfl;have hcz17_1 : wc.cell? ⟨gb400,1,none⟩=some (.string a0_1):=(zz BK400.out 1).trans rfl;have hcz17_2 : wc.cell? ⟨gb400,2,none⟩=some (.int .i64 a0_2):=(zz BK400.out 2).trans rfl;have hcz17_3 : wc.cell? ⟨gb400,3,none⟩=some (.int .i64 a0_3):=(zz BK400.out 3).trans rfl;have hcz17_4 : wc.cell? ⟨gb400,4,none⟩=some (.string a0_4):=(zz BK400.out 4).trans rfl;have hfz17_0:=zA BK400.out 0;have hfz17_1:=zA BK400.out 1;have hfz17_2:=zA BK400.out 2;have hfz17_3:=zA BK400.out 3;have hfz17_4:=zA BK400.out 4
   go_upto_if 21 with (fail)
   go_cut [21] (fun v21 wc => ∃ (kq : Nat) (x21_15 : Bool),v21 = .bool x21_15∧Aside0 (spec_TermOK.j1 kq a0_0 x21_15 a0_0 a0_1 a0_2 a0_3 a0_4=some r)∧Aside0 (kq≤kj1)∧Aside0 (wc.heap[gb400]? = some (.cells #[.int .i64 a0_0,.string a0_1,.int .i64 a0_2,.int .i64 a0_3,.string a0_4] 47 (0,0)))∧Aside0 (Below w.heap.size w wc))
   case first =>
    have H:=HC16.out;clear HC16
    by_cases c18 : a0_0=1
    ·
     rw [if_pos c18] at H
     have c18b0 : (a0_0 == 1)=true:=ya.mpr c18;have c18b1 : (a0_0 != 1)=false:=zX.mpr c18;clear c18;(first|rw [c18b0]|(simp only [zG,zH];rw [c18b0])|skip);have H':=zh H;clear H
     go_wp2
     go_meet
     case rel => exact ⟨_,((a0_0 == 1)),(by first|rfl|(simp;done)|(simp [*];done)),H',⟨by have:=HJ1.out;first|omega|exact ye _⟩,⟨by (with_reducible repeat (first|refine ze ?_ _|refine zf ?_|refine zg ?_ _));exact BK400.out⟩,⟨by repeat (with_reducible first|exact HB.out|apply za|apply zb|apply zc|refine zd ?_ GE400.out)⟩⟩
    rw [if_neg c18] at H;have c18b0 : (a0_0 == 1)=false:=zY.mpr c18;have c18b1 : (a0_0 != 1)=true:=zZ.mpr c18;(first|rw [c18b0]|(simp only [zG,zH];rw [c18b0])|skip)
    by_cases c19 : a0_0=2
    ·
     rw [if_pos c19] at H
     have c19b0 : (a0_0 == 2)=true:=ya.mpr c19;have c19b1 : (a0_0 != 2)=false:=zX.mpr c19;clear c19;have H':=zh H;clear H
     go_wp2
     go_meet
     case rel => exact ⟨_,((a0_0 == 2)),(by first|rfl|(simp;done)|(simp [*];done)),H',⟨by have:=HJ1.out;first|omega|exact ye _⟩,⟨by (with_reducible repeat (first|refine ze ?_ _|refine zf ?_|refine zg ?_ _));exact BK400.out⟩,⟨by repeat (with_reducible first|exact HB.out|apply za|apply zb|apply zc|refine zd ?_ GE400.out)⟩⟩
    rw [if_neg c19] at H;have c19b0 : (a0_0 == 2)=false:=zY.mpr c19;have c19b1 : (a0_0 != 2)=true:=zZ.mpr c19
    by_cases c20 : a0_0=3
    ·
     rw [if_pos c20] at H
     have c20b0 : (a0_0 == 3)=true:=ya.mpr c20;have c20b1 : (a0_0 != 3)=false:=zX.mpr c20;clear c20;have H':=zh H;clear H
     go_wp2
     go_meet
     case rel => exact ⟨_,((a0_0 == 3)),(by first|rfl|(simp;done)|(simp [*];done)),H',⟨by have:=HJ1.out;first|omega|exact ye _⟩,⟨by (with_reducible repeat (first|refine ze ?_ _|refine zf ?_|refine zg ?_ _));exact BK400.out⟩,⟨by repeat (with_reducible first|exact HB.out|apply za|apply zb|apply zc|refine zd ?_ GE400.out)⟩⟩
    rw [if_neg c20] at H;have c20b0 : (a0_0 == 3)=false:=zY.mpr c20;have c20b1 : (a0_0 != 3)=true:=zZ.mpr c20
    by_cases c21 : a0_0=4
    ·
     rw [if_pos c21] at H
     have c21b0 : (a0_0 == 4)=true:=ya.mpr c21;have c21b1 : (a0_0 != 4)=false:=zX.mpr c21;clear c21;have H':=zh H;clear H
     go_wp2
     go_meet
     case rel => exact ⟨_,((a0_0 == 4)),(by first|rfl|(simp;done)|(simp [*];done)),H',⟨by have:=HJ1.out;first|omega|exact ye _⟩,⟨by (with_reducible repeat (first|refine ze ?_ _|refine zf ?_|refine zg ?_ _));exact BK400.out⟩,⟨by repeat (with_reducible first|exact HB.out|apply za|apply zb|apply zc|refine zd ?_ GE400.out)⟩⟩
    rw [if_neg c21] at H;have c21b0 : (a0_0 == 4)=false:=zY.mpr c21;have c21b1 : (a0_0 != 4)=true:=zZ.mpr c21
    by_cases c22 : a0_0=5
    ·
     rw [if_pos c22] at H
     have c22b0 : (a0_0 == 5)=true:=ya.mpr c22;have c22b1 : (a0_0 != 5)=false:=zX.mpr c22;clear c22;have H':=zh H;clear H
     go_wp2
     go_meet
     case rel => exact ⟨_,((a0_0 == 5)),(by first|rfl|(simp;done)|(simp [*];done)),H',⟨by have:=HJ1.out;first|omega|exact ye _⟩,⟨by (with_reducible repeat (first|refine ze ?_ _|refine zf ?_|refine zg ?_ _));exact BK400.out⟩,⟨by repeat (with_reducible first|exact HB.out|apply za|apply zb|apply zc|refine zd ?_ GE400.out)⟩⟩
    rw [if_neg c22] at H;have c22b0 : (a0_0 == 5)=false:=zY.mpr c22;have c22b1 : (a0_0 != 5)=true:=zZ.mpr c22;have H':=zh H;clear H
    go_wp2
    go_meet
    case rel => exact ⟨_,((a0_0 == 6)),(by first|rfl|(simp;done)|(simp [*];done)),H',⟨by have:=HJ1.out;first|omega|exact ye _⟩,⟨by (with_reducible repeat (first|refine ze ?_ _|refine zf ?_|refine zg ?_ _));exact BK400.out⟩,⟨by repeat (with_reducible first|exact HB.out|apply za|apply zb|apply zc|refine zd ?_ GE400.out)⟩⟩
   case rest =>
    clear HC16
    try clear c1
    try clear c2
    try clear p2
    try clear c4
    try clear c4b0
    try clear c4b1
    try clear c7
    try clear c15
    try clear c17
    try clear c18
    try clear c18b0
    try clear c18b1
    try clear c19
    try clear c19b0
    try clear c19b1
    try clear c20
    try clear c20b0
    try clear c20b1
    try clear c21
    try clear c21b0
    try clear c21b1
    try clear c22
    try clear c22b0
    try clear c22b1
    try clear hcz11_0
    try clear hcz11_1
    try clear hcz11_2
    try clear hcz11_3
    try clear hcz11_4
    try clear hcz13_0
    try clear hcz13_1
    try clear hcz13_2
    try clear hcz13_3
    try clear hcz13_4
    try clear hcz17_0
    try clear hcz17_1
    try clear hcz17_2
    try clear hcz17_3
    try clear hcz17_4
    try clear hcz5_0
    try clear hcz5_1
    try clear hcz5_2
    try clear hcz5_3
    try clear hcz5_4
    try clear hcz9_0
    try clear hcz9_1
    try clear hcz9_2
    try clear hcz9_3
    try clear hcz9_4
    try clear hfz11_0
    try clear hfz11_1
    try clear hfz11_2
    try clear hfz11_3
    try clear hfz11_4
    try clear hfz13_0
    try clear hfz13_1
    try clear hfz13_2
    try clear hfz13_3
    try clear hfz13_4
    try clear hfz17_0
    try clear hfz17_1
    try clear hfz17_2
    try clear hfz17_3
    try clear hfz17_4
    try clear hfz5_0
    try clear hfz5_1
    try clear hfz5_2
    try clear hfz5_3
    try clear hfz5_4
    try clear hfz9_0
    try clear hfz9_1
    try clear hfz9_2
    try clear hfz9_3
    try clear hfz9_4
    try clear p2
    obtain ⟨kq,x21_15,rfl,HA,HJ15,BK400,HB⟩:=hcut
    cases kq with
    | zero => exact absurd HA.out (by simp [spec_TermOK.j1])
    | succ kj15 =>
     have H:=HA.out;clear HA;simp only [spec_TermOK.j1] at H
     by_cases c23 : x21_15=true
     ·
      subst c23
      have H1 : (some true)=some r:=by rw [if_pos rfl] at H;exact H
      clear H;have H:=H1;clear H1;obtain rfl:=zU H
      go_wp2
      go_ret
      exact ⟨by first|rfl|(simp [yt,yu] <;> rfl)|(simp [*,yt,yu] <;> rfl),by repeat (with_reducible first|exact HB.out|apply za|apply zb|apply zc|refine zd ?_ GE400.out)⟩
     replace c23:=yb.mpr c23;subst c23;have H1 : (if a0_0=7 then (some (a0_2 == 4)) else (if a0_0=8 then (some (a0_2 == 1)) else (if a0_0=9 then (if a0_2=2 then ((spec_l01In.f a0_3 0 5).bind fun t403 => (some t403)) else (some false)) else (if a0_0=10 then (if a0_2=2 then (some (decide (a0_3 ≥ 0))) else (some false)) else (some false)))))=some r:=by rw [if_neg (show ¬ (false=true) by decide)] at H;exact H
     clear H;have H:=H1;clear H1
     by_cases c24 : a0_0=7
     ·
      rw [if_pos c24] at H
      have c24b0 : (a0_0 == 7)=true:=ya.mpr c24;have c24b1 : (a0_0 != 7)=false:=zX.mpr c24;clear c24;obtain rfl:=zU H;have hcz25_0 : wc.cell? ⟨gb400,0,none⟩=some (.int .i64 a0_0):=(zz BK400.out 0).trans rfl;have hcz25_1 : wc.cell? ⟨gb400,1,none⟩=some (.string a0_1):=(zz BK400.out 1).trans rfl;have hcz25_2 : wc.cell? ⟨gb400,2,none⟩=some (.int .i64 a0_2):=(zz BK400.out 2).trans rfl;have hcz25_3 : wc.cell? ⟨gb400,3,none⟩=some (.int .i64 a0_3):=(zz BK400.out 3).trans rfl;have hcz25_4 : wc.cell? ⟨gb400,4,none⟩=some (.string a0_4):=(zz BK400.out 4).trans rfl;have hfz25_0:=zA BK400.out 0;have hfz25_1:=zA BK400.out 1;have hfz25_2:=zA BK400.out 2;have hfz25_3:=zA BK400.out 3;have hfz25_4:=zA BK400.out 4
      go_wp2
      go_ret
      exact ⟨by first|rfl|(simp [yt,yu] <;> rfl)|(simp [*,yt,yu] <;> rfl),by repeat (with_reducible first|exact HB.out|apply za|apply zb|apply zc|refine zd ?_ GE400.out)⟩
     rw [if_neg c24] at H;have c24b0 : (a0_0 == 7)=false:=zY.mpr c24;have c24b1 : (a0_0 != 7)=true:=zZ.mpr c24
     by_cases c26 : a0_0=8
     ·
      rw [if_pos c26] at H
      have c26b0 : (a0_0 == 8)=true:=ya.mpr c26;have c26b1 : (a0_0 != 8)=false:=zX.mpr c26;clear c26;obtain rfl:=zU H;have hcz27_0 : wc.cell? ⟨gb400,0,none⟩=some (.int .i64 a0_0):=(zz BK400.out 0).trans rfl;have hcz27_1 : wc.cell? ⟨gb400,1,none⟩=some (.string a0_1):=(zz BK400.out 1).trans rfl;have hcz27_2 : wc.cell? ⟨gb400,2,none⟩=some (.int .i64 a0_2):=(zz BK400.out 2).trans rfl;have hcz27_3 : wc.cell? ⟨gb400,3,none⟩=some (.int .i64 a0_3):=(zz BK400.out 3).trans rfl;have hcz27_4 : wc.cell? ⟨gb400,4,none⟩=some (.string a0_4):=(zz BK400.out 4).trans rfl;have hfz27_0:=zA BK400.out 0;have hfz27_1:=zA BK400.out 1;have hfz27_2:=zA BK400.out 2;have hfz27_3:=zA BK400.out 3;have hfz27_4:=zA BK400.out 4
      go_wp2
      go_ret
      exact ⟨by first|rfl|(simp [yt,yu] <;> rfl)|(simp [*,yt,yu] <;> rfl),by repeat (with_reducible first|exact HB.out|apply za|apply zb|apply zc|refine zd ?_ GE400.out)⟩
     rw [if_neg c26] at H;have c26b0 : (a0_0 == 8)=false:=zY.mpr c26;have c26b1 : (a0_0 != 8)=true:=zZ.mpr c26
     by_cases c28 : a0_0=9
     ·
      rw [if_pos c28] at H
      have c28b0 : (a0_0 == 9)=true:=ya.mpr c28;have c28b1 : (a0_0 != 9)=false:=zX.mpr c28;clear c28
      by_cases c29 : a0_2=2
      ·
       rw [if_pos c29] at H
       have c29b0 : (a0_2 == 2)=true:=ya.mpr c29;have c29b1 : (a0_2 != 2)=false:=zX.mpr c29;clear c29;replace H:=zT.mp H;obtain ⟨t403,A300,H⟩:=H;replace H : (some t403)=some r:=H;have A30:=zh A300;clear A300;obtain rfl:=zU H;have hcz31_0 : wc.cell? ⟨gb400,0,none⟩=some (.int .i64 a0_0):=(zz BK400.out 0).trans rfl;have hcz31_1 : wc.cell? ⟨gb400,1,none⟩=some (.string a0_1):=(zz BK400.out 1).trans rfl;have hcz31_2 : wc.cell? ⟨gb400,2,none⟩=some (.int .i64 a0_2):=(zz BK400.out 2).trans rfl;have hcz31_3 : wc.cell? ⟨gb400,3,none⟩=some (.int .i64 a0_3):=(zz BK400.out 3).trans rfl;have hcz31_4 : wc.cell? ⟨gb400,4,none⟩=some (.string a0_4):=(zz BK400.out 4).trans rfl;have hfz31_0:=zA BK400.out 0;have hfz31_1:=zA BK400.out 1;have hfz31_2:=zA BK400.out 2;have hfz31_3:=zA BK400.out 3;have hfz31_4:=zA BK400.out 4
       go_wp2_with (first|(go_at_call 29;(with_reducible refine (spec_l01In.calls  a0_3 0 5 t403 _ A30.out).mono ?_);rintro e w' ⟨rfl,⟨nd,rfl⟩⟩))
       go_ret
       exact ⟨by first|rfl|(simp [yt,yu] <;> rfl)|(simp [*,yt,yu] <;> rfl),by repeat (with_reducible first|exact HB.out|apply za|apply zb|apply zc|refine zd ?_ GE400.out)⟩
      rw [if_neg c29] at H;have c29b0 : (a0_2 == 2)=false:=zY.mpr c29;have c29b1 : (a0_2 != 2)=true:=zZ.mpr c29;obtain rfl:=zU H;have hcz32_0 : wc.cell? ⟨gb400,0,none⟩=some (.int .i64 a0_0):=(zz BK400.out 0).trans rfl;have hcz32_1 : wc.cell? ⟨gb400,1,none⟩=some (.string a0_1):=(zz BK400.out 1).trans rfl;have hcz32_2 : wc.cell? ⟨gb400,2,none⟩=some (.int .i64 a0_2):=(zz BK400.out 2).trans rfl;have hcz32_3 : wc.cell? ⟨gb400,3,none⟩=some (.int .i64 a0_3):=(zz BK400.out 3).trans rfl;have hcz32_4 : wc.cell? ⟨gb400,4,none⟩=some (.string a0_4):=(zz BK400.out 4).trans rfl;have hfz32_0:=zA BK400.out 0;have hfz32_1:=zA BK400.out 1;have hfz32_2:=zA BK400.out 2;have hfz32_3:=zA BK400.out 3;have hfz32_4:=zA BK400.out 4
      go_wp2
      go_ret
      exact ⟨by first|rfl|(simp [yt,yu] <;> rfl)|(simp [*,yt,yu] <;> rfl),by repeat (with_reducible first|exact HB.out|apply za|apply zb|apply zc|refine zd ?_ GE400.out)⟩
     rw [if_neg c28] at H;have c28b0 : (a0_0 == 9)=false:=zY.mpr c28;have c28b1 : (a0_0 != 9)=true:=zZ.mpr c28
     by_cases c33 : a0_0=10
     ·
      rw [if_pos c33] at H
      have c33b0 : (a0_0 == 10)=true:=ya.mpr c33;have c33b1 : (a0_0 != 10)=false:=zX.mpr c33;clear c33
      by_cases c34 : a0_2=2
      ·
       rw [if_pos c34] at H
       have c34b0 : (a0_2 == 2)=true:=ya.mpr c34;have c34b1 : (a0_2 != 2)=false:=zX.mpr c34;clear c34;obtain rfl:=zU H;have hcz35_0 : wc.cell? ⟨gb400,0,none⟩=some (.int .i64 a0_0):=(zz BK400.out 0).trans rfl;have hcz35_1 : wc.cell? ⟨gb400,1,none⟩=some (.string a0_1):=(zz BK400.out 1).trans rfl;have hcz35_2 : wc.cell? ⟨gb400,2,none⟩=some (.int .i64 a0_2):=(zz BK400.out 2).trans rfl;have hcz35_3 : wc.cell? ⟨gb400,3,none⟩=some (.int .i64 a0_3):=(zz BK400.out 3).trans rfl;have hcz35_4 : wc.cell? ⟨gb400,4,none⟩=some (.string a0_4):=(zz BK400.out 4).trans rfl;have hfz35_0:=zA BK400.out 0;have hfz35_1:=zA BK400.out 1;have hfz35_2:=zA BK400.out 2;have hfz35_3:=zA BK400.out 3;have hfz35_4:=zA BK400.out 4
       go_wp2
       go_ret
       exact ⟨by first|rfl|(simp [yt,yu] <;> rfl)|(simp [*,yt,yu] <;> rfl),by repeat (with_reducible first|exact HB.out|apply za|apply zb|apply zc|refine zd ?_ GE400.out)⟩
      rw [if_neg c34] at H;have c34b0 : (a0_2 == 2)=false:=zY.mpr c34;have c34b1 : (a0_2 != 2)=true:=zZ.mpr c34;obtain rfl:=zU H;have hcz36_0 : wc.cell? ⟨gb400,0,none⟩=some (.int .i64 a0_0):=(zz BK400.out 0).trans rfl;have hcz36_1 : wc.cell? ⟨gb400,1,none⟩=some (.string a0_1):=(zz BK400.out 1).trans rfl;have hcz36_2 : wc.cell? ⟨gb400,2,none⟩=some (.int .i64 a0_2):=(zz BK400.out 2).trans rfl;have hcz36_3 : wc.cell? ⟨gb400,3,none⟩=some (.int .i64 a0_3):=(zz BK400.out 3).trans rfl;have hcz36_4 : wc.cell? ⟨gb400,4,none⟩=some (.string a0_4):=(zz BK400.out 4).trans rfl;have hfz36_0:=zA BK400.out 0;have hfz36_1:=zA BK400.out 1;have hfz36_2:=zA BK400.out 2;have hfz36_3:=zA BK400.out 3;have hfz36_4:=zA BK400.out 4
      go_wp2
      go_ret
      exact ⟨by first|rfl|(simp [yt,yu] <;> rfl)|(simp [*,yt,yu] <;> rfl),by repeat (with_reducible first|exact HB.out|apply za|apply zb|apply zc|refine zd ?_ GE400.out)⟩
     rw [if_neg c33] at H;have c33b0 : (a0_0 == 10)=false:=zY.mpr c33;have c33b1 : (a0_0 != 10)=true:=zZ.mpr c33;obtain rfl:=zU H
     go_wp2
     go_ret
     exact ⟨by first|rfl|(simp [yt,yu] <;> rfl)|(simp [*,yt,yu] <;> rfl),by repeat (with_reducible first|exact HB.out|apply za|apply zb|apply zc|refine zd ?_ GE400.out)⟩

end Go.Proofs.YthjgfjlogilleaaDoor.Q
end
section
namespace Go.Proofs.YthjgfjlogilleaaDoor.Q
open Go.RowKit Go.Proofs.YthjgfjlogilleaaDoorW.PrintWords Go.Proofs.YthjgfjlogilleaaDoorW.PrintLast Go.Proofs.YthjgfjlogilleaaDoorW.PrintMore
attribute [local go_sem] max2_int min2_int max_two min_two max_three min_three max_four min_four max2_str min2_str str_geq str_gtr str_leq   -- for this text's walks alone
set_option linter.unusedVariables false
set_option linter.unusedSimpArgs false

def impl_TermOK.j0 : Nat→Bool→Int→ByteArray→Int→Int→ByteArray→Option (Bool)
 | 0,_,_,_,_,_,_ => none
 | k + 1,x12,x411000,x411001,x411002,x411003,x411004 => if x12=true then (some false) else (if x411000=7 then (some (x411002 == 4)) else (if x411000=8 then (some (x411002 == 1)) else (if x411000=9 then (if x411002=2 then ((impl_inRange.f x411003 0 5).bind fun t413 => (some t413)) else (some false)) else (if x411000=10 then (if x411002=2 then (some (decide (x411003 ≥ 0))) else (some false)) else ((impl_inRange.f x411000 1 6).bind fun t414 => (some t414))))))
def impl_TermOK.f (k : Nat) (a0_0 : Int) (a0_1 : ByteArray) (a0_2 : Int) (a0_3 : Int) (a0_4 : ByteArray) : Option (Bool):=(impl_PathOK.f k a0_1).bind fun t411 => (if t411=true then ((impl_ValueOK.f k a0_2 a0_3 a0_4).bind fun t412 => (impl_TermOK.j0 k (!t412) a0_0 a0_1 a0_2 a0_3 a0_4)) else (impl_TermOK.j0 k true a0_0 a0_1 a0_2 a0_3 a0_4))
theorem impl_TermOK.mono_l : ∀ k,(∀ y0 y1 y2 y3 y4 y5,LeO (impl_TermOK.j0 k y0 y1 y2 y3 y4 y5) (impl_TermOK.j0 (k + 1) y0 y1 y2 y3 y4 y5))
 | 0 => fun _ _ _ _ _ _ r h => by simp [impl_TermOK.j0] at h
 | k + 1 => by
  have ih0:=impl_TermOK.mono_l k;intro y0 y1 y2 y3 y4 y5;unfold impl_TermOK.j0
  repeat' first|(with_reducible exact ih0 _ _ _ _ _ _)|(with_reducible exact impl_PathOK.mono _ _)|(with_reducible exact impl_ValueOK.mono _ _ _ _)|(with_reducible exact zQ _)|(with_reducible exact zN _)|(with_reducible refine zP ?_ ?_)|(with_reducible refine zO ?_ (fun _ => ?_))|refine zP ?_ ?_|refine zO ?_ (fun _ => ?_)
theorem impl_TermOK.mono : ∀ a0 a1 a2 a3 a4 k,LeO (impl_TermOK.f k a0 a1 a2 a3 a4) (impl_TermOK.f (k + 1) a0 a1 a2 a3 a4):=by
 intro a0 a1 a2 a3 a4 k;have ih0:=impl_TermOK.mono_l k;unfold impl_TermOK.f
 repeat' first|(with_reducible exact ih0 _ _ _ _ _ _)|(with_reducible exact impl_PathOK.mono _ _)|(with_reducible exact impl_ValueOK.mono _ _ _ _)|(with_reducible exact zQ _)|(with_reducible exact zN _)|(with_reducible refine zP ?_ ?_)|(with_reducible refine zO ?_ (fun _ => ?_))|refine zP ?_ ?_|refine zO ?_ (fun _ => ?_)
set_option maxHeartbeats 8000000 in
set_option maxRecDepth 100000 in
theorem impl_TermOK.calls (k : Nat) (a0_0 : Int) (a0_1 : ByteArray) (a0_2 : Int) (a0_3 : Int) (a0_4 : ByteArray) (r : Bool) (w : World) (h : impl_TermOK.f k a0_0 a0_1 a0_2 a0_3 a0_4=some r) :
  Calls Tryd.prog 19 #[.agg #[.int .i64 a0_0,.string a0_1,.int .i64 a0_2,.int .i64 a0_3,.string a0_4]] w fun e w' => e = .returned (.bool r)∧Below w.heap.size w w':=by
 have hu47:=Tryd.underlying47;have hu39:=Tryd.underlying39;have HB:=zh (Below.refl w.heap.size w);have H : ((impl_PathOK.f k a0_1).bind fun t411 => (if t411=true then ((impl_ValueOK.f k a0_2 a0_3 a0_4).bind fun t412 => (impl_TermOK.j0 k (!t412) a0_0 a0_1 a0_2 a0_3 a0_4)) else (impl_TermOK.j0 k true a0_0 a0_1 a0_2 a0_3 a0_4)))=some r:=h;clear h;have HC2:=zh H;clear H
 go_enter Tryd.func19,Tryd.ntmps19
 go_upto_region 1 with (first|((with_reducible refine zK (N:=1) rfl ?_);refine zI ?hg (N:=1) ?hd (cs:=#[.int .i64 a0_0,.string a0_1,.int .i64 a0_2,.int .i64 a0_3,.string a0_4]) (t:=47) ?hr ?_;(case hd => rfl);(case hg => rfl);(case hr => first|(go_simp;done)|(go_simp;rfl));intro gb410 hg w3 hbox hb;have BK410:=zh (hbox);have GW410:=zh ((by rw [hg];exact (zB (by repeat (with_reducible first|exact HB.out|apply za|apply zb|apply zc))) : w.heap.size≤gb410));have GE410:=zh ((by rw [hg];exact (zB (by repeat (with_reducible first|exact HB.out|apply za|apply zb|apply zc))) : w.heap.size≤gb410));replace HB:=zh (zC (by repeat (with_reducible first|exact HB.out|apply za|apply zb|apply zc)) hb);clear hb hbox hg))
 (try simp only [Act.put,zi,zj,zk])
 go_cut [12] (fun v12 wc => ∃ (kq : Nat) (x12_1 : Bool),v12 = .bool x12_1∧Aside0 (impl_TermOK.j0 kq x12_1 a0_0 a0_1 a0_2 a0_3 a0_4=some r)∧Aside0 (kq≤k)∧Aside0 (wc.heap[gb410]? = some (.cells #[.int .i64 a0_0,.string a0_1,.int .i64 a0_2,.int .i64 a0_3,.string a0_4] 47 (0,0)))∧Aside0 (Below w.heap.size w wc))
 case first =>
  have H:=HC2.out;clear HC2;replace H:=zT.mp H;obtain ⟨t411,A40,H⟩:=H;replace H : (if t411=true then ((impl_ValueOK.f k a0_2 a0_3 a0_4).bind fun t412 => (impl_TermOK.j0 k (!t412) a0_0 a0_1 a0_2 a0_3 a0_4)) else (impl_TermOK.j0 k true a0_0 a0_1 a0_2 a0_3 a0_4))=some r:=H;have A4:=zh A40;clear A40
  by_cases c5 : t411=true
  ·
   subst c5
   have H1 : ((impl_ValueOK.f k a0_2 a0_3 a0_4).bind fun t412 => (impl_TermOK.j0 k (!t412) a0_0 a0_1 a0_2 a0_3 a0_4))=some r:=by rw [if_pos rfl] at H;exact H
   clear H;have H:=H1;clear H1;replace H:=zT.mp H;obtain ⟨t412,A60,H⟩:=H;replace H : (impl_TermOK.j0 k (!t412) a0_0 a0_1 a0_2 a0_3 a0_4)=some r:=H;have A6:=zh A60;clear A60;have H':=zh H;clear H;have hcz7_0 : w3.cell? ⟨gb410,0,none⟩=some (.int .i64 a0_0):=(zz BK410.out 0).trans rfl;have hcz7_1 : w3.cell? ⟨gb410,1,none⟩=some (.string a0_1):=(zz BK410.out 1).trans rfl;have hcz7_2 : w3.cell? ⟨gb410,2,none⟩=some (.int .i64 a0_2):=(zz BK410.out 2).trans rfl;have hcz7_3 : w3.cell? ⟨gb410,3,none⟩=some (.int .i64 a0_3):=(zz BK410.out 3).trans rfl;have hcz7_4 : w3.cell? ⟨gb410,4,none⟩=some (.string a0_4):=(zz BK410.out 4).trans rfl;have hfz7_0:=zA BK410.out 0;have hfz7_1:=zA BK410.out 1;have hfz7_2:=zA BK410.out 2;have hfz7_3:=zA BK410.out 3;have hfz7_4:=zA BK410.out 4
   go_wp2_with (first|((with_reducible refine zJ (f:=39) rfl ?_);refine yj (some 5) rfl rfl Tryd.func39 (by kernel_rfl) rfl #[.string a0_1] rfl (by (try simp only [zt,zu,zv]);first|done|rfl|(simp only [zw,zx];rfl)|(simp only [yr,ys,zV,zW];rfl)) ?_;(with_reducible refine (impl_PathOK.calls k  a0_1 true _ A4.out).mono ?_);rintro e w8 ⟨rfl,hb⟩;refine ⟨_,rfl,?_⟩;replace BK410:=zh (zD (g:=gb410) (o:=.cells #[.int .i64 a0_0,.string a0_1,.int .i64 a0_2,.int .i64 a0_3,.string a0_4] 47 (0,0)) (by (with_reducible repeat (first|refine ze ?_ _|refine zf ?_|refine zg ?_ _));exact BK410.out) hb);replace HB:=zh (zC (by repeat (with_reducible first|exact HB.out|apply za|apply zb|apply zc|refine zd ?_ GE410.out)) hb);(try clear hb);(try clear hb2);(try clear hk);(try clear hi);have hcz9_0 : w8.cell? ⟨gb410,0,none⟩=some (.int .i64 a0_0):=(zz BK410.out 0).trans rfl;have hcz9_1 : w8.cell? ⟨gb410,1,none⟩=some (.string a0_1):=(zz BK410.out 1).trans rfl;have hcz9_2 : w8.cell? ⟨gb410,2,none⟩=some (.int .i64 a0_2):=(zz BK410.out 2).trans rfl;have hcz9_3 : w8.cell? ⟨gb410,3,none⟩=some (.int .i64 a0_3):=(zz BK410.out 3).trans rfl;have hcz9_4 : w8.cell? ⟨gb410,4,none⟩=some (.string a0_4):=(zz BK410.out 4).trans rfl;have hfz9_0:=zA BK410.out 0;have hfz9_1:=zA BK410.out 1;have hfz9_2:=zA BK410.out 2;have hfz9_3:=zA BK410.out 3;have hfz9_4:=zA BK410.out 4)|(go_at_call 40;(with_reducible refine (impl_ValueOK.calls k  a0_2 a0_3 a0_4 t412 _ A6.out).mono ?_);rintro e w10 ⟨rfl,hb⟩;replace BK410:=zh (zD (g:=gb410) (o:=.cells #[.int .i64 a0_0,.string a0_1,.int .i64 a0_2,.int .i64 a0_3,.string a0_4] 47 (0,0)) (by (with_reducible repeat (first|refine ze ?_ _|refine zf ?_|refine zg ?_ _));exact BK410.out) hb);replace HB:=zh (zC (by repeat (with_reducible first|exact HB.out|apply za|apply zb|apply zc|refine zd ?_ GE410.out)) hb);(try clear hb);(try clear hb2);(try clear hk);(try clear hi)))
   go_meet
   case rel => exact ⟨_,(!t412),(by first|rfl|(simp;done)|(simp [*];done)),H',⟨by first|omega|exact ye _⟩,⟨by (with_reducible repeat (first|refine ze ?_ _|refine zf ?_|refine zg ?_ _));exact BK410.out⟩,⟨by repeat (with_reducible first|exact HB.out|apply za|apply zb|apply zc|refine zd ?_ GE410.out)⟩⟩
  replace c5:=yb.mpr c5;subst c5;have H1 : (impl_TermOK.j0 k true a0_0 a0_1 a0_2 a0_3 a0_4)=some r:=by rw [if_neg (show ¬ (false=true) by decide)] at H;exact H
  clear H;have H:=H1;clear H1;have H':=zh H;clear H;have hcz11_0 : w3.cell? ⟨gb410,0,none⟩=some (.int .i64 a0_0):=(zz BK410.out 0).trans rfl;have hcz11_1 : w3.cell? ⟨gb410,1,none⟩=some (.string a0_1):=(zz BK410.out 1).trans rfl;have hcz11_2 : w3.cell? ⟨gb410,2,none⟩=some (.int .i64 a0_2):=(zz BK410.out 2).trans rfl;have hcz11_3 : w3.cell? ⟨gb410,3,none⟩=some (.int .i64 a0_3):=(zz BK410.out 3).trans rfl;have hcz11_4 : w3.cell? ⟨gb410,4,none⟩=some (.string a0_4):=(zz BK410.out 4).trans rfl;have hfz11_0:=zA BK410.out 0;have hfz11_1:=zA BK410.out 1;have hfz11_2:=zA BK410.out 2;have hfz11_3:=zA BK410.out 3;have hfz11_4:=zA BK410.out 4
  go_wp2_with (first|((with_reducible refine zJ (f:=39) rfl ?_);refine yj (some 5) rfl rfl Tryd.func39 (by kernel_rfl) rfl #[.string a0_1] rfl (by (try simp only [zt,zu,zv]);first|done|rfl|(simp only [zw,zx];rfl)|(simp only [yr,ys,zV,zW];rfl)) ?_;(with_reducible refine (impl_PathOK.calls k  a0_1 false _ A4.out).mono ?_);rintro e w12 ⟨rfl,hb⟩;refine ⟨_,rfl,?_⟩;replace BK410:=zh (zD (g:=gb410) (o:=.cells #[.int .i64 a0_0,.string a0_1,.int .i64 a0_2,.int .i64 a0_3,.string a0_4] 47 (0,0)) (by (with_reducible repeat (first|refine ze ?_ _|refine zf ?_|refine zg ?_ _));exact BK410.out) hb);replace HB:=zh (zC (by repeat (with_reducible first|exact HB.out|apply za|apply zb|apply zc|refine zd ?_ GE410.out)) hb);(try clear hb);(try clear hb2);(try clear hk);(try clear hi)))
  go_meet
  case rel => exact ⟨_,(true),(by first|rfl|(simp;done)|(simp [*];done)),H',⟨by first|omega|exact ye _⟩,⟨by (with_reducible repeat (first|refine ze ?_ _|refine zf ?_|refine zg ?_ _));exact BK410.out⟩,⟨by repeat (with_reducible first|exact HB.out|apply za|apply zb|apply zc|refine zd ?_ GE410.out)⟩⟩
 case rest =>
  clear HC2
  try clear c1
  try clear p2
  try clear c3
  try clear c5
  try clear hcz11_0
  try clear hcz11_1
  try clear hcz11_2
  try clear hcz11_3
  try clear hcz11_4
  try clear hcz7_0
  try clear hcz7_1
  try clear hcz7_2
  try clear hcz7_3
  try clear hcz7_4
  try clear hcz9_0
  try clear hcz9_1
  try clear hcz9_2
  try clear hcz9_3
  try clear hcz9_4
  try clear hfz11_0
  try clear hfz11_1
  try clear hfz11_2
  try clear hfz11_3
  try clear hfz11_4
  try clear hfz7_0
  try clear hfz7_1
  try clear hfz7_2
  try clear hfz7_3
  try clear hfz7_4
  try clear hfz9_0
  try clear hfz9_1
  try clear hfz9_2
  try clear hfz9_3
  try clear hfz9_4
  obtain ⟨kq,x12_1,rfl,HA,HJ1,BK410,HB⟩:=hcut
  cases kq with
  | zero => exact absurd HA.out (by simp [impl_TermOK.j0])
  | succ kj1 =>
   have H:=HA.out;clear HA;simp only [impl_TermOK.j0] at H
   by_cases c13 : x12_1=true
   ·
    subst c13
    have H1 : (some false)=some r:=by rw [if_pos rfl] at H;exact H
    clear H;have H:=H1;clear H1;obtain rfl:=zU H
    go_wp2
    go_ret
    exact ⟨by first|rfl|(simp [yt,yu] <;> rfl)|(simp [*,yt,yu] <;> rfl),by repeat (with_reducible first|exact HB.out|apply za|apply zb|apply zc|refine zd ?_ GE410.out)⟩
   replace c13:=yb.mpr c13;subst c13;have H1 : (if a0_0=7 then (some (a0_2 == 4)) else (if a0_0=8 then (some (a0_2 == 1)) else (if a0_0=9 then (if a0_2=2 then ((impl_inRange.f a0_3 0 5).bind fun t413 => (some t413)) else (some false)) else (if a0_0=10 then (if a0_2=2 then (some (decide (a0_3 ≥ 0))) else (some false)) else ((impl_inRange.f a0_0 1 6).bind fun t414 => (some t414))))))=some r:=by rw [if_neg (show ¬ (false=true) by decide)] at H;exact H
   clear H;have H:=H1;clear H1
   by_cases c14 : a0_0=7
   ·
    rw [if_pos c14] at H
    have c14b0 : (a0_0 == 7)=true:=ya.mpr c14;have c14b1 : (a0_0 != 7)=false:=zX.mpr c14;clear c14;obtain rfl:=zU H;have hcz15_0 : wc.cell? ⟨gb410,0,none⟩=some (.int .i64 a0_0):=(zz BK410.out 0).trans rfl;have hcz15_1 : wc.cell? ⟨gb410,1,none⟩=some (.string a0_1):=(zz BK410.out 1).trans rfl;have hcz15_2 : wc.cell? ⟨gb410,2,none⟩=some (.int .i64 a0_2):=(zz BK410.out 2).trans rfl;have hcz15_3 : wc.cell? ⟨gb410,3,none⟩=some (.int .i64 a0_3):=(zz BK410.out 3).trans rfl;have hcz15_4 : wc.cell? ⟨gb410,4,none⟩=some (.string a0_4):=(zz BK410.out 4).trans rfl;have hfz15_0:=zA BK410.out 0;have hfz15_1:=zA BK410.out 1;have hfz15_2:=zA BK410.out 2;have hfz15_3:=zA BK410.out 3;have hfz15_4:=zA BK410.out 4
    go_wp2
    go_ret
    exact ⟨by first|rfl|(simp [yt,yu] <;> rfl)|(simp [*,yt,yu] <;> rfl),by repeat (with_reducible first|exact HB.out|apply za|apply zb|apply zc|refine zd ?_ GE410.out)⟩
   rw [if_neg c14] at H;have c14b0 : (a0_0 == 7)=false:=zY.mpr c14;have c14b1 : (a0_0 != 7)=true:=zZ.mpr c14
   by_cases c16 : a0_0=8
   ·
    rw [if_pos c16] at H
    have c16b0 : (a0_0 == 8)=true:=ya.mpr c16;have c16b1 : (a0_0 != 8)=false:=zX.mpr c16;clear c16;obtain rfl:=zU H;have hcz17_0 : wc.cell? ⟨gb410,0,none⟩=some (.int .i64 a0_0):=(zz BK410.out 0).trans rfl;have hcz17_1 : wc.cell? ⟨gb410,1,none⟩=some (.string a0_1):=(zz BK410.out 1).trans rfl;have hcz17_2 : wc.cell? ⟨gb410,2,none⟩=some (.int .i64 a0_2):=(zz BK410.out 2).trans rfl;have hcz17_3 : wc.cell? ⟨gb410,3,none⟩=some (.int .i64 a0_3):=(zz BK410.out 3).trans rfl;have hcz17_4 : wc.cell? ⟨gb410,4,none⟩=some (.string a0_4):=(zz BK410.out 4).trans rfl;have hfz17_0:=zA BK410.out 0;have hfz17_1:=zA BK410.out 1;have hfz17_2:=zA BK410.out 2;have hfz17_3:=zA BK410.out 3;have hfz17_4:=zA BK410.out 4
    go_wp2
    go_ret
    exact ⟨by first|rfl|(simp [yt,yu] <;> rfl)|(simp [*,yt,yu] <;> rfl),by repeat (with_reducible first|exact HB.out|apply za|apply zb|apply zc|refine zd ?_ GE410.out)⟩
   rw [if_neg c16] at H;have c16b0 : (a0_0 == 8)=false:=zY.mpr c16;have c16b1 : (a0_0 != 8)=true:=zZ.mpr c16
   by_cases c18 : a0_0=9
   ·
    rw [if_pos c18] at H
    have c18b0 : (a0_0 == 9)=true:=ya.mpr c18;have c18b1 : (a0_0 != 9)=false:=zX.mpr c18;clear c18
    by_cases c19 : a0_2=2
    ·
     rw [if_pos c19] at H
     have c19b0 : (a0_2 == 2)=true:=ya.mpr c19;have c19b1 : (a0_2 != 2)=false:=zX.mpr c19;clear c19;replace H:=zT.mp H;obtain ⟨t413,A200,H⟩:=H;replace H : (some t413)=some r:=H;have A20:=zh A200;clear A200;obtain rfl:=zU H;have hcz21_0 : wc.cell? ⟨gb410,0,none⟩=some (.int .i64 a0_0):=(zz BK410.out 0).trans rfl;have hcz21_1 : wc.cell? ⟨gb410,1,none⟩=some (.string a0_1):=(zz BK410.out 1).trans rfl;have hcz21_2 : wc.cell? ⟨gb410,2,none⟩=some (.int .i64 a0_2):=(zz BK410.out 2).trans rfl;have hcz21_3 : wc.cell? ⟨gb410,3,none⟩=some (.int .i64 a0_3):=(zz BK410.out 3).trans rfl;have hcz21_4 : wc.cell? ⟨gb410,4,none⟩=some (.string a0_4):=(zz BK410.out 4).trans rfl;have hfz21_0:=zA BK410.out 0;have hfz21_1:=zA BK410.out 1;have hfz21_2:=zA BK410.out 2;have hfz21_3:=zA BK410.out 3;have hfz21_4:=zA BK410.out 4
     go_wp2_with (first|(go_at_call 33;(with_reducible refine (impl_inRange.calls  a0_3 0 5 t413 _ A20.out).mono ?_);rintro e w' ⟨rfl,⟨nd,rfl⟩⟩))
     go_ret
     exact ⟨by first|rfl|(simp [yt,yu] <;> rfl)|(simp [*,yt,yu] <;> rfl),by repeat (with_reducible first|exact HB.out|apply za|apply zb|apply zc|refine zd ?_ GE410.out)⟩
    rw [if_neg c19] at H;have c19b0 : (a0_2 == 2)=false:=zY.mpr c19;have c19b1 : (a0_2 != 2)=true:=zZ.mpr c19;obtain rfl:=zU H;have hcz22_0 : wc.cell? ⟨gb410,0,none⟩=some (.int .i64 a0_0):=(zz BK410.out 0).trans rfl;have hcz22_1 : wc.cell? ⟨gb410,1,none⟩=some (.string a0_1):=(zz BK410.out 1).trans rfl;have hcz22_2 : wc.cell? ⟨gb410,2,none⟩=some (.int .i64 a0_2):=(zz BK410.out 2).trans rfl;have hcz22_3 : wc.cell? ⟨gb410,3,none⟩=some (.int .i64 a0_3):=(zz BK410.out 3).trans rfl;have hcz22_4 : wc.cell? ⟨gb410,4,none⟩=some (.string a0_4):=(zz BK410.out 4).trans rfl;have hfz22_0:=zA BK410.out 0;have hfz22_1:=zA BK410.out 1;have hfz22_2:=zA BK410.out 2;have hfz22_3:=zA BK410.out 3;have hfz22_4:=zA BK410.out 4
    go_wp2
    go_ret
    exact ⟨by first|rfl|(simp [yt,yu] <;> rfl)|(simp [*,yt,yu] <;> rfl),by repeat (with_reducible first|exact HB.out|apply za|apply zb|apply zc|refine zd ?_ GE410.out)⟩
   rw [if_neg c18] at H;have c18b0 : (a0_0 == 9)=false:=zY.mpr c18;have c18b1 : (a0_0 != 9)=true:=zZ.mpr c18
   by_cases c23 : a0_0=10
   ·
    rw [if_pos c23] at H
    have c23b0 : (a0_0 == 10)=true:=ya.mpr c23;have c23b1 : (a0_0 != 10)=false:=zX.mpr c23;clear c23
    by_cases c24 : a0_2=2
    ·
     rw [if_pos c24] at H
     have c24b0 : (a0_2 == 2)=true:=ya.mpr c24;have c24b1 : (a0_2 != 2)=false:=zX.mpr c24;clear c24;obtain rfl:=zU H;have hcz25_0 : wc.cell? ⟨gb410,0,none⟩=some (.int .i64 a0_0):=(zz BK410.out 0).trans rfl;have hcz25_1 : wc.cell? ⟨gb410,1,none⟩=some (.string a0_1):=(zz BK410.out 1).trans rfl;have hcz25_2 : wc.cell? ⟨gb410,2,none⟩=some (.int .i64 a0_2):=(zz BK410.out 2).trans rfl;have hcz25_3 : wc.cell? ⟨gb410,3,none⟩=some (.int .i64 a0_3):=(zz BK410.out 3).trans rfl;have hcz25_4 : wc.cell? ⟨gb410,4,none⟩=some (.string a0_4):=(zz BK410.out 4).trans rfl;have hfz25_0:=zA BK410.out 0;have hfz25_1:=zA BK410.out 1;have hfz25_2:=zA BK410.out 2;have hfz25_3:=zA BK410.out 3;have hfz25_4:=zA BK410.out 4
     go_wp2
     go_ret
     exact ⟨by first|rfl|(simp [yt,yu] <;> rfl)|(simp [*,yt,yu] <;> rfl),by repeat (with_reducible first|exact HB.out|apply za|apply zb|apply zc|refine zd ?_ GE410.out)⟩
    rw [if_neg c24] at H;have c24b0 : (a0_2 == 2)=false:=zY.mpr c24;have c24b1 : (a0_2 != 2)=true:=zZ.mpr c24;obtain rfl:=zU H;have hcz26_0 : wc.cell? ⟨gb410,0,none⟩=some (.int .i64 a0_0):=(zz BK410.out 0).trans rfl;have hcz26_1 : wc.cell? ⟨gb410,1,none⟩=some (.string a0_1):=(zz BK410.out 1).trans rfl;have hcz26_2 : wc.cell? ⟨gb410,2,none⟩=some (.int .i64 a0_2):=(zz BK410.out 2).trans rfl;have hcz26_3 : wc.cell? ⟨gb410,3,none⟩=some (.int .i64 a0_3):=(zz BK410.out 3).trans rfl;have hcz26_4 : wc.cell? ⟨gb410,4,none⟩=some (.string a0_4):=(zz BK410.out 4).trans rfl;have hfz26_0:=zA BK410.out 0;have hfz26_1:=zA BK410.out 1;have hfz26_2:=zA BK410.out 2;have hfz26_3:=zA BK410.out 3;have hfz26_4:=zA BK410.out 4
    go_wp2
    go_ret
    exact ⟨by first|rfl|(simp [yt,yu] <;> rfl)|(simp [*,yt,yu] <;> rfl),by repeat (with_reducible first|exact HB.out|apply za|apply zb|apply zc|refine zd ?_ GE410.out)⟩
   rw [if_neg c23] at H;have c23b0 : (a0_0 == 10)=false:=zY.mpr c23;have c23b1 : (a0_0 != 10)=true:=zZ.mpr c23;replace H:=zT.mp H;obtain ⟨t414,A270,H⟩:=H;replace H : (some t414)=some r:=H;have A27:=zh A270;clear A270;obtain rfl:=zU H;have hcz28_0 : wc.cell? ⟨gb410,0,none⟩=some (.int .i64 a0_0):=(zz BK410.out 0).trans rfl;have hcz28_1 : wc.cell? ⟨gb410,1,none⟩=some (.string a0_1):=(zz BK410.out 1).trans rfl;have hcz28_2 : wc.cell? ⟨gb410,2,none⟩=some (.int .i64 a0_2):=(zz BK410.out 2).trans rfl;have hcz28_3 : wc.cell? ⟨gb410,3,none⟩=some (.int .i64 a0_3):=(zz BK410.out 3).trans rfl;have hcz28_4 : wc.cell? ⟨gb410,4,none⟩=some (.string a0_4):=(zz BK410.out 4).trans rfl;have hfz28_0:=zA BK410.out 0;have hfz28_1:=zA BK410.out 1;have hfz28_2:=zA BK410.out 2;have hfz28_3:=zA BK410.out 3;have hfz28_4:=zA BK410.out 4
   go_wp2_with (first|((with_reducible refine zJ (f:=33) rfl ?_);refine yj (some 53) rfl rfl Tryd.func33 (by kernel_rfl) rfl #[.int .i64 a0_0,.int .i64 1,.int .i64 6] rfl (by (try simp only [zt,zu,zv]);first|done|rfl|(simp only [zw,zx];rfl)|(simp only [yr,ys,zV,zW];rfl)) ?_;(with_reducible refine (impl_inRange.calls  a0_0 1 6 t414 _ A27.out).mono ?_);rintro e w' ⟨rfl,⟨nd,rfl⟩⟩;refine ⟨_,rfl,?_⟩))
   go_ret
   exact ⟨by first|rfl|(simp [yt,yu] <;> rfl)|(simp [*,yt,yu] <;> rfl),by repeat (with_reducible first|exact HB.out|apply za|apply zb|apply zc|refine zd ?_ GE410.out)⟩

end Go.Proofs.YthjgfjlogilleaaDoor.Q
end
section
namespace Go.Proofs.YthjgfjlogilleaaDoor.Pure
open Go Go.RowKit Go.Proofs.YthjgfjlogilleaaDoor.Q Go.Proofs.YthjgfjlogilleaaDoorW.PrintWords Go.Proofs.YthjgfjlogilleaaDoorW.PrintLast Go.Proofs.YthjgfjlogilleaaDoorW.PrintMore Go.Proofs.YthjgfjlogilleaaDoorW.Pl
def trmK (op : Int) (v : IVal) : Bool :=
 if op=7 then v.f0 == 4 else if op=8 then v.f0 == 1 else if op=9 then (decide (v.f0=2) && inr v.f1 0 5) else if op=10 then (decide (v.f0=2) && decide (v.f1 ≥ 0)) else inr op 1 6
def trmV (op : Int) (p : ByteArray) (v : IVal) : Bool:=pth p && (rightV 5 v && trmK op v)
theorem pth_big (p : ByteArray) (h : (p.size : Int) > 65536) : pth p=false:=by unfold pth;rw [decide_eq_false (by omega)];rfl
def updV (op : Int) (p : ByteArray) (v : IVal) : Bool :=
 pth p && (decide (¬ p.toList=([105,100] : List UInt8)) && (rightV 5 v && (if op=2 then (v.f0 == 0 && (v.f1 == 0 && (v.f2.toList == ([] : List UInt8)))) else if op=3 then v.f0 == 2 else decide (op=1∨op=4∨op=5))))

theorem upd_no (a : Int) (b : ByteArray) (c d : Int) (e : ByteArray) : Eve (fun k => spec_UpdateOK.j0 k true a b c d e) false :=
 Eve.succ (by simp only [spec_UpdateOK.j0,if_true];exact Eve.one)
theorem upd_no2 (a : Int) (b : ByteArray) (c d : Int) (e : ByteArray) : Eve (fun k => impl_UpdateOK.j0 k true a b c d e) false :=
 Eve.succ (by simp only [impl_UpdateOK.j0,if_true];exact Eve.one)
theorem upd_spec (op : Int) (p : ByteArray) (v : IVal) (hp : p.size≤1048576) (hv : v.f2.size≤1048576) : Eve (fun k => spec_UpdateOK.f k op p v.f0 v.f1 v.f2) (updV op p v):=by
 simp only [spec_UpdateOK.f,in_spec,Option.bind_some];refine Eve.ite (fun h1 => ?_) (fun h1 => (upd_no _ _ _ _ _).eq ?_)
 ·
  refine Eve.ite (fun h2 => (upd_no _ _ _ _ _).eq (by unfold updV;rw [pth_big p h2];rfl)) (fun h2 => ?_)
  refine Eve.bind (pth_spec p hp) ?_;refine Eve.ite (fun h3 => ?_) (fun h3 => (upd_no _ _ _ _ _).eq (by unfold updV;simp at h3;rw [h3];rfl));refine Eve.ite (fun h4 => (upd_no _ _ _ _ _).eq (by unfold updV;simp [h4])) (fun h4 => ?_);refine Eve.bind (ok_spec v hv) ?_;refine Eve.succ ?_;simp only [spec_UpdateOK.j0];refine Eve.ite (fun h5 => Eve.one.eq (by unfold updV;simp at h5;simp [h5])) (fun h5 => ?_);have h5' : rightV 5 v=true:=by simpa using h5
  unfold updV;simp only [h3,h5',Bool.true_and,decide_eq_true h4];refine Eve.ite (fun h6 => Eve.one.eq (by rw [if_pos h6])) (fun h6 => ?_);rw [if_neg h6];refine Eve.ite (fun h7 => Eve.one.eq (by rw [if_pos h7])) (fun h7 => ?_);rw [if_neg h7];refine Eve.one.eq ?_;unfold inr at h1;simp at h1 ⊢
  omega
 have h1' : ¬ (1≤op∧op≤5):=by unfold inr at h1;simpa using h1
 unfold updV;rw [if_neg (by omega),if_neg (by omega),decide_eq_false (p:=op=1∨op=4∨op=5) (by omega)];simp
theorem upd_impl (op : Int) (p : ByteArray) (v : IVal) (hp : p.size≤1048576) (hv : v.f2.size≤1048576) : Eve (fun k => impl_UpdateOK.f k op p v.f0 v.f1 v.f2) (updV op p v):=by
 simp only [impl_UpdateOK.f];refine Eve.bind (pth_impl p hp) ?_;refine Eve.ite (fun h3 => ?_) (fun h3 => (upd_no2 _ _ _ _ _).eq (by unfold updV;simp at h3;rw [h3];rfl));refine Eve.ite (fun h4 => (upd_no2 _ _ _ _ _).eq (by unfold updV;simp [h4])) (fun h4 => ?_);refine Eve.bind (ok_impl v hv) ?_;refine Eve.succ ?_;simp only [impl_UpdateOK.j0];refine Eve.ite (fun h5 => Eve.one.eq (by unfold updV;simp at h5;simp [h5])) (fun h5 => ?_);have h5' : rightV 5 v=true:=by simpa using h5
 unfold updV;simp only [h3,h5',Bool.true_and,decide_eq_true h4];refine Eve.ite (fun h6 => Eve.one.eq (by rw [if_pos h6])) (fun h6 => ?_);rw [if_neg h6];refine Eve.ite (fun h7 => Eve.one.eq (by rw [if_pos h7])) (fun h7 => ?_);rw [if_neg h7];refine Eve.ite (fun h8 => Eve.one.eq (by simp [h8])) (fun h8 => ?_);refine Eve.ite (fun h9 => Eve.one.eq (by simp [h9])) (fun h9 => Eve.one.eq ?_)
 by_cases h : op=5
 ·
  simp [h]
 simp [h,h8,h9]
theorem FnExactUpdateOK : laws_FnExactUpdateOK.Pure:=by
 rintro x ⟨_,hp,_,_,hv⟩;refine Eve.get (g:=fun k => laws_FnExactUpdateOK.f k x.f0 x.f1 x.f2.f0 x.f2.f1 x.f2.f2) ?_;simp only [laws_FnExactUpdateOK.f,laws_szUpdate.f];rw [w64 (by omega) (by omega)]
 by_cases h : (1048576 : Int) - x.f1.size<0
 ·
  rw [if_pos h];simp only [Option.bind_some];exact Eve.ite (fun _ => Eve.one) (fun h => absurd (by omega) h)
 rw [if_neg h,szValue_tells x.f2 hv (by omega) (by omega)];simp only [Option.bind_some]
 by_cases h2 : (1048576 : Int) - x.f1.size - x.f2.f2.size<0
 ·
  rw [if_pos h2];simp only [if_pos (show (-1 : Int)<0 by omega),Option.bind_some];exact Eve.one
 rw [if_neg h2,if_neg h2];simp only [Option.bind_some];refine Eve.ite (fun _ => Eve.one) (fun _ => ?_);simp only [laws_toUpdate.f,toValue_tells,Option.bind_some];refine Eve.bind (upd_spec x.f0 x.f1 (iv x.f2) (by omega) (by show x.f2.f2.size≤_;omega)) ?_;refine Eve.bind (upd_impl x.f0 x.f1 (iv x.f2) (by omega) (by show x.f2.f2.size≤_;omega)) ?_;simp only [bne_self_eq_false,Bool.false_eq_true,if_false];exact Eve.one
end Go.Proofs.YthjgfjlogilleaaDoor.Pure
end
section
namespace Go.Proofs.YthjgfjlogilleaaDoor.fnExactUpdateOK
open Go.ChangeShapes Go.WideShapes Go.ChangeAt Go.RowKit Go.Proofs.YthjgfjlogilleaaDoorW.PrintWords Go.Proofs.YthjgfjlogilleaaDoorW.PrintOpen Go.Proofs.YthjgfjlogilleaaDoor.Q
open Go.ChangeMaps (open_string shut_string)
set_option linter.unusedVariables false
noncomputable def doorWorld (os : Os) : World :=
 { World.doorLaid Tryd.prog 19 os with heap:=(World.doorLaid Tryd.prog 19 os).heap.modify 1 fun
   | .cells _ t frozen => .cells (Go.Pinned.utf8FirstZ.map fun (z : Nat) => Value.int .u8 z).toArray t frozen
   | o => o }
abbrev laid1 : List (String × DataW Unit) := [("unicode/utf8.acceptRanges", Rows.laid_unicode_utf8_acceptRanges), ("unicode/utf8.first", Rows.laid_unicode_utf8_first)]
theorem door_met (os : Os) (args : Array Value) : laidMetH Tryd.prog laid1 ((doorWorld os).forCall (fun _ _ => 0) ⟨#[],args,[]⟩).memory :=
 laidMetH_of_parts3 (fuel:=8) (laidMet_of_run' 8 (by kernel_rfl) (by kernel_rfl)) (by kernel_rfl) (by kernel_rfl)
theorem own : ownKnob Tryd.prog.godebug=none:=by kernel_rfl
theorem laidOut : laidOutB Tryd.prog=true:=by kernel_rfl
set_option maxRecDepth 100000 in
theorem lifted (os : Os) (started : os.Started) (H : Type) (enc : TypeId×Value→H) :
  ReturnsInHanded {} Tryd.checked os 4 .any (fun w args => (Rows.fnExactUpdateOKSpec.pre enc Tryd.prog Tryd.f4 [] false w args∧laidMetH Tryd.prog laid1 w)∧sizedMet enc Tryd.prog Tryd.f4 (OpenSpec.ofChange Rows.fnExactUpdateOKSpec) false w args)
   (Rows.fnExactUpdateOKSpec.post enc Tryd.prog Tryd.f4 false true false false):=by
 refine returnsInHanded_of_change_and (C:=Tryd.checked) (X:=fun w _ => laidMetH Tryd.prog laid1 w) (fun _ _ _ hh h => h.of_heap hh) own started (by kernel_rfl) Tryd.func4
  (ChangeSpec.witness_shaped (enc:=enc) (C:=Tryd.checked) (os:=os) (X:=fun w _ => laidMetH Tryd.prog laid1 w) false (doorWorld os) #[.agg #[.int .i64 0,.string ByteArray.empty,.int .i64 0,.int .i64 0,.string ByteArray.empty]] 8 rfl (World.shaped_of_RefB (by kernel_rfl) (by kernel_rfl)) (by kernel_rfl) (by kernel_rfl) (by kernel_rfl) (door_met os _)) ?_
 intro W base args ds gs before hval0 hW hcnd hsz0 hL _
 have hval : ∀ (j : Nat) t v,Tryd.f4.params[j]? = some t→args[j]? = some v→Value.okWide Tryd.prog W .any base t v:=hval0
 have hW':=hW
 obtain ⟨p,q,hA0,hV,rfl,hfz,hnd⟩:=hW
 have hA : DataW.TrodAll enc Tryd.prog W 0 (fun _ => true) true Tryd.f4.params.toList args.toList ds p:=hA0
 rw [Tryd.params4] at hA hval
 obtain ⟨v0,vs0,d0,ds0,p0,q0,hargs,rfl,rfl,h0,r0⟩:=trodAll_cons hA
 obtain ⟨rfl,rfl,rfl⟩:=trodAll_nil r0
 obtain rfl : args = #[v0]:=by cases args;simp_all
 obtain ⟨rfl,rfl⟩:=trodVars_none hV
 have t0:=h0
 have lt0 : ∀ x ∈ p0,x.block<W.heap.size:=by obtain ⟨m,hm⟩:=t0;exact DataW.trod_lt m _ _ _ hm
 obtain ⟨x0,cs0,rfl,K0,g0⟩:=arg_struct Tryd.underlying36 opens36 (hval 0 36 v0 rfl rfl) h0
 obtain rfl:=k36_open K0
 clear hA0 hval0 hsz0
 obtain ⟨k,hp⟩:=Pure.FnExactUpdateOK x0 g0
 refine (laws_FnExactUpdateOK.calls k x0.f0 x0.f1 x0.f2.f0 x0.f2.f1 x0.f2.f2 true W  hp).mono fun e W' ⟨he,bel0⟩ => ?_
 have bel : Below W.heap.size W W':=bel0
 subst he
 exact ⟨_,rfl,_,_,_,[],_,[],hW',trodAll_mk1 (shut_bool Tryd.underlying4 _),(trodAll_cons_mk (Below.trod laidOut (by kernel_rfl) (of_decide_eq_true (by kernel_rfl)) t0 bel lt0) trodAll_mk0),rfl,bel.frame _,fun h => by cases h⟩
theorem over : Rows.fnExactUpdateOKRow.holds Tryd.pinned (OpenSpec.ofChange Rows.fnExactUpdateOKSpec) :=
 OpenClaim.holds_of_wide 4 Tryd.f4 rfl rfl rfl rfl rfl rfl rfl ⟨rfl,rfl,rfl,rfl,rfl⟩ rfl rfl rfl rfl rfl (by kernel_rfl) Tryd.func4 (by kernel_rfl)
  (of_decide_eq_true (by kernel_rfl)) (by unfold Func.isWrapper;first|(rw [if_pos (by decide +kernel)];kernel_rfl)|(rw [if_neg (by decide +kernel)];exact ⟨rfl,rfl⟩))
  (fun os started H enc _ => lifted os started H enc)
theorem card : Rows.FnExactUpdateOKCardSaid :=
 Claim7.holds_tied_plain_at .later [] _ true _ false
  over (fun _ h => by cases h) (by kernel_rfl) (fun _ h => by cases h) fnExactUpdateOK_row_tie rfl ⟨rfl,rfl⟩ (by kernel_rfl) rfl
  (fun f fn hf hfn => by
   obtain rfl : f = 4 := Option.some.inj ((show Tryd.prog.funcNamed "loop.example/g00380/laws.FnExactUpdateOK" = some 4 by kernel_rfl).symm.trans hf) |>.symm
   obtain rfl : fn=Tryd.f4:=(Option.some.inj (Tryd.func4.symm.trans hfn)).symm
   exact ⟨by kernel_rfl,fun j t ht => by
    rw [Tryd.params4] at ht
    have hm : t ∈ [36]:=by simpa using Array.mem_of_getElem? ht
    have hall : ([36].all fun u => !Tryd.prog.wantsStandIn u)=true:=by kernel_rfl
    exact (show Tryd.prog.wantsStandIn t=false by simpa using List.all_eq_true.1 hall t hm)⟩)
  (by kernel_rfl)
#print axioms card
end Go.Proofs.YthjgfjlogilleaaDoor.fnExactUpdateOK
namespace Go.Proofs.YthjgfjlogilleaaDoor
theorem fnExactUpdateOK_holds : Rows.FnExactUpdateOKCardSaid:=fnExactUpdateOK.card
end Go.Proofs.YthjgfjlogilleaaDoor
end
