/- Texts of this claim, merged by a program of this session. -/
import Derived.Test.YtnppmokkdhgkgaaKLawFnExactNewStorep11
section
namespace Go.Proofs.YtnppmokkdhgkgaaW.Pl
open Go Go.RowKit Go.Proofs.YtnppmokkdhgkgaaW.PrintWords Go.Proofs.YtnppmokkdhgkgaaW.PrintMore
theorem w64 {i : Int} (h0 : -9223372036854775808≤i) (h1 : i≤9223372036854775807) : wrap64 i=i:=by unfold wrap64;omega
theorem fuel {k d : Nat} (h : d<k) : ∃ m,k=m + 1∧d≤m:=⟨k - 1,by omega,by omega⟩
theorem rdOf_at {α : Type} (d : α) (xs : List α) (i : Nat) (h : i<xs.length) : rdOf d xs (i : Int)=xs[i]:=by
 unfold rdOf;simp [List.getD,h]
theorem rd_at (xs : List Int) (i : Nat) (h : i<xs.length) : rd xs (i : Int)=xs[i]:=by
 unfold rd;simp [List.getD,h]
theorem getD_at {α : Type} (d : α) (xs : List α) (i : Nat) (h : i<xs.length) : xs.getD (i : Int).toNat d=xs[i]:=by
 simp [List.getD,h]
theorem drop_at {α : Type} (xs : List α) (i : Nat) (h : i<xs.length) : xs.drop i=xs[i] :: xs.drop (i + 1):=List.drop_eq_getElem_cons h
theorem map_loop {α β : Type} (g : Nat→List β→Int→Option (List β)) (xs : List α) (c : α→β)
  (hstep : ∀ (k : Nat) (ys : List β) (i : Nat) (h : i<xs.length),ys.length=xs.length→g (k + 1) ys (i : Int)=g k (ys.set i (c xs[i])) ((i + 1 : Nat) : Int))
  (hend : ∀ (k : Nat) (ys : List β),ys.length=xs.length→g (k + 1) ys (xs.length : Int)=some ys) :
  ∀ (d k i : Nat) (ys : List β),i + d=xs.length→d<k→ys.length=xs.length→g k ys (i : Int)=some (ys.take i ++ (xs.drop i).map c):=by
 intro d
 induction d with
 | zero =>
  intro k i ys hi hk hy;obtain ⟨k,rfl,_⟩:=fuel hk;obtain rfl : i=xs.length:=by omega
  rw [hend k ys hy,List.drop_length,List.take_of_length_le (by omega)];simp
 | succ d ih =>
  intro k i ys hi hk hy;obtain ⟨k,rfl,_⟩:=fuel hk;have hlt : i<xs.length:=by omega
  have ht : (ys.set i (c xs[i])).take (i + 1)=ys.take i ++ [c xs[i]]:=by
   rw [List.take_succ_eq_append_getElem (by simp;omega),List.getElem_set_self,List.take_set_of_le (Nat.le_refl _)]
  rw [hstep k ys i hlt hy,ih k (i + 1) _ (by omega) (by omega) (by simp [hy]),ht,drop_at xs i hlt,List.map_cons,List.append_assoc]
  rfl
theorem map_loop0 {α β : Type} (g : Nat→List β→Int→Option (List β)) (xs : List α) (c : α→β)
  (hstep : ∀ (k : Nat) (ys : List β) (i : Nat) (h : i<xs.length),ys.length=xs.length→g (k + 1) ys (i : Int)=g k (ys.set i (c xs[i])) ((i + 1 : Nat) : Int))
  (hend : ∀ (k : Nat) (ys : List β),ys.length=xs.length→g (k + 1) ys (xs.length : Int)=some ys) {k : Nat} (hk : xs.length<k) (z : β) : g k (List.replicate xs.length z) 0=some (xs.map c):=by
 have:=map_loop g xs c hstep hend xs.length k 0 (List.replicate xs.length z) (by omega) hk (by simp)
 simpa using this
def all2 {α β : Type} (e : α→β→Bool) : List α→List β→Bool
 | [],_ => true
 | _ :: _,[] => true
 | x :: xs,y :: ys => e x y && all2 e xs ys
theorem all2_loop {α β : Type} (g : Nat→Int→Option Bool) (xs : List α) (ys : List β) (hl : xs.length=ys.length) (e : α→β→Bool)
  (hstep : ∀ (k i : Nat) (h : i<xs.length),g (k + 1) (i : Int)=if e xs[i] (ys[i]'(hl ▸ h))=true then g k ((i + 1 : Nat) : Int) else some false)
  (hend : ∀ k,g (k + 1) (xs.length : Int)=some true) : ∀ (d k i : Nat),i + d=xs.length→d<k→g k (i : Int)=some (all2 e (xs.drop i) (ys.drop i)):=by
 intro d
 induction d with
 | zero =>
  intro k i hi hk;obtain ⟨k,rfl,_⟩:=fuel hk;obtain rfl : i=xs.length:=by omega
  rw [hend,List.drop_length];rfl
 | succ d ih =>
  intro k i hi hk;obtain ⟨k,rfl,_⟩:=fuel hk;have hlt : i<xs.length:=by omega
  rw [hstep k i hlt,drop_at xs i hlt,drop_at ys i (by omega)]
  by_cases h : e xs[i] (ys[i]'(hl ▸ hlt))=true
  ·
   rw [if_pos h,ih k (i + 1) (by omega) (by omega)]
   simp [all2,h]
  rw [if_neg h];simp [all2,h]
theorem all2_refl {α : Type} (e : α→α→Bool) (h : ∀ x,e x x=true) : ∀ xs : List α,all2 e xs xs=true
 | [] => rfl
 | x :: xs => by simp [all2,h x,all2_refl e h xs]
def first {α : Type} (p : α→Bool) : List α→Nat→Int
 | [],_ => -1
 | x :: xs,i => if p x=true then i else first p xs (i + 1)
def total {α : Type} (s : α→Nat) : List α→Nat
 | [] => 0
 | x :: xs => s x + total s xs
theorem total_le {α : Type} (s : α→Nat) : ∀ (xs : List α) (x : α),x ∈ xs→s x≤total s xs
 | _ :: xs,x,h => by
  rcases List.mem_cons.1 h with rfl|h
  ·
   simp [total]
  have:=total_le s xs x h;simp [total];omega
def less {α : Type} (s : α→Nat) : List α→Int→Int
 | [],l => l
 | x :: xs,l => if l - s x<0 then -1 else less s xs (l - s x)
theorem less_is {α : Type} (s : α→Nat) : ∀ (xs : List α) (l : Int),0≤l→less s xs l=if l<total s xs then -1 else l - total s xs
 | [],l,h => by simp [less,total];omega
 | x :: xs,l,h => by
  have ht : ((total s (x :: xs) : Nat) : Int)=s x + total s xs:=by simp [total]
  rw [ht];simp only [less]
  by_cases h1 : l - s x<0
  ·
   rw [if_pos h1,if_pos (by omega)]
  rw [if_neg h1,less_is s xs _ (by omega)]
  by_cases h2 : l<s x + total s xs
  ·
   rw [if_pos (by omega),if_pos (by omega)]
  rw [if_neg (by omega),if_neg (by omega)];omega
theorem less_loop {α : Type} (g : Nat→Int→Int→Option Int) (xs : List α) (s : α→Nat)
  (hstep : ∀ (k i : Nat) (l : Int) (h : i<xs.length),0≤l→l≤1048576→g (k + 1) l (i : Int)=if l - s xs[i]<0 then some (-1) else g k (l - s xs[i]) ((i + 1 : Nat) : Int))
  (hend : ∀ k l,g (k + 1) l (xs.length : Int)=some l) : ∀ (d k i : Nat) (l : Int),i + d=xs.length→d<k→0≤l→l≤1048576→g k l (i : Int)=some (less s (xs.drop i) l):=by
 intro d
 induction d with
 | zero =>
  intro k i l hi hk h0 h1;obtain ⟨k,rfl,_⟩:=fuel hk;obtain rfl : i=xs.length:=by omega
  rw [hend,List.drop_length];rfl
 | succ d ih =>
  intro k i l hi hk h0 h1;obtain ⟨k,rfl,_⟩:=fuel hk;have hlt : i<xs.length:=by omega
  rw [hstep k i l hlt h0 h1,drop_at xs i hlt]
  by_cases h : l - s xs[i]<0
  ·
   rw [if_pos h];simp [less,h]
  rw [if_neg h,ih k (i + 1) _ (by omega) (by omega) (by omega) (by omega)];simp [less,h]
def Eve {α : Type} (g : Nat→Option α) (v : α) : Prop:=∃ K,∀ k,K≤k→g k=some v
theorem Eve.one {α : Type} {v : α} : Eve (fun _ => some v) v:=⟨0,fun _ _ => rfl⟩
theorem Eve.all {α : Type} {g : Nat→Option α} {v : α} (h : ∀ k,g k=some v) : Eve g v:=⟨0,fun k _ => h k⟩
theorem Eve.of {α : Type} {g : Nat→Option α} {v : α} {n : Nat} (h : ∀ k,n<k→g k=some v) : Eve g v:=⟨n + 1,fun k hk => h k (by omega)⟩
theorem Eve.succ {α : Type} {g : Nat→Option α} {v : α} (h : Eve (fun k => g (k + 1)) v) : Eve g v:=by
 obtain ⟨K,h⟩:=h;refine ⟨K + 1,fun k hk => ?_⟩;obtain ⟨k,rfl⟩ : ∃ m,k=m + 1:=⟨k - 1,by omega⟩;exact h k (by omega)
theorem Eve.bind {α β : Type} {g : Nat→Option α} {f : Nat→α→Option β} {v : α} {u : β} (h : Eve g v) (h2 : Eve (fun k => f k v) u) : Eve (fun k => (g k).bind (f k)) u:=by
 obtain ⟨K,h⟩:=h;obtain ⟨K2,h2⟩:=h2;refine ⟨max K K2,fun k hk => ?_⟩;show (g k).bind (f k)=some u;rw [h k (by omega),Option.bind_some];exact h2 k (by omega)
theorem Eve.ite {α : Type} {c : Prop} [Decidable c] {a b : Nat→Option α} {v : α} (h1 : c→Eve a v) (h2 : ¬ c→Eve b v) : Eve (fun k => if c then a k else b k) v:=by
 by_cases h : c
 ·
  simp only [if_pos h];exact h1 h
 simp only [if_neg h];exact h2 h
theorem Eve.eq {α : Type} {g : Nat→Option α} {v u : α} (h : Eve g v) (e : v=u) : Eve g u:=e ▸ h
theorem Eve.congr {α : Type} {g f : Nat→Option α} {v : α} (h : Eve g v) (e : ∀ k,f k=g k) : Eve f v:=by
 obtain ⟨K,h⟩:=h;exact ⟨K,fun k hk => by rw [e,h k hk]⟩
theorem ev_loop {σ α β : Type} (xs : List α) (g : Nat→σ→Int→Option β) (R : Nat→σ→List α→β) (I : Nat→σ→Prop)
  (hend : ∀ s,I xs.length s→Eve (fun k => g (k + 1) s (xs.length : Int)) (R xs.length s []))
  (hstep : ∀ (i : Nat) (h : i<xs.length) (s : σ),I i s→(∀ s',I (i + 1) s' → Eve (fun k => g k s' ((i + 1 : Nat) : Int)) (R (i + 1) s' (xs.drop (i + 1)))) →
   Eve (fun k => g (k + 1) s (i : Int)) (R i s (xs[i] :: xs.drop (i + 1)))) :
  ∀ (d i : Nat) (s : σ),i + d=xs.length→I i s→Eve (fun k => g k s (i : Int)) (R i s (xs.drop i)):=by
 intro d
 induction d with
 | zero =>
  intro i s hi hI;obtain rfl : i=xs.length:=by omega
  rw [List.drop_length];exact Eve.succ (hend s hI)
 | succ d ih =>
  intro i s hi hI;have hlt : i<xs.length:=by omega
  rw [drop_at xs i hlt];exact Eve.succ (hstep i hlt s hI (fun s' h' => ih (i + 1) s' (by omega) h'))
theorem ev_loop0 {σ α β : Type} (xs : List α) (g : Nat→σ→Int→Option β) (R : Nat→σ→List α→β) (I : Nat→σ→Prop)
  (hend : ∀ s,I xs.length s→Eve (fun k => g (k + 1) s (xs.length : Int)) (R xs.length s []))
  (hstep : ∀ (i : Nat) (h : i<xs.length) (s : σ),I i s→(∀ s',I (i + 1) s' → Eve (fun k => g k s' ((i + 1 : Nat) : Int)) (R (i + 1) s' (xs.drop (i + 1)))) →
   Eve (fun k => g (k + 1) s (i : Int)) (R i s (xs[i] :: xs.drop (i + 1)))) (s : σ) (h0 : I 0 s) : Eve (fun k => g k s 0) (R 0 s xs):=by
 have:=ev_loop xs g R I hend hstep xs.length 0 s (by omega) h0
 simpa using this
theorem ev_all {α : Type} (xs : List α) (g : Nat→Int→Option Bool) (q : α→Bool)
  (hend : Eve (fun k => g (k + 1) (xs.length : Int)) true)
  (hstep : ∀ (i : Nat) (h : i<xs.length) (v : Bool),Eve (fun k => g k ((i + 1 : Nat) : Int)) v→Eve (fun k => g (k + 1) (i : Int)) (q xs[i] && v)) : Eve (fun k => g k 0) (xs.all q) :=
 ev_loop0 xs (fun k (_ : Unit) i => g k i) (fun _ _ r => r.all q) (fun _ _ => True) (fun _ _ => hend) (fun i hi s _ ih => by
  rw [List.all_cons];exact hstep i hi _ (ih () trivial)) () trivial
end Go.Proofs.YtnppmokkdhgkgaaW.Pl
end
section
namespace Go.Proofs.YtnppmokkdhgkgaaW.PrintMore
open Go Go.RowKit
def mxs (x y : ByteArray) : ByteArray:=if Op.bytesLess x.toList y.toList then y else x
def mns (x y : ByteArray) : ByteArray:=if (Op.bytesLess x.toList y.toList || x.toList == y.toList) then x else y
theorem max2_str (x y : ByteArray) : Builtin.max2 (.string x) (.string y)=pure (.string (mxs x y)):=by
 simp only [Builtin.max2,Op.stringOp,mxs]
 cases h : Op.bytesLess x.toList y.toList <;> simp [asBool]
theorem min2_str (x y : ByteArray) : Builtin.min2 (.string x) (.string y)=pure (.string (mns x y)):=by
 simp only [Builtin.min2,Op.stringOp,mns]
 cases h : (Op.bytesLess x.toList y.toList || x.toList == y.toList) <;> simp [asBool]
theorem bytesLess_total : ∀ x y : List UInt8,(!(Op.bytesLess x y || x == y))=Op.bytesLess y x
 | [],[] => rfl
 | [],_ :: _ => rfl
 | _ :: _,[] => rfl
 | a :: x,b :: y => by
  have ih:=bytesLess_total x y;simp only [Op.bytesLess]
  by_cases h : a=b
  ·
   subst h
   have h1 : (a<a)=False:=eq_false (UInt8.lt_irrefl a);simp only [h1,decide_false,Bool.false_or,beq_self_eq_true,Bool.true_and];rw [← ih]
   by_cases h2 : x=y <;> simp [h2]
  have h1 : (a == b)=false:=by simpa using h
  have h2 : (b == a)=false:=by simpa using fun e => h e.symm
  have h3 : (a :: x == b :: y)=false:=by simp [h]
  simp only [h1,h2,h3,Bool.false_and,Bool.or_false];have h4 : a.toNat≠b.toNat:=fun e => h (UInt8.toNat_inj.mp e)
  by_cases h5 : a<b
  ·
   have : ¬ b<a:=by rw [UInt8.lt_iff_toNat_lt] at *;omega
   simp [h5,this]
  have : b<a:=by rw [UInt8.lt_iff_toNat_lt] at *;omega
  simp [h5,this]
theorem str_geq (t : TypeId) (a b : ByteArray) : binOp .geq t (.string a) (.string b)=pure (.bool !(Op.bytesLess a.toList b.toList)):=by simp [binOp,Op.stringOp]
theorem str_gtr (t : TypeId) (a b : ByteArray) : binOp .gtr t (.string a) (.string b)=pure (.bool (Op.bytesLess b.toList a.toList)):=by
 rw [← bytesLess_total];simp [binOp,Op.stringOp]
theorem str_leq (t : TypeId) (a b : ByteArray) : binOp .leq t (.string a) (.string b)=pure (.bool !(Op.bytesLess b.toList a.toList)):=by
 rw [← bytesLess_total];simp [binOp,Op.stringOp]
open Go.Proofs.YtnppmokkdhgkgaaW.PrintWords Go.Proofs.YtnppmokkdhgkgaaW.PrintLast
section
variable {P : Program} {ops : Array Oper} {o : Oper} {rest : List Oper} {a : Act} {Q : Exit→Act→World→Prop}
end
end Go.Proofs.YtnppmokkdhgkgaaW.PrintMore
end
