/- Texts of this claim, merged by a program of this session. -/
import Derived.Test.YtdjnplkpahgnmaaKLawFnKeysp27
section
namespace Go.Proofs.Ytdjnplkpahgnmaa.Pure
open Go Go.RowKit Go.Proofs.Ytdjnplkpahgnmaa.Q Go.Proofs.YtdjnplkpahgnmaaW.PrintWords Go.Proofs.YtdjnplkpahgnmaaW.PrintLast Go.Proofs.YtdjnplkpahgnmaaW.PrintMore Go.Proofs.YtdjnplkpahgnmaaW.Pl
abbrev IVal:=S24
abbrev eB : ByteArray:=⟨#[]⟩
abbrev Rd:=Int×Int×ByteArray×ByteArray×Bool
def valV (a : ByteArray) (f : Bool) : Rd :=
  let q:=numV a f 1
  if q.1=1 then (q.1,(numV q.2.1 q.2.2 1).1,eB,(numV q.2.1 q.2.2 1).2.1,(numV q.2.1 q.2.2 1).2.2)
  else if q.1=2 then (q.1,wrap64 ((numV q.2.1 q.2.2 8).1 - 4611686018427387904),eB,(numV q.2.1 q.2.2 8).2.1,(numV q.2.1 q.2.2 8).2.2)
  else if q.1=3∨q.1=4∨q.1=5 then
    let r:=numV q.2.1 q.2.2 2
    (q.1,0,(takV r.2.1 r.2.2 r.1.toNat).1,(takV r.2.1 r.2.2 r.1.toNat).2.1,(takV r.2.1 r.2.2 r.1.toNat).2.2)
  else (q.1,0,eB,q.2.1,q.2.2)
theorem num2_in (a : ByteArray) (f : Bool) : 0≤(numV a f 2).1∧(numV a f 2).1≤65535:=by
  unfold numV
  by_cases h : a.size<2
  · rw [if_pos h];simp
  rw [if_neg h];exact bytes_ext2 a 0 (by omega)
theorem j0_tells (q x1 : Int) (t : ByteArray) (a : ByteArray) (f : Bool) : Eve (fun k=>Fl.j0 k true a f q x1 t) (q,x1,(takV (numV a f 2).2.1 (numV a f 2).2.2 (numV a f 2).1.toNat).1,(takV (numV a f 2).2.1 (numV a f 2).2.2 (numV a f 2).1.toNat).2.1,(takV (numV a f 2).2.1 (numV a f 2).2.2 (numV a f 2).1.toNat).2.2):=by
  refine Eve.succ ?_;simp only [Fl.j0,if_true];refine Eve.bind (num_tells a f 2 (by omega)) ?_;have hb:=num2_in a f;have ht:=take_tells (numV a f 2).2.1 (numV a f 2).2.2 (numV a f 2).1.toNat (by omega);rw [show (((numV a f 2).1.toNat : Nat) : Int)=(numV a f 2).1 from Int.toNat_of_nonneg hb.1] at ht;simp only [ht,Option.bind_some];exact Eve.one
theorem value_tells (a : ByteArray) (f : Bool) : Eve (fun k=>Fl.f k a f) (valV a f):=by
  simp only [Fl.f];refine Eve.bind (num_tells a f 1 (by omega)) ?_;unfold valV;generalize numV a f 1=q;simp only;refine Eve.ite (fun h=>?_) (fun h=>?_)
  · rw [if_pos h]
    exact Eve.bind (num_tells q.2.1 q.2.2 1 (by omega)) Eve.one
  rw [if_neg h];refine Eve.ite (fun h2=>?_) (fun h2=>?_)
  · rw [if_pos h2]
    exact Eve.bind (num_tells q.2.1 q.2.2 8 (by omega)) Eve.one
  rw [if_neg h2];refine Eve.ite (fun h3=>?_) (fun h3=>?_)
  · rw [if_pos (.inl h3)]
    simp only [h3,beq_self_eq_true];exact j0_tells _ _ _ _ _
  refine Eve.ite (fun h4=>?_) (fun h4=>?_)
  · rw [if_pos (.inr (.inl h4))]
    simp only [h4,beq_self_eq_true];exact j0_tells _ _ _ _ _
  by_cases h5 : q.1=5
  · rw [if_pos (.inr (.inr h5))]
    simp only [h5,beq_self_eq_true];exact j0_tells _ _ _ _ _
  rw [if_neg (by omega)];have : (q.1 == 5)=false:=by simpa using h5
  simp only [this];refine Eve.succ ?_;simp only [Fl.j0,Bool.false_eq_true,if_false];exact Eve.one
def nxtV (a : ByteArray) : Option (IVal×ByteArray) :=
  if a.size=0 then none
  else if bt a 0=0 then some (⟨0,0,eB⟩,a.extract 1 a.size)
  else if bt a 0=1 then (if a.size<2 then none else some (⟨1,bt a 1,eB⟩,a.extract 2 a.size))
  else if bt a 0=2 then (if a.size<9 then none else if bt a 1 > 127 then none else some (⟨2,wrap64 (bigV (bytesOf (a.extract 1 9)) - 4611686018427387904),eB⟩,a.extract 9 a.size))
  else if bt a 0=3∨bt a 0=4∨bt a 0=5 then
    (if a.size<3 then none else if (a.size : Int)<3+bigV (bytesOf (a.extract 1 3)) then none
     else some (⟨bt a 0,0,a.extract 3 (3+bigV (bytesOf (a.extract 1 3))).toNat⟩,a.extract (3+bigV (bytesOf (a.extract 1 3))).toNat a.size))
  else none
def told (o : Option (IVal×ByteArray)) : Rd:=match o with|some (v,r)=>(v.f0,v.f1,v.f2,r,true)|none=>(0,0,eB,eB,false)
theorem wbt (a : ByteArray) (i : Int) : wrap64 (bt a i)=bt a i:=w64 (by have:=bt_range a i;omega) (by have:=bt_range a i;omega)
theorem n0_tells (a : ByteArray) (q : Int) (hs : a.size≤1048576) : Eve (fun k=>F6.j0 k a true q 0 eB)
    (told (if a.size<3 then none else if (a.size : Int)<3+bigV (bytesOf (a.extract 1 3)) then none
     else some (⟨q,0,a.extract 3 (3+bigV (bytesOf (a.extract 1 3))).toNat⟩,a.extract (3+bigV (bytesOf (a.extract 1 3))).toNat a.size))):=by
  refine Eve.succ ?_;simp only [F6.j0,if_true];refine Eve.ite (fun h=>?_) (fun h=>?_)
  · rw [if_pos (by omega)];exact Eve.one
  rw [if_neg (by omega)];refine Eve.ite (fun _=>?_) (fun h=>absurd (by omega) h);refine Eve.ite (fun _=>?_) (fun h=>absurd (by omega) h);refine Eve.bind (of_tells (a.extract 1 3) (by rw [ByteArray.size_extract];omega)) ?_;have hb:=bytes_ext2 a 1 (by omega);simp only [show 1+2=3 from rfl] at hb;have hw : wrap64 (3+bigV (bytesOf (a.extract 1 3)))=3+bigV (bytesOf (a.extract 1 3)):=w64 (by omega) (by omega);simp only [hw];refine Eve.ite (fun h2=>?_) (fun h2=>?_)
  · rw [if_pos h2];exact Eve.one
  rw [if_neg h2];refine Eve.ite (fun _=>?_) (fun h=>absurd (by omega) h);refine Eve.ite (fun _=>?_) (fun h=>absurd (by omega) h);exact Eve.ite (fun _=>Eve.one) (fun h=>absurd (by omega) h)
theorem next_tells (a : ByteArray) (hs : a.size≤1048576) : Eve (fun k=>F6.f k a) (told (nxtV a)):=by
  unfold nxtV;simp only [F6.f,wbt];refine Eve.ite (fun h=>?_) (fun h=>?_)
  · have hz : a.size=0:=by omega
    rw [if_pos hz];exact Eve.one
  have hz : ¬ a.size=0:=by omega
  rw [if_neg hz];refine Eve.ite (fun _=>?_) (fun h=>absurd (by omega) h);refine Eve.ite (fun h0=>?_) (fun h0=>?_)
  · rw [if_pos h0]
    refine Eve.ite (fun _=>?_) (fun h=>absurd (by omega) h);exact Eve.one.eq (by rw [h0];rfl)
  rw [if_neg h0];refine Eve.ite (fun h1=>?_) (fun h1=>?_)
  · rw [if_pos h1]
    refine Eve.succ ?_;simp only [F6.j1,wbt,h1];have hw : wrap64 (1+1)=2:=w64 (by omega) (by omega);simp only [hw,if_true];refine Eve.ite (fun h=>?_) (fun h=>?_)
    · have hy : a.size<2:=by omega
      rw [if_pos hy];exact Eve.one
    have hy : ¬ a.size<2:=by omega
    rw [if_neg hy];refine Eve.ite (fun _=>?_) (fun h=>absurd (by omega) h);refine Eve.ite (fun _=>?_) (fun h=>absurd (by omega) h);exact Eve.ite (fun _=>Eve.one) (fun h=>absurd (by omega) h)
  rw [if_neg h1];refine Eve.ite (fun h2=>?_) (fun h2=>?_)
  · rw [if_pos h2]
    refine Eve.succ ?_;simp only [F6.j1,h2];have hw : wrap64 (1+8)=9:=w64 (by omega) (by omega);simp only [hw];refine Eve.ite (fun h=>?_) (fun h=>?_)
    · have hy : a.size<9:=by omega
      rw [if_pos hy];exact Eve.one
    have hy : ¬ a.size<9:=by omega
    rw [if_neg hy];refine Eve.ite (fun h=>absurd h (by omega)) (fun _=>?_);refine Eve.ite (fun _=>?_) (fun h=>absurd (by omega) h);refine Eve.ite (fun h=>?_) (fun h=>?_)
    · rw [if_pos h];exact Eve.one
    rw [if_neg h];refine Eve.ite (fun _=>?_) (fun h=>absurd (by omega) h);refine Eve.ite (fun _=>?_) (fun h=>absurd (by omega) h);refine Eve.bind (of_tells (a.extract 1 9) (by rw [ByteArray.size_extract];omega)) ?_;refine Eve.ite (fun _=>?_) (fun h=>absurd (by omega) h);exact Eve.ite (fun _=>Eve.one) (fun h=>absurd (by omega) h)
  rw [if_neg h2];refine Eve.ite (fun h3=>?_) (fun h3=>?_)
  · rw [if_pos (show bt a 0=3∨bt a 0=4∨bt a 0=5 from .inl h3)]
    simp only [h3,beq_self_eq_true];exact n0_tells a 3 hs
  refine Eve.ite (fun h4=>?_) (fun h4=>?_)
  · rw [if_pos (show bt a 0=3∨bt a 0=4∨bt a 0=5 from .inr (.inl h4))]
    simp only [h4,beq_self_eq_true];exact n0_tells a 4 hs
  by_cases h5 : bt a 0=5
  · rw [if_pos (show bt a 0=3∨bt a 0=4∨bt a 0=5 from .inr (.inr h5))]
    simp only [h5,beq_self_eq_true];exact n0_tells a 5 hs
  have hy : ¬ (bt a 0=3∨bt a 0=4∨bt a 0=5):=by omega
  rw [if_neg hy];have : (bt a 0 == 5)=false:=by simpa using h5
  simp only [this];refine Eve.succ ?_;simp only [F6.j0,Bool.false_eq_true,if_false];exact Eve.one
def Bad (v : IVal) : Prop:=v.f0<0∨v.f0 > 5∨(v.f0=2∧(v.f1 < -1000000000000∨v.f1 > 1000000000000))
def rdv (r : Rd) : IVal:=⟨r.1,r.2.1,r.2.2.1⟩
theorem num_one (a : ByteArray) (f : Bool) (h : 0<a.size) : numV a f 1=(bt a 0,a.extract 1 a.size,f):=by
  unfold numV;rw [if_neg (by omega)];have:=bytes_ext1 a 0 h;simp only [Nat.zero_add] at this;rw [this];rfl
theorem num_none (a : ByteArray) (f : Bool) (n : Nat) (h : a.size<n) : numV a f n=(0,a,true):=by unfold numV;rw [if_pos h]
theorem num_some (a : ByteArray) (f : Bool) (n : Nat) (h : n≤a.size) : numV a f n=(bigV (bytesOf (a.extract 0 n)),a.extract n a.size,f):=by unfold numV;rw [if_neg (by omega)]
theorem tail_size (a : ByteArray) (n : Nat) : (a.extract n a.size).size=a.size - n:=by rw [ByteArray.size_extract];omega
theorem ext_ext (a : ByteArray) (n i j : Nat) (h : n+j≤a.size) : (a.extract n a.size).extract i j=a.extract (n+i) (n+j):=by
  rw [ByteArray.extract_extract,Nat.min_eq_left h]
theorem ext_tail (a : ByteArray) (n i : Nat) (h : n≤a.size) : (a.extract n a.size).extract i (a.extract n a.size).size=a.extract (n+i) a.size:=by
  rw [tail_size,ByteArray.extract_extract]
  congr 1
  omega
theorem big8 (l : List Int) (x : Int) (r : List Int) (hl : l=x :: r) (hr : r.length=7) (hb : ∀ b ∈ l,0≤b∧b≤255) (hx : x > 127) : wrap64 (bigV l - 4611686018427387904) < -1000000000000∨wrap64 (bigV l - 4611686018427387904) > 1000000000000:=by
  subst hl
  match r,hr with
  | [b1,b2,b3,b4,b5,b6,b7],_ =>
    have h0:=hb x (by simp);have h1:=hb b1 (by simp);have h2:=hb b2 (by simp);have h3:=hb b3 (by simp);have h4:=hb b4 (by simp);have h5:=hb b5 (by simp);have h6:=hb b6 (by simp);have h7:=hb b7 (by simp)
    have e : bigV [x,b1,b2,b3,b4,b5,b6,b7]=x*72057594037927936+b1*281474976710656+b2*1099511627776+b3*4294967296+b4*16777216+b5*65536+b6*256+b7 - 18446744073709551616:=by
      simp only [bigV,List.foldl_cons,List.foldl_nil];have s0 : stp 0 x=x:=by unfold stp;simp only [w64m];omega
      have s1 : stp x b1=x*256+b1:=by unfold stp;simp only [w64m];omega
      have s2 : stp (x*256+b1) b2=x*65536+b1*256+b2:=by unfold stp;simp only [w64m];omega
      have s3 : stp (x*65536+b1*256+b2) b3=x*16777216+b1*65536+b2*256+b3:=by unfold stp;simp only [w64m];omega
      have s4 : stp (x*16777216+b1*65536+b2*256+b3) b4=x*4294967296+b1*16777216+b2*65536+b3*256+b4:=by unfold stp;simp only [w64m];omega
      have s5 : stp (x*4294967296+b1*16777216+b2*65536+b3*256+b4) b5=x*1099511627776+b1*4294967296+b2*16777216+b3*65536+b4*256+b5:=by unfold stp;simp only [w64m];omega
      have s6 : stp (x*1099511627776+b1*4294967296+b2*16777216+b3*65536+b4*256+b5) b6=x*281474976710656+b1*1099511627776+b2*4294967296+b3*16777216+b4*65536+b5*256+b6:=by unfold stp;simp only [w64m];omega
      rw [s0,s1,s2,s3,s4,s5,s6];unfold stp;simp only [w64m];omega
    rw [e,w64m]
    omega
theorem nxt_some (a : ByteArray) (v : IVal) (r : ByteArray) (h : nxtV a=some (v,r)) : valV a false=(v.f0,v.f1,v.f2,r,false)∧r.size<a.size:=by
  unfold nxtV at h
  by_cases hz : a.size=0
  · rw [if_pos hz] at h;simp at h
  rw [if_neg hz] at h;unfold valV;rw [num_one a false (by omega)];simp only;have ht:=tail_size a 1
  by_cases h0 : bt a 0=0
  · rw [if_pos h0] at h
    obtain ⟨rfl,rfl⟩ : _∧_:=by simpa using h
    rw [if_neg (by omega),if_neg (by omega),if_neg (by omega),h0];exact ⟨rfl,by omega⟩
  rw [if_neg h0] at h
  by_cases h1 : bt a 0=1
  · rw [if_pos h1] at h
    by_cases h2 : a.size<2
    · rw [if_pos h2] at h;simp at h
    rw [if_neg h2] at h;obtain ⟨rfl,rfl⟩ : _∧_:=by simpa using h
    rw [if_pos h1,num_some _ _ _ (by omega),ext_ext _ _ _ _ (by omega),ext_tail _ _ _ (by omega),h1];have:=bytes_ext1 a 1 (by omega);refine ⟨?_,by rw [tail_size];omega⟩;show (1,bigV (bytesOf (a.extract 1 (1+1))),eB,a.extract 2 a.size,false)=_;rw [this];rfl
  rw [if_neg h1] at h
  by_cases h2 : bt a 0=2
  · rw [if_pos h2] at h
    by_cases h3 : a.size<9
    · rw [if_pos h3] at h;simp at h
    rw [if_neg h3] at h
    by_cases h4 : bt a 1 > 127
    · rw [if_pos h4] at h;simp at h
    rw [if_neg h4] at h;obtain ⟨rfl,rfl⟩ : _∧_:=by simpa using h
    rw [if_neg h1,if_pos h2,num_some _ _ _ (by omega),ext_ext _ _ _ _ (by omega),ext_tail _ _ _ (by omega),h2];exact ⟨rfl,by rw [tail_size];omega⟩
  rw [if_neg h2] at h
  by_cases h3 : bt a 0=3∨bt a 0=4∨bt a 0=5
  · rw [if_pos h3] at h
    by_cases h4 : a.size<3
    · rw [if_pos h4] at h;simp at h
    rw [if_neg h4] at h;have hb:=bytes_ext2 a 1 (by omega);simp only [show 1+2=3 from rfl] at hb
    by_cases h5 : (a.size : Int)<3+bigV (bytesOf (a.extract 1 3))
    · rw [if_pos h5] at h;simp at h
    rw [if_neg h5] at h;obtain ⟨rfl,rfl⟩ : _∧_:=by simpa using h
    rw [if_neg h1,if_neg h2,if_pos h3,num_some _ _ _ (by omega),ext_ext _ _ _ _ (by omega),ext_tail _ _ _ (by omega)];simp only [show 1+0=1 from rfl,show 1+2=3 from rfl];generalize bigV (bytesOf (a.extract 1 3))=n at hb h5 ⊢;obtain ⟨n,rfl⟩ : ∃ m : Nat,n=(m : Int):=⟨n.toNat,by omega⟩;have e1 : ((n : Int)).toNat=n:=Int.toNat_natCast n;have e2 : (3+(n : Int)).toNat=3+n:=by omega
    have ht3:=tail_size a 3;unfold takV;simp only [e1,e2];rw [if_neg (by omega),ext_ext _ _ _ _ (by omega),ext_tail _ _ _ (by omega)];exact ⟨rfl,by rw [tail_size];omega⟩
  rw [if_neg h3] at h;simp at h
theorem nxt_none (a : ByteArray) (h : nxtV a=none) : (valV a false).2.2.2.2=true∨Bad (rdv (valV a false)):=by
  by_cases hz : a.size=0
  · left
    unfold valV;rw [num_none a false 1 (by omega)];simp
  unfold nxtV at h;rw [if_neg hz] at h;unfold valV;rw [num_one a false (by omega)];simp only;have ht:=tail_size a 1
  by_cases h0 : bt a 0=0
  · rw [if_pos h0] at h;simp at h
  rw [if_neg h0] at h
  by_cases h1 : bt a 0=1
  · rw [if_pos h1] at h ⊢
    by_cases h2 : a.size<2
    · left;rw [num_none _ _ _ (by omega)]
    rw [if_neg h2] at h;simp at h
  rw [if_neg h1] at h ⊢
  by_cases h2 : bt a 0=2
  · rw [if_pos h2] at h ⊢
    by_cases h3 : a.size<9
    · left;rw [num_none _ _ _ (by omega)]
    rw [if_neg h3] at h
    by_cases h4 : bt a 1 > 127
    · right;right;right
      refine ⟨h2,?_⟩;rw [num_some _ _ _ (by omega),ext_ext _ _ _ _ (by omega)];simp only [show 1+0=1 from rfl,show 1+8=9 from rfl,rdv];have hl : (bytesOf (a.extract 1 9)).length=8:=by rw [bytesOf_length,ByteArray.size_extract];omega
      have hg:=bt_get (a.extract 1 9) 0 (by omega)
      have he : bt (a.extract 1 9) ((0 : Nat) : Int)=bt a 1:=by
        unfold bt;have e0 : (((0 : Nat) : Int)).toNat=0:=rfl;have e1 : ((1 : Int)).toNat=1:=rfl;simp only [e0,e1];rw [dif_pos (by rw [ByteArray.size_extract];omega),dif_pos (by omega)]
        congr 2
        rw [ByteArray.getElem_extract]
      cases hc : bytesOf (a.extract 1 9) with
      | nil=>rw [hc] at hl;simp at hl
      | cons x r =>
        have hb:=bytes_in (a.extract 1 9);rw [he] at hg;simp only [hc,List.getElem_cons_zero] at hg;rw [hc] at hl hb;exact big8 _ x r rfl (by simpa using hl) hb (by omega)
    rw [if_neg h4] at h;simp at h
  rw [if_neg h2] at h ⊢
  by_cases h3 : bt a 0=3∨bt a 0=4∨bt a 0=5
  · rw [if_pos h3] at h ⊢
    left
    by_cases h4 : a.size<3
    · rw [num_none _ _ 2 (by omega)]
      unfold takV;simp
    rw [if_neg h4] at h;have hb:=bytes_ext2 a 1 (by omega);simp only [show 1+2=3 from rfl] at hb
    by_cases h5 : (a.size : Int)<3+bigV (bytesOf (a.extract 1 3))
    · rw [num_some _ _ 2 (by omega),ext_ext _ _ _ _ (by omega),ext_tail _ _ _ (by omega)]
      simp only [show 1+0=1 from rfl,show 1+2=3 from rfl];unfold takV;rw [if_pos (by rw [tail_size];omega)]
    rw [if_neg h5] at h;simp at h
  rw [if_neg h3]
  right
  have:=bt_range a 0
  right;left
  show bt a 0 > 5
  omega
theorem num_mono (a : ByteArray) (f : Bool) (n : Nat) : (numV a f n).2.1.size≤a.size∧(f=true→(numV a f n).2.2=true):=by
  unfold numV
  by_cases h : a.size<n
  · rw [if_pos h];exact ⟨Nat.le_refl _,fun _=>rfl⟩
  rw [if_neg h];exact ⟨by simp only [tail_size];omega,fun h=>h⟩
theorem tak_mono (a : ByteArray) (f : Bool) (n : Nat) : (takV a f n).2.1.size≤a.size∧(f=true→(takV a f n).2.2=true):=by
  unfold takV
  by_cases h : a.size<n
  · rw [if_pos h];exact ⟨Nat.le_refl _,fun _=>rfl⟩
  rw [if_neg h];exact ⟨by simp only [tail_size];omega,fun h=>h⟩
theorem val_mono (a : ByteArray) (f : Bool) : (valV a f).2.2.2.1.size≤(numV a f 1).2.1.size∧(f=true→(valV a f).2.2.2.2=true):=by
  have hq:=num_mono a f 1;unfold valV;generalize numV a f 1=q at hq;simp only
  by_cases h1 : q.1=1
  · rw [if_pos h1]
    have:=num_mono q.2.1 q.2.2 1;exact ⟨this.1,fun h=>this.2 (hq.2 h)⟩
  rw [if_neg h1]
  by_cases h2 : q.1=2
  · rw [if_pos h2]
    have:=num_mono q.2.1 q.2.2 8;exact ⟨this.1,fun h=>this.2 (hq.2 h)⟩
  rw [if_neg h2]
  by_cases h3 : q.1=3∨q.1=4∨q.1=5
  · rw [if_pos h3]
    have hr:=num_mono q.2.1 q.2.2 2;have ht:=tak_mono (numV q.2.1 q.2.2 2).2.1 (numV q.2.1 q.2.2 2).2.2 (numV q.2.1 q.2.2 2).1.toNat;exact ⟨Nat.le_trans ht.1 hr.1,fun h=>ht.2 (hr.2 (hq.2 h))⟩
  rw [if_neg h3];exact ⟨Nat.le_refl _,hq.2⟩
theorem val_less (a : ByteArray) (f : Bool) (h : 0<a.size) : (valV a f).2.2.2.1.size<a.size:=by
  have h1:=(val_mono a f).1;rw [num_one a f h] at h1;have:=tail_size a 1;simp only at h1
  omega
abbrev IFld:=S68
theorem emp (a : ByteArray) : a.toList=([] : List UInt8)↔a.size=0:=by
 rw [ba_toList,← data_length,List.length_eq_zero_iff]
def itS : Nat→ByteArray→Option (List IVal)
 | 0,a=>if a.size=0 then some [] else none
 | m+1,a=>if a.size=0 then some [] else match nxtV a with
  | none=>none
  | some (v,r)=>(itS m r).map (v :: ·)
def toldL (acc : List IVal) (o : Option (List IVal)) : List IVal×Bool:=match o with|some l=>(acc++l,true)|none=>([],false)
theorem items_spec : ∀ (m : Nat) (a : ByteArray) (acc : List IVal),a.size≤m→a.size≤1048576→acc.length+a.size≤1048576→Eve (fun k=>Fo.l0 k a acc) (toldL acc (itS m a)):=by
 intro m
 induction m with
 | zero =>
  intro a acc h1 h2 h3;refine Eve.succ ?_;simp only [Fo.l0,itS];have hz : a.size=0:=by omega
  rw [if_pos hz];exact Eve.ite (fun h=>absurd h (by omega)) (fun _=>Eve.one.eq (by simp [toldL]))
 | succ m ih =>
  intro a acc h1 h2 h3;refine Eve.succ ?_;simp only [Fo.l0,itS]
  by_cases hz : a.size=0
  ·
   rw [if_pos hz]
   exact Eve.ite (fun h=>absurd h (by omega)) (fun _=>Eve.one.eq (by simp [toldL]))
  rw [if_neg hz];refine Eve.ite (fun _=>?_) (fun h=>absurd (by omega) h);refine Eve.bind (next_tells a h2) ?_
  cases hn : nxtV a with
  | none=>simp only [told,Bool.false_eq_true,if_false];exact Eve.one
  | some p =>
   obtain ⟨v,r⟩:=p;have hs:=nxt_some a v r hn;simp only [told,if_true];refine Eve.ite (fun _=>?_) (fun h=>absurd (by omega) h);refine (ih r (acc ++ [⟨v.f0,v.f1,v.f2⟩]) (by omega) (by omega) (by simp;omega)).eq ?_
   cases itS m r with
   | none=>rfl
   | some l=>simp [toldL]
theorem tak_size (a : ByteArray) (f : Bool) (n : Nat) (_h : a.size≤1048576) (hn : n≤65535) : (takV a f n).1.size≤1048576:=by
 unfold takV
 by_cases h2 : a.size<n
 ·
  rw [if_pos h2];simp only [zer_size];omega
 rw [if_neg h2];simp only [ByteArray.size_extract];omega
theorem val_size (a : ByteArray) (f : Bool) (h : a.size≤1048576) : (rdv (valV a f)).f2.size≤1048576:=by
 have hq:=num_mono a f 1;unfold valV;generalize numV a f 1=q at hq;simp only [rdv]
 by_cases h1 : q.1=1
 ·
  rw [if_pos h1];exact Nat.zero_le _
 rw [if_neg h1]
 by_cases h2 : q.1=2
 ·
  rw [if_pos h2];exact Nat.zero_le _
 rw [if_neg h2]
 by_cases h3 : q.1=3∨q.1=4∨q.1=5
 ·
  rw [if_pos h3]
  have hr:=num_mono q.2.1 q.2.2 2;have hn:=num2_in q.2.1 q.2.2;exact tak_size _ _ _ (by omega) (by omega)
 rw [if_neg h3];exact Nat.zero_le _
theorem items_stop (acc : List IVal) (a : ByteArray) : Eve (fun k=>Fa.l0 k acc a true) (acc,false):=by
 refine Eve.succ ?_;simp only [Fa.l0,if_true,Bool.not_true];exact Eve.ite (fun _=>Eve.one) (fun _=>Eve.one)
theorem items_end (acc : List IVal) (a : ByteArray) (h : a.size=0) : Eve (fun k=>Fa.l0 k acc a false) (acc,true):=by
 refine Eve.succ ?_;simp only [Fa.l0,Bool.not_false];exact Eve.ite (fun _=>Eve.one) (fun h2=>absurd ((emp a).2 h) h2)
theorem items_step (acc : List IVal) (a : ByteArray) (h : 0<a.size) (hl : acc.length≤1048576) {x : List IVal×Bool}
  (hx : Eve (fun k=>Fa.l0 k (acc ++ [rdv (valV a false)]) (valV a false).2.2.2.1 (valV a false).2.2.2.2) x) : Eve (fun k=>Fa.l0 k acc a false) x:=by
 refine Eve.succ ?_;simp only [Fa.l0,Bool.false_eq_true,if_false];refine Eve.ite (fun h2=>absurd ((emp a).1 h2) (by omega)) (fun _=>?_);refine Eve.bind (value_tells a false) ?_;exact Eve.ite (fun _=>hx) (fun h2=>absurd (by omega) h2)
theorem items_some : ∀ (m : Nat) (a : ByteArray) (acc l : List IVal),itS m a=some l→acc.length+a.size≤1048576→Eve (fun k=>Fa.l0 k acc a false) (acc++l,true):=by
 intro m
 induction m with
 | zero =>
  intro a acc l h h2;simp only [itS] at h
  by_cases hz : a.size=0
  ·
   rw [if_pos hz] at h
   obtain rfl : []=l:=by simpa using h
   exact (items_end acc a hz).eq (by simp)
  rw [if_neg hz] at h;simp at h
 | succ m ih =>
  intro a acc l h h2;simp only [itS] at h
  by_cases hz : a.size=0
  ·
   rw [if_pos hz] at h
   obtain rfl : []=l:=by simpa using h
   exact (items_end acc a hz).eq (by simp)
  rw [if_neg hz] at h
  cases hn : nxtV a with
  | none=>rw [hn] at h;simp at h
  | some p =>
   obtain ⟨v,r⟩:=p;rw [hn] at h;simp only [Option.map_eq_some_iff] at h;obtain ⟨l',h',rfl⟩:=h;obtain ⟨hs,hlt⟩:=nxt_some a v r hn;refine items_step acc a (by omega) (by omega) ?_;rw [hs];refine (ih r (acc ++ [rdv (v.f0,v.f1,v.f2,r,false)]) l' h' (by simp;omega)).eq ?_;simp [rdv]
theorem items_some_end : ∀ (m : Nat) (a : ByteArray) (acc : List IVal),a.size≤m→acc.length+a.size≤1048576 → ∃ l ok,Eve (fun k=>Fa.l0 k acc a false) (acc++l,ok)∧(l.length≤a.size ∧ ∀ x ∈ l,x.f2.size≤1048576):=by
 intro m
 induction m with
 | zero=>intro a acc h1 h2;exact ⟨[],true,(items_end acc a (by omega)).eq (by simp),by simp,by simp⟩
 | succ m ih =>
  intro a acc h1 h2
  by_cases hz : a.size=0
  ·
   exact ⟨[],true,(items_end acc a hz).eq (by simp),by simp,by simp⟩
  have hlt:=val_less a false (by omega);have hvs:=val_size a false (by omega)
  cases hf : (valV a false).2.2.2.2 with
  | true =>
   refine ⟨[rdv (valV a false)],false,items_step acc a (by omega) (by omega) ?_,by simp;omega,by simpa using hvs⟩;rw [hf];exact items_stop _ _
  | false =>
   obtain ⟨l,ok,hl,hl1,hl2⟩:=ih (valV a false).2.2.2.1 (acc ++ [rdv (valV a false)]) (by omega) (by simp;omega);refine ⟨rdv (valV a false) :: l,ok,items_step acc a (by omega) (by omega) ?_,by simp;omega,by simpa using ⟨hvs,hl2⟩⟩;rw [hf];exact hl.eq (by simp)
theorem items_none : ∀ (m : Nat) (a : ByteArray) (acc : List IVal),a.size≤m→itS m a=none→acc.length+a.size≤1048576 → ∃ l ok,Eve (fun k=>Fa.l0 k acc a false) (acc++l,ok)∧(ok=false ∨ ∃ v ∈ l,Bad v)∧(l.length≤a.size ∧ ∀ x ∈ l,x.f2.size≤1048576):=by
 intro m
 induction m with
 | zero =>
  intro a acc h1 h h2;simp only [itS] at h;rw [if_pos (show a.size=0 by omega)] at h;simp at h
 | succ m ih =>
  intro a acc h1 h h2;simp only [itS] at h
  by_cases hz : a.size=0
  ·
   rw [if_pos hz] at h;simp at h
  rw [if_neg hz] at h;have hlt:=val_less a false (by omega);have hvs:=val_size a false (by omega)
  cases hn : nxtV a with
  | some p =>
   obtain ⟨v,r⟩:=p;rw [hn] at h;simp only [Option.map_eq_none_iff] at h;obtain ⟨hs,hlt⟩:=nxt_some a v r hn;rw [hs] at hvs;obtain ⟨l,ok,hl,hb,hl1,hl2⟩:=ih r (acc ++ [rdv (v.f0,v.f1,v.f2,r,false)]) (by omega) h (by simp;omega);refine ⟨rdv (v.f0,v.f1,v.f2,r,false) :: l,ok,?_,?_,by simp;omega,by simpa using ⟨hvs,hl2⟩⟩
   ·
    refine items_step acc a (by omega) (by omega) ?_
    rw [hs];exact hl.eq (by simp)
   rcases hb with hb|⟨x,hx,hb⟩
   ·
    exact .inl hb
   exact .inr ⟨x,by simp [hx],hb⟩
  | none =>
   have hv:=nxt_none a hn
   cases hf : (valV a false).2.2.2.2 with
   | true =>
    refine ⟨[rdv (valV a false)],false,items_step acc a (by omega) (by omega) ?_,.inl rfl,by simp;omega,by simpa using hvs⟩;rw [hf];exact items_stop _ _
   | false =>
    rw [hf] at hv;obtain ⟨l,ok,hl,hl1,hl2⟩:=items_some_end m (valV a false).2.2.2.1 (acc ++ [rdv (valV a false)]) (by omega) (by simp;omega);refine ⟨rdv (valV a false) :: l,ok,items_step acc a (by omega) (by omega) ?_,.inr ⟨_,by simp,hv.resolve_left (by simp)⟩,by simp;omega,by simpa using ⟨hvs,hl2⟩⟩;rw [hf];exact hl.eq (by simp)
def fdS : Nat→ByteArray→Option (List IFld)
 | 0,a=>if a.size=0 then some [] else none
 | m+1,a=>if a.size=0 then some [] else if (a.size : Int)<1+bt a 0 then none else match nxtV (a.extract (1+bt a 0).toNat a.size) with
  | none=>none
  | some (v,r)=>(fdS m r).map ((⟨a.extract 1 (1+bt a 0).toNat,v⟩ : IFld) :: ·)
def toldF (acc : List IFld) (o : Option (List IFld)) : List IFld×Bool:=match o with|some l=>(acc++l,true)|none=>([],false)
theorem wb1 (a : ByteArray) : wrap64 (1+bt a 0)=1+bt a 0:=w64 (by have:=bt_range a 0;omega) (by have:=bt_range a 0;omega)
theorem fields_spec : ∀ (m : Nat) (a : ByteArray) (acc : List IFld),a.size≤m→a.size≤1048576→acc.length+a.size≤1048576→Eve (fun k=>Fn.l0 k a acc) (toldF acc (fdS m a)):=by
 intro m
 induction m with
 | zero =>
  intro a acc h1 h2 h3;refine Eve.succ ?_;simp only [Fn.l0,fdS];have hz : a.size=0:=by omega
  rw [if_pos hz];exact Eve.ite (fun h=>absurd h (by omega)) (fun _=>Eve.one.eq (by simp [toldF]))
 | succ m ih =>
  intro a acc h1 h2 h3;refine Eve.succ ?_;simp only [Fn.l0,fdS,wbt,wb1]
  by_cases hz : a.size=0
  ·
   rw [if_pos hz]
   exact Eve.ite (fun h=>absurd h (by omega)) (fun _=>Eve.one.eq (by simp [toldF]))
  rw [if_neg hz];have hb:=bt_range a 0;refine Eve.ite (fun _=>?_) (fun h=>absurd (by omega) h);refine Eve.ite (fun _=>?_) (fun h=>absurd (by omega) h);refine Eve.ite (fun h=>?_) (fun h=>?_)
  ·
   rw [if_pos h];exact Eve.one
  rw [if_neg h];refine Eve.ite (fun _=>?_) (fun h=>absurd (by omega) h);refine Eve.ite (fun _=>?_) (fun h=>absurd (by omega) h);refine Eve.ite (fun _=>?_) (fun h=>absurd (by omega) h);have ht:=tail_size a (1+bt a 0).toNat;refine Eve.bind (next_tells _ (by omega)) ?_
  cases hn : nxtV (a.extract (1+bt a 0).toNat a.size) with
  | none=>simp only [told,Bool.false_eq_true,if_false];exact Eve.one
  | some p =>
   obtain ⟨v,r⟩:=p;have hs:=nxt_some _ v r hn;simp only [told,if_true];refine Eve.ite (fun _=>?_) (fun h=>absurd (by omega) h);refine (ih r (acc ++ [⟨a.extract 1 (1+bt a 0).toNat,⟨v.f0,v.f1,v.f2⟩⟩]) (by omega) (by omega) (by simp;omega)).eq ?_
   cases fdS m r with
   | none=>rfl
   | some l=>simp [toldF]
def fdV (a : ByteArray) : ByteArray×Rd :=
 let q:=numV a false 1
 let t:=takV q.2.1 q.2.2 q.1.toNat
 (t.1,valV t.2.1 t.2.2)
def fdv (x : ByteArray×Rd) : IFld:=⟨x.1,rdv x.2⟩
theorem fields_stop (acc : List IFld) (a : ByteArray) : Eve (fun k=>F4.l0 k acc a true) (acc,false):=by
 have hj : Eve (fun k=>F4.j1 k acc false a true) (acc,false):=Eve.succ (by simp only [F4.j1,Bool.false_eq_true,if_false,Bool.not_true];exact Eve.one);refine Eve.succ ?_;simp only [F4.l0,Bool.not_true];exact Eve.ite (fun _=>hj) (fun _=>hj)
theorem fields_end (acc : List IFld) (a : ByteArray) (h : a.size=0) : Eve (fun k=>F4.l0 k acc a false) (acc,true):=by
 refine Eve.succ ?_;simp only [F4.l0];refine Eve.ite (fun _=>Eve.succ ?_) (fun h2=>absurd ((emp a).2 h) h2);simp only [F4.j1,Bool.false_eq_true,if_false,Bool.not_false];exact Eve.one
theorem fields_step (acc : List IFld) (a : ByteArray) (h : 0<a.size) (hl : acc.length≤1048576) {x : List IFld×Bool}
  (hx : Eve (fun k=>F4.l0 k (acc ++ [fdv (fdV a)]) (fdV a).2.2.2.2.1 (fdV a).2.2.2.2.2) x) : Eve (fun k=>F4.l0 k acc a false) x:=by
 refine Eve.succ ?_;simp only [F4.l0,Bool.not_false];refine Eve.ite (fun h2=>absurd ((emp a).1 h2) (by omega)) (fun _=>Eve.succ ?_);simp only [F4.j1,if_true];refine Eve.bind (num_tells a false 1 (by omega)) ?_
 have hb : 0≤(numV a false 1).1∧(numV a false 1).1≤65535:=by
  rw [num_one a false h];have:=bt_range a 0;simp only;omega
 have ht:=take_tells (numV a false 1).2.1 (numV a false 1).2.2 (numV a false 1).1.toNat (by omega);rw [show (((numV a false 1).1.toNat : Nat) : Int)=(numV a false 1).1 from Int.toNat_of_nonneg hb.1] at ht;simp only [ht,Option.bind_some];refine Eve.bind (value_tells _ _) ?_;exact Eve.ite (fun _=>hx) (fun h2=>absurd (by omega) h2)
theorem fdV_less (a : ByteArray) (h : 0<a.size) : (fdV a).2.2.2.2.1.size<a.size:=by
 unfold fdV;rw [num_one a false h];simp only;have h1:=tail_size a 1;have h2:=(tak_mono (a.extract 1 a.size) false (bt a 0).toNat).1;have h3:=(val_mono (takV (a.extract 1 a.size) false (bt a 0).toNat).2.1 (takV (a.extract 1 a.size) false (bt a 0).toNat).2.2).1;have h4:=(num_mono (takV (a.extract 1 a.size) false (bt a 0).toNat).2.1 (takV (a.extract 1 a.size) false (bt a 0).toNat).2.2 1).1
 omega
theorem fdV_ok (a : ByteArray) (h : 0<a.size) (h2 : ¬ (a.size : Int)<1+bt a 0) : fdV a=(a.extract 1 (1+bt a 0).toNat,valV (a.extract (1+bt a 0).toNat a.size) false):=by
 unfold fdV;rw [num_one a false h];simp only;have hb:=bt_range a 0;have ht:=tail_size a 1;have e : (1+bt a 0).toNat=1+(bt a 0).toNat:=by omega
 unfold takV;rw [if_neg (by omega),e];simp only;rw [ext_ext _ _ _ _ (by omega),ext_tail _ _ _ (by omega)]
theorem fdV_bad (a : ByteArray) (h : 0<a.size) (h2 : (a.size : Int)<1+bt a 0) : (fdV a).2.2.2.2.2=true:=by
 unfold fdV;rw [num_one a false h];simp only;have hb:=bt_range a 0;have ht:=tail_size a 1;refine (val_mono _ _).2 ?_;unfold takV;rw [if_pos (by omega)]
theorem fields_some : ∀ (m : Nat) (a : ByteArray) (acc l : List IFld),fdS m a=some l→acc.length+a.size≤1048576→Eve (fun k=>F4.l0 k acc a false) (acc++l,true):=by
 intro m
 induction m with
 | zero =>
  intro a acc l h h2;simp only [fdS] at h
  by_cases hz : a.size=0
  ·
   rw [if_pos hz] at h
   obtain rfl : []=l:=by simpa using h
   exact (fields_end acc a hz).eq (by simp)
  rw [if_neg hz] at h;simp at h
 | succ m ih =>
  intro a acc l h h2;simp only [fdS] at h
  by_cases hz : a.size=0
  ·
   rw [if_pos hz] at h
   obtain rfl : []=l:=by simpa using h
   exact (fields_end acc a hz).eq (by simp)
  rw [if_neg hz] at h
  by_cases hy : (a.size : Int)<1+bt a 0
  ·
   rw [if_pos hy] at h;simp at h
  rw [if_neg hy] at h
  cases hn : nxtV (a.extract (1+bt a 0).toNat a.size) with
  | none=>rw [hn] at h;simp at h
  | some p =>
   obtain ⟨v,r⟩:=p;rw [hn] at h;simp only [Option.map_eq_some_iff] at h;obtain ⟨l',h',rfl⟩:=h;obtain ⟨hs,hlt⟩:=nxt_some _ v r hn;have ht:=tail_size a (1+bt a 0).toNat;have hb:=bt_range a 0;refine fields_step acc a (by omega) (by omega) ?_;rw [fdV_ok a (by omega) hy,hs];refine (ih r (acc ++ [fdv (a.extract 1 (1+bt a 0).toNat,(v.f0,v.f1,v.f2,r,false))]) l' h' (by simp;omega)).eq ?_;simp [fdv,rdv]
theorem fdV_size (a : ByteArray) (h : 0<a.size) (h2 : a.size≤1048576) : (fdv (fdV a)).f0.size≤1048576∧(fdv (fdV a)).f1.f2.size≤1048576:=by
 unfold fdV fdv;rw [num_one a false h];have hb:=bt_range a 0;have ht:=tail_size a 1;have hm:=(tak_mono (a.extract 1 a.size) false (bt a 0).toNat).1;exact ⟨tak_size (a.extract 1 a.size) false (bt a 0).toNat (by omega) (by omega),val_size (takV (a.extract 1 a.size) false (bt a 0).toNat).2.1 (takV (a.extract 1 a.size) false (bt a 0).toNat).2.2 (by omega)⟩
theorem fields_some_end : ∀ (m : Nat) (a : ByteArray) (acc : List IFld),a.size≤m→acc.length+a.size≤1048576 → ∃ l ok,Eve (fun k=>F4.l0 k acc a false) (acc++l,ok)∧(l.length≤a.size ∧ ∀ x ∈ l,x.f0.size≤1048576∧x.f1.f2.size≤1048576):=by
 intro m
 induction m with
 | zero=>intro a acc h1 h2;exact ⟨[],true,(fields_end acc a (by omega)).eq (by simp),by simp,by simp⟩
 | succ m ih =>
  intro a acc h1 h2
  by_cases hz : a.size=0
  ·
   exact ⟨[],true,(fields_end acc a hz).eq (by simp),by simp,by simp⟩
  have hlt:=fdV_less a (by omega);have hvs:=fdV_size a (by omega) (by omega)
  cases hf : (fdV a).2.2.2.2.2 with
  | true =>
   refine ⟨[fdv (fdV a)],false,fields_step acc a (by omega) (by omega) ?_,by simp;omega,by simpa using hvs⟩;rw [hf];exact fields_stop _ _
  | false =>
   obtain ⟨l,ok,hl,hl1,hl2⟩:=ih (fdV a).2.2.2.2.1 (acc ++ [fdv (fdV a)]) (by omega) (by simp;omega);refine ⟨fdv (fdV a) :: l,ok,fields_step acc a (by omega) (by omega) ?_,by simp;omega,by simpa using ⟨hvs,hl2⟩⟩;rw [hf];exact hl.eq (by simp)
theorem fields_none : ∀ (m : Nat) (a : ByteArray) (acc : List IFld),a.size≤m→fdS m a=none→acc.length+a.size≤1048576 → ∃ l ok,Eve (fun k=>F4.l0 k acc a false) (acc++l,ok)∧(ok=false ∨ ∃ v ∈ l,Bad v.f1)∧(l.length≤a.size ∧ ∀ x ∈ l,x.f0.size≤1048576∧x.f1.f2.size≤1048576):=by
 intro m
 induction m with
 | zero =>
  intro a acc h1 h h2;simp only [fdS] at h;rw [if_pos (show a.size=0 by omega)] at h;simp at h
 | succ m ih =>
  intro a acc h1 h h2;simp only [fdS] at h
  by_cases hz : a.size=0
  ·
   rw [if_pos hz] at h;simp at h
  rw [if_neg hz] at h;have hlt:=fdV_less a (by omega);have hvs:=fdV_size a (by omega) (by omega)
  by_cases hy : (a.size : Int)<1+bt a 0
  ·
   refine ⟨[fdv (fdV a)],false,fields_step acc a (by omega) (by omega) ?_,.inl rfl,by simp;omega,by simpa using hvs⟩
   rw [fdV_bad a (by omega) hy];exact fields_stop _ _
  rw [if_neg hy] at h;have ht:=tail_size a (1+bt a 0).toNat;have hb0:=bt_range a 0;have hok:=fdV_ok a (by omega) hy
  cases hn : nxtV (a.extract (1+bt a 0).toNat a.size) with
  | some p =>
   obtain ⟨v,r⟩:=p;rw [hn] at h;simp only [Option.map_eq_none_iff] at h;obtain ⟨hs,hlt⟩:=nxt_some _ v r hn;rw [hok,hs] at hvs;obtain ⟨l,ok,hl,hb,hl1,hl2⟩:=ih r (acc ++ [fdv (a.extract 1 (1+bt a 0).toNat,(v.f0,v.f1,v.f2,r,false))]) (by omega) h (by simp;omega);refine ⟨fdv (a.extract 1 (1+bt a 0).toNat,(v.f0,v.f1,v.f2,r,false)) :: l,ok,?_,?_,by simp;omega,by simpa using ⟨hvs,hl2⟩⟩
   ·
    refine fields_step acc a (by omega) (by omega) ?_
    rw [hok,hs];exact hl.eq (by simp)
   rcases hb with hb|⟨x,hx,hb⟩
   ·
    exact .inl hb
   exact .inr ⟨x,by simp [hx],hb⟩
  | none =>
   have hv:=nxt_none _ hn
   cases hf : (fdV a).2.2.2.2.2 with
   | true =>
    refine ⟨[fdv (fdV a)],false,fields_step acc a (by omega) (by omega) ?_,.inl rfl,by simp;omega,by simpa using hvs⟩;rw [hf];exact fields_stop _ _
   | false =>
    obtain ⟨l,ok,hl,hl1,hl2⟩:=fields_some_end m (fdV a).2.2.2.2.1 (acc ++ [fdv (fdV a)]) (by omega) (by simp;omega);refine ⟨fdv (fdV a) :: l,ok,fields_step acc a (by omega) (by omega) ?_,.inr ⟨fdv (fdV a),by simp,?_⟩,by simp;omega,by simpa using ⟨hvs,hl2⟩⟩
    ·
     rw [hf]
     exact hl.eq (by simp)
    have e1 : (fdV a).2=valV (a.extract (1+bt a 0).toNat a.size) false:=by rw [hok]
    have e2 : (fdv (fdV a)).f1=rdv (fdV a).2:=rfl;rw [e2,e1];rw [e1] at hf;rcases hv with hv|hv
    ·
     rw [hf] at hv;cases hv
    exact hv
def isL (c : Int) : Bool:=(decide (97≤c) && decide (c≤122)) || (decide (65≤c) && decide (c≤90)) || (c == 95)
def isD (c : Int) : Bool:=decide (48≤c) && decide (c≤57)
theorem specL (c : Int) : F0x.f c=some (isL c):=by
 unfold F0x.f isL
 split <;> split <;> (try split) <;> (try split) <;> simp <;> omega
theorem implL (c : Int) : F0z.f c=some (isL c):=by
 unfold F0z.f isL
 split <;> split <;> (try split) <;> (try split) <;> simp <;> omega
theorem specD (c : Int) : F10.f c=some (isD c):=by
 unfold F10.f isD
 split <;> simp <;> omega
theorem implD (c : Int) : F0y.f c=some (isD c):=by
 unfold F0y.f isD
 split <;> simp <;> omega
def wgo (first : Bool) : List Int→Bool
 | []=>true
 | c :: cs=>(isL c || (isD c && !first)) && wgo false cs
def word (s : ByteArray) : Bool:=wgo true (bytesOf s) && (decide (1≤(s.size : Int)) && decide ((s.size : Int)≤40))
theorem word_spec (s : ByteArray) (hs : s.size≤1048576) : Eve (fun k=>Fg.f k s) (word s):=by
 have hn : (bytesOf s).length=s.size:=bytesOf_length s;have hj : Eve (fun k=>Fg.j0 k s true) false:=Eve.succ (by simp only [Fg.j0,if_true];exact Eve.one);simp only [Fg.f];refine Eve.ite (fun h=>hj.eq ?_) (fun h=>?_)
 ·
  have : decide (1≤(s.size : Int))=false:=by simp;omega
  simp [word,this]
 refine Eve.ite (fun h2=>hj.eq ?_) (fun h2=>?_)
 ·
  have : decide ((s.size : Int)≤40)=false:=by simp;omega
  simp [word,this]
 refine Eve.ite (fun _=>?_) (fun h=>absurd (by omega) h)
 have hw : word s=wgo true (bytesOf s):=by
  have a1 : decide (1≤(s.size : Int))=true:=by simp;omega
  have a2 : decide ((s.size : Int)≤40)=true:=by simp;omega
  simp [word,a1,a2]
 have hb:=bt_get s 0 (by omega);simp only [show ((0 : Nat) : Int)=0 from rfl] at hb;have hc : bytesOf s=bt s 0 :: (bytesOf s).drop 1:=by rw [hb];exact drop_at (bytesOf s) 0 (by omega)
 simp only [specL,Option.bind_some]
 cases hl : isL (bt s 0) with
 | false =>
  refine hj.eq ?_;rw [hw,hc];simp [wgo,hl]
 | true =>
  refine Eve.succ ?_;simp only [Fg.j0,Bool.not_true,Bool.false_eq_true,if_false]
  have:=ev_loop (bytesOf s) (fun k (_ : Unit) i=>Fg.l0 k s i) (fun _ _ r=>wgo false r) (fun i _=>1≤i) (fun _ _=>by
   simp only [Fg.l0]
   exact Eve.ite (fun h=>absurd h (by omega)) (fun _=>Eve.one)) (fun i hi _ hI ih=>by
   have hnx:=ih () (by omega);simp only [Fg.l0,specL,specD,Option.bind_some,wi (show i≤9223372036854775806 by omega),bt_get s i hi];refine Eve.ite (fun _=>?_) (fun h=>absurd (by omega) h);refine Eve.ite (fun _=>?_) (fun h=>absurd (by omega) h);refine Eve.ite (fun h1=>hnx.eq (by simp [wgo,h1])) (fun h1=>?_)
   exact Eve.ite (fun h2=>hnx.eq (by simp [wgo,h2])) (fun h2=>Eve.one.eq (by simp [wgo,h1,h2]))) ((bytesOf s).length - 1) 1 () (by omega) (by omega)
  refine this.eq ?_;rw [hw]
  conv=>rhs;rw [hc]
  simp [wgo,hl]
theorem word_impl (s : ByteArray) (hs : s.size≤1048576) : Eve (fun k=>Fx.f k s) (word s):=by
 have hn : (bytesOf s).length=s.size:=bytesOf_length s;simp only [Fx.f];refine ev_loop0 (bytesOf s) (fun k (_ : Unit) i=>Fx.l0 k s (s.size : Int) i) (fun i _ r=>wgo (decide (i=0)) r && (decide (1≤(s.size : Int)) && decide ((s.size : Int)≤40))) (fun _ _=>True) (fun _ _=>?_) (fun i hi _ _ ih=>?_) () trivial
 ·
  simp only [Fx.l0]
  refine Eve.ite (fun h=>absurd h (by omega)) (fun _=>Eve.all fun k=>?_);unfold F0j.f
  by_cases h : 1≤(s.size : Int)
  ·
   rw [if_pos h];simp [wgo,h]
  rw [if_neg h];simp [wgo,h]
 have hnx:=ih () trivial;simp only [Nat.add_one_ne_zero,decide_false] at hnx;simp only [Fx.l0,implL,implD,Option.bind_some,wi (show i≤9223372036854775806 by omega),bt_get s i hi];refine Eve.ite (fun _=>?_) (fun h=>absurd (by omega) h);refine Eve.ite (fun _=>?_) (fun h=>absurd (by omega) h);refine Eve.ite (fun _=>?_) (fun h=>absurd (by omega) h);refine Eve.ite (fun h1=>hnx.eq (by simp [wgo,h1])) (fun h1=>?_);refine Eve.ite (fun h2=>?_) (fun h2=>Eve.one.eq (by simp [wgo,h1,h2]));refine Eve.ite (fun h3=>Eve.one.eq ?_) (fun h3=>hnx.eq ?_)
 ·
  obtain rfl : i=0:=by omega
  simp [wgo,h1]
 have : ¬ i=0:=by omega
 simp [wgo,h2,this]
def nam (s : ByteArray) : Bool:=word s && decide ((s.size : Int)≤12)
theorem nam_spec (s : ByteArray) (hs : s.size≤1048576) : Eve (fun k=>F0k.f k s) (nam s):=by
 simp only [F0k.f,F0v.f];refine Eve.bind (v:=word s) (Eve.bind (word_spec s hs) Eve.one) ?_;refine Eve.ite (fun h=>Eve.one.eq (by simp [nam,h])) (fun h=>Eve.one.eq (by simp [nam,h]))
theorem nam_impl (s : ByteArray) (hs : s.size≤1048576) : Eve (fun k=>F0g.f k s) (nam s):=by
 simp only [F0g.f];refine Eve.ite (fun h=>(Eve.bind (word_impl s hs) Eve.one).eq (by simp [nam,h])) (fun h=>Eve.one.eq (by simp [nam,h]))
def nms : Option ByteArray→List IFld→Bool
 | _,[]=>true
 | p,f :: fs=>nam f.f0 && ((match p with|none=>true|some q=>Op.bytesLess q.toList f.f0.toList) && nms (some f.f0) fs)
def inr (a b c : Int) : Bool:=decide (b≤a) && decide (a≤c)
theorem in_spec (a b c : Int) : F00.f a b c=some (inr a b c):=by
 unfold F00.f inr
 by_cases h : b≤a
 ·
  rw [if_pos h];simp [h]
 rw [if_neg h];simp [h]
theorem in_impl (a b c : Int) : F0j.f a b c=some (inr a b c):=in_spec a b c
abbrev emB (a : ByteArray) : Bool:=a.toList == ([] : List UInt8)
def flat (v : IVal) : Bool :=
 if v.f0=0 then decide (v.f1=0) && emB v.f2
 else if v.f0=1 then inr v.f1 0 1 && emB v.f2
 else if v.f0=2 then inr v.f1 (-1000000000000) 1000000000000 && emB v.f2
 else if v.f0=3 then decide (v.f1=0) && decide ((v.f2.size : Int)≤300)
 else false
def rightV : Nat→IVal→Bool
 | 0,v=>flat v
 | d+1,v =>
  if v.f0=4 then decide (v.f1=0) && (decide ((v.f2.size : Int)≤300) && (match itS v.f2.size v.f2 with|some l=>l.all (rightV d)|none=>false))
  else if v.f0=5 then decide (v.f1=0) && (decide ((v.f2.size : Int)≤300) && (match fdS v.f2.size v.f2 with|some l=>nms none l && l.all (fun f=>rightV d f.f1)|none=>false))
  else flat v
theorem bad_right (v : IVal) (h : Bad v) : ∀ d,rightV d v=false:=by
 have hf : flat v=false:=by
  unfold flat;rcases h with h|h|⟨h,h2⟩
  ·
   rw [if_neg (by omega),if_neg (by omega),if_neg (by omega),if_neg (by omega)]
  ·
   rw [if_neg (by omega),if_neg (by omega),if_neg (by omega),if_neg (by omega)]
  rw [if_neg (by omega),if_neg (by omega),if_pos h];have : inr v.f1 (-1000000000000) 1000000000000=false:=by unfold inr;simp;omega
  rw [this];rfl
 intro d
 cases d with
 | zero=>exact hf
 | succ d =>
  unfold rightV;rcases h with h|h|⟨h,h2⟩
  ·
   rw [if_neg (by omega),if_neg (by omega)];exact hf
  ·
   rw [if_neg (by omega),if_neg (by omega)];exact hf
  rw [if_neg (by omega),if_neg (by omega)];exact hf
theorem rdV (l : List IVal) (i : Nat) (h : i<l.length) : rd_T24 l (i : Int)=l[i]:=getD_at _ l i h
theorem rdF (l : List IFld) (i : Nat) (h : i<l.length) : rd_T68 l (i : Int)=l[i]:=getD_at _ l i h
theorem its_size : ∀ (m : Nat) (a : ByteArray) (l : List IVal),itS m a=some l→a.size≤1048576→l.length≤a.size ∧ ∀ x ∈ l,x.f2.size≤1048576:=by
 intro m
 induction m with
 | zero =>
  intro a l h h2;simp only [itS] at h
  by_cases hz : a.size=0
  ·
   rw [if_pos hz] at h
   obtain rfl : []=l:=by simpa using h
   simp
  rw [if_neg hz] at h;simp at h
 | succ m ih =>
  intro a l h h2;simp only [itS] at h
  by_cases hz : a.size=0
  ·
   rw [if_pos hz] at h
   obtain rfl : []=l:=by simpa using h
   simp
  rw [if_neg hz] at h
  cases hn : nxtV a with
  | none=>rw [hn] at h;simp at h
  | some p =>
   obtain ⟨v,r⟩:=p;rw [hn] at h;simp only [Option.map_eq_some_iff] at h;obtain ⟨l',h',rfl⟩:=h;obtain ⟨hs,hlt⟩:=nxt_some a v r hn;have hv:=val_size a false h2;rw [hs] at hv;obtain ⟨i1,i2⟩:=ih r l' h' (by omega);refine ⟨by simp;omega,fun x hx=>?_⟩;rcases List.mem_cons.1 hx with rfl|hx
   ·
    exact hv
   exact i2 x hx
theorem fds_size : ∀ (m : Nat) (a : ByteArray) (l : List IFld),fdS m a=some l→a.size≤1048576→l.length≤a.size ∧ ∀ x ∈ l,x.f0.size≤1048576∧x.f1.f2.size≤1048576:=by
 intro m
 induction m with
 | zero =>
  intro a l h h2;simp only [fdS] at h
  by_cases hz : a.size=0
  ·
   rw [if_pos hz] at h
   obtain rfl : []=l:=by simpa using h
   simp
  rw [if_neg hz] at h;simp at h
 | succ m ih =>
  intro a l h h2;simp only [fdS] at h
  by_cases hz : a.size=0
  ·
   rw [if_pos hz] at h
   obtain rfl : []=l:=by simpa using h
   simp
  rw [if_neg hz] at h
  by_cases hy : (a.size : Int)<1+bt a 0
  ·
   rw [if_pos hy] at h;simp at h
  rw [if_neg hy] at h;have ht:=tail_size a (1+bt a 0).toNat;have hb:=bt_range a 0
  cases hn : nxtV (a.extract (1+bt a 0).toNat a.size) with
  | none=>rw [hn] at h;simp at h
  | some p =>
   obtain ⟨v,r⟩:=p;rw [hn] at h;simp only [Option.map_eq_some_iff] at h;obtain ⟨l',h',rfl⟩:=h;obtain ⟨hs,hlt⟩:=nxt_some _ v r hn;have hv:=val_size (a.extract (1+bt a 0).toNat a.size) false (by omega);rw [hs] at hv;obtain ⟨i1,i2⟩:=ih r l' h' (by omega);refine ⟨by simp;omega,fun x hx=>?_⟩;rcases List.mem_cons.1 hx with rfl|hx
   ·
    exact ⟨by simp only [ByteArray.size_extract];omega,hv⟩
   exact i2 x hx
theorem dn (d : Nat) (h : d≤1000) : wrap64 (((d+1 : Nat) : Int) - 1)=(d : Int):=by rw [w64 (by omega) (by omega)];omega
theorem spec_flat (v : IVal) (e : Int) (h4 : v.f0≠4) (h5 : v.f0≠5) : Eve (fun k=>F0.f k v.f0 v.f1 v.f2 e) (flat v):=by
 refine Eve.succ ?_;simp only [F0.f,in_spec,Option.bind_some];unfold flat;refine Eve.ite (fun h=>?_) (fun h=>?_)
 ·
  rw [if_pos h]
  exact Eve.ite (fun h=>Eve.one.eq (by simp [h])) (fun h=>Eve.one.eq (by simp [h]))
 rw [if_neg h];refine Eve.ite (fun h=>?_) (fun h=>?_)
 ·
  rw [if_pos h]
  exact Eve.ite (fun h=>Eve.one.eq (by simp [h])) (fun h=>Eve.one.eq (by simp [h]))
 rw [if_neg h];refine Eve.ite (fun h=>?_) (fun h=>?_)
 ·
  rw [if_pos h]
  exact Eve.ite (fun h=>Eve.one.eq (by simp [h])) (fun h=>Eve.one.eq (by simp [h]))
 rw [if_neg h];refine Eve.ite (fun h=>?_) (fun h=>?_)
 ·
  rw [if_pos h]
  exact Eve.ite (fun h=>Eve.one.eq (by simp [h])) (fun h=>Eve.one.eq (by simp [h]))
 rw [if_neg h];refine Eve.ite (fun h=>absurd h h4) (fun _=>?_);exact Eve.ite (fun h=>absurd h h5) (fun _=>Eve.one)
theorem impl_flat (v : IVal) (e : Int) (h4 : v.f0≠4) (h5 : v.f0≠5) : Eve (fun k=>Fb.f k v.f0 v.f1 v.f2 e) (flat v):=by
 refine Eve.succ ?_;simp only [Fb.f,F13.f,in_impl,Option.bind_some];unfold flat;refine Eve.ite (fun h=>?_) (fun h=>?_)
 ·
  rw [if_pos h]
  exact Eve.one.eq (by rw [h];by_cases h1 : v.f1=0 <;> simp [h1])
 rw [if_neg h];refine Eve.ite (fun h=>?_) (fun h=>?_)
 ·
  rw [if_pos h]
  exact Eve.ite (fun h=>Eve.one.eq (by simp [h])) (fun h=>Eve.one.eq (by simp [h]))
 rw [if_neg h];refine Eve.ite (fun h=>?_) (fun h=>?_)
 ·
  rw [if_pos h]
  exact Eve.ite (fun h=>Eve.one.eq (by simp [h])) (fun h=>Eve.one.eq (by simp [h]))
 rw [if_neg h];refine Eve.ite (fun h=>?_) (fun h=>?_)
 ·
  rw [if_pos h]
  exact Eve.ite (fun h=>Eve.one.eq (by simp [h])) (fun h=>Eve.one.eq (by simp [h]))
 rw [if_neg h];refine Eve.ite (fun h=>absurd h h4) (fun _=>?_);have : (v.f0 == 5)=false:=by simpa using h5
 simp only [this];refine Eve.succ ?_;simp only [Fb.j0,Bool.false_eq_true,if_false];exact Eve.one
theorem spec_j0_true (e : Int) (l : List IVal) : Eve (fun k=>F0.j0 k e l true) false:=Eve.succ (by simp only [F0.j0,if_true];exact Eve.one)
theorem spec_j2_true (e : Int) (l : List IFld) : Eve (fun k=>F0.j2 k e l true) false:=Eve.succ (by simp only [F0.j2,if_true];exact Eve.one)
theorem right_spec : ∀ (d : Nat) (v : IVal),d≤1000→v.f2.size≤1048576→Eve (fun k=>F0.f k v.f0 v.f1 v.f2 (d : Int)) (rightV d v):=by
 intro d
 induction d with
 | zero =>
  intro v hd hs
  by_cases h4 : v.f0=4
  ·
   have hf : flat v=false:=by unfold flat;rw [if_neg (by omega),if_neg (by omega),if_neg (by omega),if_neg (by omega)]
   show Eve _ (flat v);rw [hf];refine Eve.succ ?_;simp only [F0.f,h4];simp only [show ¬ (4 : Int)=0 by omega,show ¬ (4 : Int)=1 by omega,show ¬ (4 : Int)=2 by omega,show ¬ (4 : Int)=3 by omega,if_false,if_true];simp only [Fo.f];refine Eve.bind (items_spec _ v.f2 [] (Nat.le_refl _) hs (by simp;omega)) ?_;have hj:=spec_j0_true ((0 : Nat) : Int) (toldL [] (itS v.f2.size v.f2)).1;refine Eve.ite (fun _=>?_) (fun _=>hj);refine Eve.ite (fun _=>?_) (fun _=>hj);exact Eve.ite (fun _=>hj) (fun _=>hj)
  by_cases h5 : v.f0=5
  ·
   have hf : flat v=false:=by unfold flat;rw [if_neg (by omega),if_neg (by omega),if_neg (by omega),if_neg (by omega)]
   show Eve _ (flat v);rw [hf];refine Eve.succ ?_;simp only [F0.f,h5];simp only [show ¬ (5 : Int)=0 by omega,show ¬ (5 : Int)=1 by omega,show ¬ (5 : Int)=2 by omega,show ¬ (5 : Int)=3 by omega,show ¬ (5 : Int)=4 by omega,if_false,if_true];simp only [Fn.f];refine Eve.bind (fields_spec _ v.f2 [] (Nat.le_refl _) hs (by simp;omega)) ?_;have hj:=spec_j2_true ((0 : Nat) : Int) (toldF [] (fdS v.f2.size v.f2)).1;refine Eve.ite (fun _=>?_) (fun _=>hj);refine Eve.ite (fun _=>?_) (fun _=>hj);exact Eve.ite (fun _=>hj) (fun _=>hj)
  exact spec_flat v _ h4 h5
 | succ d ih =>
  intro v hd hs;have he : (((d+1 : Nat) : Int) == 0)=false:=by simp;omega
  by_cases h4 : v.f0=4
  ·
   unfold rightV
   rw [if_pos h4];refine Eve.succ ?_;simp only [F0.f,h4];simp only [show ¬ (4 : Int)=0 by omega,show ¬ (4 : Int)=1 by omega,show ¬ (4 : Int)=2 by omega,show ¬ (4 : Int)=3 by omega,if_false,if_true];simp only [Fo.f];refine Eve.bind (items_spec _ v.f2 [] (Nat.le_refl _) hs (by simp;omega)) ?_;have hj:=spec_j0_true ((d+1 : Nat) : Int) (toldL [] (itS v.f2.size v.f2)).1;refine Eve.ite (fun h1=>?_) (fun h1=>hj.eq (by simp [h1]))
   cases hi : itS v.f2.size v.f2 with
   | none =>
    rw [hi] at hj;simp only [toldL,Bool.false_eq_true,if_false];exact hj.eq (by simp)
   | some l =>
    rw [hi] at hj;simp only [toldL,if_true,List.nil_append] at hj ⊢;refine Eve.ite (fun h2=>hj.eq ?_) (fun h2=>?_)
    ·
     have : decide ((v.f2.size : Int)≤300)=false:=by simp;omega
     simp [this]
    obtain ⟨hl1,hl2⟩:=its_size _ _ l hi hs;have hsz : decide ((v.f2.size : Int)≤300)=true:=by simp;omega
    simp only [he];refine Eve.succ ?_;simp only [F0.j0,Bool.false_eq_true,if_false]
    have:=ev_loop0 l (fun k (_ : Unit) i=>F0.l0 k ((d+1 : Nat) : Int) l i) (fun _ _ r=>r.all (rightV d)) (fun _ _=>True) (fun _ _=>by
     simp only [F0.l0]
     exact Eve.ite (fun h=>absurd h (by omega)) (fun _=>Eve.one)) (fun i hi _ _ ih2=>by
     simp only [F0.l0];refine Eve.ite (fun _=>?_) (fun h=>absurd (by omega) h);refine Eve.ite (fun _=>?_) (fun h=>absurd (by omega) h);simp only [rdV l i hi,dn d (by omega),wi (show i≤9223372036854775806 by omega)];refine Eve.bind (ih l[i] (by omega) (hl2 _ (List.getElem_mem hi))) ?_
     exact Eve.ite (fun h=>(ih2 () trivial).eq (by rw [List.all_cons,h,Bool.true_and])) (fun h=>Eve.one.eq (by rw [List.all_cons,Bool.eq_false_iff.mpr h,Bool.false_and]))) () trivial
    exact this.eq (by simp [h1,hsz])
  by_cases h5 : v.f0=5
  ·
   unfold rightV
   rw [if_neg h4,if_pos h5];refine Eve.succ ?_;simp only [F0.f,h5];simp only [show ¬ (5 : Int)=0 by omega,show ¬ (5 : Int)=1 by omega,show ¬ (5 : Int)=2 by omega,show ¬ (5 : Int)=3 by omega,show ¬ (5 : Int)=4 by omega,if_false,if_true];simp only [Fn.f];refine Eve.bind (fields_spec _ v.f2 [] (Nat.le_refl _) hs (by simp;omega)) ?_;have hj:=spec_j2_true ((d+1 : Nat) : Int) (toldF [] (fdS v.f2.size v.f2)).1;refine Eve.ite (fun h1=>?_) (fun h1=>hj.eq (by simp [h1]))
   cases hi : fdS v.f2.size v.f2 with
   | none =>
    rw [hi] at hj;simp only [toldF,Bool.false_eq_true,if_false];exact hj.eq (by simp)
   | some l =>
    rw [hi] at hj;simp only [toldF,if_true,List.nil_append] at hj ⊢;refine Eve.ite (fun h2=>hj.eq ?_) (fun h2=>?_)
    ·
     have : decide ((v.f2.size : Int)≤300)=false:=by simp;omega
     simp [this]
    obtain ⟨hl1,hl2⟩:=fds_size _ _ l hi hs;have hsz : decide ((v.f2.size : Int)≤300)=true:=by simp;omega
    simp only [he];refine Eve.succ ?_;simp only [F0.j2,Bool.false_eq_true,if_false]
    have:=ev_loop0 l (fun k (_ : Unit) i=>F0.l1 k ((d+1 : Nat) : Int) l i) (fun i _ r=>nms (if i=0 then none else some (l.getD (i - 1) z68).f0) r && r.all (fun f=>rightV d f.f1)) (fun _ _=>True) (fun _ _=>by
     simp only [F0.l1]
     exact Eve.ite (fun h=>absurd h (by omega)) (fun _=>Eve.one.eq (by simp [nms]))) (fun i hi _ _ ih2=>by
     have hnx:=ih2 () trivial;simp only [Nat.add_one_ne_zero,if_false,Nat.add_sub_cancel,List.getD_eq_getElem?_getD,List.getElem?_eq_getElem hi,Option.getD_some] at hnx;simp only [F0.l1];refine Eve.ite (fun _=>?_) (fun h=>absurd (by omega) h);refine Eve.ite (fun _=>?_) (fun h=>absurd (by omega) h);have hm:=hl2 _ (List.getElem_mem hi);simp only [rdF l i hi,dn d (by omega),wi (show i≤9223372036854775806 by omega)];refine Eve.bind (nam_spec _ hm.1) ?_;refine Eve.ite (fun hn=>?_) (fun hn=>Eve.one.eq (by simp [nms,hn]));refine Eve.ite (fun h3=>?_) (fun h3=>?_)
     ·
      have hw : wrap64 ((i : Int) - 1)=((i - 1 : Nat) : Int):=by rw [w64 (by omega) (by omega)];omega
      simp only [hw];refine Eve.ite (fun _=>?_) (fun h=>absurd (by omega) h);refine Eve.ite (fun _=>?_) (fun h=>absurd (by omega) h);rw [if_neg (by omega),List.getD_eq_getElem?_getD,List.getElem?_eq_getElem (show i - 1<l.length by omega),Option.getD_some];simp only [rdF l (i - 1) (show i - 1<l.length by omega)];refine Eve.ite (fun h6=>?_) (fun h6=>Eve.one.eq (by simp [nms,h6]));refine Eve.bind (ih l[i].f1 (by omega) hm.2) ?_;exact Eve.ite (fun h=>hnx.eq (by simp only [nms,hn,h6,List.all_cons,h,Bool.true_and])) (fun h=>Eve.one.eq (by rw [List.all_cons,Bool.eq_false_iff.mpr h,Bool.false_and,Bool.and_false]))
     obtain rfl : i=0:=by omega
     rw [if_pos rfl];refine Eve.bind (ih l[0].f1 (by omega) hm.2) ?_
     exact Eve.ite (fun h=>hnx.eq (by simp [nms,hn,h])) (fun h=>Eve.one.eq (by simp [h]))) () trivial
    rw [if_pos rfl] at this;exact this.eq (by simp [h1,hsz])
  unfold rightV;rw [if_neg h4,if_neg h5];exact spec_flat v _ h4 h5
theorem pow_pos' (n : Nat) : (1 : Int)≤256 ^ n:=by
 induction n with
 | zero=>decide
 | succ n ih=>rw [Int.pow_succ];omega
theorem stp_plain (x b : Int) (n : Nat) (h0 : 0≤x) (hb : 0≤b∧b≤255) (h : (x+1)*256 ^ (n+1)≤9223372036854775808) : stp x b=x*256+b∧(x*256+b+1)*256 ^ n≤9223372036854775808:=by
 have hp:=pow_pos' n;have h2 : (x*256+b+1)*256 ^ n≤(x+1)*256*256 ^ n:=Int.mul_le_mul_of_nonneg_right (by omega) (by omega);have h3 : (x+1)*256*256 ^ n=(x+1)*256 ^ (n+1):=by rw [Int.pow_succ,Int.mul_assoc,Int.mul_comm 256]
 have h4 : (x*256+b+1)*1≤(x*256+b+1)*256 ^ n:=Int.mul_le_mul_of_nonneg_left hp (by omega);refine ⟨?_,by omega⟩;unfold stp;rw [w64m,w64m,w64m]
 omega
theorem fold_range : ∀ (n : Nat) (l : List Int) (x : Int),l.length=n→(∀ b ∈ l,0≤b∧b≤255)→0≤x→(x+1)*256 ^ n≤9223372036854775808→0≤l.foldl stp x∧l.foldl stp x<9223372036854775808:=by
 intro n
 induction n with
 | zero =>
  intro l x hl _ hx h;rw [List.length_eq_zero_iff.1 hl];simp only [Int.pow_zero] at h;exact ⟨hx,by show x<_;omega⟩
 | succ n ih =>
  intro l x hl bl hx h;obtain ⟨b,l,rfl⟩:=List.exists_cons_of_length_eq_add_one hl;have hb:=bl b (by simp);obtain ⟨e1,s1⟩:=stp_plain x b n hx hb h;rw [List.foldl_cons,e1];exact ih l _ (by simpa using hl) (fun z hz=>bl z (by simp [hz])) (by omega) s1
theorem fold_inj : ∀ (n : Nat) (l m : List Int) (x y : Int),l.length=n→m.length=n→(∀ b ∈ l,0≤b∧b≤255)→(∀ b ∈ m,0≤b∧b≤255)→0≤x→0≤y→(x+1)*256 ^ n≤9223372036854775808→(y+1)*256 ^ n≤9223372036854775808 →
  l.foldl stp x=m.foldl stp y→x=y∧l=m:=by
 intro n
 induction n with
 | zero =>
  intro l m x y hl hm _ _ _ _ _ _ h;rw [List.length_eq_zero_iff.1 hl,List.length_eq_zero_iff.1 hm] at *;exact ⟨h,rfl⟩
 | succ n ih =>
  intro l m x y hl hm bl bm hx hy sx sy h;obtain ⟨b,l,rfl⟩:=List.exists_cons_of_length_eq_add_one hl;obtain ⟨c,m,rfl⟩:=List.exists_cons_of_length_eq_add_one hm;have hb:=bl b (by simp);have hc:=bm c (by simp);obtain ⟨e1,s1⟩:=stp_plain x b n hx hb sx;obtain ⟨e2,s2⟩:=stp_plain y c n hy hc sy;rw [List.foldl_cons,List.foldl_cons,e1,e2] at h;obtain ⟨e,e'⟩:=ih l m _ _ (by simpa using hl) (by simpa using hm) (fun z hz=>bl z (by simp [hz])) (fun z hz=>bm z (by simp [hz])) (by omega) (by omega) s1 s2 h;have e3 : x=y:=by omega
  exact ⟨e3,by rw [e',show b=c by omega]⟩
theorem bytes_cut (a : ByteArray) (i j : Nat) : bytesOf (a.extract i j)=((bytesOf a).drop i).take (j - i):=by
 unfold bytesOf;rw [ByteArray.data_extract,Array.toList_extract,List.map_take,List.map_drop] <;> rfl
theorem bytes_inj {a b : ByteArray} (h : bytesOf a=bytesOf b) : a=b:=by
 have h2 : a.data.toList=b.data.toList:=by
  refine (List.map_inj_right (fun x y hxy=>?_)).1 h;exact UInt8.toNat_inj.1 (by exact_mod_cast hxy)
 cases a;cases b
 simp only [ByteArray.mk.injEq];exact Array.toList_inj.1 h2
theorem bytes_split (a : ByteArray) (i j k : Nat) (h : i≤j) (h2 : j≤k) : bytesOf (a.extract i k)=bytesOf (a.extract i j)++bytesOf (a.extract j k):=by
 rw [bytes_cut,bytes_cut,bytes_cut];obtain ⟨d,rfl⟩ : ∃ d,j=i+d:=⟨j - i,by omega⟩;obtain ⟨e,rfl⟩ : ∃ e,k=i+d+e:=⟨k - (i+d),by omega⟩;rw [show i+d+e - i=d+e by omega,show i+d - i=d by omega,show i+d+e - (i+d)=e by omega,List.take_add,List.drop_drop]
theorem bytes_one (a : ByteArray) (i : Nat) (h : i<a.size) : bytesOf (a.extract i (i+1))=[bt a (i : Int)]:=by
 have hn:=bytesOf_length a;rw [bytes_cut,drop_at _ i (by omega),bt_get a i (by omega),show i+1 - i=1 by omega,List.take_succ_cons,List.take_zero]
theorem bytes_all (a : ByteArray) : bytesOf (a.extract 0 a.size)=bytesOf a:=by
 rw [bytes_cut];have hn:=bytesOf_length a;simp [← hn]
theorem glue (a b : ByteArray) (n : Nat) (ha : n≤a.size) (hb : n≤b.size) (h : bytesOf (a.extract 0 n)=bytesOf (b.extract 0 n)) (h2 : a.extract n a.size=b.extract n b.size) : a=b:=by
 apply bytes_inj;rw [← bytes_all a,← bytes_all b,bytes_split a 0 n a.size (by omega) ha,bytes_split b 0 n b.size (by omega) hb,h,h2]
theorem bt0 (a : ByteArray) (h : 0<a.size) : bytesOf (a.extract 0 1)=[bt a 0]:=bytes_one a 0 h
theorem bt1 (a : ByteArray) (h : 1<a.size) : bytesOf (a.extract 1 2)=[bt a 1]:=bytes_one a 1 h
theorem nxt_cases (a : ByteArray) (v : IVal) (r : ByteArray) (h : nxtV a=some (v,r)) : ∃ n,n≤a.size∧0<n∧r=a.extract n a.size∧v.f0=bt a 0 ∧
  ((v.f0=0∧n=1)∨(v.f0=1∧n=2∧v.f1=bt a 1)∨(v.f0=2∧n=9∧bt a 1≤127∧v.f1=wrap64 (bigV (bytesOf (a.extract 1 9)) - 4611686018427387904)) ∨
   (3≤v.f0∧v.f0≤5∧n=3+v.f2.size∧bigV (bytesOf (a.extract 1 3))=v.f2.size∧v.f2=a.extract 3 n)):=by
 unfold nxtV at h
 by_cases hs : a.size=0
 ·
  rw [if_pos hs] at h;cases h
 rw [if_neg hs] at h
 by_cases h0 : bt a 0=0
 ·
  rw [if_pos h0,Option.some.injEq,Prod.mk.injEq] at h
  obtain ⟨rfl,rfl⟩:=h;exact ⟨1,by omega,by omega,rfl,h0.symm,.inl ⟨rfl,rfl⟩⟩
 rw [if_neg h0] at h
 by_cases h1 : bt a 0=1
 ·
  rw [if_pos h1] at h
  by_cases h2 : a.size<2
  ·
   rw [if_pos h2] at h;cases h
  rw [if_neg h2,Option.some.injEq,Prod.mk.injEq] at h;obtain ⟨rfl,rfl⟩:=h;exact ⟨2,by omega,by omega,rfl,h1.symm,.inr (.inl ⟨rfl,rfl,rfl⟩)⟩
 rw [if_neg h1] at h
 by_cases h2 : bt a 0=2
 ·
  rw [if_pos h2] at h
  by_cases h3 : a.size<9
  ·
   rw [if_pos h3] at h;cases h
  rw [if_neg h3] at h
  by_cases h4 : bt a 1 > 127
  ·
   rw [if_pos h4] at h;cases h
  rw [if_neg h4,Option.some.injEq,Prod.mk.injEq] at h;obtain ⟨rfl,rfl⟩:=h;exact ⟨9,by omega,by omega,rfl,h2.symm,.inr (.inr (.inl ⟨rfl,rfl,by omega,rfl⟩))⟩
 rw [if_neg h2] at h
 by_cases h3 : bt a 0=3∨bt a 0=4∨bt a 0=5
 ·
  rw [if_pos h3] at h
  by_cases h4 : a.size<3
  ·
   rw [if_pos h4] at h;cases h
  rw [if_neg h4] at h
  by_cases h5 : (a.size : Int)<3+bigV (bytesOf (a.extract 1 3))
  ·
   rw [if_pos h5] at h;cases h
  rw [if_neg h5,Option.some.injEq,Prod.mk.injEq] at h;obtain ⟨rfl,rfl⟩:=h;have hb : 0≤bigV (bytesOf (a.extract 1 3)):=(bytes_ext2 a 1 (by omega)).1
  have hz : (a.extract 3 (3+bigV (bytesOf (a.extract 1 3))).toNat).size=(bigV (bytesOf (a.extract 1 3))).toNat:=by
   rw [ByteArray.size_extract];omega
  refine ⟨(3+bigV (bytesOf (a.extract 1 3))).toNat,by omega,by omega,rfl,rfl,.inr (.inr (.inr ⟨?_,?_,?_,?_,rfl⟩))⟩
  ·
   show 3≤bt a 0;omega
  ·
   show bt a 0≤5;omega
  ·
   show _=3+(a.extract 3 (3+bigV (bytesOf (a.extract 1 3))).toNat).size
   rw [hz];omega
  show _=(((a.extract 3 (3+bigV (bytesOf (a.extract 1 3))).toNat).size : Nat) : Int);rw [hz];omega
 rw [if_neg h3] at h;cases h
theorem stp_zero (b : Int) (h : 0≤b∧b≤255) : stp 0 b=0*256+b:=by
 unfold stp;rw [w64m,w64m,w64m]
 omega
theorem ext_bytes (a : ByteArray) (i j : Nat) (h : j≤a.size) : (bytesOf (a.extract i j)).length=j - i:=by
 rw [bytesOf_length,ByteArray.size_extract];omega
theorem nxt_inj (a b : ByteArray) (v : IVal) (r : ByteArray) (ha : nxtV a=some (v,r)) (hb : nxtV b=some (v,r)) : a=b:=by
 obtain ⟨n,hn,hp,hr,h0,hc⟩:=nxt_cases a v r ha;obtain ⟨m,hm,hq,hr2,k0,kc⟩:=nxt_cases b v r hb;have e0 : bytesOf (a.extract 0 1)=bytesOf (b.extract 0 1):=by rw [bt0 a (by omega),bt0 b (by omega),← h0,← k0]
 have key : n=m∧bytesOf (a.extract 1 n)=bytesOf (b.extract 1 n):=by
  rcases hc with ⟨c,rfl⟩|⟨c,rfl,c1⟩|⟨c,rfl,c1,c2⟩|⟨c,c5,c1,c2,c3⟩
  ·
   rcases kc with ⟨d,rfl⟩|⟨d,_⟩|⟨d,_⟩|⟨d,_⟩
   ·
    refine ⟨rfl,?_⟩
    rw [List.length_eq_zero_iff.1 (ext_bytes a 1 1 (by omega)),List.length_eq_zero_iff.1 (ext_bytes b 1 1 (by omega))]
   all_goals exact absurd d (by omega)
  ·
   rcases kc with ⟨d,_⟩|⟨d,rfl,d1⟩|⟨d,_⟩|⟨d,_⟩
   ·
    exact absurd d (by omega)
   ·
    exact ⟨rfl,by rw [bt1 a (by omega),bt1 b (by omega),← c1,← d1]⟩
   all_goals exact absurd d (by omega)
  ·
   rcases kc with ⟨d,_⟩|⟨d,_⟩|⟨d,rfl,d1,d2⟩|⟨d,_⟩
   ·
    exact absurd d (by omega)
   ·
    exact absurd d (by omega)
   ·
    refine ⟨rfl,?_⟩
    have sa:=bytes_split a 1 2 9 (by omega) (by omega);have sb:=bytes_split b 1 2 9 (by omega) (by omega);rw [bt1 a (by omega)] at sa;rw [bt1 b (by omega)] at sb;have la : (bytesOf (a.extract 2 9)).length=7:=ext_bytes a 2 9 hn;have lb : (bytesOf (b.extract 2 9)).length=7:=ext_bytes b 2 9 hm;have ra:=bt_range a 1;have rb:=bt_range b 1;have p7 : (256 : Int) ^ 7=72057594037927936:=by decide
    have ga : bigV (bytesOf (a.extract 1 9))=(bytesOf (a.extract 2 9)).foldl stp (0*256+bt a 1):=by rw [sa,← stp_zero _ ra];rfl
    have gb : bigV (bytesOf (b.extract 1 9))=(bytesOf (b.extract 2 9)).foldl stp (0*256+bt b 1):=by rw [sb,← stp_zero _ rb];rfl
    have ia:=fold_range 7 _ (0*256+bt a 1) la (bytes_in _) (by omega) (by rw [p7];omega);have ib:=fold_range 7 _ (0*256+bt b 1) lb (bytes_in _) (by omega) (by rw [p7];omega);have he:=c2.symm.trans d2;rw [ga,gb,w64m,w64m] at he;obtain ⟨x1,x2⟩:=fold_inj 7 _ _ _ _ la lb (bytes_in _) (bytes_in _) (by omega) (by omega) (by rw [p7];omega) (by rw [p7];omega) (show (bytesOf (a.extract 2 9)).foldl stp (0*256+bt a 1)=(bytesOf (b.extract 2 9)).foldl stp (0*256+bt b 1) by omega);rw [sa,sb,x2,show bt a 1=bt b 1 by omega]
   exact absurd d (by omega)
  rcases kc with ⟨d,_⟩|⟨d,_⟩|⟨d,_⟩|⟨d,d5,d1,d2,d3⟩
  ·
   exact absurd d (by omega)
  ·
   exact absurd d (by omega)
  ·
   exact absurd d (by omega)
  obtain rfl : n=m:=by omega
  refine ⟨rfl,?_⟩;rw [bytes_split a 1 3 n (by omega) (by omega),bytes_split b 1 3 n (by omega) (by omega),← c3,← d3]
  congr 1
  have la : (bytesOf (a.extract 1 3)).length=2:=ext_bytes a 1 3 (by omega);have lb : (bytesOf (b.extract 1 3)).length=2:=ext_bytes b 1 3 (by omega);exact (fold_inj 2 _ _ 0 0 la lb (bytes_in _) (bytes_in _) (by omega) (by omega) (by decide) (by decide) (c2.trans d2.symm)).2
 obtain ⟨rfl,e1⟩:=key;refine glue a b n hn hm ?_ (hr.symm.trans hr2);rw [bytes_split a 0 1 n (by omega) (by omega),bytes_split b 0 1 n (by omega) (by omega),e0,e1]
theorem its_nil {m : Nat} {a : ByteArray} (h : itS m a=some []) : a.size=0:=by
 cases m with
 | zero =>
  unfold itS at h
  by_cases hs : a.size=0
  ·
   exact hs
  rw [if_neg hs] at h;cases h
 | succ m =>
  unfold itS at h
  by_cases hs : a.size=0
  ·
   exact hs
  rw [if_neg hs] at h
  cases hn : nxtV a with
  | none=>rw [hn] at h;cases h
  | some p=>obtain ⟨v,r⟩:=p;rw [hn] at h;simp at h
theorem its_cons {m : Nat} {a : ByteArray} {v : IVal} {l : List IVal} (h : itS m a=some (v :: l)) : ∃ k r,nxtV a=some (v,r)∧itS k r=some l:=by
 cases m with
 | zero =>
  unfold itS at h
  by_cases hs : a.size=0
  ·
   rw [if_pos hs] at h;cases h
  rw [if_neg hs] at h;cases h
 | succ m =>
  unfold itS at h
  by_cases hs : a.size=0
  ·
   rw [if_pos hs] at h;cases h
  rw [if_neg hs] at h
  cases hn : nxtV a with
  | none=>rw [hn] at h;cases h
  | some p =>
   obtain ⟨w,r⟩:=p;rw [hn] at h;simp only [Option.map_eq_some_iff,List.cons.injEq] at h;obtain ⟨l2,h2,rfl,rfl⟩:=h;exact ⟨m,r,rfl,h2⟩
theorem its_inj : ∀ (l : List IVal) (m k : Nat) (a b : ByteArray),itS m a=some l→itS k b=some l→a=b:=by
 intro l
 induction l with
 | nil =>
  intro m k a b ha hb;have h1:=its_nil ha;have h2:=its_nil hb;exact ba_ext (by rw [(emp a).2 h1,(emp b).2 h2])
 | cons v l ih =>
  intro m k a b ha hb;obtain ⟨m2,r,n1,i1⟩:=its_cons ha;obtain ⟨k2,s,n2,i2⟩:=its_cons hb;obtain rfl:=ih _ _ _ _ i1 i2;exact nxt_inj a b v r n1 n2
theorem fds_nil {m : Nat} {a : ByteArray} (h : fdS m a=some []) : a.size=0:=by
 cases m with
 | zero =>
  unfold fdS at h
  by_cases hs : a.size=0
  ·
   exact hs
  rw [if_neg hs] at h;cases h
 | succ m =>
  unfold fdS at h
  by_cases hs : a.size=0
  ·
   exact hs
  rw [if_neg hs] at h
  by_cases h1 : (a.size : Int)<1+bt a 0
  ·
   rw [if_pos h1] at h;cases h
  rw [if_neg h1] at h
  cases hn : nxtV (a.extract (1+bt a 0).toNat a.size) with
  | none=>rw [hn] at h;cases h
  | some p=>obtain ⟨v,r⟩:=p;rw [hn] at h;simp at h
theorem fds_cons {m : Nat} {a : ByteArray} {v : IFld} {l : List IFld} (h : fdS m a=some (v :: l)) : ∃ k r,0<a.size∧1+bt a 0≤a.size∧v.f0=a.extract 1 (1+bt a 0).toNat∧nxtV (a.extract (1+bt a 0).toNat a.size)=some (v.f1,r)∧fdS k r=some l:=by
 cases m with
 | zero =>
  unfold fdS at h
  by_cases hs : a.size=0
  ·
   rw [if_pos hs] at h;cases h
  rw [if_neg hs] at h;cases h
 | succ m =>
  unfold fdS at h
  by_cases hs : a.size=0
  ·
   rw [if_pos hs] at h;cases h
  rw [if_neg hs] at h
  by_cases h1 : (a.size : Int)<1+bt a 0
  ·
   rw [if_pos h1] at h;cases h
  rw [if_neg h1] at h
  cases hn : nxtV (a.extract (1+bt a 0).toNat a.size) with
  | none=>rw [hn] at h;cases h
  | some p =>
   obtain ⟨w,r⟩:=p;rw [hn] at h;simp only [Option.map_eq_some_iff,List.cons.injEq] at h;obtain ⟨l2,h2,rfl,rfl⟩:=h;exact ⟨m,r,by omega,by omega,rfl,rfl,h2⟩
theorem fds_inj : ∀ (l : List IFld) (m k : Nat) (a b : ByteArray),fdS m a=some l→fdS k b=some l→a=b:=by
 intro l
 induction l with
 | nil =>
  intro m k a b ha hb;have h1:=fds_nil ha;have h2:=fds_nil hb;exact ba_ext (by rw [(emp a).2 h1,(emp b).2 h2])
 | cons v l ih =>
  intro m k a b ha hb;obtain ⟨m2,r,p1,q1,f1,n1,i1⟩:=fds_cons ha;obtain ⟨k2,s,p2,q2,f2,n2,i2⟩:=fds_cons hb;obtain rfl:=ih _ _ _ _ i1 i2;have hx:=nxt_inj _ _ _ _ n1 n2;have ra:=bt_range a 0;have rb:=bt_range b 0;have sa : (v.f0.size : Int)=bt a 0:=by rw [f1,ByteArray.size_extract];omega
  have sb : (v.f0.size : Int)=bt b 0:=by rw [f2,ByteArray.size_extract];omega
  have e : bt b 0=bt a 0:=by omega
  rw [e] at f2 hx;refine glue a b (1+bt a 0).toNat (by omega) (by omega) ?_ hx;rw [bytes_split a 0 1 _ (by omega) (by omega),bytes_split b 0 1 _ (by omega) (by omega),bt0 a p1,bt0 b p2,e,← f1,← f2]
theorem str_app (a b : List Int) : strOfNums (a++b)=strOfNums a++strOfNums b:=by
 apply ba_ext;rw [ba_toList,ba_toList,ByteArray.data_append,Array.toList_append,strOfNums_data,strOfNums_data,strOfNums_data,List.map_append]
theorem str_bytes (s : ByteArray) : strOfNums (bytesOf s)=s:=by
 apply ba_ext;rw [ba_toList,ba_toList,strOfNums_data,bytesOf,List.map_map]
 conv=>rhs;rw [← List.map_id s.data.toList]
 refine List.map_congr_left (fun b _=>?_);show UInt8.ofNat ((b.toNat : Int)).toNat=b;rw [Int.toNat_natCast];exact UInt8.ofNat_toNat
theorem bytes_str (l : List Int) (h : ∀ b ∈ l,0≤b∧b≤255) : bytesOf (strOfNums l)=l:=by
 rw [bytesOf,strOfNums_data,List.map_map]
 conv=>rhs;rw [← List.map_id l]
 refine List.map_congr_left (fun b hb=>?_);have:=h b hb;show (((UInt8.ofNat b.toNat).toNat : Nat) : Int)=b;rw [UInt8.toNat_ofNat']
 omega
abbrev Byts (l : List Int) : Prop:=∀ b ∈ l,0≤b∧b≤255
theorem bt_of (l : List Int) (hl : Byts l) (i : Nat) (h : i<l.length) : bt (strOfNums l) (i : Int)=l[i]:=by
 have hz:=bytes_str l hl;have:=bt_get (strOfNums l) i (by rw [hz];exact h);simp only [hz] at this;exact this
theorem ext_of (l : List Int) (hl : Byts l) (i j : Nat) : (strOfNums l).extract i j=strOfNums ((l.drop i).take (j - i)):=by
 apply bytes_inj;rw [bytes_cut,bytes_str l hl,bytes_str _ (fun b hb=>hl b (List.mem_of_mem_drop (List.mem_of_mem_take hb)))]
theorem tail_of (l : List Int) (hl : Byts l) (i : Nat) : (strOfNums l).extract i (strOfNums l).size=strOfNums (l.drop i):=by
 rw [ext_of l hl,strOfNums_size,List.take_of_length_le (by simp)]
theorem right_four {d : Nat} {v : IVal} (h : rightV d v=true) (h4 : v.f0=4) : ∃ e l,d=e+1∧itS v.f2.size v.f2=some l∧l.all (rightV e)=true:=by
 cases d with
 | zero =>
  have : flat v=true:=h;unfold flat at this;rw [if_neg (by omega),if_neg (by omega),if_neg (by omega),if_neg (by omega)] at this
  cases this
 | succ e =>
  unfold rightV at h;rw [if_pos h4] at h
  cases hi : itS v.f2.size v.f2 with
  | none=>rw [hi] at h;simp at h
  | some l =>
   rw [hi] at h;simp only [Bool.and_eq_true] at h;exact ⟨e,l,rfl,rfl,h.2.2⟩
theorem right_five {d : Nat} {v : IVal} (h : rightV d v=true) (h5 : v.f0=5) : ∃ e l,d=e+1∧fdS v.f2.size v.f2=some l∧nms none l=true∧l.all (fun f=>rightV e f.f1)=true:=by
 have h4 : ¬ v.f0=4:=by omega
 cases d with
 | zero =>
  have : flat v=true:=h;unfold flat at this;rw [if_neg (by omega),if_neg (by omega),if_neg (by omega),if_neg (by omega)] at this
  cases this
 | succ e =>
  unfold rightV at h;rw [if_neg h4,if_pos h5] at h
  cases hi : fdS v.f2.size v.f2 with
  | none=>rw [hi] at h;simp at h
  | some l =>
   rw [hi] at h;simp only [Bool.and_eq_true] at h;exact ⟨e,l,rfl,rfl,h.2.2.1,h.2.2.2⟩
theorem filled {α : Type} (ys : List α) (n : Nat) (c : Nat→α) (h1 : ys.length=n) (h2 : ∀ j,j<n→ys[j]? = some (c j)) : ys=(List.range n).map c:=by
 apply List.ext_getElem?
 intro j
 by_cases hj : j<n
 ·
  rw [h2 j hj];simp [hj]
 rw [List.getElem?_eq_none (by omega),List.getElem?_eq_none (by simp;omega)]
theorem fill_next {α : Type} (ys : List α) (i : Nat) (c : Nat→α) (h1 : i<ys.length) (h2 : ∀ j,j<i→ys[j]? = some (c j)) : ∀ j,j<i+1→(ys.set i (c i))[j]? = some (c j):=by
 intro j hj
 by_cases h : j=i
 ·
  subst h;simp [h1]
 rw [List.getElem?_set_ne (by omega)];exact h2 j (by omega)
def Shape (v : IVal) : Prop :=
 (v.f0=0∧v.f1=0∧v.f2=eB)∨(v.f0=1∧(0≤v.f1∧v.f1≤1)∧v.f2=eB)∨(v.f0=2∧(-1000000000000≤v.f1∧v.f1≤1000000000000)∧v.f2=eB)∨((3≤v.f0∧v.f0≤5)∧v.f1=0∧v.f2.size≤300)
theorem em_is {a : ByteArray} (h : emB a=true) : a=eB:=ba_ext (by rw [show a.toList=([] : List UInt8) from eq_of_beq h,ba_toList])
theorem flat_shape {v : IVal} (h : flat v=true) : Shape v:=by
 unfold flat at h;unfold Shape
 by_cases q0 : v.f0=0
 ·
  rw [if_pos q0,Bool.and_eq_true,decide_eq_true_eq] at h
  exact .inl ⟨q0,h.1,em_is h.2⟩
 rw [if_neg q0] at h
 by_cases q1 : v.f0=1
 ·
  rw [if_pos q1,Bool.and_eq_true] at h
  have h1:=h.1;unfold inr at h1;rw [Bool.and_eq_true,decide_eq_true_eq,decide_eq_true_eq] at h1;exact .inr (.inl ⟨q1,h1,em_is h.2⟩)
 rw [if_neg q1] at h
 by_cases q2 : v.f0=2
 ·
  rw [if_pos q2,Bool.and_eq_true] at h
  have h1:=h.1;unfold inr at h1;rw [Bool.and_eq_true,decide_eq_true_eq,decide_eq_true_eq] at h1;exact .inr (.inr (.inl ⟨q2,h1,em_is h.2⟩))
 rw [if_neg q2] at h
 by_cases q3 : v.f0=3
 ·
  rw [if_pos q3,Bool.and_eq_true,decide_eq_true_eq,decide_eq_true_eq] at h
  exact .inr (.inr (.inr ⟨by omega,h.1,by omega⟩))
 rw [if_neg q3] at h;cases h
theorem right_shape : ∀ (d : Nat) (v : IVal),rightV d v=true→Shape v:=by
 intro d v h
 cases d with
 | zero=>exact flat_shape h
 | succ d =>
  unfold rightV at h
  by_cases h4 : v.f0=4
  ·
   rw [if_pos h4,Bool.and_eq_true,Bool.and_eq_true,decide_eq_true_eq,decide_eq_true_eq] at h
   exact .inr (.inr (.inr ⟨by omega,h.1,by omega⟩))
  rw [if_neg h4] at h
  by_cases h5 : v.f0=5
  ·
   rw [if_pos h5,Bool.and_eq_true,Bool.and_eq_true,decide_eq_true_eq,decide_eq_true_eq] at h
   exact .inr (.inr (.inr ⟨by omega,h.1,by omega⟩))
  rw [if_neg h5] at h;exact flat_shape h
def dig (x : Int) : Nat→List Int
 | 0 => []
 | m+1=>(shr .i64 x (8*(m : Int)) % 256) :: dig x m
theorem dig_in (x : Int) : ∀ m,∀ b ∈ dig x m,0≤b∧b≤255
 | 0=>fun b hb=>by simp [dig] at hb
 | m+1=>fun b hb=>by
  rcases List.mem_cons.1 hb with rfl|hb
  ·
   omega
  exact dig_in x m b hb
theorem dig_length (x : Int) : ∀ m,(dig x m).length=m
 | 0=>rfl
 | m+1=>by rw [dig,List.length_cons,dig_length x m]
theorem pow_eight (m : Nat) : (2 : Int) ^ (8*(m+1))=2 ^ (8*m)*256:=by
 rw [show 8*(m+1)=8*m+1+1+1+1+1+1+1+1 by omega];simp only [Int.pow_succ,Int.mul_assoc]
 rfl
theorem pow_at (m : Nat) : (0 : Int)<2 ^ (8*m):=by
 induction m with
 | zero=>decide
 | succ m ih=>rw [pow_eight];omega
theorem shr_at (x : Int) (m : Nat) (h : m≤8) : shr .i64 x (8*(m : Int))=x / 2 ^ (8*m):=by
 unfold shr;have e1 : (8*(m : Int)).toNat=8*m:=by omega
 have e2 : min (8*m) (IntKind.bits .i64)=8*m:=Nat.min_eq_left (by show 8*m≤64;omega);rw [e1,e2]
theorem shr_zero (x : Int) : shr .i64 x (8*((0 : Nat) : Int))=x:=by rw [shr_at x 0 (by omega)];simp
theorem u64_at (m : Nat) (h : m≤8) : IntKind.u64.wrap (wrap64 (8*(m : Int)))=8*(m : Int):=by
 rw [w64 (by omega) (by omega)];rw [show IntKind.u64.wrap (8*(m : Int))=(8*(m : Int)) % 18446744073709551616 from rfl]
 omega
theorem number_loop (x : Int) : ∀ (m : Nat) (acc : List Int),m≤8→acc.length+m≤100→Eve (fun k=>F8.l0 k x acc ((m : Int) - 1)) (strOfNums (acc++dig x m)):=by
 intro m
 induction m with
 | zero =>
  intro acc _ _;refine Eve.succ ?_;simp only [F8.l0];exact Eve.ite (fun h=>absurd h (by omega)) (fun _=>Eve.one.eq (by simp [dig]))
 | succ m ih =>
  intro acc h1 h2;refine Eve.succ ?_;simp only [F8.l0,show ((m+1 : Nat) : Int) - 1=(m : Int) by omega,u64_at m (by omega),w64 (show -9223372036854775808≤(m : Int) - 1 by omega) (by omega)];refine Eve.ite (fun _=>?_) (fun h=>absurd (by omega) h);refine Eve.ite (fun _=>?_) (fun h=>absurd (by omega) h);refine Eve.ite (fun _=>?_) (fun h=>absurd (by omega) h);exact (ih _ (by omega) (by simp;omega)).eq (by simp [dig])
theorem number_tells (x : Int) (n : Nat) (h : n≤8) : Eve (fun k=>F8.f k x (n : Int)) (strOfNums (dig x n)):=by
 simp only [F8.f,w64 (show -9223372036854775808≤(n : Int) - 1 by omega) (by omega)];exact (number_loop x n [] h (by simp;omega)).eq (by simp)
def dig8 (x : Int) (i : Nat) : Int:=shr .i64 x (56 - 8*(i : Int)) % 256
theorem eight_tells (x : Int) : Eve (fun k=>Fy.f k x) (dig x 8):=by
 simp only [Fy.f];refine Eve.ite (fun _=>?_) (fun h=>absurd (by decide) h);have hl : (List.replicate 8 (0 : Int)).length=8:=by simp
 have he : (List.range 8).map (dig8 x)=dig x 8:=rfl;refine ev_loop0 (List.replicate 8 (0 : Int)) (fun k (s : List Int) i=>Fy.l0 k x s i) (fun _ _ _=>dig x 8) (fun i s=>s.length=8 ∧ ∀ j,j<i→s[j]? = some (dig8 x j)) (fun s hs=>?_) (fun i hi s hs ih=>?_) (List.replicate 8 0) ⟨hl,by intro j hj;omega⟩
 ·
  simp only [Fy.l0]
  refine Eve.ite (fun h=>absurd h (by omega)) (fun _=>Eve.one.eq ?_);rw [← he];exact filled s 8 _ hs.1 (fun j hj=>hs.2 j (by omega))
 obtain ⟨h1,h2⟩:=hs;have hi8 : i<8:=by omega
 have e1 : wrap64 (8*(i : Int))=8*(i : Int):=w64 (by omega) (by omega);have e2 : wrap64 (56 - 8*(i : Int))=56 - 8*(i : Int):=w64 (by omega) (by omega);simp only [Fy.l0,e1,e2,Int.toNat_natCast,wi (show i≤9223372036854775806 by omega)];refine Eve.ite (fun _=>?_) (fun h=>absurd (by omega) h);refine Eve.ite (fun _=>?_) (fun h=>absurd (by omega) h);refine Eve.ite (fun _=>?_) (fun h=>absurd (by omega) h);refine Eve.ite (fun _=>?_) (fun h=>absurd (by omega) h);exact ih (s.set i (dig8 x i)) ⟨by simpa using h1,fill_next s i (dig8 x) (by omega) h2⟩
theorem ival_ext {a b : IVal} (h0 : a.f0=b.f0) (h1 : a.f1=b.f1) (h2 : a.f2=b.f2) : a=b:=by cases a;cases b;simp_all
def encB (v : IVal) : List Int :=
 if v.f0=0 then [0] else if v.f0=1 then [1,v.f1] else if v.f0=2 then 2 :: dig (v.f1+4611686018427387904) 8
 else v.f0 :: ((v.f2.size : Int) / 256 % 256) :: ((v.f2.size : Int) % 256) :: bytesOf v.f2
theorem enc_length {v : IVal} (h : Shape v) : 1≤(encB v).length∧(encB v).length≤303:=by
 unfold encB;rcases h with ⟨h,_⟩|⟨h,h1,_⟩|⟨h,_⟩|⟨h,_,hz⟩
 ·
  rw [if_pos h];simp
 ·
  rw [if_neg (by omega),if_pos h];simp
 ·
  rw [if_neg (by omega),if_neg (by omega),if_pos h];simp [dig_length]
 rw [if_neg (by omega),if_neg (by omega),if_neg (by omega)];simp only [List.length_cons,bytesOf_length];omega
theorem enc_tells {v : IVal} (h : Shape v) : Eve (fun k=>F0c.f k v.f0 v.f1 v.f2) (strOfNums (encB v)):=by
 have n1 : ∀ x : Int,0≤x→x≤255→dig x 1=[x]:=by
  intro x h0 h1;show [shr .i64 x (8*((0 : Nat) : Int)) % 256]=[x];rw [shr_zero,show x % 256=x by omega]
 simp only [F0c.f]
 have hk : 0≤v.f0∧v.f0≤5:=by
  rcases h with ⟨h,_⟩|⟨h,_⟩|⟨h,_⟩|⟨h,_⟩ <;> omega
 have t1:=number_tells v.f0 1 (by omega);rw [n1 _ hk.1 (by omega)] at t1;refine Eve.bind t1 ?_;unfold encB;rcases h with ⟨h,_⟩|⟨h,h1,_⟩|⟨h,h1,_⟩|⟨h,_,hz⟩
 ·
  rw [if_pos h]
  simp only [h,if_true];exact Eve.one
 ·
  rw [if_neg (show ¬ v.f0=0 by omega),if_pos h]
  refine Eve.ite (fun h=>absurd h (by omega)) (fun _=>Eve.ite (fun _=>?_) (fun h2=>absurd h h2));have t2:=number_tells v.f1 1 (by omega);rw [n1 _ h1.1 (by omega)] at t2;refine Eve.bind t2 ?_;simp only [strOfNums_size,List.length_cons,List.length_nil];refine Eve.ite (fun _=>Eve.one.eq ?_) (fun h=>absurd (by omega) h);rw [← str_app,h];rfl
 ·
  rw [if_neg (show ¬ v.f0=0 by omega),if_neg (show ¬ v.f0=1 by omega),if_pos h]
  refine Eve.ite (fun h=>absurd h (by omega)) (fun _=>Eve.ite (fun h=>absurd h (by omega)) (fun _=>Eve.ite (fun _=>?_) (fun h2=>absurd h h2)));rw [show wrap64 (v.f1+4611686018427387904)=v.f1+4611686018427387904 from w64 (by omega) (by omega)];refine Eve.bind (number_tells _ 8 (by omega)) ?_;simp only [strOfNums_size,List.length_cons,List.length_nil,dig_length];refine Eve.ite (fun _=>Eve.one.eq ?_) (fun h=>absurd (by omega) h);rw [← str_app,h];rfl
 rw [if_neg (show ¬ v.f0=0 by omega),if_neg (show ¬ v.f0=1 by omega),if_neg (show ¬ v.f0=2 by omega)];refine Eve.ite (fun h=>absurd h (by omega)) (fun _=>Eve.ite (fun h=>absurd h (by omega)) (fun _=>Eve.ite (fun h=>absurd h (by omega)) (fun _=>?_)));have t2:=number_tells (v.f2.size : Int) 2 (by omega)
 have e2 : dig (v.f2.size : Int) 2=[(v.f2.size : Int) / 256 % 256,(v.f2.size : Int) % 256]:=by
  show [shr .i64 (v.f2.size : Int) (8*((1 : Nat) : Int)) % 256,shr .i64 (v.f2.size : Int) (8*((0 : Nat) : Int)) % 256]=_;rw [shr_zero,shr_at _ 1 (by omega)];rfl
 rw [e2] at t2;refine Eve.bind t2 ?_;simp only [ByteArray.size_append,strOfNums_size,List.length_cons,List.length_nil];refine Eve.ite (fun _=>Eve.ite (fun _=>Eve.one.eq ?_) (fun h=>absurd (by omega) h)) (fun h=>absurd (by omega) h);rw [← str_app]
 conv=>lhs;rw [← str_bytes v.f2]
 rw [← str_app,str_bytes];rfl
def enc3 (v : IVal) : List Int:=v.f0 :: ((v.f2.size : Int) / 256 % 256) :: ((v.f2.size : Int) % 256) :: bytesOf v.f2
def encL (l : List IVal) : List Int:=l.flatMap encB
theorem encL_cons (v : IVal) (l : List IVal) : encL (v :: l)=encB v++encL l:=List.flatMap_cons ..
theorem app_none (s : ByteArray) : s++eB=s:=ba_ext (by rw [ba_toList,ba_toList,ByteArray.data_append];simp)
theorem none_app (s : ByteArray) : eB++s=s:=ba_ext (by rw [ba_toList,ba_toList,ByteArray.data_append];simp)
theorem Eve.list {α β : Type} (g : Nat→α→Option β) (q : α→β) : ∀ l : List α,(∀ x ∈ l,Eve (fun k=>g k x) (q x)) → ∃ K,∀ k,K≤k → ∀ x ∈ l,g k x=some (q x)
 | [],_=>⟨0,fun _ _ x hx=>by simp at hx⟩
 | y :: l,h=>by
  obtain ⟨K,hK⟩:=Eve.list g q l (fun x hx=>h x (by simp [hx]));obtain ⟨K2,hK2⟩:=h y (by simp);refine ⟨max K K2,fun k hk x hx=>?_⟩;rcases List.mem_cons.1 hx with rfl|hx
  ·
   exact hK2 k (by omega)
  exact hK k (by omega) x hx
theorem cf_tells (l : List IVal) (q : IVal→Bool) (e : Int) (hl : l.length≤4194304) (h : ∀ x ∈ l,Eve (fun k=>Fb.f k x.f0 x.f1 x.f2 (wrap64 (e - 1))) (q x)) :
  Eve (fun k=>Fk.f k (Fb.f k) l e) (l.any (fun x => !q x)):=by
 obtain ⟨K,hK⟩:=Eve.list (fun k (x : IVal)=>Fb.f k x.f0 x.f1 x.f2 (wrap64 (e - 1))) q l h;refine ⟨max K (l.length+1),fun k hk=>?_⟩;have hG : ∀ x ∈ l,Fb.f k x.f0 x.f1 x.f2 (wrap64 (e - 1))=some (q x):=hK k (by omega);show Fk.f k (Fb.f k) l e=_;generalize Fb.f k=G at hG;unfold Fk.f F05.f
 have:=first_loop (fun k i=>F05.l0 G k l (l.length : Int) i e) l (fun x => !q x) (fun k i hi=>by
  have hx:=hG l[i] (List.getElem_mem hi);simp only [F05.l0];rw [if_pos (by omega),if_pos (by omega),if_pos (by omega),rdV l i hi,wi (show i≤9223372036854775806 by omega)];unfold F0u.f;rw [hx]
  rfl) (fun k=>by simp only [F05.l0];rw [if_neg (by omega)]) l.length k 0 (by omega) (by omega)
 rw [show ((0 : Nat) : Int)=0 from rfl,List.drop_zero] at this;rw [this];simp only [Option.bind_some,first_any]
theorem any_not (l : List IVal) (q : IVal→Bool) : (!(l.any (fun x => !q x)))=l.all q:=by
 induction l with
 | nil=>rfl
 | cons x l ih=>simp only [List.any_cons,List.all_cons,← ih];cases q x <;> simp
theorem inner_loop (l : List IFld) (hl : l.length≤1048576) (hn : ∀ f ∈ l,f.f0.size≤1048576) (ok : Bool) : Eve (fun k=>Fc.l0 k l ok [] l (l.length : Int) 0) (l.map (·.f1),ok && nms none l):=by
 have:=ev_loop0 l (fun k (s : Bool×List IVal) i=>Fc.l0 k l s.1 s.2 l (l.length : Int) i) (fun i s r=>(s.2++r.map (·.f1),s.1 && nms (if i=0 then none else some (l.getD (i - 1) z68).f0) r)) (fun i s=>s.2.length=i) (fun s _=>by
  simp only [Fc.l0]
  exact Eve.ite (fun h=>absurd h (by omega)) (fun _=>Eve.one.eq (by simp [nms]))) (fun i hi s hI ih=>by
  obtain ⟨b,out⟩:=s;simp only at hI;have hf:=hn l[i] (List.getElem_mem hi);have hnx:=fun b' => ih (b',out ++ [⟨l[i].f1.f0,l[i].f1.f1,l[i].f1.f2⟩]) (by simp;omega);simp only [Nat.add_one_ne_zero,if_false,Nat.add_sub_cancel,List.getD_eq_getElem?_getD,List.getElem?_eq_getElem hi,Option.getD_some] at hnx;have hout : ∀ r : List IFld,out ++ [(⟨l[i].f1.f0,l[i].f1.f1,l[i].f1.f2⟩ : IVal)]++r.map (·.f1)=out++(l[i] :: r).map (·.f1):=by intro r;simp
  simp only [Fc.l0];refine Eve.ite (fun _=>?_) (fun h=>absurd (by omega) h);refine Eve.ite (fun _=>?_) (fun h=>absurd (by omega) h);refine Eve.ite (fun _=>?_) (fun h=>absurd (by omega) h);simp only [rdF l i hi,wi (show i≤9223372036854775806 by omega)];refine Eve.ite (fun hb=>?_) (fun hb=>?_)
  ·
   refine Eve.bind (nam_impl _ hf) ?_
   refine Eve.ite (fun h1=>?_) (fun h1=>?_)
   ·
    refine Eve.ite (fun h2=>?_) (fun h2=>?_)
    ·
     obtain rfl : i=0:=by omega
     refine Eve.ite (fun _=>(hnx true).eq ?_) (fun h=>absurd (by omega) h);rw [hout,if_pos rfl];simp only [nms,h1,hb,Bool.true_and]
    have hw : wrap64 ((i : Int) - 1)=((i - 1 : Nat) : Int):=by rw [w64 (by omega) (by omega)];omega
    simp only [hw];refine Eve.ite (fun _=>?_) (fun h=>absurd (by omega) h);refine Eve.ite (fun _=>?_) (fun h=>absurd (by omega) h);refine Eve.ite (fun _=>?_) (fun h=>absurd (by omega) h);have hi1 : i - 1<l.length:=by omega
    have hz : ¬ i=0:=by omega
    simp only [rdF l (i - 1) hi1];refine (hnx _).eq ?_;rw [hout,if_neg hz,List.getD_eq_getElem?_getD,List.getElem?_eq_getElem hi1,Option.getD_some];simp only [nms,h1,hb,Bool.true_and]
   refine Eve.ite (fun _=>(hnx false).eq ?_) (fun h=>absurd (by omega) h);rw [hout];simp only [nms,Bool.eq_false_iff.mpr h1,Bool.false_and,Bool.and_false]
  refine Eve.ite (fun _=>(hnx false).eq ?_) (fun h=>absurd (by omega) h);rw [hout]
  simp only [Bool.eq_false_iff.mpr hb,Bool.false_and]) (ok,[]) rfl
 exact this.eq (by simp)
theorem inner_four (v : IVal) (h4 : v.f0=4) (hs : v.f2.size≤1048576) : ∃ l ok,Eve (fun k=>Fc.f k v.f0 v.f1 v.f2) (l,ok)∧l.length≤1048576∧(∀ x ∈ l,x.f2.size≤1048576) ∧
  ((itS v.f2.size v.f2=some l∧ok=true)∨(itS v.f2.size v.f2=none∧(ok=false ∨ ∃ x ∈ l,Bad x))):=by
 simp only [Fc.f,Fa.f,if_pos h4]
 cases hi : itS v.f2.size v.f2 with
 | some l =>
  obtain ⟨h1,h2⟩:=its_size _ _ l hi hs;exact ⟨l,true,(Eve.bind (items_some _ v.f2 [] l hi (by simp;omega)) Eve.one),by omega,h2,.inl ⟨rfl,rfl⟩⟩
 | none =>
  obtain ⟨l,ok,hl,hb,h1,h2⟩:=items_none _ v.f2 [] (Nat.le_refl _) hi (by simp;omega);exact ⟨l,ok,(Eve.bind hl Eve.one),by omega,h2,.inr ⟨rfl,hb⟩⟩
theorem inner_five (v : IVal) (h5 : v.f0=5) (hs : v.f2.size≤1048576) : ∃ l ok,Eve (fun k=>Fc.f k v.f0 v.f1 v.f2) (l,ok)∧l.length≤1048576∧(∀ x ∈ l,x.f2.size≤1048576) ∧
  ((∃ fs,fdS v.f2.size v.f2=some fs∧l=fs.map (·.f1)∧ok=nms none fs)∨(fdS v.f2.size v.f2=none∧(ok=false ∨ ∃ x ∈ l,Bad x))):=by
 have h4 : ¬ v.f0=4:=by omega
 simp only [Fc.f,F4.f,if_neg h4]
 cases hi : fdS v.f2.size v.f2 with
 | some fs =>
  obtain ⟨h1,h2⟩:=fds_size _ _ fs hi hs;refine ⟨fs.map (·.f1),nms none fs,?_,by simp;omega,?_,.inl ⟨fs,rfl,rfl,rfl⟩⟩
  ·
   refine Eve.bind (fields_some _ v.f2 [] fs hi (by simp;omega)) ?_
   exact (inner_loop fs (by omega) (fun f hf=>(h2 f hf).1) true).eq (by simp)
  intro x hx;obtain ⟨f,hf,rfl⟩:=List.mem_map.1 hx;exact (h2 f hf).2
 | none =>
  obtain ⟨fs,ok,hl,hb,h1,h2⟩:=fields_none _ v.f2 [] (Nat.le_refl _) hi (by simp;omega);refine ⟨fs.map (·.f1),ok && nms none fs,?_,by simp;omega,?_,.inr ⟨rfl,?_⟩⟩
  ·
   refine Eve.bind hl ?_
   exact inner_loop fs (by omega) (fun f hf=>(h2 f hf).1) ok
  ·
   intro x hx
   obtain ⟨f,hf,rfl⟩:=List.mem_map.1 hx;exact (h2 f hf).2
  rcases hb with hb|⟨f,hf,hb⟩
  ·
   left;rw [hb];rfl
  right;exact ⟨f.f1,List.mem_map.2 ⟨f,hf,rfl⟩,hb⟩
theorem all_bad (l : List IVal) (q : IVal→Bool) (x : IVal) (hx : x ∈ l) (h : q x=false) : l.all q=false:=by
 rw [List.all_eq_false];exact ⟨x,hx,by simp [h]⟩
theorem nest_tells (v : IVal) (d : Nat) (l : List IVal) (ok : Bool) (hd : d≤1000) (h45 : v.f0=4∨v.f0=5) (hin : Eve (fun k=>Fc.f k v.f0 v.f1 v.f2) (l,ok)) (hl : l.length≤1048576)
  (hq : ∀ x ∈ l,Eve (fun k=>Fb.f k x.f0 x.f1 x.f2 (d : Int)) (rightV d x)) :
  Eve (fun k=>Fb.f k v.f0 v.f1 v.f2 ((d+1 : Nat) : Int)) (decide (v.f1=0) && (decide ((v.f2.size : Int)≤300) && (ok && l.all (rightV d)))):=by
 have hj : Eve (fun k=>Fb.j0 k true v.f0 v.f1 v.f2 ((d+1 : Nat) : Int)) (decide (v.f1=0) && (decide ((v.f2.size : Int)≤300) && (ok && l.all (rightV d)))):=by
  refine Eve.succ ?_;simp only [Fb.j0,if_true];refine Eve.bind hin ?_;refine Eve.ite (fun h1=>?_) (fun h1=>Eve.one.eq (by simp [h1]));refine Eve.ite (fun h2=>?_) (fun h2=>Eve.one.eq (by simp [h2]));refine Eve.ite (fun _=>?_) (fun h=>absurd (by omega) h);refine Eve.ite (fun h3=>?_) (fun h3=>Eve.one.eq (by rw [show ok=false from Bool.eq_false_iff.mpr h3];simp));have hc:=cf_tells l (rightV d) ((d+1 : Nat) : Int) (by omega) (fun x hx=>by rw [dn d hd];exact hq x hx);refine Eve.bind hc (Eve.one.eq ?_);rw [any_not,show ok=true from h3];simp [h1,h2]
 refine Eve.succ ?_;simp only [Fb.f];rcases h45 with h|h
 ·
  simp only [h] at hj ⊢
  simp only [show ¬ (4 : Int)=0 by omega,show ¬ (4 : Int)=1 by omega,show ¬ (4 : Int)=2 by omega,show ¬ (4 : Int)=3 by omega,if_false,if_true,beq_self_eq_true];exact hj
 simp only [h] at hj ⊢;simp only [show ¬ (5 : Int)=0 by omega,show ¬ (5 : Int)=1 by omega,show ¬ (5 : Int)=2 by omega,show ¬ (5 : Int)=3 by omega,show ¬ (5 : Int)=4 by omega,if_false,beq_self_eq_true];exact hj
theorem nest_zero (v : IVal) (l : List IVal) (ok : Bool) (h45 : v.f0=4∨v.f0=5) (hin : Eve (fun k=>Fc.f k v.f0 v.f1 v.f2) (l,ok)) : Eve (fun k=>Fb.f k v.f0 v.f1 v.f2 ((0 : Nat) : Int)) false:=by
 have hj : Eve (fun k=>Fb.j0 k true v.f0 v.f1 v.f2 ((0 : Nat) : Int)) false:=by
  refine Eve.succ ?_;simp only [Fb.j0,if_true];refine Eve.bind hin ?_;refine Eve.ite (fun _=>?_) (fun _=>Eve.one);refine Eve.ite (fun _=>?_) (fun _=>Eve.one);exact Eve.ite (fun h=>absurd h (by omega)) (fun _=>Eve.one)
 refine Eve.succ ?_;simp only [Fb.f];rcases h45 with h|h
 ·
  simp only [h] at hj ⊢
  simp only [show ¬ (4 : Int)=0 by omega,show ¬ (4 : Int)=1 by omega,show ¬ (4 : Int)=2 by omega,show ¬ (4 : Int)=3 by omega,if_false,if_true,beq_self_eq_true];exact hj
 simp only [h] at hj ⊢;simp only [show ¬ (5 : Int)=0 by omega,show ¬ (5 : Int)=1 by omega,show ¬ (5 : Int)=2 by omega,show ¬ (5 : Int)=3 by omega,show ¬ (5 : Int)=4 by omega,if_false,beq_self_eq_true];exact hj
theorem right_impl : ∀ (d : Nat) (v : IVal),d≤1000→v.f2.size≤1048576→Eve (fun k=>Fb.f k v.f0 v.f1 v.f2 (d : Int)) (rightV d v):=by
 intro d
 induction d with
 | zero =>
  intro v hd hs
  by_cases h4 : v.f0=4
  ·
   obtain ⟨l,ok,hin,_⟩:=inner_four v h4 hs
   refine (nest_zero v l ok (.inl h4) hin).eq ?_;show false=flat v;unfold flat;rw [if_neg (by omega),if_neg (by omega),if_neg (by omega),if_neg (by omega)]
  by_cases h5 : v.f0=5
  ·
   obtain ⟨l,ok,hin,_⟩:=inner_five v h5 hs
   refine (nest_zero v l ok (.inr h5) hin).eq ?_;show false=flat v;unfold flat;rw [if_neg (by omega),if_neg (by omega),if_neg (by omega),if_neg (by omega)]
  exact impl_flat v _ h4 h5
 | succ d ih =>
  intro v hd hs
  by_cases h4 : v.f0=4
  ·
   obtain ⟨l,ok,hin,hl,hsz,hc⟩:=inner_four v h4 hs
   refine (nest_tells v d l ok (by omega) (.inl h4) hin hl (fun x hx=>ih x (by omega) (hsz x hx))).eq ?_;unfold rightV;rw [if_pos h4];rcases hc with ⟨hi,rfl⟩|⟨hi,hb⟩
   ·
    rw [hi];simp
   rw [hi];rcases hb with rfl|⟨x,hx,hb⟩
   ·
    simp
   rw [all_bad l (rightV d) x hx (bad_right x hb d)];simp
  by_cases h5 : v.f0=5
  ·
   obtain ⟨l,ok,hin,hl,hsz,hc⟩:=inner_five v h5 hs
   refine (nest_tells v d l ok (by omega) (.inr h5) hin hl (fun x hx=>ih x (by omega) (hsz x hx))).eq ?_;unfold rightV;rw [if_neg h4,if_pos h5];rcases hc with ⟨fs,hi,rfl,rfl⟩|⟨hi,hb⟩
   ·
    rw [hi,List.all_map];rfl
   rw [hi];rcases hb with rfl|⟨x,hx,hb⟩
   ·
    simp
   rw [all_bad l (rightV d) x hx (bad_right x hb d)];simp
  unfold rightV;rw [if_neg h4,if_neg h5];exact impl_flat v _ h4 h5
theorem right_small (d : Nat) (v : IVal) (h : 300<v.f2.size) : rightV d v=false:=by
 have he : emB v.f2=false:=by
  have : ¬ v.f2.toList=([] : List UInt8):=fun e=>by have:=(emp _).1 e;omega
  simpa [emB] using this
 have hz : decide ((v.f2.size : Int)≤300)=false:=by simp;omega
 have hf : flat v=false:=by
  unfold flat;rw [he,hz]
  repeat' split
  all_goals simp
 cases d with
 | zero=>exact hf
 | succ d =>
  unfold rightV;rw [hz,hf]
  repeat' split
  all_goals simp
theorem ok_impl (v : IVal) (hs : v.f2.size≤1048576) : Eve (fun k=>F0o.f k v.f0 v.f1 v.f2) (rightV 5 v):=by
 simp only [F0o.f];exact Eve.bind (right_impl 5 v (by omega) hs) Eve.one
theorem ok_spec (v : IVal) (hs : v.f2.size≤1048576) : Eve (fun k=>F0b.f k v.f0 v.f1 v.f2) (rightV 5 v):=by
 simp only [F0b.f];refine Eve.ite (fun _=>Eve.bind (right_spec 5 v (by omega) hs) Eve.one) (fun h=>Eve.one.eq ?_);rw [right_small 5 v (by omega)]
def fldB (f : IFld) : List Int:=((f.f0.size : Int) % 256) :: (bytesOf f.f0++encB f.f1)
def docB (l : List IFld) : List Int:=l.flatMap fldB
theorem docB_cons (f : IFld) (l : List IFld) : docB (f :: l)=fldB f++docB l:=List.flatMap_cons ..
theorem fldB_length (f : IFld) (h : Shape f.f1) (hn : f.f0.size≤12) : (fldB f).length≤316:=by
 have:=enc_length h;unfold fldB;simp only [List.length_cons,List.length_append,bytesOf_length]
 omega
theorem dig_one (x : Int) : dig x 1=[x % 256]:=by
 show [shr .i64 x (8*((0 : Nat) : Int)) % 256]=[x % 256];rw [shr_zero]
theorem strs (l : List Int) : (strOfNums l).size=l.length:=by
 unfold strOfNums;rw [← data_length];simp
theorem doc_spec (l : List IFld) (hS : ∀ f ∈ l,Shape f.f1) (hn : ∀ f ∈ l,f.f0.size≤12) (hl : l.length≤3000) : Eve (fun k=>Fj.f k l) (5,0,strOfNums (docB l)):=by
 simp only [Fj.f]
 have:=ev_loop0 l (fun k (acc : ByteArray) i=>Fj.l0 k l acc i) (fun _ acc r=>((5 : Int),(0 : Int),acc++strOfNums (docB r))) (fun i acc=>acc.size≤316*i) (fun acc _=>by
  simp only [Fj.l0];refine Eve.ite (fun h=>absurd h (by omega)) (fun _=>Eve.one.eq ?_);have : strOfNums (docB [])=ByteArray.empty:=rfl
  rw [this,ByteArray.append_empty]) (fun i hi acc ha ih=>by
  have h1:=hS l[i] (List.getElem_mem hi);have h2:=hn l[i] (List.getElem_mem hi);have h3:=enc_length h1;have h4:=number_tells (l[i].f0.size : Int) 1 (by omega);rw [dig_one] at h4;have h5 : (strOfNums [(l[i].f0.size : Int) % 256]).size=1:=by rw [strs];rfl
  have h6 : (strOfNums (encB l[i].f1)).size=(encB l[i].f1).length:=strs _;simp only [Fj.l0,rdF l i hi,wi (show i≤9223372036854775806 by omega)];refine Eve.ite (fun _=>?_) (fun h=>absurd (by omega) h);refine Eve.ite (fun _=>?_) (fun h=>absurd (by omega) h);refine Eve.bind h4 ?_;refine Eve.ite (fun _=>?_) (fun h=>absurd (by omega) h);refine Eve.bind (enc_tells h1) ?_;refine Eve.ite (fun _=>?_) (fun h=>absurd (by rw [ByteArray.size_append];omega) h);refine Eve.ite (fun _=>?_) (fun h=>absurd (by rw [ByteArray.size_append,ByteArray.size_append];omega) h);refine (ih _ (by rw [ByteArray.size_append,ByteArray.size_append,ByteArray.size_append];omega)).eq ?_
  have e : strOfNums (fldB l[i])=strOfNums [(l[i].f0.size : Int) % 256]++l[i].f0++strOfNums (encB l[i].f1):=by
   have : fldB l[i]=[(l[i].f0.size : Int) % 256]++bytesOf l[i].f0++encB l[i].f1:=by simp [fldB]
   rw [this,str_app,str_app,str_bytes]
  rw [docB_cons,str_app,e,ByteArray.append_assoc]) ⟨#[]⟩ (by simp [ByteArray.size])
 refine this.eq ?_;have : (⟨#[]⟩ : ByteArray)=ByteArray.empty:=rfl;rw [this,ByteArray.empty_append]
theorem spec_list (l : List IVal) (hl : l.length≤300) (h : ∀ v ∈ l,Shape v) : Eve (fun k=>F01.f k l) (4,0,strOfNums (encL l)):=by
 simp only [F01.f];refine (ev_loop0 l (fun k (s : ByteArray) i=>F01.l0 k l s i) (fun _ s r=>((4 : Int),(0 : Int),s++strOfNums (encL r))) (fun i s=>s.size≤303*i) (fun s hs=>?_) (fun i hi s hs ih=>?_) eB (by show (0 : Nat)≤_;omega)).eq ?_
 ·
  simp only [F01.l0]
  refine Eve.ite (fun h=>absurd h (by omega)) (fun _=>Eve.one.eq ?_);have : strOfNums (encL [])=eB:=rfl;rw [this,app_none]
 ·
  have hv:=h _ (List.getElem_mem hi)
  have hlen:=enc_length hv;simp only [F01.l0,rdV l i hi,wi (show i≤9223372036854775806 by omega)];refine Eve.ite (fun _=>?_) (fun h=>absurd (by omega) h);refine Eve.ite (fun _=>?_) (fun h=>absurd (by omega) h);refine Eve.bind (enc_tells hv) ?_;refine Eve.ite (fun _=>?_) (fun h=>absurd (by rw [strOfNums_size];omega) h);refine (ih (s++strOfNums (encB l[i])) (by rw [ByteArray.size_append,strOfNums_size];omega)).eq ?_;rw [encL_cons,str_app,ByteArray.append_assoc]
 rw [none_app]
theorem rdS5 (l : List ByteArray) (i : Nat) (h : i<l.length) : rdOf ByteArray.empty l (i : Int)=l[i]:=rdOf_at _ l i h
def Okst (at_ seed : Int) : Prop:=0≤at_∧at_≤1000000000∧0≤seed∧seed<2147483648
theorem byte_draw (code : List Int) (hc : ∀ b ∈ code,0≤b∧b≤255) (at_ seed : Int) (h : Okst at_ seed) : ∃ b s,Fi.f code at_ seed=some (b,at_+1,s)∧0≤b∧b≤255∧0≤s∧s<2147483648:=by
 obtain ⟨h0,h1,h2,h3⟩:=h;have e1 : wrap64 (at_+1)=at_+1:=w64 (by omega) (by omega);have e2 : wrap64 (at_+1 - 1)=at_:=by rw [w64 (by omega) (by omega)];omega
 have tm : ∀ x : Int,0≤x→Int.tmod x 2147483648=x % 2147483648:=fun x hx=>Int.tmod_eq_emod_of_nonneg hx;unfold Fi.f;simp only [e1,e2]
 by_cases hl : at_+1≤(code.length : Int)
 ·
  rw [if_pos hl,if_pos h0,if_pos (by omega)]
  obtain ⟨i,rfl⟩ : ∃ i : Nat,at_=(i : Int):=⟨at_.toNat,by omega⟩;have hi : i<code.length:=by omega
  have hb:=hc _ (List.getElem_mem hi);rw [rd_at code i hi];have e3 : wrap64 code[i]=code[i]:=w64 (by omega) (by omega);have e4 : wrap64 (seed*31)=seed*31:=w64 (by omega) (by omega);have e5 : wrap64 (seed*31+code[i])=seed*31+code[i]:=w64 (by omega) (by omega);have e6 : wrap64 (seed*31+code[i]+7)=seed*31+code[i]+7:=w64 (by omega) (by omega);rw [e3,e4,e5,e6,tm _ (by omega)];exact ⟨_,_,rfl,hb.1,hb.2,by omega,by omega⟩
 rw [if_neg hl];have e4 : wrap64 (seed*1103515245)=seed*1103515245:=w64 (by omega) (by omega);have e5 : wrap64 (seed*1103515245+12345)=seed*1103515245+12345:=w64 (by omega) (by omega);rw [e4,e5,tm _ (by omega)];generalize hx : (seed*1103515245+12345) % 2147483648=x;have hx0 : 0≤x∧x<2147483648:=by omega
 by_cases h3k : at_+1 > 3000
 ·
  rw [if_pos h3k];exact ⟨_,_,rfl,by omega,by omega,h2,h3⟩
 rw [if_neg h3k];have e7 : Int.tdiv x 65536=x / 65536:=Int.tdiv_eq_ediv_of_nonneg hx0.1;have e8 : wrap64 (x / 65536)=x / 65536:=w64 (by omega) (by omega);have e9 : Int.tmod (x / 65536) 256=x / 65536 % 256:=Int.tmod_eq_emod_of_nonneg (by omega);rw [e7,e8,e9];exact ⟨_,_,rfl,by omega,by omega,hx0.1,hx0.2⟩
theorem next_draw (code : List Int) (hc : ∀ b ∈ code,0≤b∧b≤255) (n : Int) (hn : 1<n) (hn2 : n≤256) (at_ seed : Int) (h : Okst at_ seed) : ∃ v s,F07.f code at_ seed n=some (v,at_+1,s)∧0≤v∧v<n∧0≤s∧s<2147483648:=by
 obtain ⟨b,s,hb,h0,h1,h2,h3⟩:=byte_draw code hc at_ seed h;unfold F07.f;rw [if_neg (by omega),if_pos hn2,hb];simp only [Option.bind_some];rw [if_neg (by omega)];have e : Int.tmod b n=b % n:=Int.tmod_eq_emod_of_nonneg h0;rw [e];exact ⟨_,_,rfl,Int.emod_nonneg _ (by omega),Int.emod_lt_of_pos _ (by omega),h2,h3⟩
theorem pick_draw (code : List Int) (hc : ∀ b ∈ code,0≤b∧b≤255) (l : List ByteArray) (hn : 1<l.length) (hn2 : l.length≤256) (at_ seed : Int) (h : Okst at_ seed) : ∃ t s,F11.f code at_ seed l=some (t,at_+1,s)∧t ∈ l∧0≤s∧s<2147483648:=by
 obtain ⟨v,s,hv,h0,h1,h2,h3⟩:=next_draw code hc (l.length : Int) (by omega) (by omega) at_ seed h;unfold F11.f;rw [if_neg (by omega),hv];simp only [Option.bind_some];rw [if_pos h0,if_pos h1];obtain ⟨i,rfl⟩ : ∃ i : Nat,v=(i : Int):=⟨v.toNat,by omega⟩;rw [rdS5 l i (by omega)];exact ⟨_,_,rfl,List.getElem_mem _,h2,h3⟩
def cst : Nat→Int
 | 0=>3
 | d+1=>5+4*cst d
theorem cst_pos : ∀ d,3≤cst d
 | 0=>by simp [cst]
 | d+1=>by have:=cst_pos d;simp only [cst];omega
abbrev Drawn5:=Int×Int×ByteArray×Int×Int
def DrawsTo (F : Nat→List Int→Int→Int→Int→Option Drawn5) (code : List Int) (deep : Nat) (C : Int) : Prop :=
 ∀ at_ seed,0≤at_→at_+C≤1000000000→0≤seed→seed<2147483648 → ∃ (v : IVal) (a s : Int),Eve (fun k=>F k code at_ seed (deep : Int)) (v.f0,v.f1,v.f2,a,s)∧rightV 5 v=true∧at_≤a∧a≤at_+C∧0≤s∧s<2147483648
theorem right_flat (v : IVal) (h4 : ¬ v.f0=4) (h5 : ¬ v.f0=5) : rightV 5 v=flat v:=by
 unfold rightV;rw [if_neg h4,if_neg h5]
theorem em_none : emB ⟨#[]⟩=true:=by unfold emB;rw [ba_toList];rfl
theorem right_null : rightV 5 ⟨0,0,⟨#[]⟩⟩=true:=by
 rw [right_flat _ (show ¬ (0 : Int)=4 by decide) (show ¬ (0 : Int)=5 by decide)];unfold flat;simp only [if_true,em_none,Bool.and_true]
 rfl
theorem right_bool (n : Int) (h : 0≤n∧n<2) : rightV 5 ⟨1,n,⟨#[]⟩⟩=true:=by
 rw [right_flat _ (show ¬ (1 : Int)=4 by decide) (show ¬ (1 : Int)=5 by decide)];unfold flat inr;rw [if_neg (show ¬ (1 : Int)=0 by decide),if_pos rfl,em_none];simp only [Bool.and_eq_true,decide_eq_true_eq];exact ⟨⟨h.1,by omega⟩,trivial⟩
theorem right_int (n : Int) (h : -1000000000000≤n∧n≤1000000000000) : rightV 5 ⟨2,n,⟨#[]⟩⟩=true:=by
 rw [right_flat _ (show ¬ (2 : Int)=4 by decide) (show ¬ (2 : Int)=5 by decide)];unfold flat inr;rw [if_neg (show ¬ (2 : Int)=0 by decide),if_neg (show ¬ (2 : Int)=1 by decide),if_pos rfl,em_none];simp only [Bool.and_eq_true,decide_eq_true_eq];exact ⟨h,trivial⟩
theorem right_text (t : ByteArray) (h : t.size≤300) : rightV 5 ⟨3,0,t⟩=true:=by
 rw [right_flat _ (show ¬ (3 : Int)=4 by decide) (show ¬ (3 : Int)=5 by decide)];unfold flat;rw [if_neg (show ¬ (3 : Int)=0 by decide),if_neg (show ¬ (3 : Int)=1 by decide),if_neg (show ¬ (3 : Int)=2 by decide),if_pos rfl];simp only [Bool.and_eq_true,decide_eq_true_eq];exact ⟨trivial,by omega⟩
theorem right_empty : rightV 5 ⟨5,0,eB⟩=true:=by
 unfold rightV;rw [if_neg (by decide),if_pos rfl]
 rfl
theorem flat_draw (D : DrawD) (code : List Int) (hc : ∀ b ∈ code,0≤b∧b≤255) (x1 : Int) (c : Int) (h0 : 0≤c) (h6 : c<6) (at_ seed : Int) (h : Okst at_ seed) (b : Int) (hb : b≤at_∧at_≤b+2) :
  ∃ (v : IVal) (a s : Int),Eve (fun k=>F5.j0 D k x1 c code at_ seed) (v.f0,v.f1,v.f2,a,s)∧rightV 5 v=true∧b≤a∧a≤b+3∧0≤s∧s<2147483648:=by
 obtain ⟨k0,k1,k2,k3⟩:=h;have hst : Okst at_ seed:=⟨k0,k1,k2,k3⟩
 have hint : ∀ (y : Int),(y=2∨y=3) → ∃ (v : IVal) (a s : Int),Eve (fun k=>F5.j1 D k x1 y true code at_ seed) (v.f0,v.f1,v.f2,a,s)∧rightV 5 v=true∧b≤a∧a≤b+3∧0≤s∧s<2147483648:=fun y _=>by
  obtain ⟨n,s,e1,a0,a1,g0,g1⟩:=next_draw code hc 9 (by omega) (by omega) at_ seed hst;refine ⟨⟨2,n - 3,⟨#[]⟩⟩,at_+1,s,Eve.succ ?_,right_int _ (by omega),by omega,by omega,g0,g1⟩;simp only [F5.j1,if_true,e1,Option.bind_some,F0m.f,w64 (show -9223372036854775808≤n - 3 by omega) (show n - 3≤9223372036854775807 by omega)];exact Eve.one
 obtain rfl|rfl|rfl|rfl|rfl|rfl : c=0∨c=1∨c=2∨c=3∨c=4∨c=5:=by omega
 ·
  refine ⟨⟨0,0,⟨#[]⟩⟩,at_,seed,Eve.succ ?_,right_null,by omega,by omega,k2,k3⟩
  simp only [F5.j0,if_true];exact Eve.one
 ·
  obtain ⟨n,s,e1,a0,a1,g0,g1⟩:=next_draw code hc 2 (by omega) (by omega) at_ seed hst
  refine ⟨⟨1,n,⟨#[]⟩⟩,at_+1,s,Eve.succ ?_,right_bool n ⟨a0,a1⟩,by omega,by omega,g0,g1⟩;simp only [F5.j0,e1,Option.bind_some];exact Eve.ite (fun h=>absurd h (by decide)) (fun _=>Eve.ite (fun _=>Eve.one) (fun h=>(h (by first|rfl|trivial)).elim))
 ·
  obtain ⟨v,a,s,q1,q2⟩:=hint 2 (.inl rfl)
  refine ⟨v,a,s,Eve.succ ?_,q2⟩;simp only [F5.j0];exact Eve.ite (fun h=>absurd h (by decide)) (fun _=>Eve.ite (fun h=>absurd h (by decide)) (fun _=>Eve.ite (fun _=>q1) (fun h=>(h (by first|rfl|trivial)).elim)))
 ·
  obtain ⟨v,a,s,q1,q2⟩:=hint 3 (.inr rfl)
  refine ⟨v,a,s,Eve.succ ?_,q2⟩;simp only [F5.j0];exact Eve.ite (fun h=>absurd h (by decide)) (fun _=>Eve.ite (fun h=>absurd h (by decide)) (fun _=>Eve.ite (fun h=>absurd h (by decide)) (fun _=>q1)))
 ·
  obtain ⟨t,s,e1,ht,g0,g1⟩:=pick_draw code hc [(⟨#[]⟩ : ByteArray),(⟨#[97]⟩ : ByteArray),(⟨#[97,98]⟩ : ByteArray),(⟨#[98]⟩ : ByteArray),(⟨#[0]⟩ : ByteArray)] (by simp) (by simp) at_ seed hst
  have hz : t.size≤300:=by
   simp only [List.mem_cons,List.not_mem_nil,or_false] at ht;rcases ht with rfl|rfl|rfl|rfl|rfl
   all_goals decide
  refine ⟨⟨3,0,t⟩,at_+1,s,Eve.succ ?_,right_text t hz,by omega,by omega,g0,g1⟩;simp only [F5.j0];refine Eve.ite (fun h=>absurd h (by decide)) (fun _=>Eve.ite (fun h=>absurd h (by decide)) (fun _=>Eve.ite (fun h=>absurd h (by decide)) (fun _=>Eve.succ ?_)));simp only [F5.j1,e1,Option.bind_some,F12.f];exact Eve.ite (fun h=>absurd h (by decide)) (fun _=>Eve.ite (fun _=>Eve.one) (fun h=>(h (by first|rfl|trivial)).elim))
 obtain ⟨n,s,e1,a0,a1,g0,g1⟩:=next_draw code hc 3 (by omega) (by omega) at_ seed hst
 have hrd : ∃ y,rd [1000000000000,(-1000000000000),300] n=y ∧ -1000000000000≤y∧y≤1000000000000:=by
  obtain rfl|rfl|rfl : n=0∨n=1∨n=2:=by omega
  all_goals exact ⟨_,rfl,by decide,by decide⟩
 obtain ⟨y,hy,hy2⟩:=hrd;refine ⟨⟨2,y,⟨#[]⟩⟩,at_+1,s,Eve.succ ?_,right_int y hy2,by omega,by omega,g0,g1⟩;simp only [F5.j0];refine Eve.ite (fun h=>absurd h (by decide)) (fun _=>Eve.ite (fun h=>absurd h (by decide)) (fun _=>Eve.ite (fun h=>absurd h (by decide)) (fun _=>Eve.succ ?_)));simp only [F5.j1,e1,Option.bind_some,F0m.f,hy];refine Eve.ite (fun h=>absurd h (by decide)) (fun _=>Eve.ite (fun h=>absurd h (by decide)) (fun _=>Eve.ite (fun _=>?_) (fun h=>(h (by first|rfl|trivial)).elim)));refine Eve.ite (fun _=>?_) (fun h=>absurd a0 h);exact Eve.ite (fun _=>Eve.one) (fun h=>absurd a1 h)
theorem value_draw (D : DrawD) (code : List Int) (hc : ∀ b ∈ code,0≤b∧b≤255) : ∀ (d : Nat),d≤1000→(∀ e,e<d→DrawsTo D.f code e (4+4*cst e))→DrawsTo (fun k c a s x=>F5.f D k c a s x) code d (cst d):=by
 intro d
 induction d with
 | zero =>
  intro _ _ at_ seed h0 h1 h2 h3;have hcd : cst 0=3:=rfl;rw [hcd] at h1;obtain ⟨v8,s8,e8,-,-,g0,g1⟩:=next_draw code hc 8 (by omega) (by omega) at_ seed ⟨h0,by omega,h2,h3⟩;obtain ⟨v6,s6,e6,a0,a1,g2,g3⟩:=next_draw code hc 6 (by omega) (by omega) (at_+1) s8 ⟨by omega,by omega,g0,g1⟩
  have hj : ∃ (v : IVal) (a s : Int),Eve (fun k=>F5.j0 D k 0 v6 code (at_+1+1) s6) (v.f0,v.f1,v.f2,a,s)∧rightV 5 v=true∧at_≤a∧a≤at_+3∧0≤s∧s<2147483648 :=
   flat_draw D code hc 0 v6 a0 (by omega) (at_+1+1) s6 ⟨by omega,by omega,g2,g3⟩ at_ (by omega)
  obtain ⟨v,a,s,hv,hr⟩:=hj;refine ⟨v,a,s,Eve.succ ?_,hr⟩;simp only [F5.f,e8,Option.bind_some];refine Eve.ite (fun _=>?_) (fun h=>(h (by first|rfl|trivial)).elim);simp only [e6,Option.bind_some];exact hv
 | succ d ih =>
  intro hd hD at_ seed h0 h1 h2 h3;have hcd : cst (d+1)=5+4*cst d:=rfl;have hcp:=cst_pos d;rw [hcd] at h1 ⊢;obtain ⟨v8,s8,e8,a0,a1,g0,g1⟩:=next_draw code hc 8 (by omega) (by omega) at_ seed ⟨h0,by omega,h2,h3⟩;have hw : wrap64 (((d+1 : Nat) : Int) - 1)=(d : Int):=by rw [w64 (by omega) (by omega)];omega
  have hj : ∃ (v : IVal) (a s : Int),Eve (fun k=>F5.j0 D k ((d+1 : Nat) : Int) v8 code (at_+1) s8) (v.f0,v.f1,v.f2,a,s)∧rightV 5 v=true∧at_≤a∧a≤at_+(5+4*cst d)∧0≤s∧s<2147483648:=by
   by_cases h6 : v8<6
   ·
    obtain ⟨v,a,s,q1,q2,q3,q4,q5⟩:=flat_draw D code hc ((d+1 : Nat) : Int) v8 a0 h6 (at_+1) s8 ⟨by omega,by omega,g0,g1⟩ at_ (by omega)
    exact ⟨v,a,s,q1,q2,q3,by omega,q5⟩
   by_cases h7 : v8=6
   ·
    subst h7
    obtain ⟨n4,s4,e4,b0,b1,g2,g3⟩:=next_draw code hc 4 (by omega) (by omega) (at_+1) s8 ⟨by omega,by omega,g0,g1⟩;have hval:=ih (by omega) (fun e he=>hD e (by omega))
    -- the items
    have hl : ∀ (m : Nat) (out : List IVal) (a s : Int),(∀ v ∈ out,rightV 5 v=true)→out.length+m≤3→0≤a→a+(m : Int)*cst d≤1000000000→0≤s→s<2147483648 →
      ∃ (v : IVal) (a' s' : Int),Eve (fun k=>F5.l0 D k ((d+1 : Nat) : Int) out (m : Int) code a s) (v.f0,v.f1,v.f2,a',s')∧rightV 5 v=true∧a≤a' ∧ a' ≤ a+(m : Int)*cst d∧0≤s' ∧ s' < 2147483648:=by
     intro m
     induction m with
     | zero =>
      intro out a s hout hol ha ha2 hs hs2;have hS : ∀ v ∈ out,Shape v:=fun v hv=>right_shape 5 v (hout v hv);have hsp:=spec_list out (by omega) hS
      have hz : (strOfNums (encL out)).size≤1048576:=by
       rw [strOfNums_size]
       have : ∀ l : List IVal,(∀ v ∈ l,Shape v)→(encL l).length≤303*l.length:=by
        intro l
        induction l with
        | nil=>intro _;simp [encL]
        | cons x xs ihx =>
         intro hx;rw [encL_cons,List.length_append,List.length_cons];have:=ihx (fun v hv=>hx v (List.mem_cons_of_mem _ hv));have:=enc_length (hx x (List.mem_cons_self ..))
         omega
       have:=this out hS
       omega
      have hok:=ok_spec (⟨4,0,strOfNums (encL out)⟩ : IVal) hz
      cases hr : rightV 5 (⟨4,0,strOfNums (encL out)⟩ : IVal) with
      | true =>
       rw [hr] at hok;refine ⟨⟨4,0,strOfNums (encL out)⟩,a,s,Eve.succ ?_,hr,by omega,by omega,hs,hs2⟩;simp only [F5.l0];refine Eve.ite (fun h=>absurd h (by simp)) (fun _=>?_);refine Eve.bind hsp ?_;refine Eve.bind hok ?_;simp only [if_true];exact Eve.one
      | false =>
       rw [hr] at hok;refine ⟨⟨2,1,⟨#[]⟩⟩,a,s,Eve.succ ?_,right_int 1 (by omega),by omega,by omega,hs,hs2⟩;simp only [F5.l0];refine Eve.ite (fun h=>absurd h (by simp)) (fun _=>?_);refine Eve.bind hsp ?_;refine Eve.bind hok ?_;simp only [Bool.false_eq_true,if_false,F0m.f,Option.bind_some];exact Eve.one
     | succ m ihm =>
      intro out a s hout hol ha ha2 hs hs2;have hmul : ((m+1 : Nat) : Int)*cst d=(m : Int)*cst d+cst d:=by rw [Int.natCast_add,Int.add_mul];simp
      have hm0 : 0≤(m : Int)*cst d:=Int.mul_nonneg (by omega) (by omega);rw [hmul] at ha2 ⊢;obtain ⟨v,a1',s1',q1,q2,q3,q4,q5,q6⟩:=hval a s ha (by omega) hs hs2
      obtain ⟨u,a2',s2',p1,p2,p3,p4,p5,p6⟩:=ihm (out ++ [v]) a1' s1' (fun x hx=>by
       rcases List.mem_append.1 hx with hx|hx
       ·
        exact hout x hx
       rw [List.mem_singleton.1 hx];exact q2) (by rw [List.length_append,List.length_singleton];omega) (by omega) (by omega) q5 q6
      refine ⟨u,a2',s2',Eve.succ ?_,p2,by omega,by omega,p5,p6⟩;have hwm : wrap64 (((m+1 : Nat) : Int) - 1)=(m : Int):=by rw [w64 (by omega) (by omega)];omega
      simp only [F5.l0,hw,hwm];refine Eve.ite (fun _=>?_) (fun h=>absurd (by omega) h);refine Eve.bind q1 ?_;refine Eve.ite (fun _=>?_) (fun h=>absurd (by omega) h);exact p1
    obtain ⟨m,rfl⟩ : ∃ m : Nat,n4=(m : Int):=⟨n4.toNat,by omega⟩;have hm3 : (m : Int)*cst d≤3*cst d:=Int.mul_le_mul_of_nonneg_right (by omega) (by omega);obtain ⟨v,a,s,q1,q2,q3,q4,q5⟩:=hl m [] (at_+1+1) s4 (by simp) (by simp;omega) (by omega) (by omega) g2 g3;refine ⟨v,a,s,Eve.succ ?_,q2,by omega,by omega,q5⟩;simp only [F5.j0];refine Eve.ite (fun h=>absurd h (by decide)) (fun _=>Eve.ite (fun h=>absurd h (by decide)) (fun _=>Eve.ite (fun h=>absurd h (by decide)) (fun _=>Eve.succ ?_)));simp only [F5.j1];refine Eve.ite (fun h=>absurd h (by decide)) (fun _=>Eve.ite (fun h=>absurd h (by decide)) (fun _=>Eve.ite (fun h=>absurd h (by decide)) (fun _=>Eve.ite (fun _=>?_) (fun h=>(h (by first|rfl|trivial)).elim))));simp only [e4,Option.bind_some];exact q1
   obtain rfl : v8=7:=by omega
   obtain ⟨v,a,s,q1,q2,q3,q4,q5⟩:=hD d (by omega) (at_+1) s8 (by omega) (by omega) g0 g1;refine ⟨v,a,s,Eve.succ ?_,q2,by omega,by omega,q5⟩;simp only [F5.j0];refine Eve.ite (fun h=>absurd h (by decide)) (fun _=>Eve.ite (fun h=>absurd h (by decide)) (fun _=>Eve.ite (fun h=>absurd h (by decide)) (fun _=>Eve.succ ?_)));simp only [F5.j1,hw];refine Eve.ite (fun h=>absurd h (by decide)) (fun _=>Eve.ite (fun h=>absurd h (by decide)) (fun _=>Eve.ite (fun h=>absurd h (by decide)) (fun _=>Eve.ite (fun h=>absurd h (by decide)) (fun _=>?_))));exact Eve.bind q1 Eve.one
  obtain ⟨v,a,s,hv,hr⟩:=hj;refine ⟨v,a,s,Eve.succ ?_,hr⟩;simp only [F5.f,e8,Option.bind_some];refine Eve.ite (fun h=>absurd h (by omega)) (fun _=>?_);exact hv
def fldNames : List ByteArray:=[(⟨#[97]⟩ : ByteArray),(⟨#[98]⟩ : ByteArray),(⟨#[99]⟩ : ByteArray),(⟨#[116,97,103,115]⟩ : ByteArray)]
theorem n_one {i m : Nat} (h : i+(m+1)=4) : i+1+m=4∧i<4∧((i : Int)<4):=by omega
theorem fldNames_at (i : Nat) (h : i<4) : ∃ t : ByteArray,rdOf ByteArray.empty fldNames (i : Int)=t∧t.size≤12:=by
 have hl : i<fldNames.length:=h;refine ⟨fldNames[i],rdS5 _ i hl,?_⟩;have : ∀ t ∈ fldNames,t.size≤12:=by decide
 exact this _ (List.getElem_mem hl)
set_option maxHeartbeats 1000000 in
theorem doc_draw (V : DrawV) (code : List Int) (hc : ∀ b ∈ code,0≤b∧b≤255) (e : Nat) (hV : DrawsTo V.f code e (cst e)) : DrawsTo (Fm.f V) code e (4+4*cst e):=by
 have hcp:=cst_pos e
 revert hV hcp
 generalize cst e=C;intro hV hcp at_ seed h0 h1 h2 h3;have hl : ∀ (m i : Nat),i+m=4 → ∀ (out : List IFld) (a s : Int),(∀ f ∈ out,Shape f.f1∧f.f0.size≤12)→out.length≤i→0≤a→a+(m : Int)*(1+C)≤1000000000→0≤s→s<2147483648 →
   ∃ (v : IVal) (a' s' : Int),Eve (fun k=>Fm.l0 V k (e : Int) out (i : Int) code a s) (v.f0,v.f1,v.f2,a',s')∧rightV 5 v=true∧a≤a' ∧ a' ≤ a+(m : Int)*(1+C)∧0≤s' ∧ s' < 2147483648:=by
  intro m
  induction m with
  | zero =>
   intro i him out a s hout hol ha ha2 hs hs2;have hsp:=doc_spec out (fun f hf=>(hout f hf).1) (fun f hf=>(hout f hf).2) (by omega);have hsp0:=doc_spec ([] : List IFld) (by simp) (by simp) (by simp)
   have hz : (strOfNums (docB out)).size≤1048576:=by
    rw [strOfNums_size]
    have : ∀ l : List IFld,(∀ f ∈ l,Shape f.f1∧f.f0.size≤12)→(docB l).length≤316*l.length:=by
     intro l
     induction l with
     | nil=>intro _;simp [docB]
     | cons x xs ihx =>
      intro hx;rw [docB_cons,List.length_append,List.length_cons];have:=ihx (fun v hv=>hx v (List.mem_cons_of_mem _ hv));have hx0:=hx x (List.mem_cons_self ..);have:=fldB_length x hx0.1 hx0.2
      omega
    have:=this out hout
    omega
   have hok:=ok_spec (⟨5,0,strOfNums (docB out)⟩ : IVal) hz
   have hend : ∀ (u : IVal),Eve (fun k=>(Fj.f k out).bind fun bt459=>((F0b.f k bt459.1 bt459.2.1 bt459.2.2).bind fun t463=>(if t463=true then (some (bt459.1,bt459.2.1,bt459.2.2,a,s)) else ((Fj.f k (([] : List IFld))).bind fun bt467=>(some (bt467.1,bt467.2.1,bt467.2.2,a,s)))))) (u.f0,u.f1,u.f2,a,s)→Eve (fun k=>Fm.l0 V k (e : Int) out (i : Int) code a s) (u.f0,u.f1,u.f2,a,s):=fun u hu=>by
    refine Eve.succ ?_;simp only [Fm.l0];exact Eve.ite (fun h=>absurd h (by omega)) (fun _=>hu)
   cases hr : rightV 5 (⟨5,0,strOfNums (docB out)⟩ : IVal) with
   | true =>
    rw [hr] at hok;refine ⟨⟨5,0,strOfNums (docB out)⟩,a,s,hend _ ?_,hr,by omega,by omega,hs,hs2⟩;refine Eve.bind hsp ?_;refine Eve.bind hok ?_;simp only [if_true];exact Eve.one
   | false =>
    rw [hr] at hok;refine ⟨⟨5,0,strOfNums (docB [])⟩,a,s,hend _ ?_,?_,by omega,by omega,hs,hs2⟩
    ·
     refine Eve.bind hsp ?_
     refine Eve.bind hok ?_;simp only [Bool.false_eq_true,if_false];exact Eve.bind hsp0 Eve.one
    have : strOfNums (docB [])=eB:=rfl;rw [this];exact right_empty
  | succ m ihm =>
   intro i him out a s hout hol ha ha2 hs hs2;obtain ⟨q0,hi4,hi4'⟩:=n_one him;clear him;have hmul : ((m+1 : Nat) : Int)*(1+C)=(m : Int)*(1+C)+(1+C):=by rw [Int.natCast_add,Int.add_mul];simp
   have hm0 : 0≤(m : Int)*(1+C):=Int.mul_nonneg (by omega) (by omega);rw [hmul] at ha2 ⊢;clear hmul;generalize (m : Int)*(1+C)=M at ha2 hm0 ihm ⊢;obtain ⟨c,s1,e1,-,-,g0,g1⟩:=next_draw code hc 2 (by omega) (by omega) a s ⟨ha,by omega,hs,hs2⟩
   have ech : F14.f code a s 2=some (c == wrap64 (2 - 1),a+1,s1):=by
    unfold F14.f;rw [e1];rfl
   have hwi : wrap64 ((i : Int)+1)=((i+1 : Nat) : Int):=by rw [w64 (by omega) (by omega)];omega
   clear e1
   revert ech
   generalize (c == wrap64 (2 - 1))=b;intro ech
   cases b with
   | false =>
    obtain ⟨u,a2,s2,p1,p2,p3,p4,p5,p6⟩:=ihm (i+1) q0 out (a+1) s1 hout (Nat.le_succ_of_le hol) (by omega) (by omega) g0 g1;refine ⟨u,a2,s2,Eve.succ ?_,p2,by omega,by omega,p5,p6⟩;simp only [Fm.l0,ech,Option.bind_some,hwi,Bool.false_eq_true,if_false];exact Eve.ite (fun _=>p1) (fun h=>absurd hi4' h)
   | true =>
    obtain ⟨v,a1,s1',q1,q2,q3,q4,q5,q6⟩:=hV (a+1) s1 (by omega) (by omega) g0 g1;have hnm:=fldNames_at i hi4;unfold fldNames at hnm;obtain ⟨t,ht,ht2⟩:=hnm
    obtain ⟨u,a2,s2,p1,p2,p3,p4,p5,p6⟩:=ihm (i+1) q0 (out ++ [⟨t,v⟩]) a1 s1' (fun f hf=>by
     rcases List.mem_append.1 hf with hf|hf
     ·
      exact hout f hf
     rw [List.mem_singleton.1 hf];exact ⟨right_shape 5 v q2,ht2⟩) (by rw [List.length_append,List.length_singleton];exact Nat.succ_le_succ hol) (by omega) (by omega) q5 q6
    refine ⟨u,a2,s2,Eve.succ ?_,p2,by omega,by omega,p5,p6⟩;simp only [Fm.l0,ech,Option.bind_some,hwi,if_true,ht];refine Eve.ite (fun _=>?_) (fun h=>absurd hi4' h);refine Eve.ite (fun _=>?_) (fun h=>absurd (Int.natCast_nonneg i) h);refine Eve.ite (fun _=>?_) (fun h=>absurd hi4' h);refine Eve.bind q1 ?_;exact Eve.ite (fun _=>p1) (fun h=>absurd (Nat.lt_of_le_of_lt (Nat.le_trans hol (Nat.le_of_lt hi4)) (by decide)) h)
 obtain ⟨v,a,s,q1,q2,q3,q4,q5⟩:=hl 4 0 rfl [] at_ seed (by simp) (by simp) h0 (by omega) h2 h3;exact ⟨v,a,s,q1,q2,q3,by omega,q5⟩
theorem draws (code : List Int) (hc : ∀ b ∈ code,0≤b∧b≤255) : ∀ (m d : Nat),d≤m→d≤1000→DrawsTo (drawV m).f code d (cst d):=by
 intro m
 induction m with
 | zero =>
  intro d hd h9;exact value_draw drawNone code hc d h9 (fun e he=>by omega)
 | succ m ih =>
  intro d hd h9;exact value_draw (docOf_ (drawV m)) code hc d h9 (fun e he=>doc_draw (drawV m) code hc e (ih e (by omega) (by omega)))
def esz (v : IVal) : Nat:=if v.f0=0 then 1 else if v.f0=1 then 2 else if v.f0=2 then 9 else 3+v.f2.size
theorem nxt_esz (a : ByteArray) (v : IVal) (r : ByteArray) (h : nxtV a=some (v,r)) : esz v+r.size=a.size:=by
 obtain ⟨n,h1,h2,rfl,_,hc⟩:=nxt_cases a v r h;rw [ByteArray.size_extract];unfold esz;rcases hc with ⟨q,rfl⟩|⟨q,rfl,_⟩|⟨q,rfl,_⟩|⟨q,q2,hn,_⟩
 ·
  rw [if_pos q];omega
 ·
  rw [if_neg (by omega),if_pos q];omega
 ·
  rw [if_neg (by omega),if_neg (by omega),if_pos q];omega
 rw [if_neg (by omega),if_neg (by omega),if_neg (by omega)];omega
theorem its_esz : ∀ (m : Nat) (a : ByteArray) (l : List IVal),itS m a=some l→total esz l=a.size:=by
 intro m
 induction m with
 | zero =>
  intro a l h;simp only [itS] at h
  by_cases hz : a.size=0
  ·
   rw [if_pos hz] at h
   obtain rfl : []=l:=by simpa using h
   exact hz.symm
  rw [if_neg hz] at h;simp at h
 | succ m ih =>
  intro a l h;simp only [itS] at h
  by_cases hz : a.size=0
  ·
   rw [if_pos hz] at h
   obtain rfl : []=l:=by simpa using h
   exact hz.symm
  rw [if_neg hz] at h
  cases hn : nxtV a with
  | none=>rw [hn] at h;simp at h
  | some p =>
   obtain ⟨v,r⟩:=p;rw [hn] at h;simp only [Option.map_eq_some_iff] at h;obtain ⟨l',h',rfl⟩:=h;have h1:=nxt_esz a v r hn;have h2:=ih r l' h';show esz v+total esz l' = a.size
   omega
def fsz (f : IFld) : Nat:=1+f.f0.size+esz f.f1
theorem fds_esz : ∀ (m : Nat) (a : ByteArray) (l : List IFld),fdS m a=some l→total fsz l=a.size:=by
 intro m
 induction m with
 | zero =>
  intro a l h;simp only [fdS] at h
  by_cases hz : a.size=0
  ·
   rw [if_pos hz] at h
   obtain rfl : []=l:=by simpa using h
   exact hz.symm
  rw [if_neg hz] at h;simp at h
 | succ m ih =>
  intro a l h;simp only [fdS] at h
  by_cases hz : a.size=0
  ·
   rw [if_pos hz] at h
   obtain rfl : []=l:=by simpa using h
   exact hz.symm
  rw [if_neg hz] at h
  by_cases hy : (a.size : Int)<1+bt a 0
  ·
   rw [if_pos hy] at h;simp at h
  rw [if_neg hy] at h;have hb:=bt_range a 0
  cases hn : nxtV (a.extract (1+bt a 0).toNat a.size) with
  | none=>rw [hn] at h;simp at h
  | some p =>
   obtain ⟨v,r⟩:=p;rw [hn] at h;simp only [Option.map_eq_some_iff] at h;obtain ⟨l',h',rfl⟩:=h;have h1:=nxt_esz _ v r hn;have h2:=ih r l' h';rw [ByteArray.size_extract] at h1;show 1+(a.extract 1 (1+bt a 0).toNat).size+esz v+total fsz l' = a.size;rw [ByteArray.size_extract]
   omega
def escL : List Int→List Int
 | [] => [0,0]
 | b :: l=>b :: (if b=0 then 255 :: escL l else escL l)
theorem escL_len : ∀ l : List Int,(escL l).length≤2*l.length+2
 | []=>by simp [escL]
 | b :: l=>by
  have:=escL_len l;unfold escL
  split <;> simp <;> omega
theorem escL_in : ∀ l : List Int,Byts l→Byts (escL l)
 | [],_=>by intro b hb;simp [escL] at hb;omega
 | b :: l,h=>by
  have h1:=escL_in l (fun x hx=>h x (by simp [hx]));have h2:=h b (by simp);intro x hx;unfold escL at hx
  by_cases hb : b=0
  ·
   rw [if_pos hb] at hx
   rcases List.mem_cons.1 hx with rfl|hx
   ·
    exact h2
   rcases List.mem_cons.1 hx with rfl|hx
   ·
    omega
   exact h1 x hx
  rw [if_neg hb] at hx;rcases List.mem_cons.1 hx with rfl|hx
  ·
   exact h2
  exact h1 x hx
def rawB : Nat→IVal→List Int
 | d,v=>((v.f0+1) % 256) :: (
  if v.f0=0 then [] else if v.f0=1 then [v.f1 % 256] else if v.f0=2 then dig (v.f1+4611686018427387904) 8
  else if v.f0=3 then escL (bytesOf v.f2)
  else match d with
   | 0 => []
   | d+1=>if v.f0=4 then ((itS v.f2.size v.f2).getD []).flatMap (rawB d) ++ [0]
    else ((fdS v.f2.size v.f2).getD []).flatMap (fun f=>1 :: (escL (bytesOf f.f0)++rawB d f.f1)) ++ [0])
theorem flat_len {α β : Type} (g : α→List β) (s : α→Nat) : ∀ l : List α,(∀ x ∈ l,(g x).length≤3*s x)→(l.flatMap g).length≤3*total s l
 | [],_=>by simp [total]
 | x :: l,h=>by
  have h1:=h x (by simp);have h2:=flat_len g s l (fun y hy=>h y (by simp [hy]));rw [List.flatMap_cons,List.length_append];show _≤3*(s x+total s l)
  omega
theorem right_300 {d : Nat} {v : IVal} (h : rightV d v=true) : v.f2.size≤300:=by
 rcases right_shape d v h with ⟨_,_,h⟩|⟨_,_,h⟩|⟨_,_,h⟩|⟨_,_,h⟩
 ·
  rw [h];decide
 ·
  rw [h];decide
 ·
  rw [h];decide
 exact h
theorem raw_len : ∀ (d : Nat) (v : IVal),rightV d v=true→(rawB d v).length≤3*esz v:=by
 intro d
 induction d with
 | zero =>
  intro v h;have hs:=right_shape 0 v h;unfold rawB esz;have he:=escL_len (bytesOf v.f2);rw [bytesOf_length] at he;have hd:=dig_length (v.f1+4611686018427387904) 8
  split
  ·
   simp
  split
  ·
   simp
  split
  ·
   simp [hd]
  split
  ·
   simp;omega
  simp;omega
 | succ d ih =>
  intro v h;have he:=escL_len (bytesOf v.f2);rw [bytesOf_length] at he;have hd:=dig_length (v.f1+4611686018427387904) 8
  by_cases h4 : v.f0=4
  ·
   obtain ⟨e,l,he2,hi,hl⟩:=right_four h h4
   obtain rfl : d=e:=by omega
   unfold rawB esz;rw [if_neg (by omega),if_neg (by omega),if_neg (by omega),if_neg (by omega),if_neg (by omega),if_neg (by omega),if_neg (by omega)];simp only [h4,if_true,hi,Option.getD_some];have h1:=flat_len (rawB d) esz l (fun x hx=>ih x (List.all_eq_true.1 hl x hx));have h2:=its_esz _ _ l hi;simp only [List.length_cons,List.length_append,List.length_nil]
   omega
  by_cases h5 : v.f0=5
  ·
   obtain ⟨e,l,he2,hi,hn,hl⟩:=right_five h h5
   obtain rfl : d=e:=by omega
   unfold rawB esz;rw [if_neg (by omega),if_neg (by omega),if_neg (by omega),if_neg (by omega),if_neg (by omega),if_neg (by omega),if_neg (by omega)];simp only [if_neg h4,hi,Option.getD_some]
   have h1:=flat_len (fun f : IFld=>1 :: (escL (bytesOf f.f0)++rawB d f.f1)) fsz l (fun x hx=>by
    have:=ih x.f1 (List.all_eq_true.1 hl x hx);have h3:=escL_len (bytesOf x.f0);rw [bytesOf_length] at h3;unfold fsz;simp only [List.length_cons,List.length_append]
    omega)
   have h2:=fds_esz _ _ l hi;simp only [List.length_cons,List.length_append,List.length_nil]
   omega
  unfold rawB esz;have hs:=right_shape _ v h
  split
  ·
   simp
  split
  ·
   simp
  split
  ·
   simp [hd]
  split
  ·
   simp;omega
  unfold Shape at hs
  omega
theorem flat_in {α : Type} (g : α→List Int) : ∀ l : List α,(∀ x ∈ l,Byts (g x))→Byts (l.flatMap g):=fun l h b hb=>by
 obtain ⟨x,hx,hb⟩:=List.mem_flatMap.1 hb;exact h x hx b hb
theorem raw_at (d : Nat) (v : IVal) (l : List Int) (h : l=(
  if v.f0=0 then [] else if v.f0=1 then [v.f1 % 256] else if v.f0=2 then dig (v.f1+4611686018427387904) 8
  else if v.f0=3 then escL (bytesOf v.f2)
  else match d with
   | 0 => []
   | d+1=>if v.f0=4 then ((itS v.f2.size v.f2).getD []).flatMap (rawB d) ++ [0]
    else ((fdS v.f2.size v.f2).getD []).flatMap (fun f=>1 :: (escL (bytesOf f.f0)++rawB d f.f1)) ++ [0])) : rawB d v=((v.f0+1) % 256) :: l:=by
 subst h;cases d <;> rfl
theorem raw_in_of (d : Nat) (v : IVal) (hr : ∀ e,d=e+1 → ∀ u,Byts (rawB e u)) : Byts (rawB d v):=by
 have fin : ∀ l : List Int,rawB d v=((v.f0+1) % 256) :: l→Byts l→Byts (rawB d v):=fun l e hl b hb=>by
  rw [e] at hb;rcases List.mem_cons.1 hb with rfl|hb
  ·
   omega
  exact hl b hb
 by_cases h0 : v.f0=0
 ·
  exact fin [] (raw_at d v [] (by rw [if_pos h0])) (fun b hb=>by simp at hb)
 by_cases h1 : v.f0=1
 ·
  exact fin [v.f1 % 256] (raw_at d v _ (by rw [if_neg h0,if_pos h1])) (fun b hb=>by simp at hb;omega)
 by_cases h2 : v.f0=2
 ·
  exact fin _ (raw_at d v _ (by rw [if_neg h0,if_neg h1,if_pos h2])) (dig_in _ _)
 by_cases h3 : v.f0=3
 ·
  exact fin _ (raw_at d v _ (by rw [if_neg h0,if_neg h1,if_neg h2,if_pos h3])) (escL_in _ (bytes_in _))
 cases d with
 | zero=>exact fin [] (raw_at 0 v _ (by rw [if_neg h0,if_neg h1,if_neg h2,if_neg h3])) (fun b hb=>by simp at hb)
 | succ d =>
  have ih:=hr d rfl
  by_cases h4 : v.f0=4
  ·
   refine fin _ (raw_at (d+1) v _ (by rw [if_neg h0,if_neg h1,if_neg h2,if_neg h3])) (fun b hb=>?_)
   simp only [if_pos h4] at hb;rcases List.mem_append.1 hb with hb|hb
   ·
    exact flat_in _ _ (fun x _=>ih x) b hb
   simp at hb;omega
  refine fin _ (raw_at (d+1) v _ (by rw [if_neg h0,if_neg h1,if_neg h2,if_neg h3])) (fun b hb=>?_);simp only [if_neg h4] at hb;rcases List.mem_append.1 hb with hb|hb
  ·
   refine flat_in _ _ (fun f _ c hc=>?_) b hb
   rcases List.mem_cons.1 hc with rfl|hc
   ·
    omega
   rcases List.mem_append.1 hc with hc|hc
   ·
    exact escL_in _ (bytes_in _) c hc
   exact ih _ c hc
  simp at hb;omega
theorem raw_in : ∀ (d : Nat) (v : IVal),Byts (rawB d v)
 | 0,v=>raw_in_of 0 v (fun e h=>by omega)
 | d+1,v=>raw_in_of (d+1) v (fun e h u=>by
  obtain rfl : d=e:=by omega
  exact raw_in d u)
theorem str_len (l : List Int) : (strOfNums l).size=l.length:=by
 unfold strOfNums;simp [ByteArray.size]
theorem esc_spec (s : ByteArray) (hs : s.size≤1048576) : Eve (fun k=>Fu.f k s) (strOfNums (escL (bytesOf s))):=by
 have hn : (bytesOf s).length=s.size:=bytesOf_length s;simp only [Fu.f];refine (ev_loop0 (bytesOf s) (fun k (x : List Int) i=>Fu.l0 k s x i) (fun _ x r=>strOfNums (x++escL r)) (fun i x=>x.length≤2*i) (fun x hx=>?_) (fun i hi x hx ih=>?_) [] (by simp)).eq (by simp)
 ·
  simp only [Fu.l0,Option.bind_some]
  refine Eve.ite (fun h=>absurd h (by omega)) (fun _=>?_);refine Eve.ite (fun _=>Eve.one) (fun h=>absurd (by simp;omega) h)
 simp only [Fu.l0,Option.bind_some,bt_get s i hi,wi (show i≤9223372036854775806 by omega)];refine Eve.ite (fun _=>?_) (fun h=>absurd (by omega) h);refine Eve.ite (fun _=>?_) (fun h=>absurd (by omega) h);refine Eve.ite (fun _=>?_) (fun h=>absurd (by omega) h);refine Eve.ite (fun h0=>?_) (fun h0=>?_)
 ·
  refine Eve.ite (fun _=>?_) (fun h=>absurd (by simp;omega) h)
  refine (ih (x ++ [(bytesOf s)[i]] ++ [255]) (by simp;omega)).eq ?_;rw [escL,if_pos h0];simp
 refine (ih (x ++ [(bytesOf s)[i]]) (by simp;omega)).eq ?_;rw [escL,if_neg h0];simp
theorem esc_impl (acc : List Int) (s : ByteArray) (ha : acc.length≤4194304) (hs : s.size≤1048576) : Eve (fun k=>Ft.f k acc s) (acc++escL (bytesOf s)):=by
 have hn : (bytesOf s).length=s.size:=bytesOf_length s;simp only [Ft.f];refine ev_loop0 (bytesOf s) (fun k (x : List Int) i=>Ft.l0 k x s (s.size : Int) i) (fun _ x r=>x++escL r) (fun i x=>x.length≤acc.length+2*i) (fun x hx=>?_) (fun i hi x hx ih=>?_) acc (by simp)
 ·
  simp only [Ft.l0,Option.bind_some]
  refine Eve.ite (fun h=>absurd h (by omega)) (fun _=>?_);refine Eve.ite (fun _=>Eve.one.eq (by simp [escL])) (fun h=>absurd (by simp;omega) h)
 simp only [Ft.l0,Option.bind_some,bt_get s i hi,wi (show i≤9223372036854775806 by omega)];refine Eve.ite (fun _=>?_) (fun h=>absurd (by omega) h);refine Eve.ite (fun _=>?_) (fun h=>absurd (by omega) h);refine Eve.ite (fun _=>?_) (fun h=>absurd (by omega) h);refine Eve.ite (fun _=>?_) (fun h=>absurd (by omega) h);refine Eve.ite (fun h0=>?_) (fun h0=>?_)
 ·
  refine Eve.ite (fun _=>?_) (fun h=>absurd (by simp;omega) h)
  refine (ih (x ++ [(bytesOf s)[i]] ++ [255]) (by simp;omega)).eq ?_;rw [escL,if_pos h0];simp
 refine (ih (x ++ [(bytesOf s)[i]]) (by simp;omega)).eq ?_;rw [escL,if_neg h0];simp
theorem total_drop {α : Type} (s : α→Nat) (l : List α) (i : Nat) (h : i<l.length) : total s (l.drop i)=s l[i]+total s (l.drop (i+1)):=by
 rw [drop_at l i h];rfl
theorem key_impl : ∀ (d : Nat) (v : IVal) (acc : List Int),rightV d v=true→acc.length+3*esz v≤4000000→Eve (fun k=>F9.f k acc v.f0 v.f1 v.f2) (acc++rawB d v):=by
 intro d
 induction d with
 | zero =>
  intro v acc h ha;have hs:=right_shape 0 v h;have hk : 0≤v.f0∧v.f0≤5:=by unfold Shape at hs;omega
  have h3:=right_300 h;refine Eve.succ ?_;simp only [F9.f,Option.bind_some,w64 (i:=v.f0+1) (by omega) (by omega)];refine Eve.ite (fun _=>?_) (fun h=>absurd (by omega) h);refine Eve.ite (fun h1=>Eve.ite (fun _=>Eve.one.eq ?_) (fun h=>absurd (by simp;omega) h)) (fun h1=>?_)
  ·
   rw [raw_at 0 v [v.f1 % 256] (by rw [if_neg (by omega),if_pos h1])];simp
  refine Eve.ite (fun h2=>?_) (fun h2=>?_)
  ·
   have hv : -1000000000000≤v.f1∧v.f1≤1000000000000:=by unfold Shape at hs;omega
   rw [w64 (i:=v.f1+4611686018427387904) (by omega) (by omega)];refine Eve.bind (eight_tells _) (Eve.ite (fun _=>Eve.one.eq ?_) (fun h=>absurd (by simp [dig_length];omega) h));rw [raw_at 0 v _ (by rw [if_neg (by omega),if_neg h1,if_pos h2])];simp
  refine Eve.ite (fun h4=>?_) (fun h4=>?_)
  ·
   refine Eve.bind (esc_impl _ v.f2 (by simp;omega) (by omega)) (Eve.one.eq ?_)
   rw [raw_at 0 v _ (by rw [if_neg (by omega),if_neg h1,if_neg h2,if_pos h4])];simp
  have h0 : v.f0=0:=by
   have h9 : flat v=true:=h;unfold flat at h9
   by_cases q : v.f0=0
   ·
    exact q
   rw [if_neg q,if_neg h1,if_neg h2,if_neg h4] at h9;cases h9
  refine Eve.ite (fun h=>absurd h (by omega)) (fun _=>?_);refine Eve.ite (fun h=>absurd h (by omega)) (fun _=>Eve.one.eq ?_);rw [raw_at 0 v [] (by rw [if_pos h0])]
 | succ d ih =>
  intro v acc h ha;have hs:=right_shape _ v h;have hk : 0≤v.f0∧v.f0≤5:=by unfold Shape at hs;omega
  have h3:=right_300 h;refine Eve.succ ?_;simp only [F9.f,Option.bind_some,w64 (i:=v.f0+1) (by omega) (by omega)];refine Eve.ite (fun _=>?_) (fun h=>absurd (by omega) h);refine Eve.ite (fun h1=>Eve.ite (fun _=>Eve.one.eq ?_) (fun h=>absurd (by simp;omega) h)) (fun h1=>?_)
  ·
   rw [raw_at _ v [v.f1 % 256] (by rw [if_neg (by omega),if_pos h1])];simp
  refine Eve.ite (fun h2=>?_) (fun h2=>?_)
  ·
   have hv : -1000000000000≤v.f1∧v.f1≤1000000000000:=by unfold Shape at hs;omega
   rw [w64 (i:=v.f1+4611686018427387904) (by omega) (by omega)];refine Eve.bind (eight_tells _) (Eve.ite (fun _=>Eve.one.eq ?_) (fun h=>absurd (by simp [dig_length];omega) h));rw [raw_at _ v _ (by rw [if_neg (by omega),if_neg h1,if_pos h2])];simp
  refine Eve.ite (fun h4=>?_) (fun h4=>?_)
  ·
   refine Eve.bind (esc_impl _ v.f2 (by simp;omega) (by omega)) (Eve.one.eq ?_)
   rw [raw_at _ v _ (by rw [if_neg (by omega),if_neg h1,if_neg h2,if_pos h4])];simp
  refine Eve.ite (fun h5=>?_) (fun h5=>?_)
  ·
   obtain ⟨e,l,he2,hi,hl⟩:=right_four h h5
   obtain rfl : d=e:=by omega
   have hez : esz v=3+v.f2.size:=by unfold esz;rw [if_neg (by omega),if_neg (by omega),if_neg (by omega)]
   have hit:=items_some _ v.f2 [] l hi (by simp;omega);have hll:=(its_size _ _ l hi (by omega)).1;have htot:=its_esz _ _ l hi;simp only [Fa.f];refine Eve.bind hit ?_;simp only [List.nil_append];refine (ev_loop0 l (fun k (x : List Int) i=>F9.l0 k x l (l.length : Int) i) (fun _ x r=>x++r.flatMap (rawB d) ++ [0]) (fun i x=>x.length+3*total esz (l.drop i)≤3999999) (fun x hx=>?_) (fun i hi x hx ih2=>?_) (acc ++ [(v.f0+1) % 256]) (by simp;omega)).eq ?_
   ·
    simp only [F9.l0]
    refine Eve.ite (fun h=>absurd h (by omega)) (fun _=>?_);refine Eve.ite (fun _=>Eve.one.eq (by simp)) (fun h=>absurd (by omega) h)
   ·
    simp only [F9.l0,rdV l i hi,wi (show i≤9223372036854775806 by omega)]
    rw [total_drop esz l i hi] at hx;have hr:=List.all_eq_true.1 hl _ (List.getElem_mem hi);refine Eve.ite (fun _=>?_) (fun h=>absurd (by omega) h);refine Eve.ite (fun _=>?_) (fun h=>absurd (by omega) h);refine Eve.ite (fun _=>?_) (fun h=>absurd (by omega) h);refine Eve.bind (ih l[i] x hr (by omega)) ?_;have hlen:=raw_len d l[i] hr;refine (ih2 (x++rawB d l[i]) (by simp;omega)).eq ?_;rw [List.flatMap_cons];simp
   rw [raw_at (d+1) v _ (by rw [if_neg (by omega),if_neg h1,if_neg h2,if_neg h4])];simp only [h5,if_true,hi,Option.getD_some];simp
  refine Eve.ite (fun h6=>?_) (fun h6=>?_)
  ·
   obtain ⟨e,l,he2,hi,hn,hl⟩:=right_five h h6
   obtain rfl : d=e:=by omega
   have hez : esz v=3+v.f2.size:=by unfold esz;rw [if_neg (by omega),if_neg (by omega),if_neg (by omega)]
   have hit:=fields_some _ v.f2 [] l hi (by simp;omega);have hll:=fds_size _ _ l hi (by omega);have htot:=fds_esz _ _ l hi;simp only [F4.f];refine Eve.bind hit ?_;simp only [List.nil_append];refine (ev_loop0 l (fun k (x : List Int) i=>F9.l1 k x l (l.length : Int) i) (fun _ x r=>x++r.flatMap (fun f=>1 :: (escL (bytesOf f.f0)++rawB d f.f1)) ++ [0]) (fun i x=>x.length+3*total fsz (l.drop i)≤3999999) (fun x hx=>?_) (fun i hi x hx ih2=>?_) (acc ++ [(v.f0+1) % 256]) (by simp;omega)).eq ?_
   ·
    simp only [F9.l1]
    refine Eve.ite (fun h=>absurd h (by omega)) (fun _=>?_);refine Eve.ite (fun _=>Eve.one.eq (by simp)) (fun h=>absurd (by omega) h)
   ·
    simp only [F9.l1,rdF l i hi,wi (show i≤9223372036854775806 by omega)]
    rw [total_drop fsz l i hi] at hx;have hf : fsz l[i]=1+l[i].f0.size+esz l[i].f1:=rfl;have hr:=List.all_eq_true.1 hl _ (List.getElem_mem hi);have hsz:=hll.2 _ (List.getElem_mem hi);have he:=escL_len (bytesOf l[i].f0);rw [bytesOf_length] at he;refine Eve.ite (fun _=>?_) (fun h=>absurd (by omega) h);refine Eve.ite (fun _=>?_) (fun h=>absurd (by omega) h);refine Eve.ite (fun _=>?_) (fun h=>absurd (by omega) h);refine Eve.ite (fun _=>?_) (fun h=>absurd (by omega) h);refine Eve.bind (esc_impl (x ++ [1]) l[i].f0 (by simp;omega) hsz.1) ?_;refine Eve.bind (ih l[i].f1 (x ++ [1]++escL (bytesOf l[i].f0)) hr (by simp;omega)) ?_;have hlen:=raw_len d l[i].f1 hr;refine (ih2 (x ++ [1]++escL (bytesOf l[i].f0)++rawB d l[i].f1) (by simp;omega)).eq ?_;rw [List.flatMap_cons];simp
   rw [raw_at (d+1) v _ (by rw [if_neg (by omega),if_neg h1,if_neg h2,if_neg h4])];simp only [if_neg h5,hi,Option.getD_some];simp
  have h0 : v.f0=0:=by omega
  refine Eve.one.eq ?_;rw [raw_at _ v [] (by rw [if_pos h0])]
theorem one_number (x : Int) : Eve (fun k=>F8.f k x 1) (strOfNums [x % 256]):=by
 have h:=number_tells x 1 (by omega)
 have e : dig x 1=[x % 256]:=by
  show [shr .i64 x (8*((0 : Nat) : Int)) % 256]=[x % 256];rw [shr_zero]
 rw [e] at h;exact h
theorem raw_spec : ∀ (d : Nat) (v : IVal),rightV d v=true→Eve (fun k=>F7.f k v.f0 v.f1 v.f2) (strOfNums (rawB d v)):=by
 intro d
 induction d with
 | zero =>
  intro v h;have hs:=right_shape 0 v h;have hk : 0≤v.f0∧v.f0≤5:=by unfold Shape at hs;omega
  have h3:=right_300 h;refine Eve.succ ?_;simp only [F7.f,w64 (i:=v.f0+1) (by omega) (by omega)];refine Eve.bind (one_number (v.f0+1)) ?_;refine Eve.ite (fun h0=>Eve.one.eq ?_) (fun h0=>?_)
  ·
   rw [raw_at 0 v [] (by rw [if_pos h0])]
  refine Eve.ite (fun h1=>?_) (fun h1=>?_)
  ·
   refine Eve.bind (one_number v.f1) (Eve.ite (fun _=>Eve.one.eq ?_) (fun h=>absurd (by rw [str_len,str_len];simp) h))
   rw [raw_at 0 v [v.f1 % 256] (by rw [if_neg (by omega),if_pos h1]),← str_app];rfl
  refine Eve.ite (fun h2=>?_) (fun h2=>?_)
  ·
   have hv : -1000000000000≤v.f1∧v.f1≤1000000000000:=by unfold Shape at hs;omega
   rw [w64 (i:=v.f1+4611686018427387904) (by omega) (by omega)];refine Eve.bind (number_tells _ 8 (by omega)) (Eve.ite (fun _=>Eve.one.eq ?_) (fun h=>absurd (by rw [str_len,str_len];simp [dig_length]) h));rw [raw_at 0 v _ (by rw [if_neg (by omega),if_neg h1,if_pos h2]),← str_app];rfl
  refine Eve.ite (fun h4=>?_) (fun h4=>?_)
  ·
   have he:=escL_len (bytesOf v.f2)
   rw [bytesOf_length] at he;refine Eve.bind (esc_spec v.f2 (by omega)) (Eve.ite (fun _=>Eve.one.eq ?_) (fun h=>absurd (by rw [str_len,str_len];simp;omega) h));rw [raw_at 0 v _ (by rw [if_neg (by omega),if_neg h1,if_neg h2,if_pos h4]),← str_app];rfl
  have h9 : flat v=true:=h;unfold flat at h9;rw [if_neg h0,if_neg h1,if_neg h2,if_neg h4] at h9
  cases h9
 | succ d ih =>
  intro v h;have hs:=right_shape _ v h;have hk : 0≤v.f0∧v.f0≤5:=by unfold Shape at hs;omega
  have h3:=right_300 h;refine Eve.succ ?_;simp only [F7.f,w64 (i:=v.f0+1) (by omega) (by omega)];refine Eve.bind (one_number (v.f0+1)) ?_;refine Eve.ite (fun h0=>Eve.one.eq ?_) (fun h0=>?_)
  ·
   rw [raw_at _ v [] (by rw [if_pos h0])]
  refine Eve.ite (fun h1=>?_) (fun h1=>?_)
  ·
   refine Eve.bind (one_number v.f1) (Eve.ite (fun _=>Eve.one.eq ?_) (fun h=>absurd (by rw [str_len,str_len];simp) h))
   rw [raw_at _ v [v.f1 % 256] (by rw [if_neg (by omega),if_pos h1]),← str_app];rfl
  refine Eve.ite (fun h2=>?_) (fun h2=>?_)
  ·
   have hv : -1000000000000≤v.f1∧v.f1≤1000000000000:=by unfold Shape at hs;omega
   rw [w64 (i:=v.f1+4611686018427387904) (by omega) (by omega)];refine Eve.bind (number_tells _ 8 (by omega)) (Eve.ite (fun _=>Eve.one.eq ?_) (fun h=>absurd (by rw [str_len,str_len];simp [dig_length]) h));rw [raw_at _ v _ (by rw [if_neg (by omega),if_neg h1,if_pos h2]),← str_app];rfl
  refine Eve.ite (fun h4=>?_) (fun h4=>?_)
  ·
   have he:=escL_len (bytesOf v.f2)
   rw [bytesOf_length] at he;refine Eve.bind (esc_spec v.f2 (by omega)) (Eve.ite (fun _=>Eve.one.eq ?_) (fun h=>absurd (by rw [str_len,str_len];simp;omega) h));rw [raw_at _ v _ (by rw [if_neg (by omega),if_neg h1,if_neg h2,if_pos h4]),← str_app];rfl
  refine Eve.ite (fun h5=>?_) (fun h5=>?_)
  ·
   obtain ⟨e,l,he2,hi,hl⟩:=right_four h h5
   obtain rfl : d=e:=by omega
   have hit:=items_spec _ v.f2 [] (Nat.le_refl _) (by omega) (by simp;omega);have hll:=(its_size _ _ l hi (by omega)).1;have htot:=its_esz _ _ l hi;rw [hi] at hit;simp only [Fo.f];refine Eve.bind hit ?_;simp only [toldL,List.nil_append];refine (ev_loop0 l (fun k (x : ByteArray) i=>F7.l0 k x l i) (fun _ x r=>x++strOfNums (r.flatMap (rawB d) ++ [0])) (fun i x=>x.size+3*total esz (l.drop i)≤3999999) (fun x hx=>?_) (fun i hi x hx ih2=>?_) (strOfNums [(v.f0+1) % 256]) (by rw [str_len];simp;omega)).eq ?_
   ·
    simp only [F7.l0]
    refine Eve.ite (fun h=>absurd h (by omega)) (fun _=>?_);refine Eve.ite (fun _=>Eve.one.eq rfl) (fun h=>absurd (by omega) h)
   ·
    simp only [F7.l0,rdV l i hi,wi (show i≤9223372036854775806 by omega)]
    rw [total_drop esz l i hi] at hx;have hr:=List.all_eq_true.1 hl _ (List.getElem_mem hi);have hlen:=raw_len d l[i] hr;refine Eve.ite (fun _=>?_) (fun h=>absurd (by omega) h);refine Eve.ite (fun _=>?_) (fun h=>absurd (by omega) h);refine Eve.bind (ih l[i] hr) ?_;refine Eve.ite (fun _=>?_) (fun h=>absurd (by rw [str_len];omega) h);refine (ih2 (x++strOfNums (rawB d l[i])) (by rw [ByteArray.size_append,str_len];omega)).eq ?_;rw [List.flatMap_cons,List.append_assoc,str_app (rawB d l[i]),ByteArray.append_assoc]
   rw [← str_app,raw_at (d+1) v _ (by rw [if_neg (by omega),if_neg h1,if_neg h2,if_neg h4])];simp only [h5,if_true,hi,Option.getD_some]
   rfl
  have h6 : v.f0=5:=by omega
  obtain ⟨e,l,he2,hi,hn,hl⟩:=right_five h h6;obtain rfl : d=e:=by omega
  have hit:=fields_spec _ v.f2 [] (Nat.le_refl _) (by omega) (by simp;omega);have hll:=fds_size _ _ l hi (by omega);have htot:=fds_esz _ _ l hi;rw [hi] at hit;simp only [Fn.f];refine Eve.bind hit ?_;simp only [toldF,List.nil_append];refine (ev_loop0 l (fun k (x : ByteArray) i=>F7.l1 k x l i) (fun _ x r=>x++strOfNums (r.flatMap (fun f=>1 :: (escL (bytesOf f.f0)++rawB d f.f1)) ++ [0])) (fun i x=>x.size+3*total fsz (l.drop i)≤3999999) (fun x hx=>?_) (fun i hi x hx ih2=>?_) (strOfNums [(v.f0+1) % 256]) (by rw [str_len];simp;omega)).eq ?_
  ·
   simp only [F7.l1]
   refine Eve.ite (fun h=>absurd h (by omega)) (fun _=>?_);refine Eve.ite (fun _=>Eve.one.eq rfl) (fun h=>absurd (by omega) h)
  ·
   simp only [F7.l1,rdF l i hi,wi (show i≤9223372036854775806 by omega)]
   rw [total_drop fsz l i hi] at hx;have hf : fsz l[i]=1+l[i].f0.size+esz l[i].f1:=rfl;have hr:=List.all_eq_true.1 hl _ (List.getElem_mem hi);have hsz:=hll.2 _ (List.getElem_mem hi);have hlen:=raw_len d l[i].f1 hr;have he:=escL_len (bytesOf l[i].f0);rw [bytesOf_length] at he;have hone : (⟨#[1]⟩ : ByteArray)=strOfNums [1]:=rfl;refine Eve.ite (fun _=>?_) (fun h=>absurd (by omega) h);refine Eve.ite (fun _=>?_) (fun h=>absurd (by omega) h);refine Eve.bind (esc_spec l[i].f0 hsz.1) ?_;rw [hone,← str_app];refine Eve.ite (fun _=>?_) (fun h=>absurd (by rw [str_len];omega) h);refine Eve.bind (ih l[i].f1 hr) ?_;rw [← str_app];refine Eve.ite (fun _=>?_) (fun h=>absurd (by rw [str_len,str_len];simp;omega) h);refine Eve.ite (fun _=>?_) (fun h=>absurd (by rw [str_len];simp;omega) h);refine (ih2 _ (by rw [ByteArray.size_append,str_len];simp;omega)).eq ?_;rw [ByteArray.append_assoc,← str_app,List.flatMap_cons]
   congr 2
   simp
  rw [← str_app,raw_at (d+1) v _ (by rw [if_neg (by omega),if_neg h1,if_neg h2,if_neg h4])];simp only [if_neg h5,hi,Option.getD_some]
  rfl
def turnB (l : List Int) : List Int:=l.map (fun c=>(255 - c) % 256)
def keyB (v : IVal) (desc : Bool) : List Int:=if desc=true then turnB (rawB 5 v) else rawB 5 v
theorem turn_spec (l : List Int) (hl : Byts l) (hn : l.length≤1048576) : Eve (fun k=>F02.f k (strOfNums l)) (strOfNums (turnB l)):=by
 have hb:=bytes_str l hl;have hz:=str_len l;simp only [F02.f];refine (ev_loop0 l (fun k (x : List Int) i=>F02.l0 k (strOfNums l) x i) (fun _ x r=>strOfNums (x++turnB r)) (fun i x=>x.length≤i) (fun x hx=>?_) (fun i hi x hx ih=>?_) [] (by simp)).eq (by simp)
 ·
  simp only [F02.l0]
  exact Eve.ite (fun h=>absurd h (by omega)) (fun _=>Eve.one.eq (by simp [turnB]))
 have hi2 : i<(bytesOf (strOfNums l)).length:=by rw [hb];exact hi
 have hg : bt (strOfNums l) (i : Int)=l[i]:=bt_of l hl i hi;simp only [F02.l0,hg,wi (show i≤9223372036854775806 by omega)];refine Eve.ite (fun _=>?_) (fun h=>absurd (by omega) h);refine Eve.ite (fun _=>?_) (fun h=>absurd (by omega) h);refine Eve.ite (fun _=>?_) (fun h=>absurd (by omega) h);refine (ih (x ++ [(255 - l[i]) % 256]) (by simp;omega)).eq ?_;rw [show turnB (l[i] :: l.drop (i+1))=(255 - l[i]) % 256 :: turnB (l.drop (i+1)) from rfl,List.append_assoc]
 rfl
theorem fallen_tells (l : List Int) (desc : Bool) (hn : l.length≤1048576) : F08.f l desc=some (strOfNums (if desc=true then turnB l else l)):=by
 unfold F08.f;rw [if_pos (by omega)];have : F08.row l l.length=turnB l:=by simp [F08.row,turnB]
 rw [this]
theorem raw_909 {v : IVal} (h : rightV 5 v=true) : (rawB 5 v).length≤909:=by
 have h1:=raw_len 5 v h;have h2:=right_300 h;have h3 : esz v≤303:=by unfold esz;split;omega;split;omega;split;omega;omega
 omega
theorem keyOf_impl {v : IVal} (h : rightV 5 v=true) (desc : Bool) : Eve (fun k=>F0q.f k v.f0 v.f1 v.f2 desc) (strOfNums (keyB v desc)):=by
 have h2:=right_300 h;have h3 : esz v≤303:=by unfold esz;split;omega;split;omega;split;omega;omega
 simp only [F0q.f];refine Eve.bind (key_impl 5 v [] h (by simp;omega)) ?_;rw [List.nil_append];simp only [fallen_tells (rawB 5 v) desc (by have:=raw_909 h;omega),Option.bind_some];exact Eve.one
theorem key_spec {v : IVal} (h : rightV 5 v=true) (desc : Bool) : Eve (fun k=>F0s.f k v.f0 v.f1 v.f2 desc) (strOfNums (keyB v desc)):=by
 simp only [F0s.f];unfold keyB
 cases desc with
 | true =>
  simp only [if_true];refine Eve.bind (raw_spec 5 v h) ?_;exact Eve.bind (turn_spec _ (raw_in 5 v) (by have:=raw_909 h;omega)) Eve.one
 | false =>
  simp only [Bool.false_eq_true,if_false];exact Eve.bind (raw_spec 5 v h) Eve.one
theorem cb_is : ∀ x y : List UInt8,Lib.compareBytes x y=if Op.bytesLess x y=true then -1 else if x=y then 0 else 1
 | [],[]=>by simp [Lib.compareBytes,Op.bytesLess]
 | [],_ :: _=>by simp [Lib.compareBytes,Op.bytesLess]
 | _ :: _,[]=>by simp [Lib.compareBytes,Op.bytesLess]
 | a :: x,b :: y=>by
  simp only [Lib.compareBytes,Op.bytesLess];rw [cb_is x y]
  by_cases h : a<b
  ·
   simp [h]
  by_cases h2 : b<a
  ·
   have h3 : ¬ a=b:=by rintro rfl;exact h h2
   simp [h,h2,h3]
  have h3 : a=b:=by
   apply UInt8.toNat_inj.mp;rw [UInt8.lt_iff_toNat_lt] at h h2
   omega
  subst h3;simp [h]
theorem cb_self (x : List UInt8) : Lib.compareBytes x x=0:=by
 induction x with
 | nil=>rfl
 | cons a x ih=>simp [Lib.compareBytes,ih]
def cmpB (a b : ByteArray) : Int:=Lib.compareBytes a.data.toList b.data.toList
def cmpI (a b : Int) : Int:=if a<b then -1 else if a > b then 1 else 0
def or2 (x y : Int) : Int:=if x=0 then y else x
theorem cmpB_self (a : ByteArray) : cmpB a a=0:=cb_self _
theorem cmpB_zero {a b : ByteArray} (h : cmpB a b=0) : a=b:=by
 unfold cmpB at h;rw [cb_is] at h
 by_cases h1 : Op.bytesLess a.data.toList b.data.toList=true
 ·
  rw [if_pos h1] at h;exact absurd h (by decide)
 rw [if_neg h1] at h
 by_cases h2 : a.data.toList=b.data.toList
 ·
  exact ba_ext (by rw [ba_toList,ba_toList,h2])
 rw [if_neg h2] at h;exact absurd h (by decide)
theorem cmpI_self (a : Int) : cmpI a a=0:=by unfold cmpI;simp
theorem cmpI_zero {a b : Int} (h : cmpI a b=0) : a=b:=by unfold cmpI at h;split at h <;> (try split at h) <;> omega
theorem or2_zero {x y : Int} (h : or2 x y=0) : x=0∧y=0:=by
 unfold or2 at h
 split at h
 ·
  exact ⟨by assumption,h⟩
 contradiction
theorem or2_r {x y : Int} (h : x=0) : or2 x y=y:=if_pos h
theorem or2_l {x y : Int} (h : ¬ x=0) : or2 x y=x:=if_neg h
def lexL {α : Type} (c : α→α→Int) : List α→List α→Int
 | [],[]=>0
 | [],_ :: _ => -1
 | _ :: _,[]=>1
 | x :: xs,y :: ys=>or2 (c x y) (lexL c xs ys)
def lsV (v : IVal) : List IVal:=(itS v.f2.size v.f2).getD []
def fsV (v : IVal) : List IFld:=(fdS v.f2.size v.f2).getD []
def cmpF (c : IVal→IVal→Int) (x y : IFld) : Int:=or2 (cmpB x.f0 y.f0) (c x.f1 y.f1)
def ordV : Nat→IVal→IVal→Int
 | 0,a,b=>or2 (or2 (cmpI a.f0 b.f0) (cmpI a.f1 b.f1)) (cmpB a.f2 b.f2)
 | d+1,a,b=>or2 (or2 (cmpI a.f0 b.f0) (cmpI a.f1 b.f1)) (if a.f0=4 then lexL (ordV d) (lsV a) (lsV b) else if a.f0=5 then lexL (cmpF (ordV d)) (fsV a) (fsV b) else cmpB a.f2 b.f2)
theorem lex_self {α : Type} (c : α→α→Int) (h : ∀ x,c x x=0) : ∀ l : List α,lexL c l l=0
 | []=>rfl
 | x :: l=>by simp only [lexL,h x,or2,if_true];exact lex_self c h l
theorem lex_zero {α : Type} (c : α→α→Int) : ∀ l m : List α,(∀ x ∈ l,∀ y ∈ m,c x y=0→x=y)→lexL c l m=0→l=m
 | [],[],_,_=>rfl
 | [],_ :: _,_,h=>absurd h (by simp [lexL])
 | _ :: _,[],_,h=>absurd h (by simp [lexL])
 | x :: l,y :: m,hc,h=>by
  obtain ⟨h1,h2⟩:=or2_zero h;rw [hc x (by simp) y (by simp) h1,lex_zero c l m (fun u hu v hv=>hc u (by simp [hu]) v (by simp [hv])) h2]
theorem four_holds {d : Nat} {v : IVal} (h : rightV d v=true) (h4 : v.f0=4) (hs : v.f2.size≤1048576) : ∃ e,d=e+1∧itS v.f2.size v.f2=some (lsV v)∧(lsV v).length≤1048576 ∧ ∀ x ∈ lsV v,rightV e x=true∧x.f2.size≤1048576:=by
 obtain ⟨e,l,he,hi,hr⟩:=right_four h h4;obtain ⟨h1,h2⟩:=its_size _ _ l hi hs;have hl : lsV v=l:=by unfold lsV;rw [hi];rfl
 rw [hl];exact ⟨e,he,hi,by omega,fun x hx=>⟨List.all_eq_true.1 hr x hx,h2 x hx⟩⟩
theorem five_holds {d : Nat} {v : IVal} (h : rightV d v=true) (h5 : v.f0=5) (hs : v.f2.size≤1048576) : ∃ e,d=e+1∧fdS v.f2.size v.f2=some (fsV v)∧(fsV v).length≤1048576 ∧ ∀ x ∈ fsV v,rightV e x.f1=true∧x.f1.f2.size≤1048576:=by
 obtain ⟨e,l,he,hi,_,hr⟩:=right_five h h5;obtain ⟨h1,h2⟩:=fds_size _ _ l hi hs;have hl : fsV v=l:=by unfold fsV;rw [hi];rfl
 rw [hl];exact ⟨e,he,hi,by omega,fun x hx=>⟨List.all_eq_true.1 hr x hx,(h2 x hx).2⟩⟩
theorem ord_zero : ∀ (d : Nat) (a b : IVal),rightV d a=true→rightV d b=true→a.f2.size≤1048576→b.f2.size≤1048576→ordV d a b=0→a=b:=by
 intro d
 induction d with
 | zero =>
  intro a b _ _ _ _ h;obtain ⟨h1,h2⟩:=or2_zero h;obtain ⟨h3,h4⟩:=or2_zero h1;exact ival_ext (cmpI_zero h3) (cmpI_zero h4) (cmpB_zero h2)
 | succ d ih =>
  intro a b ra rb sa sb h;obtain ⟨h1,h2⟩:=or2_zero h;obtain ⟨h3,h4⟩:=or2_zero h1;have e0:=cmpI_zero h3;refine ival_ext e0 (cmpI_zero h4) ?_
  by_cases k4 : a.f0=4
  ·
   rw [if_pos k4] at h2
   obtain ⟨e,he,ia,_,ha⟩:=four_holds ra k4 sa;obtain ⟨e',he',ib,_,hb⟩:=four_holds rb (e0 ▸ k4) sb;obtain rfl : d=e:=by omega
   obtain rfl : d=e':=by omega
   have hl:=lex_zero _ _ _ (fun x hx y hy=>ih x y (ha x hx).1 (hb y hy).1 (ha x hx).2 (hb y hy).2) h2;rw [hl] at ia;exact its_inj _ _ _ _ _ ia ib
  rw [if_neg k4] at h2
  by_cases k5 : a.f0=5
  ·
   rw [if_pos k5] at h2
   obtain ⟨e,he,ia,_,ha⟩:=five_holds ra k5 sa;obtain ⟨e',he',ib,_,hb⟩:=five_holds rb (e0 ▸ k5) sb;obtain rfl : d=e:=by omega
   obtain rfl : d=e':=by omega
   have hl:=lex_zero _ _ _ (fun x hx y hy hxy=>by
    obtain ⟨q1,q2⟩:=or2_zero hxy;have q3:=ih x.f1 y.f1 (ha x hx).1 (hb y hy).1 (ha x hx).2 (hb y hy).2 q2;have q4:=cmpB_zero q1
    cases x;cases y
    simp_all) h2
   rw [hl] at ia;exact fds_inj _ _ _ _ _ ia ib
  rw [if_neg k5] at h2;exact cmpB_zero h2
theorem or2_assoc (x y z : Int) : or2 (or2 x y) z=or2 x (or2 y z):=by
 by_cases h : x=0
 ·
  rw [or2_r h,or2_r h]
 rw [or2_l h,or2_l h,or2_l h]
theorem or2_zero_l (z : Int) : or2 0 z=z:=rfl
theorem or2_zero_r (z : Int) : or2 z 0=z:=by unfold or2;split <;> simp_all
abbrev lexI : List Int→List Int→Int:=lexL cmpI
def Dcd (c : Int) (x y : List Int) : Prop:=∀ s t,lexI (x++s) (y++t)=or2 c (lexI s t)
theorem Dcd.nil : Dcd 0 [] []:=fun s t=>by rw [List.nil_append,List.nil_append,or2_zero_l]
theorem Dcd.one (a b : Int) : Dcd (cmpI a b) [a] [b]:=fun _ _=>rfl
theorem Dcd.app {c d : Int} {x y x' y' : List Int} (h : Dcd c x y) (h2 : c=0→Dcd d x' y') : Dcd (or2 c d) (x++x') (y++y'):=fun s t=>by
 rw [List.append_assoc,List.append_assoc,h,or2_assoc]
 by_cases hc : c=0
 ·
  rw [h2 hc]
 rw [or2_l hc,or2_l hc]
theorem Dcd.cons {a b d : Int} {x' y' : List Int} (h2 : a=b→Dcd d x' y') : Dcd (or2 (cmpI a b) d) (a :: x') (b :: y') :=
 Dcd.app (Dcd.one a b) (fun h=>h2 (cmpI_zero h))
theorem Dcd.same {a d : Int} {x' y' : List Int} (h : Dcd d x' y') : Dcd d (a :: x') (a :: y'):=by
 have:=Dcd.cons (a:=a) (b:=a) (fun _=>h)
 rwa [cmpI_self,or2_zero_l] at this
theorem Dcd.first {a b c : Int} {x' y' : List Int} (h : ¬ a=b) (hc : cmpI a b=c) : Dcd c (a :: x') (b :: y'):=fun s t=>by
 have hn : ¬ cmpI a b=0:=fun e=>h (cmpI_zero e);show or2 (cmpI a b) _=_;rw [or2_l hn,← hc,or2_l hn]
theorem dig_succ (x : Int) (m : Nat) (h : m≤8) : dig x (m+1)=(x / 2 ^ (8*m)) % 256 :: dig x m:=by
 show shr .i64 x (8*(m : Int)) % 256 :: dig x m=_;rw [shr_at x m h]
theorem emod_split (z P : Int) (hP : 0<P) : z % (P*256)=(z / P % 256)*P+z % P:=by
 have h1:=Int.mul_ediv_add_emod z P;have h2:=Int.mul_ediv_add_emod (z / P) 256;have h3:=Int.emod_nonneg z (show P≠0 by omega);have h4:=Int.emod_lt_of_pos z hP;have h5:=Int.emod_nonneg (z / P) (show (256 : Int)≠0 by omega);have h6:=Int.emod_lt_of_pos (z / P) (show (0 : Int)<256 by omega);generalize z % P=r at h1 h3 h4 ⊢;generalize hq : z / P=q at h1 h2 h5 h6 ⊢;generalize q % 256=u at h2 h5 h6 ⊢;generalize q / 256=w at h2
 have e : z=(u*P+r)+(P*256)*w:=by
  rw [← h1,← h2,Int.mul_add,Int.mul_comm u P,← Int.mul_assoc]
  omega
 have b1 : 0≤u*P:=Int.mul_nonneg h5 (by omega);have b2 : u*P≤255*P:=Int.mul_le_mul_of_nonneg_right (by omega) (by omega);rw [e,Int.add_mul_emod_self_left];exact Int.emod_eq_of_lt (by omega) (by omega)
theorem dig_dcd (x y : Int) (hx : 0≤x) (hy : 0≤y) : ∀ m : Nat,m≤8→Dcd (cmpI (x % 2 ^ (8*m)) (y % 2 ^ (8*m))) (dig x m) (dig y m)
 | 0,_=>by
  have e : ∀ z : Int,z % 2 ^ (8*0)=0:=fun z=>by simp
  rw [e,e,cmpI_self];exact Dcd.nil
 | m+1,hm=>by
  rw [dig_succ x m (by omega),dig_succ y m (by omega)];have ih:=dig_dcd x y hx hy m (by omega);have hp:=pow_at m;have hpe:=pow_eight m
  have key : cmpI (x % 2 ^ (8*(m+1))) (y % 2 ^ (8*(m+1)))=or2 (cmpI (x / 2 ^ (8*m) % 256) (y / 2 ^ (8*m) % 256)) (cmpI (x % 2 ^ (8*m)) (y % 2 ^ (8*m))):=by
   have sp : ∀ z : Int,z % 2 ^ (8*(m+1))=(z / 2 ^ (8*m) % 256)*2 ^ (8*m)+z % 2 ^ (8*m):=fun z=>by
    rw [hpe];exact emod_split z _ hp
   rw [sp x,sp y];have rx:=Int.emod_nonneg x (show (2 : Int) ^ (8*m)≠0 by omega);have ry:=Int.emod_nonneg y (show (2 : Int) ^ (8*m)≠0 by omega);have lx:=Int.emod_lt_of_pos x hp;have ly:=Int.emod_lt_of_pos y hp;generalize x % 2 ^ (8*m)=u at rx lx ⊢;generalize y % 2 ^ (8*m)=v at ry ly ⊢;generalize x / 2 ^ (8*m) % 256=a;generalize y / 2 ^ (8*m) % 256=b;generalize (2 : Int) ^ (8*m)=P at hp lx ly ⊢;rcases Int.lt_trichotomy a b with h|h|h
   ·
    have h1 : (a+1)*P≤b*P:=Int.mul_le_mul_of_nonneg_right (by omega) (by omega)
    rw [Int.add_mul] at h1;have : a*P+u<b*P+v:=by omega
    unfold cmpI;rw [if_pos this,if_pos h];rfl
   ·
    subst h
    rw [cmpI_self,or2_zero_l];unfold cmpI
    by_cases h1 : u<v
    ·
     rw [if_pos h1,if_pos (by omega)]
    rw [if_neg h1,if_neg (by omega)]
    by_cases h2 : u > v
    ·
     rw [if_pos h2,if_pos (by omega)]
    rw [if_neg h2,if_neg (by omega)]
   have h1 : (b+1)*P≤a*P:=Int.mul_le_mul_of_nonneg_right (by omega) (by omega);rw [Int.add_mul] at h1;have : b*P+v<a*P+u:=by omega
   unfold cmpI;rw [if_neg (by omega),if_pos (by omega),if_neg (by omega),if_pos (by omega)];rfl
  rw [key];exact Dcd.cons (fun _=>ih)
theorem int_dcd (x y : Int) (hx : 0≤x∧x<9223372036854775808) (hy : 0≤y∧y<9223372036854775808) : Dcd (cmpI x y) (dig x 8) (dig y 8):=by
 have:=dig_dcd x y hx.1 hy.1 8 (by omega);have e : (2 : Int) ^ (8*8)=18446744073709551616:=by decide
 rw [e,Int.emod_eq_of_lt hx.1 (by omega),Int.emod_eq_of_lt hy.1 (by omega)] at this;exact this
theorem cmp_lt {a b : Int} (h : a<b) : cmpI a b = -1:=by unfold cmpI;rw [if_pos h]
theorem cmp_gt {a b : Int} (h : b<a) : cmpI a b=1:=by unfold cmpI;rw [if_neg (by omega),if_pos (by omega)]
theorem esc_dcd : ∀ l m : List Int,Byts l→Byts m→Dcd (lexI l m) (escL l) (escL m)
 | [],[],_,_=>Dcd.same (Dcd.same Dcd.nil)
 | [],b :: m,_,hm=>by
  have hb:=hm b (by simp);show Dcd (-1) [0,0] (escL (b :: m));unfold escL
  by_cases h : b=0
  ·
   subst h
   rw [if_pos rfl];exact Dcd.same (Dcd.first (by decide) (cmp_lt (by decide)))
  rw [if_neg h];exact Dcd.first (fun e=>h e.symm) (cmp_lt (by omega))
 | a :: l,[],hl,_=>by
  have ha:=hl a (by simp);show Dcd 1 (escL (a :: l)) [0,0];unfold escL
  by_cases h : a=0
  ·
   subst h
   rw [if_pos rfl];exact Dcd.same (Dcd.first (by decide) (cmp_gt (by decide)))
  rw [if_neg h];exact Dcd.first h (cmp_gt (by omega))
 | a :: l,b :: m,hl,hm=>by
  have ih:=esc_dcd l m (fun x hx=>hl x (by simp [hx])) (fun x hx=>hm x (by simp [hx]));show Dcd (or2 (cmpI a b) (lexI l m)) (escL (a :: l)) (escL (b :: m));unfold escL
  by_cases h : a=b
  ·
   subst h
   rw [cmpI_self,or2_zero_l]
   by_cases h0 : a=0
   ·
    rw [if_pos h0,if_pos h0];exact Dcd.same (Dcd.same ih)
   rw [if_neg h0,if_neg h0];exact Dcd.same ih
  have hn : ¬ cmpI a b=0:=fun e=>h (cmpI_zero e);rw [or2_l hn];exact Dcd.first h rfl
theorem bytes_cmp : ∀ x y : List UInt8,lexI (x.map (fun b=>(b.toNat : Int))) (y.map (fun b=>(b.toNat : Int)))=Lib.compareBytes x y
 | [],[]=>rfl
 | [],_ :: _=>rfl
 | _ :: _,[]=>rfl
 | a :: x,b :: y=>by
  show or2 (cmpI (a.toNat : Int) (b.toNat : Int)) (lexI _ _)=_;rw [bytes_cmp x y];simp only [Lib.compareBytes]
  by_cases h : a<b
  ·
   have h' : (a.toNat : Int)<(b.toNat : Int):=by rw [UInt8.lt_iff_toNat_lt] at h;omega
   rw [if_pos h,cmp_lt h'];rfl
  by_cases h2 : b<a
  ·
   have h' : (b.toNat : Int)<(a.toNat : Int):=by rw [UInt8.lt_iff_toNat_lt] at h2;omega
   rw [if_neg h,if_pos h2,cmp_gt h'];rfl
  have e : a=b:=by
   apply UInt8.toNat_inj.mp;rw [UInt8.lt_iff_toNat_lt] at h h2
   omega
  subst e;rw [if_neg h,if_neg h,cmpI_self,or2_zero_l]
theorem bytesOf_map (a : ByteArray) : bytesOf a=a.data.toList.map (fun b=>(b.toNat : Int)):=by
 unfold bytesOf
 first|rfl|simp
theorem text_dcd (a b : ByteArray) : Dcd (cmpB a b) (escL (bytesOf a)) (escL (bytesOf b)):=by
 have:=esc_dcd (bytesOf a) (bytesOf b) (bytes_in a) (bytes_in b);have e : lexI (bytesOf a) (bytesOf b)=cmpB a b:=by rw [bytesOf_map,bytesOf_map,bytes_cmp];rfl
 rwa [e] at this
theorem row_dcd {α : Type} (c : α→α→Int) (r : α→List Int) : ∀ L M : List α,(∀ x ∈ L,∀ y ∈ M,Dcd (c x y) (r x) (r y))→(∀ x ∈ L,∃ h u,r x=h :: u∧1≤h)→(∀ x ∈ M,∃ h u,r x=h :: u∧1≤h) →
  Dcd (lexL c L M) (L.flatMap r ++ [0]) (M.flatMap r ++ [0])
 | [],[],_,_,_=>Dcd.same Dcd.nil
 | [],y :: M,_,_,hM=>by
  obtain ⟨h,u,e,hh⟩:=hM y (by simp);show Dcd (-1) [0] _;rw [List.flatMap_cons,e];exact Dcd.first (by omega) (cmp_lt (by omega))
 | x :: L,[],_,hL,_=>by
  obtain ⟨h,u,e,hh⟩:=hL x (by simp);show Dcd 1 _ [0];rw [List.flatMap_cons,e];exact Dcd.first (by omega) (cmp_gt (by omega))
 | x :: L,y :: M,hc,hL,hM=>by
  show Dcd (or2 (c x y) (lexL c L M)) _ _;rw [List.flatMap_cons,List.flatMap_cons,List.append_assoc,List.append_assoc];exact Dcd.app (hc x (by simp) y (by simp)) (fun _=>row_dcd c r L M (fun u hu v hv=>hc u (by simp [hu]) v (by simp [hv])) (fun u hu=>hL u (by simp [hu])) (fun u hu=>hM u (by simp [hu])))
theorem raw_head {d : Nat} {v : IVal} (h : rightV d v=true) : ∃ a u,rawB d v=a :: u∧1≤a:=by
 have hS:=right_shape d v h;have hk : 0≤v.f0∧v.f0≤5:=by rcases hS with ⟨h,_⟩|⟨h,_⟩|⟨h,_⟩|⟨h,_⟩ <;> omega
 refine ⟨(v.f0+1) % 256,_,by unfold rawB;rfl,by omega⟩
theorem Dcd.refl : ∀ x : List Int,Dcd 0 x x
 | []=>Dcd.nil
 | _ :: x=>Dcd.same (Dcd.refl x)
theorem raw_cons (d : Nat) (v : IVal) : ∃ u,rawB d v=(v.f0+1) % 256 :: u:=⟨_,by unfold rawB;rfl⟩
theorem raw_is1 (d : Nat) (v : IVal) (h : v.f0=1) : rawB d v=[(v.f0+1) % 256,v.f1 % 256]:=by
 unfold rawB;rw [if_neg (by omega),if_pos h]
theorem raw_is2 (d : Nat) (v : IVal) (h : v.f0=2) : rawB d v=(v.f0+1) % 256 :: dig (v.f1+4611686018427387904) 8:=by
 unfold rawB;rw [if_neg (by omega),if_neg (by omega),if_pos h]
theorem raw_is3 (d : Nat) (v : IVal) (h : v.f0=3) : rawB d v=(v.f0+1) % 256 :: escL (bytesOf v.f2):=by
 unfold rawB;rw [if_neg (by omega),if_neg (by omega),if_neg (by omega),if_pos h]
theorem raw_is4 (d : Nat) (v : IVal) (h : v.f0=4) : rawB (d+1) v=(v.f0+1) % 256 :: ((lsV v).flatMap (rawB d) ++ [0]):=by
 conv=>lhs;unfold rawB
 rw [if_neg (by omega),if_neg (by omega),if_neg (by omega),if_neg (by omega)];simp only;rw [if_pos h];rfl
def fldK (d : Nat) (f : IFld) : List Int:=1 :: (escL (bytesOf f.f0)++rawB d f.f1)
theorem raw_is5 (d : Nat) (v : IVal) (h : v.f0=5) : rawB (d+1) v=(v.f0+1) % 256 :: ((fsV v).flatMap (fldK d) ++ [0]):=by
 conv=>lhs;unfold rawB
 rw [if_neg (by omega),if_neg (by omega),if_neg (by omega),if_neg (by omega)];simp only;rw [if_neg (by omega)];rfl
theorem ord_first (d : Nat) (a b : IVal) (h : ¬ a.f0=b.f0) : ordV d a b=cmpI a.f0 b.f0:=by
 have hn : ¬ cmpI a.f0 b.f0=0:=fun e=>h (cmpI_zero e)
 cases d <;> simp only [ordV] <;> rw [or2_assoc,or2_l hn]
theorem ord_flat (d : Nat) (a b : IVal) (h : a.f0=b.f0) (h4 : ¬ a.f0=4) (h5 : ¬ a.f0=5) : ordV d a b=or2 (cmpI a.f1 b.f1) (cmpB a.f2 b.f2):=by
 have hz : cmpI a.f0 b.f0=0:=by rw [h,cmpI_self]
 cases d
 ·
  simp only [ordV]
  rw [or2_r hz]
 simp only [ordV];rw [or2_r hz,if_neg h4,if_neg h5]
theorem ord_four (d : Nat) (a b : IVal) (h : a.f0=b.f0) (h4 : a.f0=4) : ordV (d+1) a b=or2 (cmpI a.f1 b.f1) (lexL (ordV d) (lsV a) (lsV b)):=by
 have hz : cmpI a.f0 b.f0=0:=by rw [h,cmpI_self]
 simp only [ordV];rw [or2_r hz,if_pos h4]
theorem ord_five (d : Nat) (a b : IVal) (h : a.f0=b.f0) (h5 : a.f0=5) : ordV (d+1) a b=or2 (cmpI a.f1 b.f1) (lexL (cmpF (ordV d)) (fsV a) (fsV b)):=by
 have hz : cmpI a.f0 b.f0=0:=by rw [h,cmpI_self]
 simp only [ordV];rw [or2_r hz,if_neg (by omega),if_pos h5]
theorem cmp_shift (x y c : Int) : cmpI (x+c) (y+c)=cmpI x y:=by
 unfold cmpI
 by_cases h : x<y
 ·
  rw [if_pos h,if_pos (by omega)]
 rw [if_neg h,if_neg (by omega)]
 by_cases h2 : x > y
 ·
  rw [if_pos h2,if_pos (by omega)]
 rw [if_neg h2,if_neg (by omega)]
theorem raw_dcd : ∀ (d : Nat) (a b : IVal),rightV d a=true→rightV d b=true→a.f2.size≤1048576→b.f2.size≤1048576→Dcd (ordV d a b) (rawB d a) (rawB d b):=by
 intro d
 induction d using Nat.strongRecOn with
 | ind d ih =>
  intro a b ha hb sa sb;have hSa:=right_shape d a ha;have hSb:=right_shape d b hb;have ka : 0≤a.f0∧a.f0≤5:=by rcases hSa with ⟨h,_⟩|⟨h,_⟩|⟨h,_⟩|⟨h,_⟩ <;> omega
  have kb : 0≤b.f0∧b.f0≤5:=by rcases hSb with ⟨h,_⟩|⟨h,_⟩|⟨h,_⟩|⟨h,_⟩ <;> omega
  by_cases hk : a.f0=b.f0
  ·
   have e1 : (a.f0+1) % 256=(b.f0+1) % 256:=by rw [hk]
   by_cases h4 : a.f0=4
   ·
    obtain ⟨e,rfl,_,_,hha⟩:=four_holds ha h4 sa
    obtain ⟨e',he',_,_,hhb⟩:=four_holds hb (by omega) sb;obtain rfl : e=e':=by omega
    have f1a : a.f1=0:=by rcases hSa with ⟨h,_⟩|⟨h,_⟩|⟨h,_⟩|⟨_,h,_⟩ <;> omega
    have f1b : b.f1=0:=by rcases hSb with ⟨h,_⟩|⟨h,_⟩|⟨h,_⟩|⟨_,h,_⟩ <;> omega
    rw [ord_four e a b hk h4,f1a,f1b,cmpI_self,or2_zero_l,raw_is4 e a h4,raw_is4 e b (by omega),e1];exact Dcd.same (row_dcd (ordV e) (rawB e) _ _ (fun x hx y hy=>ih e (by omega) x y (hha x hx).1 (hhb y hy).1 (hha x hx).2 (hhb y hy).2) (fun x hx=>raw_head (hha x hx).1) (fun x hx=>raw_head (hhb x hx).1))
   by_cases h5 : a.f0=5
   ·
    obtain ⟨e,rfl,_,_,hha⟩:=five_holds ha h5 sa
    obtain ⟨e',he',_,_,hhb⟩:=five_holds hb (by omega) sb;obtain rfl : e=e':=by omega
    have f1a : a.f1=0:=by rcases hSa with ⟨h,_⟩|⟨h,_⟩|⟨h,_⟩|⟨_,h,_⟩ <;> omega
    have f1b : b.f1=0:=by rcases hSb with ⟨h,_⟩|⟨h,_⟩|⟨h,_⟩|⟨_,h,_⟩ <;> omega
    rw [ord_five e a b hk h5,f1a,f1b,cmpI_self,or2_zero_l,raw_is5 e a h5,raw_is5 e b (by omega),e1];refine Dcd.same (row_dcd (cmpF (ordV e)) (fldK e) _ _ (fun x hx y hy=>?_) (fun x _=>⟨1,_,rfl,by omega⟩) (fun x _=>⟨1,_,rfl,by omega⟩));exact Dcd.same (Dcd.app (text_dcd x.f0 y.f0) (fun _=>ih e (by omega) x.f1 y.f1 (hha x hx).1 (hhb y hy).1 (hha x hx).2 (hhb y hy).2))
   rw [ord_flat d a b hk h4 h5];rcases hSa with ⟨h0,q1,q2⟩|⟨h1,q1,q2⟩|⟨h2,q1,q2⟩|⟨h3,q1,q2⟩
   ·
    have hq : b.f1=0∧b.f2=eB:=by rcases hSb with ⟨_,h,h'⟩|⟨h,_⟩|⟨h,_⟩|⟨h,_⟩ <;> first|exact ⟨h,h'⟩|omega
    have hab : a=b:=ival_ext hk (by rw [q1,hq.1]) (by rw [q2,hq.2]);subst hab;rw [cmpI_self,cmpB_self,or2_zero_l];exact Dcd.refl _
   ·
    have hq : (0≤b.f1∧b.f1≤1)∧b.f2=eB:=by rcases hSb with ⟨h,_⟩|⟨_,h,h'⟩|⟨h,_⟩|⟨h,_⟩ <;> first|exact ⟨h,h'⟩|omega
    rw [q2,hq.2,cmpB_self,or2_zero_r,raw_is1 d a h1,raw_is1 d b (by omega),e1];have m1 : a.f1 % 256=a.f1:=by omega
    have m2 : b.f1 % 256=b.f1:=by have:=hq.1;omega
    rw [m1,m2];exact Dcd.same (Dcd.one a.f1 b.f1)
   ·
    have hq : (-1000000000000≤b.f1∧b.f1≤1000000000000)∧b.f2=eB:=by rcases hSb with ⟨h,_⟩|⟨h,_⟩|⟨_,h,h'⟩|⟨h,_⟩ <;> first|exact ⟨h,h'⟩|omega
    rw [q2,hq.2,cmpB_self,or2_zero_r,raw_is2 d a h2,raw_is2 d b (by omega),e1];have:=int_dcd (a.f1+4611686018427387904) (b.f1+4611686018427387904) (by omega) (by have:=hq.1;omega);rw [cmp_shift] at this;exact Dcd.same this
   have hq : b.f1=0:=by rcases hSb with ⟨_,h,_⟩|⟨h,_⟩|⟨h,_⟩|⟨_,h,_⟩ <;> first|exact h|omega
   have h3' : a.f0=3:=by omega
   rw [q1,hq,cmpI_self,or2_zero_l,raw_is3 d a h3',raw_is3 d b (by omega),e1];exact Dcd.same (text_dcd _ _)
  obtain ⟨u,hu⟩:=raw_cons d a;obtain ⟨w,hw⟩:=raw_cons d b;rw [ord_first d a b hk,hu,hw];have e1 : (a.f0+1) % 256=a.f0+1:=by omega
  have e2 : (b.f0+1) % 256=b.f0+1:=by omega
  rw [e1,e2];exact Dcd.first (by omega) (cmp_shift _ _ _)
theorem parts : ∀ x y : List Int,(∃ p a b u w,x=p++a :: u∧y=p++b :: w ∧ ¬ a=b)∨(∃ u,y=x++u)∨(∃ u,x=y++u)
 | [],y => .inr (.inl ⟨y,rfl⟩)
 | x,[] => .inr (.inr ⟨x,rfl⟩)
 | a :: x,b :: y=>by
  by_cases h : a=b
  ·
   subst h
   rcases parts x y with ⟨p,c,d,u,w,h1,h2,h3⟩|⟨u,h⟩|⟨u,h⟩
   ·
    exact .inl ⟨a :: p,c,d,u,w,by rw [h1];rfl,by rw [h2];rfl,h3⟩
   ·
    exact .inr (.inl ⟨u,by rw [h];rfl⟩)
   exact .inr (.inr ⟨u,by rw [h];rfl⟩)
  exact .inl ⟨[],a,b,x,y,rfl,rfl,h⟩
theorem lexI_self (x : List Int) : lexI x x=0:=lex_self cmpI cmpI_self x
theorem Dcd.now {c : Int} {x y : List Int} (h : Dcd c x y) : lexI x y=c:=by
 have:=h [] []
 rwa [List.append_nil,List.append_nil,show lexI [] []=0 from rfl,or2_zero_r] at this
theorem Dcd.apart {c : Int} {x y : List Int} (h : Dcd c x y) (hc : ¬ c=0) : ∃ p a b u w,x=p++a :: u∧y=p++b :: w ∧ ¬ a=b∧cmpI a b=c:=by
 rcases parts x y with ⟨p,a,b,u,w,h1,h2,h3⟩|⟨u,h1⟩|⟨u,h1⟩
 ·
  refine ⟨p,a,b,u,w,h1,h2,h3,?_⟩
  have:=h.now;rw [h1,h2,(Dcd.refl p) (a :: u) (b :: w),or2_zero_l] at this;have hn : ¬ cmpI a b=0:=fun e=>h3 (cmpI_zero e);rw [← this];show _=or2 (cmpI a b) _;rw [or2_l hn]
 ·
  have:=h u []
  rw [h1,List.append_nil,lexI_self,or2_l hc] at this;exact absurd this.symm hc
 have:=h [] u;rw [h1,List.append_nil,lexI_self,or2_l hc] at this;exact absurd this.symm hc
end Go.Proofs.Ytdjnplkpahgnmaa.Pure
end
section
namespace Go.Proofs.Ytdjnplkpahgnmaa.Pure
open Go Go.RowKit Go.Proofs.Ytdjnplkpahgnmaa.Q Go.Proofs.YtdjnplkpahgnmaaW.PrintWords Go.Proofs.YtdjnplkpahgnmaaW.PrintLast Go.Proofs.YtdjnplkpahgnmaaW.PrintMore Go.Proofs.YtdjnplkpahgnmaaW.Pl
def bump (c n : Nat) : Nat:=if n=0 then 0 else c+n
theorem bump_pos {c n : Nat} (h : n≠0) : bump c n=c+n:=if_neg h
def txt : List Int→Nat
 | []=>0
 | [_]=>0
 | x :: y :: r=>if x=0 then (if y=0 then 2 else bump 2 (txt r)) else bump 1 (txt (y :: r))
theorem txt_le : ∀ (n : Nat) (l : List Int),l.length≤n→txt l≤l.length
 | 0,l,h=>by
  obtain rfl : l=[]:=List.length_eq_zero_iff.1 (by omega);simp [txt]
 | n+1,[],_=>by simp [txt]
 | n+1,[_],_=>by simp [txt]
 | n+1,x :: y :: r,h=>by
  have h1:=txt_le n r (by simp at h;omega);have h2:=txt_le n (y :: r) (by simp at h ⊢;omega);simp only [List.length_cons] at h2 ⊢;unfold txt bump
  split
  ·
   split
   ·
    omega
   split <;> omega
  split <;> omega
mutual
def kl (l : List Int) : Nat :=
 match l with
 | []=>0
 | x :: r=>if x=1 then 1 else if x=2 then (if r.length<1 then 0 else 2) else if x=3 then (if r.length<8 then 0 else 9) else if x=4 then bump 1 (txt r) else if x=5 then bump 1 (mn false r) else if x=6 then bump 1 (mn true r) else 0
termination_by (l.length,0)
def mn (b : Bool) (l : List Int) : Nat :=
 match l with
 | []=>0
 | x :: r=>if x=0 then 1 else if b=true then (if x=1 then (if txt r=0 then 0 else if kl (r.drop (txt r))=0 then 0 else bump (1+txt r+kl (r.drop (txt r))) (mn b ((r.drop (txt r)).drop (kl (r.drop (txt r)))))) else 0)
  else if _h : kl (x :: r)=0 then 0 else bump (kl (x :: r)) (mn b ((x :: r).drop (kl (x :: r))))
termination_by (l.length,1)
decreasing_by
 all_goals simp_wf
 all_goals (first|(apply Prod.Lex.left;omega)|(apply Prod.Lex.right;omega))
end
theorem kl_le_mn_le : ∀ (n : Nat) (l : List Int),l.length≤n→kl l≤l.length ∧ ∀ b,mn b l≤l.length:=by
 intro n
 induction n with
 | zero =>
  intro l h;obtain rfl : l=[]:=List.length_eq_zero_iff.1 (by omega);refine ⟨by rw [kl];exact Nat.le_refl _,fun b=>by rw [mn];exact Nat.le_refl _⟩
 | succ n ih =>
  intro l h
  cases l with
  | nil=>exact ⟨by rw [kl];exact Nat.le_refl _,fun b=>by rw [mn];exact Nat.le_refl _⟩
  | cons x r =>
   simp only [List.length_cons] at h;have hr:=ih r (by omega);have ht:=txt_le r.length r (Nat.le_refl _)
   have hk : kl (x :: r)≤(x :: r).length:=by
    have h5:=hr.2 false;have h6:=hr.2 true;rw [kl];simp only [List.length_cons];unfold bump
    repeat' split
    all_goals omega
   refine ⟨hk,fun b=>?_⟩;simp only [List.length_cons] at hk ⊢;rw [mn]
   split
   ·
    omega
   split
   ·
    split
    ·
     split
     ·
      omega
     split
     ·
      omega
     have h1:=ih (r.drop (txt r)) (by simp only [List.length_drop];omega);have h2:=(ih ((r.drop (txt r)).drop (kl (r.drop (txt r)))) (by simp only [List.length_drop];omega)).2 b;have h3:=h1.1;simp only [List.length_drop] at h2 h3;unfold bump
     split <;> omega
    omega
   split
   ·
    omega
   have h2:=(ih ((x :: r).drop (kl (x :: r))) (by simp only [List.length_drop,List.length_cons];omega)).2 b;simp only [List.length_drop,List.length_cons] at h2;unfold bump
   split <;> omega
theorem kl_le (l : List Int) : kl l≤l.length:=(kl_le_mn_le _ l (Nat.le_refl _)).1
theorem byts_drop {l : List Int} (h : Byts l) (n : Nat) : Byts (l.drop n):=fun b hb=>h b (List.mem_of_mem_drop hb)
theorem mn_zero (b : Bool) (r : List Int) : mn b (0 :: r)=1:=by rw [mn,if_pos rfl]
theorem mn_false (x : Int) (r : List Int) (h0 : ¬ x=0) (q : Nat) (hq : kl (x :: r)=q) : mn false (x :: r)=if q=0 then 0 else bump q (mn false ((x :: r).drop q)):=by
 subst hq;rw [mn,if_neg h0,if_neg (by decide)]
 by_cases h : kl (x :: r)=0
 ·
  rw [dif_pos h,if_pos h]
 rw [dif_neg h,if_neg h]
theorem mn_true (x : Int) (r : List Int) (h0 : ¬ x=0) (t q : Nat) (ht : txt r=t) (hq : kl (r.drop t)=q) : mn true (x :: r)=if x=1 then (if t=0 then 0 else if q=0 then 0 else bump (1+t+q) (mn true ((r.drop t).drop q))) else 0:=by
 subst ht;subst hq;rw [mn,if_neg h0,if_pos rfl]
end Go.Proofs.Ytdjnplkpahgnmaa.Pure
end
section
namespace Go.Proofs.Ytdjnplkpahgnmaa.Pure
open Go Go.RowKit Go.Proofs.Ytdjnplkpahgnmaa.Q Go.Proofs.YtdjnplkpahgnmaaW.PrintWords Go.Proofs.YtdjnplkpahgnmaaW.PrintLast Go.Proofs.YtdjnplkpahgnmaaW.PrintMore Go.Proofs.YtdjnplkpahgnmaaW.Pl
theorem escL_two : ∀ l : List Int,∃ y z t,escL l=y :: z :: t
 | []=>⟨0,0,[],rfl⟩
 | b :: l=>by
  obtain ⟨y,z,t,h⟩:=escL_two l;unfold escL
  by_cases hb : b=0
  ·
   rw [if_pos hb];exact ⟨b,255,escL l,rfl⟩
  rw [if_neg hb,h];exact ⟨b,y,z :: t,rfl⟩
theorem txt_esc : ∀ (l : List Int) (r : List Int),Byts l→txt (escL l++r)=(escL l).length
 | [],r,_=>rfl
 | b :: l,r,h=>by
  have ih:=txt_esc l r (fun x hx=>h x (by simp [hx]));obtain ⟨y,z,t,he⟩:=escL_two l;have hn : (escL l).length≠0:=by rw [he];simp
  unfold escL
  by_cases hb : b=0
  ·
   rw [if_pos hb]
   show txt (b :: 255 :: (escL l++r))=_;rw [txt,if_pos hb,if_neg (by decide),ih,bump_pos hn];simp only [List.length_cons];omega
  rw [if_neg hb];show txt (b :: (escL l++r))=_;have hc : escL l++r=y :: (z :: t++r):=by rw [he];rfl
  rw [hc,txt,if_neg hb,← hc,ih,bump_pos hn];simp only [List.length_cons];omega
theorem raw_pos {d : Nat} {v : IVal} (h : rightV d v=true) : (rawB d v).length≠0:=by
 obtain ⟨a,u,e,_⟩:=raw_head h;rw [e];simp
theorem mn_rows (d : Nat) : ∀ (L : List IVal) (r : List Int),(∀ x ∈ L,rightV d x=true ∧ ∀ s,kl (rawB d x++s)=(rawB d x).length)→mn false (L.flatMap (rawB d) ++ [0]++r)=(L.flatMap (rawB d) ++ [0]).length
 | [],r,_=>by
  show mn false (0 :: r)=1;rw [mn,if_pos rfl]
 | x :: L,r,h=>by
  have ih:=mn_rows d L r (fun y hy=>h y (by simp [hy]));obtain ⟨hx,hk⟩:=h x (by simp);obtain ⟨a,u,e,ha⟩:=raw_head hx;have hp:=raw_pos hx;have e1 : (x :: L).flatMap (rawB d) ++ [0]++r=rawB d x++(L.flatMap (rawB d) ++ [0]++r):=by rw [List.flatMap_cons];simp only [List.append_assoc]
  have e2 : ((x :: L).flatMap (rawB d) ++ [0]).length=(rawB d x).length+(L.flatMap (rawB d) ++ [0]).length:=by rw [List.flatMap_cons,List.append_assoc,List.length_append]
  rw [e1,e2];generalize hR : L.flatMap (rawB d) ++ [0]++r=R at ih;have hkR:=hk R;have e3 : rawB d x++R=a :: (u++R):=by rw [e];rfl
  have hdrop : (rawB d x++R).drop (rawB d x).length=R:=by rw [List.drop_left]
  have hmn : mn false (a :: (u++R))=bump (kl (a :: (u++R))) (mn false ((a :: (u++R)).drop (kl (a :: (u++R))))):=by
   rw [mn,if_neg (by omega),if_neg (by simp)];rw [← e3,hkR];rw [dif_neg hp]
  rw [e3,hmn,← e3,hkR,hdrop,ih,bump_pos (by simp)]
theorem mn_flds (d : Nat) : ∀ (L : List IFld) (r : List Int),(∀ f ∈ L,rightV d f.f1=true ∧ ∀ s,kl (rawB d f.f1++s)=(rawB d f.f1).length)→mn true (L.flatMap (fldK d) ++ [0]++r)=(L.flatMap (fldK d) ++ [0]).length
 | [],r,_=>by
  show mn true (0 :: r)=1;rw [mn,if_pos rfl]
 | f :: L,r,h=>by
  have ih:=mn_flds d L r (fun y hy=>h y (by simp [hy]));obtain ⟨hx,hk⟩:=h f (by simp);have hp:=raw_pos hx
  have e1 : (f :: L).flatMap (fldK d) ++ [0]++r=1 :: (escL (bytesOf f.f0)++(rawB d f.f1++(L.flatMap (fldK d) ++ [0]++r))):=by
   rw [List.flatMap_cons];simp only [fldK,List.append_assoc,List.cons_append]
  have e2 : ((f :: L).flatMap (fldK d) ++ [0]).length=1+(escL (bytesOf f.f0)).length+(rawB d f.f1).length+(L.flatMap (fldK d) ++ [0]).length:=by
   rw [List.flatMap_cons,List.append_assoc,List.length_append];simp only [fldK,List.length_cons,List.length_append];omega
  rw [e1,e2];generalize hR : L.flatMap (fldK d) ++ [0]++r=R at ih;have ht:=txt_esc (bytesOf f.f0) (rawB d f.f1++R) (bytes_in _);obtain ⟨y,z,t,he⟩:=escL_two (bytesOf f.f0);have hn : (escL (bytesOf f.f0)).length≠0:=by rw [he];simp
  have hd1 : (escL (bytesOf f.f0)++(rawB d f.f1++R)).drop (escL (bytesOf f.f0)).length=rawB d f.f1++R:=by rw [List.drop_left]
  have hd2 : (rawB d f.f1++R).drop (rawB d f.f1).length=R:=by rw [List.drop_left]
  rw [mn,if_neg (by decide),if_pos rfl,if_pos rfl,ht,if_neg hn,hd1,hk R,if_neg hp,hd2,ih,bump_pos (by simp)]
theorem kl_raw : ∀ (d : Nat) (v : IVal),rightV d v=true→v.f2.size≤1048576 → ∀ r,kl (rawB d v++r)=(rawB d v).length:=by
 intro d
 induction d using Nat.strongRecOn with
 | ind d ih =>
  intro v hv sv r;have hS:=right_shape d v hv
  by_cases h4 : v.f0=4
  ·
   obtain ⟨e,rfl,_,_,hh⟩:=four_holds hv h4 sv
   rw [raw_is4 e v h4];have hm:=mn_rows e (lsV v) r (fun x hx=>⟨(hh x hx).1,ih e (by omega) x (hh x hx).1 (hh x hx).2⟩);generalize hR : (lsV v).flatMap (rawB e) ++ [0]=R at hm;have hn : R.length≠0:=by rw [← hR];simp
   have e5 : (v.f0+1) % 256=5:=by omega
   show kl ((v.f0+1) % 256 :: (R++r))=_;rw [e5,kl,if_neg (by decide),if_neg (by decide),if_neg (by decide),if_neg (by decide),if_pos rfl,hm,bump_pos hn];simp only [List.length_cons];omega
  by_cases h5 : v.f0=5
  ·
   obtain ⟨e,rfl,_,_,hh⟩:=five_holds hv h5 sv
   rw [raw_is5 e v h5];have hm:=mn_flds e (fsV v) r (fun x hx=>⟨(hh x hx).1,ih e (by omega) x.f1 (hh x hx).1 (hh x hx).2⟩);generalize hR : (fsV v).flatMap (fldK e) ++ [0]=R at hm;have hn : R.length≠0:=by rw [← hR];simp
   have e5 : (v.f0+1) % 256=6:=by omega
   show kl ((v.f0+1) % 256 :: (R++r))=_;rw [e5,kl,if_neg (by decide),if_neg (by decide),if_neg (by decide),if_neg (by decide),if_neg (by decide),if_pos rfl,hm,bump_pos hn];simp only [List.length_cons];omega
  rcases hS with ⟨h0,_⟩|⟨h1,_⟩|⟨h2,_⟩|⟨h3,_⟩
  ·
   have e0 : rawB d v=[(v.f0+1) % 256]:=by unfold rawB;rw [if_pos h0]
   have e1 : (v.f0+1) % 256=1:=by omega
   rw [e0,e1];show kl (1 :: r)=1;rw [kl,if_pos rfl]
  ·
   rw [raw_is1 d v h1]
   have e1 : (v.f0+1) % 256=2:=by omega
   rw [e1];show kl (2 :: (v.f1 % 256 :: r))=2;rw [kl,if_neg (by decide),if_pos rfl,if_neg (by simp)]
  ·
   rw [raw_is2 d v h2]
   have e1 : (v.f0+1) % 256=3:=by omega
   have hl:=dig_length (v.f1+4611686018427387904) 8;rw [e1];show kl (3 :: (dig (v.f1+4611686018427387904) 8++r))=_;rw [kl,if_neg (by decide),if_neg (by decide),if_pos rfl,if_neg (by rw [List.length_append,hl];omega),List.length_cons,hl]
  have h3' : v.f0=3:=by omega
  rw [raw_is3 d v h3'];have e1 : (v.f0+1) % 256=4:=by omega
  obtain ⟨y,z,t,he⟩:=escL_two (bytesOf v.f2);have hn : (escL (bytesOf v.f2)).length≠0:=by rw [he];simp
  rw [e1];show kl (4 :: (escL (bytesOf v.f2)++r))=_;rw [kl,if_neg (by decide),if_neg (by decide),if_neg (by decide),if_pos rfl,txt_esc _ _ (bytes_in _),bump_pos hn];simp only [List.length_cons];omega
abbrev Rdr:=Option (ByteArray×Bool)
def Dead (g : Nat→Rdr) : Prop:=∃ r,Byts r∧Eve g (strOfNums r,true)
theorem Dead.one {r : List Int} (h : Byts r) : Dead (fun _=>some (strOfNums r,true)):=⟨r,h,Eve.one⟩
theorem Dead.succ {g : Nat→Rdr} (h : Dead (fun k=>g (k+1))) : Dead g:=by obtain ⟨r,hr,h⟩:=h;exact ⟨r,hr,Eve.succ h⟩
theorem Dead.ite {c : Prop} [Decidable c] {a b : Nat→Rdr} (h1 : c→Dead a) (h2 : ¬ c→Dead b) : Dead (fun k=>if c then a k else b k):=by
 by_cases h : c
 ·
  simp only [if_pos h];exact h1 h
 simp only [if_neg h];exact h2 h
theorem Dead.bind {α : Type} {g : Nat→Option α} {f : Nat→α→Rdr} {v : α} (h : Eve g v) (h2 : Dead (fun k=>f k v)) : Dead (fun k=>(g k).bind (f k)):=by
 obtain ⟨r,hr,h2⟩:=h2;exact ⟨r,hr,Eve.bind h h2⟩
theorem Dead.go {g : Nat→Rdr} {f : Nat→ByteArray×Bool→Rdr} (h : Dead g) (h2 : ∀ r,Byts r→Dead (fun k=>f k (strOfNums r,true))) : Dead (fun k=>(g k).bind (f k)):=by
 obtain ⟨r,hr,h⟩:=h;exact Dead.bind h (h2 r hr)
def Res (n : Nat) (l : List Int) (g : Nat→Rdr) : Prop:=(n=0→Dead g)∧(n≠0→Eve g (strOfNums (l.drop n),false))
theorem Res.dead {l : List Int} {g : Nat→Rdr} (h : Dead g) : Res 0 l g:=⟨fun _=>h,fun h=>absurd rfl h⟩
theorem Res.live {n : Nat} {l r : List Int} {g : Nat→Rdr} (h0 : n≠0) (hr : l.drop n=r) (h : Eve g (strOfNums r,false)) : Res n l g:=⟨fun h=>absurd h h0,fun _=>hr ▸ h⟩
theorem Res.succ {n : Nat} {l : List Int} {g : Nat→Rdr} (h : Res n l (fun k=>g (k+1))) : Res n l g:=⟨fun e=>Dead.succ (h.1 e),fun e=>Eve.succ (h.2 e)⟩
theorem Res.bind {α : Type} {n : Nat} {l : List Int} {g : Nat→Option α} {f : Nat→α→Rdr} {v : α} (h : Eve g v) (h2 : Res n l (fun k=>f k v)) : Res n l (fun k=>(g k).bind (f k)):=⟨fun e=>Dead.bind h (h2.1 e),fun e=>Eve.bind h (h2.2 e)⟩
theorem Res.ite {n : Nat} {l : List Int} {c : Prop} [Decidable c] {a b : Nat→Rdr} (h1 : c→Res n l a) (h2 : ¬ c→Res n l b) : Res n l (fun k=>if c then a k else b k):=by
 by_cases h : c
 ·
  simp only [if_pos h];exact h1 h
 simp only [if_neg h];exact h2 h
theorem Res.bump {m q : Nat} {l : List Int} {g : Nat→Rdr} (h : Res m (l.drop q) g) : Res (bump q m) l g:=by
 by_cases h0 : m=0
 ·
  subst h0;exact Res.dead (h.1 rfl)
 rw [bump_pos h0];exact Res.live (by omega) (by rw [← List.drop_drop]) (h.2 h0)
theorem take_of (l : List Int) (hl : Byts l) (f : Bool) (n : Nat) (hn : n≤65535) : Fr.f (strOfNums l) f (n : Int)=some (if l.length<n then (zer n,strOfNums l,true) else (strOfNums (l.take n),strOfNums (l.drop n),f)):=by
 rw [take_tells _ _ _ hn];unfold takV;rw [strOfNums_size]
 by_cases h : l.length<n
 ·
  rw [if_pos h,if_pos h]
 rw [if_neg h,if_neg h,ext_of l hl,← strOfNums_size l,tail_of l hl];rfl
theorem num_none_of (l : List Int) (f : Bool) (h : l=[]) : Eve (fun k=>Fe.f k (strOfNums l) f 1) (0,strOfNums l,true):=by
 have:=num_tells (strOfNums l) f 1 (by omega);unfold numV at this;rw [if_pos (by rw [strOfNums_size,h];decide)] at this;exact this
theorem num_one_of (x : Int) (r : List Int) (hl : Byts (x :: r)) (f : Bool) : Eve (fun k=>Fe.f k (strOfNums (x :: r)) f 1) (x,strOfNums r,f):=by
 have:=num_tells (strOfNums (x :: r)) f 1 (by omega);unfold numV at this;have hb : Byts [x]:=fun b hb=>hl b (by simp at hb;simp [hb]);rw [if_neg (by rw [strOfNums_size];simp),ext_of _ hl,tail_of _ hl] at this;simp only [List.drop_succ_cons,List.drop_zero,show (1 : Nat) - 0=1 from rfl,List.take_succ_cons,List.take_zero] at this;rw [bytes_str _ hb,big1 x (hl x (by simp))] at this;exact this
theorem one_is (x : Int) (h : 0≤x∧x≤255) : (strOfNums [x]).toList=([0] : List UInt8)↔x=0:=by
 rw [ba_toList,strOfNums_data];simp only [List.map_cons,List.map_nil,List.cons.injEq,and_true]
 constructor
 ·
  intro e
  have:=congrArg UInt8.toNat e;rw [UInt8.toNat_ofNat'] at this;simp only [UInt8.toNat_ofNat] at this
  omega
 rintro rfl;rfl
theorem zer_is : (zer 1).toList=([0] : List UInt8):=by rw [ba_toList];rfl
theorem text_dead (a : ByteArray) : Eve (fun k=>Ff.f k a true) (a,true):=by
 simp only [Ff.f];refine Eve.succ ?_;simp only [Ff.l0,if_true];exact Eve.one
theorem text_impl : ∀ (n : Nat) (l : List Int),l.length≤n→Byts l→Res (txt l) l (fun k=>Ff.l0 k (strOfNums l) false):=by
 intro n
 induction n with
 | zero =>
  intro l hn hl;obtain rfl : l=[]:=List.length_eq_zero_iff.1 (by omega);refine Res.dead (Dead.succ ?_);have t1:=fun f=>take_of [] hl f 1 (by omega);simp only [List.length_nil,Nat.zero_lt_one,if_true] at t1;simp only [Ff.l0,Bool.false_eq_true,if_false,show (1 : Int)=((1 : Nat) : Int) from rfl,t1,Option.bind_some,zer_is,if_true];exact Dead.one hl
 | succ n ih =>
  intro l hn hl
  match l,hn,hl with
  | [],_,hl =>
   refine Res.dead (Dead.succ ?_);have t1:=fun f=>take_of [] hl f 1 (by omega);simp only [List.length_nil,Nat.zero_lt_one,if_true] at t1;simp only [Ff.l0,Bool.false_eq_true,if_false,show (1 : Int)=((1 : Nat) : Int) from rfl,t1,Option.bind_some,zer_is,if_true];exact Dead.one hl
  | x :: r,hn,hl =>
   have hx:=hl x (by simp);have hr : Byts r:=byts_drop hl 1;have t1:=take_of (x :: r) hl false 1 (by omega);rw [if_neg (by simp)] at t1;simp only [List.take_succ_cons,List.take_zero,List.drop_succ_cons,List.drop_zero] at t1;have hrn : r.length≤n:=by simpa using hn
   have e1:=one_is x hx;refine Res.succ ?_;simp only [Ff.l0,Bool.false_eq_true,if_false,show (1 : Int)=((1 : Nat) : Int) from rfl,t1,Option.bind_some];refine Res.ite (fun h=>?_) (fun h=>?_)
   ·
    have hx0 : x=0:=e1.1 h
    cases r with
    | nil =>
     have t2:=take_of [] hr false 1 (by omega);simp only [List.length_nil,Nat.zero_lt_one,if_true] at t2;simp only [t2,Option.bind_some,zer_is,if_true];exact Res.dead (Dead.one hr)
    | cons y r =>
     have hy:=hl y (by simp);have hr2 : Byts r:=byts_drop hr 1;have t2:=take_of (y :: r) hr false 1 (by omega);rw [if_neg (by simp)] at t2;simp only [List.take_succ_cons,List.take_zero,List.drop_succ_cons,List.drop_zero] at t2;simp only [t2,Option.bind_some];have ht : txt (x :: y :: r)=if y=0 then 2 else bump 2 (txt r):=by rw [hx0];rfl
     rw [ht];refine Res.ite (fun h2=>?_) (fun h2=>?_)
     ·
      rw [if_pos ((one_is y hy).1 h2)]
      exact Res.live (by decide) rfl Eve.one
     rw [if_neg (fun e=>h2 ((one_is y hy).2 e))];have:=ih r (by simp only [List.length_cons] at hrn;omega) hr2;exact Res.bump (q:=2) (l:=x :: y :: r) this
   have hx0 : ¬ x=0:=fun e=>h (e1.2 e);have:=ih r hrn hr
   have ht : txt (x :: r)=bump 1 (txt r):=by
    cases r with
    | nil=>rfl
    | cons y r=>show (if x=0 then _ else bump 1 (txt (y :: r)))=_;rw [if_neg hx0]
   rw [ht];exact Res.bump (q:=1) (l:=x :: r) this
theorem ends_nil (f : Bool) : F0p.f (strOfNums []) f=some (false,strOfNums [],f):=by
 unfold F0p.f;rw [if_pos (by rw [ba_toList];rfl)]
theorem ends_zero (r : List Int) (hl : Byts (0 :: r)) (f : Bool) : F0p.f (strOfNums (0 :: r)) f=some (true,strOfNums r,f):=by
 unfold F0p.f;have t1:=take_of (0 :: r) hl f 1 (by omega);rw [if_neg (by simp)] at t1;simp only [List.drop_succ_cons,List.drop_zero] at t1;have hb : bt (strOfNums (0 :: r)) 0=0:=bt_of (0 :: r) hl 0 (by simp);rw [if_neg (by rw [ba_toList,strOfNums_data];simp),if_pos (by rw [strOfNums_size];simp),hb,if_pos rfl,show (1 : Int)=((1 : Nat) : Int) from rfl,t1]
 rfl
theorem ends_other (x : Int) (r : List Int) (hl : Byts (x :: r)) (h0 : ¬ x=0) (f : Bool) : F0p.f (strOfNums (x :: r)) f=some (false,strOfNums (x :: r),f):=by
 unfold F0p.f;have hb : bt (strOfNums (x :: r)) 0=x:=bt_of (x :: r) hl 0 (by simp);rw [if_neg (by rw [ba_toList,strOfNums_data];simp),if_pos (by rw [strOfNums_size];simp),hb,if_neg h0]
theorem l0_dead (a : List Int) (h : Byts a) : Dead (fun k=>F2.l0 k (strOfNums a) true):=by
 refine Dead.succ ?_;simp only [F2.l0,if_true];exact Dead.one h
theorem l1_dead (a : List Int) (h : Byts a) : Dead (fun k=>F2.l1 k (strOfNums a) true):=by
 refine Dead.succ ?_;simp only [F2.l1,if_true];refine Dead.succ ?_;simp only [F2.j2,Bool.false_eq_true,if_false];exact Dead.one h
theorem take_dead (l : List Int) (hl : Byts l) (n : Nat) (hn : n≤65535) : ∃ t r,Byts r∧Fr.f (strOfNums l) true (n : Int)=some (t,strOfNums r,true):=by
 rw [take_of l hl true n hn]
 by_cases h : l.length<n
 ·
  exact ⟨_,l,hl,by rw [if_pos h]⟩
 exact ⟨_,l.drop n,byts_drop hl n,by rw [if_neg h]⟩
theorem key_dead (l : List Int) (hl : Byts l) : Dead (fun k=>F2.f k (strOfNums l) true):=by
 refine Dead.succ ?_;simp only [F2.f]
 have key : ∀ (x : Int) (r : List Int),Byts r→Eve (fun k=>Fe.f k (strOfNums l) true 1) (x,strOfNums r,true)→Dead (fun k=>(Fe.f k (strOfNums l) true 1).bind fun bt152=>(if (wrap64 (bt152.1 - 1))=0 then (some (bt152.2.1,bt152.2.2)) else (if (wrap64 (bt152.1 - 1))=1 then ((Fr.f bt152.2.1 bt152.2.2 1).bind fun bt155=>(some (bt155.2.1,bt155.2.2))) else (if (wrap64 (bt152.1 - 1))=2 then ((Fr.f bt152.2.1 bt152.2.2 8).bind fun bt158=>(some (bt158.2.1,bt158.2.2))) else (if (wrap64 (bt152.1 - 1))=3 then ((Ff.f k bt152.2.1 bt152.2.2).bind fun bt161=>(some (bt161.1,bt161.2))) else (if (wrap64 (bt152.1 - 1))=4 then (F2.l0 k bt152.2.1 bt152.2.2) else (if (wrap64 (bt152.1 - 1))=5 then (F2.l1 k bt152.2.1 bt152.2.2) else (some (bt152.2.1,true))))))))):=by
  intro x r hr hn;refine Dead.bind hn ?_;simp only;obtain ⟨t1,r1,h1,e1⟩:=take_dead r hr 1 (by omega);obtain ⟨t8,r8,h8,e8⟩:=take_dead r hr 8 (by omega);refine Dead.ite (fun _=>Dead.one hr) (fun _=>Dead.ite (fun _=>?_) (fun _=>Dead.ite (fun _=>?_) (fun _=>Dead.ite (fun _=>Dead.bind (text_dead _) (Dead.one hr)) (fun _=>Dead.ite (fun _=>l0_dead r hr) (fun _=>Dead.ite (fun _=>l1_dead r hr) (fun _=>Dead.one hr))))))
  ·
   rw [show (1 : Int)=((1 : Nat) : Int) from rfl,e1];exact Dead.one h1
  rw [show (8 : Int)=((8 : Nat) : Int) from rfl,e8];exact Dead.one h8
 cases l with
 | nil=>exact key 0 [] hl (num_none_of [] true rfl)
 | cons x r=>exact key x r (byts_drop hl 1) (num_one_of x r hl true)
theorem keyEnd_impl : ∀ (n : Nat),(∀ l : List Int,l.length≤n→Byts l→Res (kl l) l (fun k=>F2.f k (strOfNums l) false)) ∧
  (∀ l : List Int,l.length≤n→Byts l→Res (mn false l) l (fun k=>F2.l0 k (strOfNums l) false))∧(∀ l : List Int,l.length≤n→Byts l→Res (mn true l) l (fun k=>F2.l1 k (strOfNums l) false)):=by
 intro n
 induction n using Nat.strongRecOn with
 | ind n ih =>
  have P : ∀ l : List Int,l.length≤n→Byts l→Res (kl l) l (fun k=>F2.f k (strOfNums l) false):=by
   intro l hn hl;refine Res.succ ?_;simp only [F2.f]
   cases l with
   | nil =>
    rw [kl];refine Res.dead (Dead.bind (num_none_of [] false rfl) ?_);have w : wrap64 (0 - 1) = -1:=by rw [w64 (by omega) (by omega)];rfl
    simp only [w];refine Dead.ite (fun h=>absurd h (by decide)) (fun _=>Dead.ite (fun h=>absurd h (by decide)) (fun _=>Dead.ite (fun h=>absurd h (by decide)) (fun _=>Dead.ite (fun h=>absurd h (by decide)) (fun _=>Dead.ite (fun h=>absurd h (by decide)) (fun _=>Dead.ite (fun h=>absurd h (by decide)) (fun _=>Dead.one hl))))))
   | cons x r =>
    have hx:=hl x (by simp);have hr : Byts r:=byts_drop hl 1;simp only [List.length_cons] at hn;have hq:=ih (n - 1) (by omega);have w : wrap64 (x - 1)=x - 1:=w64 (by omega) (by omega);refine Res.bind (num_one_of x r hl false) ?_;simp only [w];rw [kl];refine Res.ite (fun h=>?_) (fun h=>?_)
    ·
     rw [if_pos (by omega)]
     exact Res.live (by decide) rfl Eve.one
    rw [if_neg (show ¬ x=1 by omega)];refine Res.ite (fun h=>?_) (fun h=>?_)
    ·
     rw [if_pos (show x=2 by omega),show (1 : Int)=((1 : Nat) : Int) from rfl,take_of r hr false 1 (by omega)]
     by_cases hc : r.length<1
     ·
      rw [if_pos hc,if_pos hc];exact Res.dead (Dead.one hr)
     rw [if_neg hc,if_neg hc];exact Res.live (by decide) rfl Eve.one
    rw [if_neg (show ¬ x=2 by omega)];refine Res.ite (fun h=>?_) (fun h=>?_)
    ·
     rw [if_pos (show x=3 by omega),show (8 : Int)=((8 : Nat) : Int) from rfl,take_of r hr false 8 (by omega)]
     by_cases hc : r.length<8
     ·
      rw [if_pos hc,if_pos hc];exact Res.dead (Dead.one hr)
     rw [if_neg hc,if_neg hc];exact Res.live (by decide) rfl Eve.one
    rw [if_neg (show ¬ x=3 by omega)];refine Res.ite (fun h=>?_) (fun h=>?_)
    ·
     rw [if_pos (show x=4 by omega)]
     have:=text_impl r.length r (Nat.le_refl _) hr;refine Res.bump (q:=1) (l:=x :: r) ?_;simp only [Ff.f,List.drop_succ_cons,List.drop_zero];exact ⟨fun e=>Dead.go (this.1 e) (fun r' hr' => Dead.one hr'),fun e=>Eve.bind (this.2 e) Eve.one⟩
    rw [if_neg (show ¬ x=4 by omega)];refine Res.ite (fun h=>?_) (fun h=>?_)
    ·
     rw [if_pos (show x=5 by omega)]
     exact Res.bump (q:=1) (l:=x :: r) (hq.2.1 r (by omega) hr)
    rw [if_neg (show ¬ x=5 by omega)];refine Res.ite (fun h=>?_) (fun h=>?_)
    ·
     rw [if_pos (show x=6 by omega)]
     exact Res.bump (q:=1) (l:=x :: r) (hq.2.2 r (by omega) hr)
    rw [if_neg (show ¬ x=6 by omega)];exact Res.dead (Dead.one hr)
  refine ⟨P,?_,?_⟩
  ·
   intro l hn hl
   refine Res.succ ?_;simp only [F2.l0,Bool.false_eq_true,if_false]
   cases l with
   | nil =>
    rw [mn];simp only [ends_nil,Option.bind_some,Bool.false_eq_true,if_false];have hp:=(P [] (by simp) hl).1 (by rw [kl]);exact Res.dead (Dead.go hp (fun r hr=>l0_dead r hr))
   | cons x r =>
    by_cases h0 : x=0
    ·
     subst h0
     rw [mn_zero];simp only [ends_zero r hl,Option.bind_some,if_true];exact Res.live (by decide) rfl Eve.one
    simp only [ends_other x r hl h0,Option.bind_some,Bool.false_eq_true,if_false];obtain ⟨q,hq⟩ : ∃ q,kl (x :: r)=q:=⟨_,rfl⟩;have hp:=P (x :: r) hn hl;rw [mn_false x r h0 q hq];rw [hq] at hp
    by_cases hq0 : q=0
    ·
     rw [if_pos hq0]
     exact Res.dead (Dead.go (hp.1 hq0) (fun r hr=>l0_dead r hr))
    rw [if_neg hq0];refine Res.bind (hp.2 hq0) (Res.bump ?_);simp only [List.length_cons] at hn;exact (ih (n - 1) (by omega)).2.1 _ (by simp only [List.length_drop,List.length_cons];omega) (byts_drop hl q)
  intro l hn hl;refine Res.succ ?_;simp only [F2.l1,Bool.false_eq_true,if_false]
  have deadj : ∀ (r : List Int),Byts r→Dead (fun k=>(Ff.f k (strOfNums r) true).bind fun bt178=>((F2.f k bt178.1 bt178.2).bind fun bt180=>(F2.l1 k bt180.1 bt180.2))):=fun r hr =>
   Dead.bind (text_dead _) (Dead.go (key_dead r hr) (fun r' hr' => l1_dead r' hr'))
  cases l with
  | nil =>
   rw [mn];simp only [ends_nil,Option.bind_some,Bool.not_false];refine Res.dead (Dead.succ ?_);simp only [F2.j2,if_true,Bool.false_eq_true,if_false];refine Dead.bind (num_none_of [] false rfl) ?_;have e : ((0 : Int) != 1)=true:=rfl;simp only [e];exact deadj [] hl
  | cons x r =>
   have hr : Byts r:=byts_drop hl 1
   by_cases h0 : x=0
   ·
    subst h0
    rw [mn_zero];simp only [ends_zero r hl,Option.bind_some,Bool.not_true];refine Res.succ ?_;simp only [F2.j2,Bool.false_eq_true,if_false];exact Res.live (by decide) rfl Eve.one
   simp only [ends_other x r hl h0,Option.bind_some,Bool.not_false];refine Res.succ ?_;simp only [F2.j2,if_true,Bool.false_eq_true,if_false];refine Res.bind (num_one_of x r hl false) ?_;obtain ⟨t,ht⟩ : ∃ t,txt r=t:=⟨_,rfl⟩;obtain ⟨q,hq⟩ : ∃ q,kl (r.drop t)=q:=⟨_,rfl⟩;rw [mn_true x r h0 t q ht hq];simp only [List.length_cons] at hn
   by_cases hx1 : x=1
   ·
    rw [if_pos hx1]
    have e : (x != 1)=false:=by rw [hx1];rfl
    simp only [e];have htx:=text_impl r.length r (Nat.le_refl _) hr;rw [ht] at htx
    by_cases ht0 : t=0
    ·
     rw [if_pos ht0]
     refine Res.dead ?_;simp only [Ff.f];exact Dead.go (htx.1 ht0) (fun r' hr' => Dead.go (key_dead r' hr') (fun r2 hr2=>l1_dead r2 hr2))
    rw [if_neg ht0];simp only [Ff.f];refine Res.bind (htx.2 ht0) ?_;have hp:=(ih (n - 1) (by omega)).1 (r.drop t) (by simp only [List.length_drop];omega) (byts_drop hr t);rw [hq] at hp
    by_cases hq0 : q=0
    ·
     rw [if_pos hq0]
     exact Res.dead (Dead.go (hp.1 hq0) (fun r' hr' => l1_dead r' hr'))
    rw [if_neg hq0];refine Res.bind (hp.2 hq0) ?_;have hm:=(ih (n - 1) (by omega)).2.2 ((r.drop t).drop q) (by simp only [List.length_drop];omega) (byts_drop (byts_drop hr t) q)
    have ed : (x :: r).drop (1+t+q)=(r.drop t).drop q:=by
     rw [List.drop_drop,show 1+t+q=(t+q)+1 by omega,List.drop_succ_cons]
    exact Res.bump (q:=1+t+q) (l:=x :: r) (ed ▸ hm)
   rw [if_neg hx1];have e : (x != 1)=true:=by simpa using hx1
   simp only [e];exact Res.dead (deadj r hr)
theorem are_list (l : List IVal) (hl : l.length≤1048576) (hs : ∀ x ∈ l,x.f2.size≤1048576) : Eve (fun k=>F09.f k l) (l.all (rightV 5)):=by
 simp only [F09.f,Fp.f,F03.f]
 have hf : Eve (fun k=>F03.l0 k l (l.length : Int) 0) (first (fun x => !rightV 5 x) l 0):=by
  refine ev_loop0 l (fun k (_ : Unit) i=>F03.l0 k l (l.length : Int) i) (fun i _ r=>first (fun x => !rightV 5 x) r i) (fun _ _=>True) (fun _ _=>?_) (fun i hi _ _ ih=>?_) () trivial
  ·
   simp only [F03.l0]
   exact Eve.ite (fun h=>absurd h (by omega)) (fun _=>Eve.one)
  simp only [F03.l0,F0t.f,rdV l i hi,wi (show i≤9223372036854775806 by omega)];refine Eve.ite (fun _=>?_) (fun h=>absurd (by omega) h);refine Eve.ite (fun _=>?_) (fun h=>absurd (by omega) h);refine Eve.ite (fun _=>?_) (fun h=>absurd (by omega) h);refine Eve.bind (v:=!rightV 5 l[i]) (Eve.bind (ok_impl l[i] (hs _ (List.getElem_mem hi))) Eve.one) ?_;refine Eve.ite (fun h=>Eve.one.eq ?_) (fun h=>(ih () trivial).eq ?_)
  ·
   simp [first,h]
  simp [first,h]
 refine Eve.bind (v:=l.any (fun x => !rightV 5 x)) (Eve.bind hf (Eve.one.eq (first_any _ l 0))) ?_;rw [← any_not];exact Eve.one
end Go.Proofs.Ytdjnplkpahgnmaa.Pure
end
