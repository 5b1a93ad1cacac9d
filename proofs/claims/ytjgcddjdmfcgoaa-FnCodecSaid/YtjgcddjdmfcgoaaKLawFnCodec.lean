/- FnCodec: for all arguments true; they read as before. No condition. -/
import Derived.Test.YtjgcddjdmfcgoaaKLawFnCodecp26
import Derived.Test.YtjgcddjdmfcgoaaRows
import Derived.Carry
section
namespace Go.Proofs.Ytjgcddjdmfcgoaa.Pure
open Go Go.RowKit Go.Proofs.Ytjgcddjdmfcgoaa.Q Go.Proofs.YtjgcddjdmfcgoaaW.PrintWords Go.Proofs.YtjgcddjdmfcgoaaW.PrintLast Go.Proofs.YtjgcddjdmfcgoaaW.PrintMore Go.Proofs.YtjgcddjdmfcgoaaW.Pl
abbrev IFld:=S109
theorem emp (a : ByteArray) : a.toList=([] : List UInt8)↔a.size=0:=by
 rw [ba_toList,← data_length,List.length_eq_zero_iff]
def itS : Nat→ByteArray→Option (List IVal)
 | 0,a=>if a.size=0 then some [] else none
 | m+1,a=>if a.size=0 then some [] else match nxtV a with
  | none=>none
  | some (v,r)=>(itS m r).map (v :: ·)
def toldL (acc : List IVal) (o : Option (List IVal)) : List IVal×Bool:=match o with|some l=>(acc++l,true)|none=>([],false)
theorem items_spec : ∀ (m : Nat) (a : ByteArray) (acc : List IVal),a.size≤m→a.size≤1048576→acc.length+a.size≤1048576→Eve (fun k=>Fi.l0 k a acc) (toldL acc (itS m a)):=by
 intro m
 induction m with
 | zero =>
  intro a acc h1 h2 h3;refine Eve.succ ?_;simp only [Fi.l0,itS];have hz : a.size=0:=by omega
  rw [if_pos hz];exact Eve.ite (fun h=>absurd h (by omega)) (fun _=>Eve.one.eq (by simp [toldL]))
 | succ m ih =>
  intro a acc h1 h2 h3;refine Eve.succ ?_;simp only [Fi.l0,itS]
  by_cases hz : a.size=0
  ·
   rw [if_pos hz]
   exact Eve.ite (fun h=>absurd h (by omega)) (fun _=>Eve.one.eq (by simp [toldL]))
  rw [if_neg hz];refine Eve.ite (fun _=>?_) (fun h=>absurd (by omega) h);refine Eve.bind (next_tells a h2) ?_
  cases hn : nxtV a with
  | none=>simp only [told,Bool.false_eq_true,if_false];exact Eve.one
  | some p =>
   obtain ⟨v,r⟩:=p;have hs:=nxt_some a v r hn;simp only [told,if_true];refine Eve.ite (fun _=>?_) (fun h=>absurd (by omega) h);refine (ih r (acc ++ [⟨v.f0,v.f1,v.f2⟩]) (by omega) (by omega) (by simp;omega)).eq ?_
   cases itS m r with
   | none=>rfl
   | some l=>simp [toldL]
theorem tak_size (a : ByteArray) (f : Bool) (n : Nat) (_h : a.size≤1048576) (hn : n≤65535) : (takV a f n).1.size≤1048576:=by
 unfold takV
 by_cases h2 : a.size<n
 ·
  rw [if_pos h2];simp only [zer_size];omega
 rw [if_neg h2];simp only [ByteArray.size_extract];omega
theorem val_size (a : ByteArray) (f : Bool) (h : a.size≤1048576) : (rdv (valV a f)).f2.size≤1048576:=by
 have hq:=num_mono a f 1;unfold valV;generalize numV a f 1=q at hq;simp only [rdv]
 by_cases h1 : q.1=1
 ·
  rw [if_pos h1];exact Nat.zero_le _
 rw [if_neg h1]
 by_cases h2 : q.1=2
 ·
  rw [if_pos h2];exact Nat.zero_le _
 rw [if_neg h2]
 by_cases h3 : q.1=3∨q.1=4∨q.1=5
 ·
  rw [if_pos h3]
  have hr:=num_mono q.2.1 q.2.2 2;have hn:=num2_in q.2.1 q.2.2;exact tak_size _ _ _ (by omega) (by omega)
 rw [if_neg h3];exact Nat.zero_le _
theorem items_stop (acc : List IVal) (a : ByteArray) : Eve (fun k=>Fj.l0 k acc a true) (acc,false):=by
 refine Eve.succ ?_;simp only [Fj.l0,if_true,Bool.not_true];exact Eve.ite (fun _=>Eve.one) (fun _=>Eve.one)
theorem items_end (acc : List IVal) (a : ByteArray) (h : a.size=0) : Eve (fun k=>Fj.l0 k acc a false) (acc,true):=by
 refine Eve.succ ?_;simp only [Fj.l0,Bool.not_false];exact Eve.ite (fun _=>Eve.one) (fun h2=>absurd ((emp a).2 h) h2)
theorem items_step (acc : List IVal) (a : ByteArray) (h : 0<a.size) (hl : acc.length≤1048576) {x : List IVal×Bool}
  (hx : Eve (fun k=>Fj.l0 k (acc ++ [rdv (valV a false)]) (valV a false).2.2.2.1 (valV a false).2.2.2.2) x) : Eve (fun k=>Fj.l0 k acc a false) x:=by
 refine Eve.succ ?_;simp only [Fj.l0,Bool.false_eq_true,if_false];refine Eve.ite (fun h2=>absurd ((emp a).1 h2) (by omega)) (fun _=>?_);refine Eve.bind (value_tells a false) ?_;exact Eve.ite (fun _=>hx) (fun h2=>absurd (by omega) h2)
theorem items_some : ∀ (m : Nat) (a : ByteArray) (acc l : List IVal),itS m a=some l→acc.length+a.size≤1048576→Eve (fun k=>Fj.l0 k acc a false) (acc++l,true):=by
 intro m
 induction m with
 | zero =>
  intro a acc l h h2;simp only [itS] at h
  by_cases hz : a.size=0
  ·
   rw [if_pos hz] at h
   obtain rfl : []=l:=by simpa using h
   exact (items_end acc a hz).eq (by simp)
  rw [if_neg hz] at h;simp at h
 | succ m ih =>
  intro a acc l h h2;simp only [itS] at h
  by_cases hz : a.size=0
  ·
   rw [if_pos hz] at h
   obtain rfl : []=l:=by simpa using h
   exact (items_end acc a hz).eq (by simp)
  rw [if_neg hz] at h
  cases hn : nxtV a with
  | none=>rw [hn] at h;simp at h
  | some p =>
   obtain ⟨v,r⟩:=p;rw [hn] at h;simp only [Option.map_eq_some_iff] at h;obtain ⟨l',h',rfl⟩:=h;obtain ⟨hs,hlt⟩:=nxt_some a v r hn;refine items_step acc a (by omega) (by omega) ?_;rw [hs];refine (ih r (acc ++ [rdv (v.f0,v.f1,v.f2,r,false)]) l' h' (by simp;omega)).eq ?_;simp [rdv]
theorem items_some_end : ∀ (m : Nat) (a : ByteArray) (acc : List IVal),a.size≤m→acc.length+a.size≤1048576 → ∃ l ok,Eve (fun k=>Fj.l0 k acc a false) (acc++l,ok)∧(l.length≤a.size ∧ ∀ x ∈ l,x.f2.size≤1048576):=by
 intro m
 induction m with
 | zero=>intro a acc h1 h2;exact ⟨[],true,(items_end acc a (by omega)).eq (by simp),by simp,by simp⟩
 | succ m ih =>
  intro a acc h1 h2
  by_cases hz : a.size=0
  ·
   exact ⟨[],true,(items_end acc a hz).eq (by simp),by simp,by simp⟩
  have hlt:=val_less a false (by omega);have hvs:=val_size a false (by omega)
  cases hf : (valV a false).2.2.2.2 with
  | true =>
   refine ⟨[rdv (valV a false)],false,items_step acc a (by omega) (by omega) ?_,by simp;omega,by simpa using hvs⟩;rw [hf];exact items_stop _ _
  | false =>
   obtain ⟨l,ok,hl,hl1,hl2⟩:=ih (valV a false).2.2.2.1 (acc ++ [rdv (valV a false)]) (by omega) (by simp;omega);refine ⟨rdv (valV a false) :: l,ok,items_step acc a (by omega) (by omega) ?_,by simp;omega,by simpa using ⟨hvs,hl2⟩⟩;rw [hf];exact hl.eq (by simp)
theorem items_none : ∀ (m : Nat) (a : ByteArray) (acc : List IVal),a.size≤m→itS m a=none→acc.length+a.size≤1048576 → ∃ l ok,Eve (fun k=>Fj.l0 k acc a false) (acc++l,ok)∧(ok=false ∨ ∃ v ∈ l,Bad v)∧(l.length≤a.size ∧ ∀ x ∈ l,x.f2.size≤1048576):=by
 intro m
 induction m with
 | zero =>
  intro a acc h1 h h2;simp only [itS] at h;rw [if_pos (show a.size=0 by omega)] at h;simp at h
 | succ m ih =>
  intro a acc h1 h h2;simp only [itS] at h
  by_cases hz : a.size=0
  ·
   rw [if_pos hz] at h;simp at h
  rw [if_neg hz] at h;have hlt:=val_less a false (by omega);have hvs:=val_size a false (by omega)
  cases hn : nxtV a with
  | some p =>
   obtain ⟨v,r⟩:=p;rw [hn] at h;simp only [Option.map_eq_none_iff] at h;obtain ⟨hs,hlt⟩:=nxt_some a v r hn;rw [hs] at hvs;obtain ⟨l,ok,hl,hb,hl1,hl2⟩:=ih r (acc ++ [rdv (v.f0,v.f1,v.f2,r,false)]) (by omega) h (by simp;omega);refine ⟨rdv (v.f0,v.f1,v.f2,r,false) :: l,ok,?_,?_,by simp;omega,by simpa using ⟨hvs,hl2⟩⟩
   ·
    refine items_step acc a (by omega) (by omega) ?_
    rw [hs];exact hl.eq (by simp)
   rcases hb with hb|⟨x,hx,hb⟩
   ·
    exact .inl hb
   exact .inr ⟨x,by simp [hx],hb⟩
  | none =>
   have hv:=nxt_none a hn
   cases hf : (valV a false).2.2.2.2 with
   | true =>
    refine ⟨[rdv (valV a false)],false,items_step acc a (by omega) (by omega) ?_,.inl rfl,by simp;omega,by simpa using hvs⟩;rw [hf];exact items_stop _ _
   | false =>
    rw [hf] at hv;obtain ⟨l,ok,hl,hl1,hl2⟩:=items_some_end m (valV a false).2.2.2.1 (acc ++ [rdv (valV a false)]) (by omega) (by simp;omega);refine ⟨rdv (valV a false) :: l,ok,items_step acc a (by omega) (by omega) ?_,.inr ⟨_,by simp,hv.resolve_left (by simp)⟩,by simp;omega,by simpa using ⟨hvs,hl2⟩⟩;rw [hf];exact hl.eq (by simp)
def fdS : Nat→ByteArray→Option (List IFld)
 | 0,a=>if a.size=0 then some [] else none
 | m+1,a=>if a.size=0 then some [] else if (a.size : Int)<1+bt a 0 then none else match nxtV (a.extract (1+bt a 0).toNat a.size) with
  | none=>none
  | some (v,r)=>(fdS m r).map ((⟨a.extract 1 (1+bt a 0).toNat,v⟩ : IFld) :: ·)
def toldF (acc : List IFld) (o : Option (List IFld)) : List IFld×Bool:=match o with|some l=>(acc++l,true)|none=>([],false)
theorem wb1 (a : ByteArray) : wrap64 (1+bt a 0)=1+bt a 0:=w64 (by have:=bt_range a 0;omega) (by have:=bt_range a 0;omega)
theorem fields_spec : ∀ (m : Nat) (a : ByteArray) (acc : List IFld),a.size≤m→a.size≤1048576→acc.length+a.size≤1048576→Eve (fun k=>Fg.l0 k a acc) (toldF acc (fdS m a)):=by
 intro m
 induction m with
 | zero =>
  intro a acc h1 h2 h3;refine Eve.succ ?_;simp only [Fg.l0,fdS];have hz : a.size=0:=by omega
  rw [if_pos hz];exact Eve.ite (fun h=>absurd h (by omega)) (fun _=>Eve.one.eq (by simp [toldF]))
 | succ m ih =>
  intro a acc h1 h2 h3;refine Eve.succ ?_;simp only [Fg.l0,fdS,wbt,wb1]
  by_cases hz : a.size=0
  ·
   rw [if_pos hz]
   exact Eve.ite (fun h=>absurd h (by omega)) (fun _=>Eve.one.eq (by simp [toldF]))
  rw [if_neg hz];have hb:=bt_range a 0;refine Eve.ite (fun _=>?_) (fun h=>absurd (by omega) h);refine Eve.ite (fun _=>?_) (fun h=>absurd (by omega) h);refine Eve.ite (fun h=>?_) (fun h=>?_)
  ·
   rw [if_pos h];exact Eve.one
  rw [if_neg h];refine Eve.ite (fun _=>?_) (fun h=>absurd (by omega) h);refine Eve.ite (fun _=>?_) (fun h=>absurd (by omega) h);refine Eve.ite (fun _=>?_) (fun h=>absurd (by omega) h);have ht:=tail_size a (1+bt a 0).toNat;refine Eve.bind (next_tells _ (by omega)) ?_
  cases hn : nxtV (a.extract (1+bt a 0).toNat a.size) with
  | none=>simp only [told,Bool.false_eq_true,if_false];exact Eve.one
  | some p =>
   obtain ⟨v,r⟩:=p;have hs:=nxt_some _ v r hn;simp only [told,if_true];refine Eve.ite (fun _=>?_) (fun h=>absurd (by omega) h);refine (ih r (acc ++ [⟨a.extract 1 (1+bt a 0).toNat,⟨v.f0,v.f1,v.f2⟩⟩]) (by omega) (by omega) (by simp;omega)).eq ?_
   cases fdS m r with
   | none=>rfl
   | some l=>simp [toldF]
def fdV (a : ByteArray) : ByteArray×Rd :=
 let q:=numV a false 1
 let t:=takV q.2.1 q.2.2 q.1.toNat
 (t.1,valV t.2.1 t.2.2)
def fdv (x : ByteArray×Rd) : IFld:=⟨x.1,rdv x.2⟩
theorem fields_stop (acc : List IFld) (a : ByteArray) : Eve (fun k=>F7.l0 k acc a true) (acc,false):=by
 have hj : Eve (fun k=>F7.j1 k acc false a true) (acc,false):=Eve.succ (by simp only [F7.j1,Bool.false_eq_true,if_false,Bool.not_true];exact Eve.one);refine Eve.succ ?_;simp only [F7.l0,Bool.not_true];exact Eve.ite (fun _=>hj) (fun _=>hj)
theorem fields_end (acc : List IFld) (a : ByteArray) (h : a.size=0) : Eve (fun k=>F7.l0 k acc a false) (acc,true):=by
 refine Eve.succ ?_;simp only [F7.l0];refine Eve.ite (fun _=>Eve.succ ?_) (fun h2=>absurd ((emp a).2 h) h2);simp only [F7.j1,Bool.false_eq_true,if_false,Bool.not_false];exact Eve.one
theorem fields_step (acc : List IFld) (a : ByteArray) (h : 0<a.size) (hl : acc.length≤1048576) {x : List IFld×Bool}
  (hx : Eve (fun k=>F7.l0 k (acc ++ [fdv (fdV a)]) (fdV a).2.2.2.2.1 (fdV a).2.2.2.2.2) x) : Eve (fun k=>F7.l0 k acc a false) x:=by
 refine Eve.succ ?_;simp only [F7.l0,Bool.not_false];refine Eve.ite (fun h2=>absurd ((emp a).1 h2) (by omega)) (fun _=>Eve.succ ?_);simp only [F7.j1,if_true];refine Eve.bind (num_tells a false 1 (by omega)) ?_
 have hb : 0≤(numV a false 1).1∧(numV a false 1).1≤65535:=by
  rw [num_one a false h];have:=bt_range a 0;simp only;omega
 have ht:=take_tells (numV a false 1).2.1 (numV a false 1).2.2 (numV a false 1).1.toNat (by omega);rw [show (((numV a false 1).1.toNat : Nat) : Int)=(numV a false 1).1 from Int.toNat_of_nonneg hb.1] at ht;simp only [ht,Option.bind_some];refine Eve.bind (value_tells _ _) ?_;exact Eve.ite (fun _=>hx) (fun h2=>absurd (by omega) h2)
theorem fdV_less (a : ByteArray) (h : 0<a.size) : (fdV a).2.2.2.2.1.size<a.size:=by
 unfold fdV;rw [num_one a false h];simp only;have h1:=tail_size a 1;have h2:=(tak_mono (a.extract 1 a.size) false (bt a 0).toNat).1;have h3:=(val_mono (takV (a.extract 1 a.size) false (bt a 0).toNat).2.1 (takV (a.extract 1 a.size) false (bt a 0).toNat).2.2).1;have h4:=(num_mono (takV (a.extract 1 a.size) false (bt a 0).toNat).2.1 (takV (a.extract 1 a.size) false (bt a 0).toNat).2.2 1).1
 omega
theorem fdV_ok (a : ByteArray) (h : 0<a.size) (h2 : ¬ (a.size : Int)<1+bt a 0) : fdV a=(a.extract 1 (1+bt a 0).toNat,valV (a.extract (1+bt a 0).toNat a.size) false):=by
 unfold fdV;rw [num_one a false h];simp only;have hb:=bt_range a 0;have ht:=tail_size a 1;have e : (1+bt a 0).toNat=1+(bt a 0).toNat:=by omega
 unfold takV;rw [if_neg (by omega),e];simp only;rw [ext_ext _ _ _ _ (by omega),ext_tail _ _ _ (by omega)]
theorem fdV_bad (a : ByteArray) (h : 0<a.size) (h2 : (a.size : Int)<1+bt a 0) : (fdV a).2.2.2.2.2=true:=by
 unfold fdV;rw [num_one a false h];simp only;have hb:=bt_range a 0;have ht:=tail_size a 1;refine (val_mono _ _).2 ?_;unfold takV;rw [if_pos (by omega)]
theorem fields_some : ∀ (m : Nat) (a : ByteArray) (acc l : List IFld),fdS m a=some l→acc.length+a.size≤1048576→Eve (fun k=>F7.l0 k acc a false) (acc++l,true):=by
 intro m
 induction m with
 | zero =>
  intro a acc l h h2;simp only [fdS] at h
  by_cases hz : a.size=0
  ·
   rw [if_pos hz] at h
   obtain rfl : []=l:=by simpa using h
   exact (fields_end acc a hz).eq (by simp)
  rw [if_neg hz] at h;simp at h
 | succ m ih =>
  intro a acc l h h2;simp only [fdS] at h
  by_cases hz : a.size=0
  ·
   rw [if_pos hz] at h
   obtain rfl : []=l:=by simpa using h
   exact (fields_end acc a hz).eq (by simp)
  rw [if_neg hz] at h
  by_cases hy : (a.size : Int)<1+bt a 0
  ·
   rw [if_pos hy] at h;simp at h
  rw [if_neg hy] at h
  cases hn : nxtV (a.extract (1+bt a 0).toNat a.size) with
  | none=>rw [hn] at h;simp at h
  | some p =>
   obtain ⟨v,r⟩:=p;rw [hn] at h;simp only [Option.map_eq_some_iff] at h;obtain ⟨l',h',rfl⟩:=h;obtain ⟨hs,hlt⟩:=nxt_some _ v r hn;have ht:=tail_size a (1+bt a 0).toNat;have hb:=bt_range a 0;refine fields_step acc a (by omega) (by omega) ?_;rw [fdV_ok a (by omega) hy,hs];refine (ih r (acc ++ [fdv (a.extract 1 (1+bt a 0).toNat,(v.f0,v.f1,v.f2,r,false))]) l' h' (by simp;omega)).eq ?_;simp [fdv,rdv]
theorem fdV_size (a : ByteArray) (h : 0<a.size) (h2 : a.size≤1048576) : (fdv (fdV a)).f0.size≤1048576∧(fdv (fdV a)).f1.f2.size≤1048576:=by
 unfold fdV fdv;rw [num_one a false h];have hb:=bt_range a 0;have ht:=tail_size a 1;have hm:=(tak_mono (a.extract 1 a.size) false (bt a 0).toNat).1;exact ⟨tak_size (a.extract 1 a.size) false (bt a 0).toNat (by omega) (by omega),val_size (takV (a.extract 1 a.size) false (bt a 0).toNat).2.1 (takV (a.extract 1 a.size) false (bt a 0).toNat).2.2 (by omega)⟩
theorem fields_some_end : ∀ (m : Nat) (a : ByteArray) (acc : List IFld),a.size≤m→acc.length+a.size≤1048576 → ∃ l ok,Eve (fun k=>F7.l0 k acc a false) (acc++l,ok)∧(l.length≤a.size ∧ ∀ x ∈ l,x.f0.size≤1048576∧x.f1.f2.size≤1048576):=by
 intro m
 induction m with
 | zero=>intro a acc h1 h2;exact ⟨[],true,(fields_end acc a (by omega)).eq (by simp),by simp,by simp⟩
 | succ m ih =>
  intro a acc h1 h2
  by_cases hz : a.size=0
  ·
   exact ⟨[],true,(fields_end acc a hz).eq (by simp),by simp,by simp⟩
  have hlt:=fdV_less a (by omega);have hvs:=fdV_size a (by omega) (by omega)
  cases hf : (fdV a).2.2.2.2.2 with
  | true =>
   refine ⟨[fdv (fdV a)],false,fields_step acc a (by omega) (by omega) ?_,by simp;omega,by simpa using hvs⟩;rw [hf];exact fields_stop _ _
  | false =>
   obtain ⟨l,ok,hl,hl1,hl2⟩:=ih (fdV a).2.2.2.2.1 (acc ++ [fdv (fdV a)]) (by omega) (by simp;omega);refine ⟨fdv (fdV a) :: l,ok,fields_step acc a (by omega) (by omega) ?_,by simp;omega,by simpa using ⟨hvs,hl2⟩⟩;rw [hf];exact hl.eq (by simp)
theorem fields_none : ∀ (m : Nat) (a : ByteArray) (acc : List IFld),a.size≤m→fdS m a=none→acc.length+a.size≤1048576 → ∃ l ok,Eve (fun k=>F7.l0 k acc a false) (acc++l,ok)∧(ok=false ∨ ∃ v ∈ l,Bad v.f1)∧(l.length≤a.size ∧ ∀ x ∈ l,x.f0.size≤1048576∧x.f1.f2.size≤1048576):=by
 intro m
 induction m with
 | zero =>
  intro a acc h1 h h2;simp only [fdS] at h;rw [if_pos (show a.size=0 by omega)] at h;simp at h
 | succ m ih =>
  intro a acc h1 h h2;simp only [fdS] at h
  by_cases hz : a.size=0
  ·
   rw [if_pos hz] at h;simp at h
  rw [if_neg hz] at h;have hlt:=fdV_less a (by omega);have hvs:=fdV_size a (by omega) (by omega)
  by_cases hy : (a.size : Int)<1+bt a 0
  ·
   refine ⟨[fdv (fdV a)],false,fields_step acc a (by omega) (by omega) ?_,.inl rfl,by simp;omega,by simpa using hvs⟩
   rw [fdV_bad a (by omega) hy];exact fields_stop _ _
  rw [if_neg hy] at h;have ht:=tail_size a (1+bt a 0).toNat;have hb0:=bt_range a 0;have hok:=fdV_ok a (by omega) hy
  cases hn : nxtV (a.extract (1+bt a 0).toNat a.size) with
  | some p =>
   obtain ⟨v,r⟩:=p;rw [hn] at h;simp only [Option.map_eq_none_iff] at h;obtain ⟨hs,hlt⟩:=nxt_some _ v r hn;rw [hok,hs] at hvs;obtain ⟨l,ok,hl,hb,hl1,hl2⟩:=ih r (acc ++ [fdv (a.extract 1 (1+bt a 0).toNat,(v.f0,v.f1,v.f2,r,false))]) (by omega) h (by simp;omega);refine ⟨fdv (a.extract 1 (1+bt a 0).toNat,(v.f0,v.f1,v.f2,r,false)) :: l,ok,?_,?_,by simp;omega,by simpa using ⟨hvs,hl2⟩⟩
   ·
    refine fields_step acc a (by omega) (by omega) ?_
    rw [hok,hs];exact hl.eq (by simp)
   rcases hb with hb|⟨x,hx,hb⟩
   ·
    exact .inl hb
   exact .inr ⟨x,by simp [hx],hb⟩
  | none =>
   have hv:=nxt_none _ hn
   cases hf : (fdV a).2.2.2.2.2 with
   | true =>
    refine ⟨[fdv (fdV a)],false,fields_step acc a (by omega) (by omega) ?_,.inl rfl,by simp;omega,by simpa using hvs⟩;rw [hf];exact fields_stop _ _
   | false =>
    obtain ⟨l,ok,hl,hl1,hl2⟩:=fields_some_end m (fdV a).2.2.2.2.1 (acc ++ [fdv (fdV a)]) (by omega) (by simp;omega);refine ⟨fdv (fdV a) :: l,ok,fields_step acc a (by omega) (by omega) ?_,.inr ⟨fdv (fdV a),by simp,?_⟩,by simp;omega,by simpa using ⟨hvs,hl2⟩⟩
    ·
     rw [hf]
     exact hl.eq (by simp)
    have e1 : (fdV a).2=valV (a.extract (1+bt a 0).toNat a.size) false:=by rw [hok]
    have e2 : (fdv (fdV a)).f1=rdv (fdV a).2:=rfl;rw [e2,e1];rw [e1] at hf;rcases hv with hv|hv
    ·
     rw [hf] at hv;cases hv
    exact hv
def isL (c : Int) : Bool:=(decide (97≤c) && decide (c≤122)) || (decide (65≤c) && decide (c≤90)) || (c == 95)
def isD (c : Int) : Bool:=decide (48≤c) && decide (c≤57)
theorem specL (c : Int) : F09.f c=some (isL c):=by
 unfold F09.f isL
 split <;> split <;> (try split) <;> (try split) <;> simp <;> omega
theorem implL (c : Int) : F0b.f c=some (isL c):=by
 unfold F0b.f isL
 split <;> split <;> (try split) <;> (try split) <;> simp <;> omega
theorem specD (c : Int) : F0c.f c=some (isD c):=by
 unfold F0c.f isD
 split <;> simp <;> omega
theorem implD (c : Int) : F0a.f c=some (isD c):=by
 unfold F0a.f isD
 split <;> simp <;> omega
def wgo (first : Bool) : List Int→Bool
 | []=>true
 | c :: cs=>(isL c || (isD c && !first)) && wgo false cs
def word (s : ByteArray) : Bool:=wgo true (bytesOf s) && (decide (1≤(s.size : Int)) && decide ((s.size : Int)≤40))
theorem word_spec (s : ByteArray) (hs : s.size≤1048576) : Eve (fun k=>F9.f k s) (word s):=by
 have hn : (bytesOf s).length=s.size:=bytesOf_length s;have hj : Eve (fun k=>F9.j0 k s true) false:=Eve.succ (by simp only [F9.j0,if_true];exact Eve.one);simp only [F9.f];refine Eve.ite (fun h=>hj.eq ?_) (fun h=>?_)
 ·
  have : decide (1≤(s.size : Int))=false:=by simp;omega
  simp [word,this]
 refine Eve.ite (fun h2=>hj.eq ?_) (fun h2=>?_)
 ·
  have : decide ((s.size : Int)≤40)=false:=by simp;omega
  simp [word,this]
 refine Eve.ite (fun _=>?_) (fun h=>absurd (by omega) h)
 have hw : word s=wgo true (bytesOf s):=by
  have a1 : decide (1≤(s.size : Int))=true:=by simp;omega
  have a2 : decide ((s.size : Int)≤40)=true:=by simp;omega
  simp [word,a1,a2]
 have hb:=bt_get s 0 (by omega);simp only [show ((0 : Nat) : Int)=0 from rfl] at hb;have hc : bytesOf s=bt s 0 :: (bytesOf s).drop 1:=by rw [hb];exact drop_at (bytesOf s) 0 (by omega)
 simp only [specL,Option.bind_some]
 cases hl : isL (bt s 0) with
 | false =>
  refine hj.eq ?_;rw [hw,hc];simp [wgo,hl]
 | true =>
  refine Eve.succ ?_;simp only [F9.j0,Bool.not_true,Bool.false_eq_true,if_false]
  have:=ev_loop (bytesOf s) (fun k (_ : Unit) i=>F9.l0 k s i) (fun _ _ r=>wgo false r) (fun i _=>1≤i) (fun _ _=>by
   simp only [F9.l0]
   exact Eve.ite (fun h=>absurd h (by omega)) (fun _=>Eve.one)) (fun i hi _ hI ih=>by
   have hnx:=ih () (by omega);simp only [F9.l0,specL,specD,Option.bind_some,wi (show i≤9223372036854775806 by omega),bt_get s i hi];refine Eve.ite (fun _=>?_) (fun h=>absurd (by omega) h);refine Eve.ite (fun _=>?_) (fun h=>absurd (by omega) h);refine Eve.ite (fun h1=>hnx.eq (by simp [wgo,h1])) (fun h1=>?_)
   exact Eve.ite (fun h2=>hnx.eq (by simp [wgo,h2])) (fun h2=>Eve.one.eq (by simp [wgo,h1,h2]))) ((bytesOf s).length - 1) 1 () (by omega) (by omega)
  refine this.eq ?_;rw [hw]
  conv=>rhs;rw [hc]
  simp [wgo,hl]
theorem word_impl (s : ByteArray) (hs : s.size≤1048576) : Eve (fun k=>Fk.f k s) (word s):=by
 have hn : (bytesOf s).length=s.size:=bytesOf_length s;simp only [Fk.f];refine ev_loop0 (bytesOf s) (fun k (_ : Unit) i=>Fk.l0 k s (s.size : Int) i) (fun i _ r=>wgo (decide (i=0)) r && (decide (1≤(s.size : Int)) && decide ((s.size : Int)≤40))) (fun _ _=>True) (fun _ _=>?_) (fun i hi _ _ ih=>?_) () trivial
 ·
  simp only [Fk.l0]
  refine Eve.ite (fun h=>absurd h (by omega)) (fun _=>Eve.all fun k=>?_);unfold F06.f
  by_cases h : 1≤(s.size : Int)
  ·
   rw [if_pos h];simp [wgo,h]
  rw [if_neg h];simp [wgo,h]
 have hnx:=ih () trivial;simp only [Nat.add_one_ne_zero,decide_false] at hnx;simp only [Fk.l0,implL,implD,Option.bind_some,wi (show i≤9223372036854775806 by omega),bt_get s i hi];refine Eve.ite (fun _=>?_) (fun h=>absurd (by omega) h);refine Eve.ite (fun _=>?_) (fun h=>absurd (by omega) h);refine Eve.ite (fun _=>?_) (fun h=>absurd (by omega) h);refine Eve.ite (fun h1=>hnx.eq (by simp [wgo,h1])) (fun h1=>?_);refine Eve.ite (fun h2=>?_) (fun h2=>Eve.one.eq (by simp [wgo,h1,h2]));refine Eve.ite (fun h3=>Eve.one.eq ?_) (fun h3=>hnx.eq ?_)
 ·
  obtain rfl : i=0:=by omega
  simp [wgo,h1]
 have : ¬ i=0:=by omega
 simp [wgo,h2,this]
def nam (s : ByteArray) : Bool:=word s && decide ((s.size : Int)≤12)
theorem nam_spec (s : ByteArray) (hs : s.size≤1048576) : Eve (fun k=>F00.f k s) (nam s):=by
 simp only [F00.f,F08.f];refine Eve.bind (v:=word s) (Eve.bind (word_spec s hs) Eve.one) ?_;refine Eve.ite (fun h=>Eve.one.eq (by simp [nam,h])) (fun h=>Eve.one.eq (by simp [nam,h]))
theorem nam_impl (s : ByteArray) (hs : s.size≤1048576) : Eve (fun k=>Fz.f k s) (nam s):=by
 simp only [Fz.f];refine Eve.ite (fun h=>(Eve.bind (word_impl s hs) Eve.one).eq (by simp [nam,h])) (fun h=>Eve.one.eq (by simp [nam,h]))
def nms : Option ByteArray→List IFld→Bool
 | _,[]=>true
 | p,f :: fs=>nam f.f0 && ((match p with|none=>true|some q=>Op.bytesLess q.toList f.f0.toList) && nms (some f.f0) fs)
def inr (a b c : Int) : Bool:=decide (b≤a) && decide (a≤c)
theorem in_spec (a b c : Int) : Fp.f a b c=some (inr a b c):=by
 unfold Fp.f inr
 by_cases h : b≤a
 ·
  rw [if_pos h];simp [h]
 rw [if_neg h];simp [h]
theorem in_impl (a b c : Int) : F06.f a b c=some (inr a b c):=in_spec a b c
abbrev emB (a : ByteArray) : Bool:=a.toList == ([] : List UInt8)
def flat (v : IVal) : Bool :=
 if v.f0=0 then decide (v.f1=0) && emB v.f2
 else if v.f0=1 then inr v.f1 0 1 && emB v.f2
 else if v.f0=2 then inr v.f1 (-1000000000000) 1000000000000 && emB v.f2
 else if v.f0=3 then decide (v.f1=0) && decide ((v.f2.size : Int)≤300)
 else false
def rightV : Nat→IVal→Bool
 | 0,v=>flat v
 | d+1,v =>
  if v.f0=4 then decide (v.f1=0) && (decide ((v.f2.size : Int)≤300) && (match itS v.f2.size v.f2 with|some l=>l.all (rightV d)|none=>false))
  else if v.f0=5 then decide (v.f1=0) && (decide ((v.f2.size : Int)≤300) && (match fdS v.f2.size v.f2 with|some l=>nms none l && l.all (fun f=>rightV d f.f1)|none=>false))
  else flat v
theorem bad_right (v : IVal) (h : Bad v) : ∀ d,rightV d v=false:=by
 have hf : flat v=false:=by
  unfold flat;rcases h with h|h|⟨h,h2⟩
  ·
   rw [if_neg (by omega),if_neg (by omega),if_neg (by omega),if_neg (by omega)]
  ·
   rw [if_neg (by omega),if_neg (by omega),if_neg (by omega),if_neg (by omega)]
  rw [if_neg (by omega),if_neg (by omega),if_pos h];have : inr v.f1 (-1000000000000) 1000000000000=false:=by unfold inr;simp;omega
  rw [this];rfl
 intro d
 cases d with
 | zero=>exact hf
 | succ d =>
  unfold rightV;rcases h with h|h|⟨h,h2⟩
  ·
   rw [if_neg (by omega),if_neg (by omega)];exact hf
  ·
   rw [if_neg (by omega),if_neg (by omega)];exact hf
  rw [if_neg (by omega),if_neg (by omega)];exact hf
theorem rdV (l : List IVal) (i : Nat) (h : i<l.length) : rd_T44 l (i : Int)=l[i]:=getD_at _ l i h
theorem rdF (l : List IFld) (i : Nat) (h : i<l.length) : rd_T109 l (i : Int)=l[i]:=getD_at _ l i h
theorem its_size : ∀ (m : Nat) (a : ByteArray) (l : List IVal),itS m a=some l→a.size≤1048576→l.length≤a.size ∧ ∀ x ∈ l,x.f2.size≤1048576:=by
 intro m
 induction m with
 | zero =>
  intro a l h h2;simp only [itS] at h
  by_cases hz : a.size=0
  ·
   rw [if_pos hz] at h
   obtain rfl : []=l:=by simpa using h
   simp
  rw [if_neg hz] at h;simp at h
 | succ m ih =>
  intro a l h h2;simp only [itS] at h
  by_cases hz : a.size=0
  ·
   rw [if_pos hz] at h
   obtain rfl : []=l:=by simpa using h
   simp
  rw [if_neg hz] at h
  cases hn : nxtV a with
  | none=>rw [hn] at h;simp at h
  | some p =>
   obtain ⟨v,r⟩:=p;rw [hn] at h;simp only [Option.map_eq_some_iff] at h;obtain ⟨l',h',rfl⟩:=h;obtain ⟨hs,hlt⟩:=nxt_some a v r hn;have hv:=val_size a false h2;rw [hs] at hv;obtain ⟨i1,i2⟩:=ih r l' h' (by omega);refine ⟨by simp;omega,fun x hx=>?_⟩;rcases List.mem_cons.1 hx with rfl|hx
   ·
    exact hv
   exact i2 x hx
theorem fds_size : ∀ (m : Nat) (a : ByteArray) (l : List IFld),fdS m a=some l→a.size≤1048576→l.length≤a.size ∧ ∀ x ∈ l,x.f0.size≤1048576∧x.f1.f2.size≤1048576:=by
 intro m
 induction m with
 | zero =>
  intro a l h h2;simp only [fdS] at h
  by_cases hz : a.size=0
  ·
   rw [if_pos hz] at h
   obtain rfl : []=l:=by simpa using h
   simp
  rw [if_neg hz] at h;simp at h
 | succ m ih =>
  intro a l h h2;simp only [fdS] at h
  by_cases hz : a.size=0
  ·
   rw [if_pos hz] at h
   obtain rfl : []=l:=by simpa using h
   simp
  rw [if_neg hz] at h
  by_cases hy : (a.size : Int)<1+bt a 0
  ·
   rw [if_pos hy] at h;simp at h
  rw [if_neg hy] at h;have ht:=tail_size a (1+bt a 0).toNat;have hb:=bt_range a 0
  cases hn : nxtV (a.extract (1+bt a 0).toNat a.size) with
  | none=>rw [hn] at h;simp at h
  | some p =>
   obtain ⟨v,r⟩:=p;rw [hn] at h;simp only [Option.map_eq_some_iff] at h;obtain ⟨l',h',rfl⟩:=h;obtain ⟨hs,hlt⟩:=nxt_some _ v r hn;have hv:=val_size (a.extract (1+bt a 0).toNat a.size) false (by omega);rw [hs] at hv;obtain ⟨i1,i2⟩:=ih r l' h' (by omega);refine ⟨by simp;omega,fun x hx=>?_⟩;rcases List.mem_cons.1 hx with rfl|hx
   ·
    exact ⟨by simp only [ByteArray.size_extract];omega,hv⟩
   exact i2 x hx
theorem dn (d : Nat) (h : d≤1000) : wrap64 (((d+1 : Nat) : Int) - 1)=(d : Int):=by rw [w64 (by omega) (by omega)];omega
theorem spec_flat (v : IVal) (e : Int) (h4 : v.f0≠4) (h5 : v.f0≠5) : Eve (fun k=>F0.f k v.f0 v.f1 v.f2 e) (flat v):=by
 refine Eve.succ ?_;simp only [F0.f,in_spec,Option.bind_some];unfold flat;refine Eve.ite (fun h=>?_) (fun h=>?_)
 ·
  rw [if_pos h]
  exact Eve.ite (fun h=>Eve.one.eq (by simp [h])) (fun h=>Eve.one.eq (by simp [h]))
 rw [if_neg h];refine Eve.ite (fun h=>?_) (fun h=>?_)
 ·
  rw [if_pos h]
  exact Eve.ite (fun h=>Eve.one.eq (by simp [h])) (fun h=>Eve.one.eq (by simp [h]))
 rw [if_neg h];refine Eve.ite (fun h=>?_) (fun h=>?_)
 ·
  rw [if_pos h]
  exact Eve.ite (fun h=>Eve.one.eq (by simp [h])) (fun h=>Eve.one.eq (by simp [h]))
 rw [if_neg h];refine Eve.ite (fun h=>?_) (fun h=>?_)
 ·
  rw [if_pos h]
  exact Eve.ite (fun h=>Eve.one.eq (by simp [h])) (fun h=>Eve.one.eq (by simp [h]))
 rw [if_neg h];refine Eve.ite (fun h=>absurd h h4) (fun _=>?_);exact Eve.ite (fun h=>absurd h h5) (fun _=>Eve.one)
theorem impl_flat (v : IVal) (e : Int) (h4 : v.f0≠4) (h5 : v.f0≠5) : Eve (fun k=>F4.f k v.f0 v.f1 v.f2 e) (flat v):=by
 refine Eve.succ ?_;simp only [F4.f,F0g.f,in_impl,Option.bind_some];unfold flat;refine Eve.ite (fun h=>?_) (fun h=>?_)
 ·
  rw [if_pos h]
  exact Eve.one.eq (by rw [h];by_cases h1 : v.f1=0 <;> simp [h1])
 rw [if_neg h];refine Eve.ite (fun h=>?_) (fun h=>?_)
 ·
  rw [if_pos h]
  exact Eve.ite (fun h=>Eve.one.eq (by simp [h])) (fun h=>Eve.one.eq (by simp [h]))
 rw [if_neg h];refine Eve.ite (fun h=>?_) (fun h=>?_)
 ·
  rw [if_pos h]
  exact Eve.ite (fun h=>Eve.one.eq (by simp [h])) (fun h=>Eve.one.eq (by simp [h]))
 rw [if_neg h];refine Eve.ite (fun h=>?_) (fun h=>?_)
 ·
  rw [if_pos h]
  exact Eve.ite (fun h=>Eve.one.eq (by simp [h])) (fun h=>Eve.one.eq (by simp [h]))
 rw [if_neg h];refine Eve.ite (fun h=>absurd h h4) (fun _=>?_);have : (v.f0 == 5)=false:=by simpa using h5
 simp only [this];refine Eve.succ ?_;simp only [F4.j0,Bool.false_eq_true,if_false];exact Eve.one
theorem spec_j0_true (e : Int) (l : List IVal) : Eve (fun k=>F0.j0 k e l true) false:=Eve.succ (by simp only [F0.j0,if_true];exact Eve.one)
theorem spec_j2_true (e : Int) (l : List IFld) : Eve (fun k=>F0.j2 k e l true) false:=Eve.succ (by simp only [F0.j2,if_true];exact Eve.one)
theorem right_spec : ∀ (d : Nat) (v : IVal),d≤1000→v.f2.size≤1048576→Eve (fun k=>F0.f k v.f0 v.f1 v.f2 (d : Int)) (rightV d v):=by
 intro d
 induction d with
 | zero =>
  intro v hd hs
  by_cases h4 : v.f0=4
  ·
   have hf : flat v=false:=by unfold flat;rw [if_neg (by omega),if_neg (by omega),if_neg (by omega),if_neg (by omega)]
   show Eve _ (flat v);rw [hf];refine Eve.succ ?_;simp only [F0.f,h4];simp only [show ¬ (4 : Int)=0 by omega,show ¬ (4 : Int)=1 by omega,show ¬ (4 : Int)=2 by omega,show ¬ (4 : Int)=3 by omega,if_false,if_true];simp only [Fi.f];refine Eve.bind (items_spec _ v.f2 [] (Nat.le_refl _) hs (by simp;omega)) ?_;have hj:=spec_j0_true ((0 : Nat) : Int) (toldL [] (itS v.f2.size v.f2)).1;refine Eve.ite (fun _=>?_) (fun _=>hj);refine Eve.ite (fun _=>?_) (fun _=>hj);exact Eve.ite (fun _=>hj) (fun _=>hj)
  by_cases h5 : v.f0=5
  ·
   have hf : flat v=false:=by unfold flat;rw [if_neg (by omega),if_neg (by omega),if_neg (by omega),if_neg (by omega)]
   show Eve _ (flat v);rw [hf];refine Eve.succ ?_;simp only [F0.f,h5];simp only [show ¬ (5 : Int)=0 by omega,show ¬ (5 : Int)=1 by omega,show ¬ (5 : Int)=2 by omega,show ¬ (5 : Int)=3 by omega,show ¬ (5 : Int)=4 by omega,if_false,if_true];simp only [Fg.f];refine Eve.bind (fields_spec _ v.f2 [] (Nat.le_refl _) hs (by simp;omega)) ?_;have hj:=spec_j2_true ((0 : Nat) : Int) (toldF [] (fdS v.f2.size v.f2)).1;refine Eve.ite (fun _=>?_) (fun _=>hj);refine Eve.ite (fun _=>?_) (fun _=>hj);exact Eve.ite (fun _=>hj) (fun _=>hj)
  exact spec_flat v _ h4 h5
 | succ d ih =>
  intro v hd hs;have he : (((d+1 : Nat) : Int) == 0)=false:=by simp;omega
  by_cases h4 : v.f0=4
  ·
   unfold rightV
   rw [if_pos h4];refine Eve.succ ?_;simp only [F0.f,h4];simp only [show ¬ (4 : Int)=0 by omega,show ¬ (4 : Int)=1 by omega,show ¬ (4 : Int)=2 by omega,show ¬ (4 : Int)=3 by omega,if_false,if_true];simp only [Fi.f];refine Eve.bind (items_spec _ v.f2 [] (Nat.le_refl _) hs (by simp;omega)) ?_;have hj:=spec_j0_true ((d+1 : Nat) : Int) (toldL [] (itS v.f2.size v.f2)).1;refine Eve.ite (fun h1=>?_) (fun h1=>hj.eq (by simp [h1]))
   cases hi : itS v.f2.size v.f2 with
   | none =>
    rw [hi] at hj;simp only [toldL,Bool.false_eq_true,if_false];exact hj.eq (by simp)
   | some l =>
    rw [hi] at hj;simp only [toldL,if_true,List.nil_append] at hj ⊢;refine Eve.ite (fun h2=>hj.eq ?_) (fun h2=>?_)
    ·
     have : decide ((v.f2.size : Int)≤300)=false:=by simp;omega
     simp [this]
    obtain ⟨hl1,hl2⟩:=its_size _ _ l hi hs;have hsz : decide ((v.f2.size : Int)≤300)=true:=by simp;omega
    simp only [he];refine Eve.succ ?_;simp only [F0.j0,Bool.false_eq_true,if_false]
    have:=ev_loop0 l (fun k (_ : Unit) i=>F0.l0 k ((d+1 : Nat) : Int) l i) (fun _ _ r=>r.all (rightV d)) (fun _ _=>True) (fun _ _=>by
     simp only [F0.l0]
     exact Eve.ite (fun h=>absurd h (by omega)) (fun _=>Eve.one)) (fun i hi _ _ ih2=>by
     simp only [F0.l0];refine Eve.ite (fun _=>?_) (fun h=>absurd (by omega) h);refine Eve.ite (fun _=>?_) (fun h=>absurd (by omega) h);simp only [rdV l i hi,dn d (by omega),wi (show i≤9223372036854775806 by omega)];refine Eve.bind (ih l[i] (by omega) (hl2 _ (List.getElem_mem hi))) ?_
     exact Eve.ite (fun h=>(ih2 () trivial).eq (by rw [List.all_cons,h,Bool.true_and])) (fun h=>Eve.one.eq (by rw [List.all_cons,Bool.eq_false_iff.mpr h,Bool.false_and]))) () trivial
    exact this.eq (by simp [h1,hsz])
  by_cases h5 : v.f0=5
  ·
   unfold rightV
   rw [if_neg h4,if_pos h5];refine Eve.succ ?_;simp only [F0.f,h5];simp only [show ¬ (5 : Int)=0 by omega,show ¬ (5 : Int)=1 by omega,show ¬ (5 : Int)=2 by omega,show ¬ (5 : Int)=3 by omega,show ¬ (5 : Int)=4 by omega,if_false,if_true];simp only [Fg.f];refine Eve.bind (fields_spec _ v.f2 [] (Nat.le_refl _) hs (by simp;omega)) ?_;have hj:=spec_j2_true ((d+1 : Nat) : Int) (toldF [] (fdS v.f2.size v.f2)).1;refine Eve.ite (fun h1=>?_) (fun h1=>hj.eq (by simp [h1]))
   cases hi : fdS v.f2.size v.f2 with
   | none =>
    rw [hi] at hj;simp only [toldF,Bool.false_eq_true,if_false];exact hj.eq (by simp)
   | some l =>
    rw [hi] at hj;simp only [toldF,if_true,List.nil_append] at hj ⊢;refine Eve.ite (fun h2=>hj.eq ?_) (fun h2=>?_)
    ·
     have : decide ((v.f2.size : Int)≤300)=false:=by simp;omega
     simp [this]
    obtain ⟨hl1,hl2⟩:=fds_size _ _ l hi hs;have hsz : decide ((v.f2.size : Int)≤300)=true:=by simp;omega
    simp only [he];refine Eve.succ ?_;simp only [F0.j2,Bool.false_eq_true,if_false]
    have:=ev_loop0 l (fun k (_ : Unit) i=>F0.l1 k ((d+1 : Nat) : Int) l i) (fun i _ r=>nms (if i=0 then none else some (l.getD (i - 1) z109).f0) r && r.all (fun f=>rightV d f.f1)) (fun _ _=>True) (fun _ _=>by
     simp only [F0.l1]
     exact Eve.ite (fun h=>absurd h (by omega)) (fun _=>Eve.one.eq (by simp [nms]))) (fun i hi _ _ ih2=>by
     have hnx:=ih2 () trivial;simp only [Nat.add_one_ne_zero,if_false,Nat.add_sub_cancel,List.getD_eq_getElem?_getD,List.getElem?_eq_getElem hi,Option.getD_some] at hnx;simp only [F0.l1];refine Eve.ite (fun _=>?_) (fun h=>absurd (by omega) h);refine Eve.ite (fun _=>?_) (fun h=>absurd (by omega) h);have hm:=hl2 _ (List.getElem_mem hi);simp only [rdF l i hi,dn d (by omega),wi (show i≤9223372036854775806 by omega)];refine Eve.bind (nam_spec _ hm.1) ?_;refine Eve.ite (fun hn=>?_) (fun hn=>Eve.one.eq (by simp [nms,hn]));refine Eve.ite (fun h3=>?_) (fun h3=>?_)
     ·
      have hw : wrap64 ((i : Int) - 1)=((i - 1 : Nat) : Int):=by rw [w64 (by omega) (by omega)];omega
      simp only [hw];refine Eve.ite (fun _=>?_) (fun h=>absurd (by omega) h);refine Eve.ite (fun _=>?_) (fun h=>absurd (by omega) h);rw [if_neg (by omega),List.getD_eq_getElem?_getD,List.getElem?_eq_getElem (show i - 1<l.length by omega),Option.getD_some];simp only [rdF l (i - 1) (show i - 1<l.length by omega)];refine Eve.ite (fun h6=>?_) (fun h6=>Eve.one.eq (by simp [nms,h6]));refine Eve.bind (ih l[i].f1 (by omega) hm.2) ?_;exact Eve.ite (fun h=>hnx.eq (by simp only [nms,hn,h6,List.all_cons,h,Bool.true_and])) (fun h=>Eve.one.eq (by rw [List.all_cons,Bool.eq_false_iff.mpr h,Bool.false_and,Bool.and_false]))
     obtain rfl : i=0:=by omega
     rw [if_pos rfl];refine Eve.bind (ih l[0].f1 (by omega) hm.2) ?_
     exact Eve.ite (fun h=>hnx.eq (by simp [nms,hn,h])) (fun h=>Eve.one.eq (by simp [h]))) () trivial
    rw [if_pos rfl] at this;exact this.eq (by simp [h1,hsz])
  unfold rightV;rw [if_neg h4,if_neg h5];exact spec_flat v _ h4 h5
theorem pow_pos' (n : Nat) : (1 : Int)≤256 ^ n:=by
 induction n with
 | zero=>decide
 | succ n ih=>rw [Int.pow_succ];omega
theorem stp_plain (x b : Int) (n : Nat) (h0 : 0≤x) (hb : 0≤b∧b≤255) (h : (x+1)*256 ^ (n+1)≤9223372036854775808) : stp x b=x*256+b∧(x*256+b+1)*256 ^ n≤9223372036854775808:=by
 have hp:=pow_pos' n;have h2 : (x*256+b+1)*256 ^ n≤(x+1)*256*256 ^ n:=Int.mul_le_mul_of_nonneg_right (by omega) (by omega);have h3 : (x+1)*256*256 ^ n=(x+1)*256 ^ (n+1):=by rw [Int.pow_succ,Int.mul_assoc,Int.mul_comm 256]
 have h4 : (x*256+b+1)*1≤(x*256+b+1)*256 ^ n:=Int.mul_le_mul_of_nonneg_left hp (by omega);refine ⟨?_,by omega⟩;unfold stp;rw [w64m,w64m,w64m]
 omega
theorem fold_range : ∀ (n : Nat) (l : List Int) (x : Int),l.length=n→(∀ b ∈ l,0≤b∧b≤255)→0≤x→(x+1)*256 ^ n≤9223372036854775808→0≤l.foldl stp x∧l.foldl stp x<9223372036854775808:=by
 intro n
 induction n with
 | zero =>
  intro l x hl _ hx h;rw [List.length_eq_zero_iff.1 hl];simp only [Int.pow_zero] at h;exact ⟨hx,by show x<_;omega⟩
 | succ n ih =>
  intro l x hl bl hx h;obtain ⟨b,l,rfl⟩:=List.exists_cons_of_length_eq_add_one hl;have hb:=bl b (by simp);obtain ⟨e1,s1⟩:=stp_plain x b n hx hb h;rw [List.foldl_cons,e1];exact ih l _ (by simpa using hl) (fun z hz=>bl z (by simp [hz])) (by omega) s1
theorem fold_inj : ∀ (n : Nat) (l m : List Int) (x y : Int),l.length=n→m.length=n→(∀ b ∈ l,0≤b∧b≤255)→(∀ b ∈ m,0≤b∧b≤255)→0≤x→0≤y→(x+1)*256 ^ n≤9223372036854775808→(y+1)*256 ^ n≤9223372036854775808 →
  l.foldl stp x=m.foldl stp y→x=y∧l=m:=by
 intro n
 induction n with
 | zero =>
  intro l m x y hl hm _ _ _ _ _ _ h;rw [List.length_eq_zero_iff.1 hl,List.length_eq_zero_iff.1 hm] at *;exact ⟨h,rfl⟩
 | succ n ih =>
  intro l m x y hl hm bl bm hx hy sx sy h;obtain ⟨b,l,rfl⟩:=List.exists_cons_of_length_eq_add_one hl;obtain ⟨c,m,rfl⟩:=List.exists_cons_of_length_eq_add_one hm;have hb:=bl b (by simp);have hc:=bm c (by simp);obtain ⟨e1,s1⟩:=stp_plain x b n hx hb sx;obtain ⟨e2,s2⟩:=stp_plain y c n hy hc sy;rw [List.foldl_cons,List.foldl_cons,e1,e2] at h;obtain ⟨e,e'⟩:=ih l m _ _ (by simpa using hl) (by simpa using hm) (fun z hz=>bl z (by simp [hz])) (fun z hz=>bm z (by simp [hz])) (by omega) (by omega) s1 s2 h;have e3 : x=y:=by omega
  exact ⟨e3,by rw [e',show b=c by omega]⟩
theorem bytes_cut (a : ByteArray) (i j : Nat) : bytesOf (a.extract i j)=((bytesOf a).drop i).take (j - i):=by
 unfold bytesOf;rw [ByteArray.data_extract,Array.toList_extract,List.map_take,List.map_drop] <;> rfl
theorem bytes_inj {a b : ByteArray} (h : bytesOf a=bytesOf b) : a=b:=by
 have h2 : a.data.toList=b.data.toList:=by
  refine (List.map_inj_right (fun x y hxy=>?_)).1 h;exact UInt8.toNat_inj.1 (by exact_mod_cast hxy)
 cases a;cases b
 simp only [ByteArray.mk.injEq];exact Array.toList_inj.1 h2
theorem bytes_split (a : ByteArray) (i j k : Nat) (h : i≤j) (h2 : j≤k) : bytesOf (a.extract i k)=bytesOf (a.extract i j)++bytesOf (a.extract j k):=by
 rw [bytes_cut,bytes_cut,bytes_cut];obtain ⟨d,rfl⟩ : ∃ d,j=i+d:=⟨j - i,by omega⟩;obtain ⟨e,rfl⟩ : ∃ e,k=i+d+e:=⟨k - (i+d),by omega⟩;rw [show i+d+e - i=d+e by omega,show i+d - i=d by omega,show i+d+e - (i+d)=e by omega,List.take_add,List.drop_drop]
theorem bytes_one (a : ByteArray) (i : Nat) (h : i<a.size) : bytesOf (a.extract i (i+1))=[bt a (i : Int)]:=by
 have hn:=bytesOf_length a;rw [bytes_cut,drop_at _ i (by omega),bt_get a i (by omega),show i+1 - i=1 by omega,List.take_succ_cons,List.take_zero]
theorem bytes_all (a : ByteArray) : bytesOf (a.extract 0 a.size)=bytesOf a:=by
 rw [bytes_cut];have hn:=bytesOf_length a;simp [← hn]
theorem glue (a b : ByteArray) (n : Nat) (ha : n≤a.size) (hb : n≤b.size) (h : bytesOf (a.extract 0 n)=bytesOf (b.extract 0 n)) (h2 : a.extract n a.size=b.extract n b.size) : a=b:=by
 apply bytes_inj;rw [← bytes_all a,← bytes_all b,bytes_split a 0 n a.size (by omega) ha,bytes_split b 0 n b.size (by omega) hb,h,h2]
theorem bt0 (a : ByteArray) (h : 0<a.size) : bytesOf (a.extract 0 1)=[bt a 0]:=bytes_one a 0 h
theorem bt1 (a : ByteArray) (h : 1<a.size) : bytesOf (a.extract 1 2)=[bt a 1]:=bytes_one a 1 h
theorem nxt_cases (a : ByteArray) (v : IVal) (r : ByteArray) (h : nxtV a=some (v,r)) : ∃ n,n≤a.size∧0<n∧r=a.extract n a.size∧v.f0=bt a 0 ∧
  ((v.f0=0∧n=1)∨(v.f0=1∧n=2∧v.f1=bt a 1)∨(v.f0=2∧n=9∧bt a 1≤127∧v.f1=wrap64 (bigV (bytesOf (a.extract 1 9)) - 4611686018427387904)) ∨
   (3≤v.f0∧v.f0≤5∧n=3+v.f2.size∧bigV (bytesOf (a.extract 1 3))=v.f2.size∧v.f2=a.extract 3 n)):=by
 unfold nxtV at h
 by_cases hs : a.size=0
 ·
  rw [if_pos hs] at h;cases h
 rw [if_neg hs] at h
 by_cases h0 : bt a 0=0
 ·
  rw [if_pos h0,Option.some.injEq,Prod.mk.injEq] at h
  obtain ⟨rfl,rfl⟩:=h;exact ⟨1,by omega,by omega,rfl,h0.symm,.inl ⟨rfl,rfl⟩⟩
 rw [if_neg h0] at h
 by_cases h1 : bt a 0=1
 ·
  rw [if_pos h1] at h
  by_cases h2 : a.size<2
  ·
   rw [if_pos h2] at h;cases h
  rw [if_neg h2,Option.some.injEq,Prod.mk.injEq] at h;obtain ⟨rfl,rfl⟩:=h;exact ⟨2,by omega,by omega,rfl,h1.symm,.inr (.inl ⟨rfl,rfl,rfl⟩)⟩
 rw [if_neg h1] at h
 by_cases h2 : bt a 0=2
 ·
  rw [if_pos h2] at h
  by_cases h3 : a.size<9
  ·
   rw [if_pos h3] at h;cases h
  rw [if_neg h3] at h
  by_cases h4 : bt a 1 > 127
  ·
   rw [if_pos h4] at h;cases h
  rw [if_neg h4,Option.some.injEq,Prod.mk.injEq] at h;obtain ⟨rfl,rfl⟩:=h;exact ⟨9,by omega,by omega,rfl,h2.symm,.inr (.inr (.inl ⟨rfl,rfl,by omega,rfl⟩))⟩
 rw [if_neg h2] at h
 by_cases h3 : bt a 0=3∨bt a 0=4∨bt a 0=5
 ·
  rw [if_pos h3] at h
  by_cases h4 : a.size<3
  ·
   rw [if_pos h4] at h;cases h
  rw [if_neg h4] at h
  by_cases h5 : (a.size : Int)<3+bigV (bytesOf (a.extract 1 3))
  ·
   rw [if_pos h5] at h;cases h
  rw [if_neg h5,Option.some.injEq,Prod.mk.injEq] at h;obtain ⟨rfl,rfl⟩:=h;have hb : 0≤bigV (bytesOf (a.extract 1 3)):=(bytes_ext2 a 1 (by omega)).1
  have hz : (a.extract 3 (3+bigV (bytesOf (a.extract 1 3))).toNat).size=(bigV (bytesOf (a.extract 1 3))).toNat:=by
   rw [ByteArray.size_extract];omega
  refine ⟨(3+bigV (bytesOf (a.extract 1 3))).toNat,by omega,by omega,rfl,rfl,.inr (.inr (.inr ⟨?_,?_,?_,?_,rfl⟩))⟩
  ·
   show 3≤bt a 0;omega
  ·
   show bt a 0≤5;omega
  ·
   show _=3+(a.extract 3 (3+bigV (bytesOf (a.extract 1 3))).toNat).size
   rw [hz];omega
  show _=(((a.extract 3 (3+bigV (bytesOf (a.extract 1 3))).toNat).size : Nat) : Int);rw [hz];omega
 rw [if_neg h3] at h;cases h
theorem stp_zero (b : Int) (h : 0≤b∧b≤255) : stp 0 b=0*256+b:=by
 unfold stp;rw [w64m,w64m,w64m]
 omega
theorem ext_bytes (a : ByteArray) (i j : Nat) (h : j≤a.size) : (bytesOf (a.extract i j)).length=j - i:=by
 rw [bytesOf_length,ByteArray.size_extract];omega
theorem nxt_inj (a b : ByteArray) (v : IVal) (r : ByteArray) (ha : nxtV a=some (v,r)) (hb : nxtV b=some (v,r)) : a=b:=by
 obtain ⟨n,hn,hp,hr,h0,hc⟩:=nxt_cases a v r ha;obtain ⟨m,hm,hq,hr2,k0,kc⟩:=nxt_cases b v r hb;have e0 : bytesOf (a.extract 0 1)=bytesOf (b.extract 0 1):=by rw [bt0 a (by omega),bt0 b (by omega),← h0,← k0]
 have key : n=m∧bytesOf (a.extract 1 n)=bytesOf (b.extract 1 n):=by
  rcases hc with ⟨c,rfl⟩|⟨c,rfl,c1⟩|⟨c,rfl,c1,c2⟩|⟨c,c5,c1,c2,c3⟩
  ·
   rcases kc with ⟨d,rfl⟩|⟨d,_⟩|⟨d,_⟩|⟨d,_⟩
   ·
    refine ⟨rfl,?_⟩
    rw [List.length_eq_zero_iff.1 (ext_bytes a 1 1 (by omega)),List.length_eq_zero_iff.1 (ext_bytes b 1 1 (by omega))]
   all_goals exact absurd d (by omega)
  ·
   rcases kc with ⟨d,_⟩|⟨d,rfl,d1⟩|⟨d,_⟩|⟨d,_⟩
   ·
    exact absurd d (by omega)
   ·
    exact ⟨rfl,by rw [bt1 a (by omega),bt1 b (by omega),← c1,← d1]⟩
   all_goals exact absurd d (by omega)
  ·
   rcases kc with ⟨d,_⟩|⟨d,_⟩|⟨d,rfl,d1,d2⟩|⟨d,_⟩
   ·
    exact absurd d (by omega)
   ·
    exact absurd d (by omega)
   ·
    refine ⟨rfl,?_⟩
    have sa:=bytes_split a 1 2 9 (by omega) (by omega);have sb:=bytes_split b 1 2 9 (by omega) (by omega);rw [bt1 a (by omega)] at sa;rw [bt1 b (by omega)] at sb;have la : (bytesOf (a.extract 2 9)).length=7:=ext_bytes a 2 9 hn;have lb : (bytesOf (b.extract 2 9)).length=7:=ext_bytes b 2 9 hm;have ra:=bt_range a 1;have rb:=bt_range b 1;have p7 : (256 : Int) ^ 7=72057594037927936:=by decide
    have ga : bigV (bytesOf (a.extract 1 9))=(bytesOf (a.extract 2 9)).foldl stp (0*256+bt a 1):=by rw [sa,← stp_zero _ ra];rfl
    have gb : bigV (bytesOf (b.extract 1 9))=(bytesOf (b.extract 2 9)).foldl stp (0*256+bt b 1):=by rw [sb,← stp_zero _ rb];rfl
    have ia:=fold_range 7 _ (0*256+bt a 1) la (bytes_in _) (by omega) (by rw [p7];omega);have ib:=fold_range 7 _ (0*256+bt b 1) lb (bytes_in _) (by omega) (by rw [p7];omega);have he:=c2.symm.trans d2;rw [ga,gb,w64m,w64m] at he;obtain ⟨x1,x2⟩:=fold_inj 7 _ _ _ _ la lb (bytes_in _) (bytes_in _) (by omega) (by omega) (by rw [p7];omega) (by rw [p7];omega) (show (bytesOf (a.extract 2 9)).foldl stp (0*256+bt a 1)=(bytesOf (b.extract 2 9)).foldl stp (0*256+bt b 1) by omega);rw [sa,sb,x2,show bt a 1=bt b 1 by omega]
   exact absurd d (by omega)
  rcases kc with ⟨d,_⟩|⟨d,_⟩|⟨d,_⟩|⟨d,d5,d1,d2,d3⟩
  ·
   exact absurd d (by omega)
  ·
   exact absurd d (by omega)
  ·
   exact absurd d (by omega)
  obtain rfl : n=m:=by omega
  refine ⟨rfl,?_⟩;rw [bytes_split a 1 3 n (by omega) (by omega),bytes_split b 1 3 n (by omega) (by omega),← c3,← d3]
  congr 1
  have la : (bytesOf (a.extract 1 3)).length=2:=ext_bytes a 1 3 (by omega);have lb : (bytesOf (b.extract 1 3)).length=2:=ext_bytes b 1 3 (by omega);exact (fold_inj 2 _ _ 0 0 la lb (bytes_in _) (bytes_in _) (by omega) (by omega) (by decide) (by decide) (c2.trans d2.symm)).2
 obtain ⟨rfl,e1⟩:=key;refine glue a b n hn hm ?_ (hr.symm.trans hr2);rw [bytes_split a 0 1 n (by omega) (by omega),bytes_split b 0 1 n (by omega) (by omega),e0,e1]
theorem str_app (a b : List Int) : strOfNums (a++b)=strOfNums a++strOfNums b:=by
 apply ba_ext;rw [ba_toList,ba_toList,ByteArray.data_append,Array.toList_append,strOfNums_data,strOfNums_data,strOfNums_data,List.map_append]
theorem str_bytes (s : ByteArray) : strOfNums (bytesOf s)=s:=by
 apply ba_ext;rw [ba_toList,ba_toList,strOfNums_data,bytesOf,List.map_map]
 conv=>rhs;rw [← List.map_id s.data.toList]
 refine List.map_congr_left (fun b _=>?_);show UInt8.ofNat ((b.toNat : Int)).toNat=b;rw [Int.toNat_natCast];exact UInt8.ofNat_toNat
theorem bytes_str (l : List Int) (h : ∀ b ∈ l,0≤b∧b≤255) : bytesOf (strOfNums l)=l:=by
 rw [bytesOf,strOfNums_data,List.map_map]
 conv=>rhs;rw [← List.map_id l]
 refine List.map_congr_left (fun b hb=>?_);have:=h b hb;show (((UInt8.ofNat b.toNat).toNat : Nat) : Int)=b;rw [UInt8.toNat_ofNat']
 omega
abbrev Byts (l : List Int) : Prop:=∀ b ∈ l,0≤b∧b≤255
theorem byts_app {a b : List Int} (ha : Byts a) (hb : Byts b) : Byts (a++b):=fun x hx=>(List.mem_append.1 hx).elim (ha x) (hb x)
theorem bt_of (l : List Int) (hl : Byts l) (i : Nat) (h : i<l.length) : bt (strOfNums l) (i : Int)=l[i]:=by
 have hz:=bytes_str l hl;have:=bt_get (strOfNums l) i (by rw [hz];exact h);simp only [hz] at this;exact this
theorem ext_of (l : List Int) (hl : Byts l) (i j : Nat) : (strOfNums l).extract i j=strOfNums ((l.drop i).take (j - i)):=by
 apply bytes_inj;rw [bytes_cut,bytes_str l hl,bytes_str _ (fun b hb=>hl b (List.mem_of_mem_drop (List.mem_of_mem_take hb)))]
theorem tail_of (l : List Int) (hl : Byts l) (i : Nat) : (strOfNums l).extract i (strOfNums l).size=strOfNums (l.drop i):=by
 rw [ext_of l hl,strOfNums_size,List.take_of_length_le (by simp)]
theorem right_four {d : Nat} {v : IVal} (h : rightV d v=true) (h4 : v.f0=4) : ∃ e l,d=e+1∧itS v.f2.size v.f2=some l∧l.all (rightV e)=true:=by
 cases d with
 | zero =>
  have : flat v=true:=h;unfold flat at this;rw [if_neg (by omega),if_neg (by omega),if_neg (by omega),if_neg (by omega)] at this
  cases this
 | succ e =>
  unfold rightV at h;rw [if_pos h4] at h
  cases hi : itS v.f2.size v.f2 with
  | none=>rw [hi] at h;simp at h
  | some l =>
   rw [hi] at h;simp only [Bool.and_eq_true] at h;exact ⟨e,l,rfl,rfl,h.2.2⟩
theorem right_five {d : Nat} {v : IVal} (h : rightV d v=true) (h5 : v.f0=5) : ∃ e l,d=e+1∧fdS v.f2.size v.f2=some l∧nms none l=true∧l.all (fun f=>rightV e f.f1)=true:=by
 have h4 : ¬ v.f0=4:=by omega
 cases d with
 | zero =>
  have : flat v=true:=h;unfold flat at this;rw [if_neg (by omega),if_neg (by omega),if_neg (by omega),if_neg (by omega)] at this
  cases this
 | succ e =>
  unfold rightV at h;rw [if_neg h4,if_pos h5] at h
  cases hi : fdS v.f2.size v.f2 with
  | none=>rw [hi] at h;simp at h
  | some l =>
   rw [hi] at h;simp only [Bool.and_eq_true] at h;exact ⟨e,l,rfl,rfl,h.2.2.1,h.2.2.2⟩
theorem filled {α : Type} (ys : List α) (n : Nat) (c : Nat→α) (h1 : ys.length=n) (h2 : ∀ j,j<n→ys[j]? = some (c j)) : ys=(List.range n).map c:=by
 apply List.ext_getElem?
 intro j
 by_cases hj : j<n
 ·
  rw [h2 j hj];simp [hj]
 rw [List.getElem?_eq_none (by omega),List.getElem?_eq_none (by simp;omega)]
theorem fill_next {α : Type} (ys : List α) (i : Nat) (c : Nat→α) (h1 : i<ys.length) (h2 : ∀ j,j<i→ys[j]? = some (c j)) : ∀ j,j<i+1→(ys.set i (c i))[j]? = some (c j):=by
 intro j hj
 by_cases h : j=i
 ·
  subst h;simp [h1]
 rw [List.getElem?_set_ne (by omega)];exact h2 j (by omega)
def Shape (v : IVal) : Prop :=
 (v.f0=0∧v.f1=0∧v.f2=eB)∨(v.f0=1∧(0≤v.f1∧v.f1≤1)∧v.f2=eB)∨(v.f0=2∧(-1000000000000≤v.f1∧v.f1≤1000000000000)∧v.f2=eB)∨((3≤v.f0∧v.f0≤5)∧v.f1=0∧v.f2.size≤300)
theorem em_is {a : ByteArray} (h : emB a=true) : a=eB:=ba_ext (by rw [show a.toList=([] : List UInt8) from eq_of_beq h,ba_toList])
theorem flat_shape {v : IVal} (h : flat v=true) : Shape v:=by
 unfold flat at h;unfold Shape
 by_cases q0 : v.f0=0
 ·
  rw [if_pos q0,Bool.and_eq_true,decide_eq_true_eq] at h
  exact .inl ⟨q0,h.1,em_is h.2⟩
 rw [if_neg q0] at h
 by_cases q1 : v.f0=1
 ·
  rw [if_pos q1,Bool.and_eq_true] at h
  have h1:=h.1;unfold inr at h1;rw [Bool.and_eq_true,decide_eq_true_eq,decide_eq_true_eq] at h1;exact .inr (.inl ⟨q1,h1,em_is h.2⟩)
 rw [if_neg q1] at h
 by_cases q2 : v.f0=2
 ·
  rw [if_pos q2,Bool.and_eq_true] at h
  have h1:=h.1;unfold inr at h1;rw [Bool.and_eq_true,decide_eq_true_eq,decide_eq_true_eq] at h1;exact .inr (.inr (.inl ⟨q2,h1,em_is h.2⟩))
 rw [if_neg q2] at h
 by_cases q3 : v.f0=3
 ·
  rw [if_pos q3,Bool.and_eq_true,decide_eq_true_eq,decide_eq_true_eq] at h
  exact .inr (.inr (.inr ⟨by omega,h.1,by omega⟩))
 rw [if_neg q3] at h;cases h
theorem right_shape : ∀ (d : Nat) (v : IVal),rightV d v=true→Shape v:=by
 intro d v h
 cases d with
 | zero=>exact flat_shape h
 | succ d =>
  unfold rightV at h
  by_cases h4 : v.f0=4
  ·
   rw [if_pos h4,Bool.and_eq_true,Bool.and_eq_true,decide_eq_true_eq,decide_eq_true_eq] at h
   exact .inr (.inr (.inr ⟨by omega,h.1,by omega⟩))
  rw [if_neg h4] at h
  by_cases h5 : v.f0=5
  ·
   rw [if_pos h5,Bool.and_eq_true,Bool.and_eq_true,decide_eq_true_eq,decide_eq_true_eq] at h
   exact .inr (.inr (.inr ⟨by omega,h.1,by omega⟩))
  rw [if_neg h5] at h;exact flat_shape h
def dig (x : Int) : Nat→List Int
 | 0 => []
 | m+1=>(shr .i64 x (8*(m : Int)) % 256) :: dig x m
theorem dig_in (x : Int) : ∀ m,∀ b ∈ dig x m,0≤b∧b≤255
 | 0=>fun b hb=>by simp [dig] at hb
 | m+1=>fun b hb=>by
  rcases List.mem_cons.1 hb with rfl|hb
  ·
   omega
  exact dig_in x m b hb
theorem dig_length (x : Int) : ∀ m,(dig x m).length=m
 | 0=>rfl
 | m+1=>by rw [dig,List.length_cons,dig_length x m]
theorem pow_eight (m : Nat) : (2 : Int) ^ (8*(m+1))=2 ^ (8*m)*256:=by
 rw [show 8*(m+1)=8*m+1+1+1+1+1+1+1+1 by omega];simp only [Int.pow_succ,Int.mul_assoc]
 rfl
theorem pow_at (m : Nat) : (0 : Int)<2 ^ (8*m):=by
 induction m with
 | zero=>decide
 | succ m ih=>rw [pow_eight];omega
theorem shr_at (x : Int) (m : Nat) (h : m≤8) : shr .i64 x (8*(m : Int))=x / 2 ^ (8*m):=by
 unfold shr;have e1 : (8*(m : Int)).toNat=8*m:=by omega
 have e2 : min (8*m) (IntKind.bits .i64)=8*m:=Nat.min_eq_left (by show 8*m≤64;omega);rw [e1,e2]
theorem shr_zero (x : Int) : shr .i64 x (8*((0 : Nat) : Int))=x:=by rw [shr_at x 0 (by omega)];simp
theorem stp_back (y : Int) (h0 : 0≤y) (h1 : y<9223372036854775808) : stp (y / 256) (y % 256)=y:=by
 unfold stp;rw [w64m,w64m,w64m]
 omega
theorem fold_dig (x : Int) (h0 : 0≤x) (h1 : x<9223372036854775808) : ∀ m : Nat,m≤8→(dig x m).foldl stp (x / 2 ^ (8*m))=x
 | 0,_=>by simp [dig]
 | m+1,h=>by
  have hp:=pow_at m;have hy0 : 0≤x / 2 ^ (8*m):=Int.ediv_nonneg h0 (by omega);have hy1 : x / 2 ^ (8*m)≤x:=Int.ediv_le_self _ h0;rw [dig,List.foldl_cons,shr_at x m (by omega),pow_eight,← Int.ediv_ediv_of_nonneg (by omega),stp_back _ hy0 (by omega)];exact fold_dig x h0 h1 m (by omega)
theorem big_dig (x : Int) (h0 : 0≤x) (h1 : x<9223372036854775808) : bigV (dig x 8)=x:=by
 have:=fold_dig x h0 h1 8 (by omega)
 rw [show x / 2 ^ (8*8)=0 from by
  have : (2 : Int) ^ (8*8)=18446744073709551616:=by decide
  rw [this];omega] at this
 exact this
theorem u64_at (m : Nat) (h : m≤8) : IntKind.u64.wrap (wrap64 (8*(m : Int)))=8*(m : Int):=by
 rw [w64 (by omega) (by omega)];rw [show IntKind.u64.wrap (8*(m : Int))=(8*(m : Int)) % 18446744073709551616 from rfl]
 omega
theorem number_loop (x : Int) : ∀ (m : Nat) (acc : List Int),m≤8→acc.length+m≤100→Eve (fun k=>Fa.l0 k x acc ((m : Int) - 1)) (strOfNums (acc++dig x m)):=by
 intro m
 induction m with
 | zero =>
  intro acc _ _;refine Eve.succ ?_;simp only [Fa.l0];exact Eve.ite (fun h=>absurd h (by omega)) (fun _=>Eve.one.eq (by simp [dig]))
 | succ m ih =>
  intro acc h1 h2;refine Eve.succ ?_;simp only [Fa.l0,show ((m+1 : Nat) : Int) - 1=(m : Int) by omega,u64_at m (by omega),w64 (show -9223372036854775808≤(m : Int) - 1 by omega) (by omega)];refine Eve.ite (fun _=>?_) (fun h=>absurd (by omega) h);refine Eve.ite (fun _=>?_) (fun h=>absurd (by omega) h);refine Eve.ite (fun _=>?_) (fun h=>absurd (by omega) h);exact (ih _ (by omega) (by simp;omega)).eq (by simp [dig])
theorem number_tells (x : Int) (n : Nat) (h : n≤8) : Eve (fun k=>Fa.f k x (n : Int)) (strOfNums (dig x n)):=by
 simp only [Fa.f,w64 (show -9223372036854775808≤(n : Int) - 1 by omega) (by omega)];exact (number_loop x n [] h (by simp;omega)).eq (by simp)
def dig8 (x : Int) (i : Nat) : Int:=shr .i64 x (56 - 8*(i : Int)) % 256
theorem eight_tells (x : Int) : Eve (fun k=>Fm.f k x) (dig x 8):=by
 simp only [Fm.f];refine Eve.ite (fun _=>?_) (fun h=>absurd (by decide) h);have hl : (List.replicate 8 (0 : Int)).length=8:=by simp
 have he : (List.range 8).map (dig8 x)=dig x 8:=rfl;refine ev_loop0 (List.replicate 8 (0 : Int)) (fun k (s : List Int) i=>Fm.l0 k x s i) (fun _ _ _=>dig x 8) (fun i s=>s.length=8 ∧ ∀ j,j<i→s[j]? = some (dig8 x j)) (fun s hs=>?_) (fun i hi s hs ih=>?_) (List.replicate 8 0) ⟨hl,by intro j hj;omega⟩
 ·
  simp only [Fm.l0]
  refine Eve.ite (fun h=>absurd h (by omega)) (fun _=>Eve.one.eq ?_);rw [← he];exact filled s 8 _ hs.1 (fun j hj=>hs.2 j (by omega))
 obtain ⟨h1,h2⟩:=hs;have hi8 : i<8:=by omega
 have e1 : wrap64 (8*(i : Int))=8*(i : Int):=w64 (by omega) (by omega);have e2 : wrap64 (56 - 8*(i : Int))=56 - 8*(i : Int):=w64 (by omega) (by omega);simp only [Fm.l0,e1,e2,Int.toNat_natCast,wi (show i≤9223372036854775806 by omega)];refine Eve.ite (fun _=>?_) (fun h=>absurd (by omega) h);refine Eve.ite (fun _=>?_) (fun h=>absurd (by omega) h);refine Eve.ite (fun _=>?_) (fun h=>absurd (by omega) h);refine Eve.ite (fun _=>?_) (fun h=>absurd (by omega) h);exact ih (s.set i (dig8 x i)) ⟨by simpa using h1,fill_next s i (dig8 x) (by omega) h2⟩
theorem ival_ext {a b : IVal} (h0 : a.f0=b.f0) (h1 : a.f1=b.f1) (h2 : a.f2=b.f2) : a=b:=by cases a;cases b;simp_all
def encB (v : IVal) : List Int :=
 if v.f0=0 then [0] else if v.f0=1 then [1,v.f1] else if v.f0=2 then 2 :: dig (v.f1+4611686018427387904) 8
 else v.f0 :: ((v.f2.size : Int) / 256 % 256) :: ((v.f2.size : Int) % 256) :: bytesOf v.f2
theorem enc_in {v : IVal} (h : Shape v) : ∀ b ∈ encB v,0≤b∧b≤255:=by
 unfold encB;rcases h with ⟨h,_⟩|⟨h,h1,_⟩|⟨h,_⟩|⟨h,_,hz⟩
 ·
  rw [if_pos h];intro b hb;simp at hb;omega
 ·
  rw [if_neg (by omega),if_pos h];intro b hb;simp at hb;omega
 ·
  rw [if_neg (by omega),if_neg (by omega),if_pos h]
  intro b hb;rcases List.mem_cons.1 hb with rfl|hb
  ·
   omega
  exact dig_in _ _ b hb
 rw [if_neg (by omega),if_neg (by omega),if_neg (by omega)];intro b hb;rcases List.mem_cons.1 hb with rfl|hb
 ·
  omega
 rcases List.mem_cons.1 hb with rfl|hb
 ·
  omega
 rcases List.mem_cons.1 hb with rfl|hb
 ·
  omega
 exact bytes_in _ b hb
theorem enc_length {v : IVal} (h : Shape v) : 1≤(encB v).length∧(encB v).length≤303:=by
 unfold encB;rcases h with ⟨h,_⟩|⟨h,h1,_⟩|⟨h,_⟩|⟨h,_,hz⟩
 ·
  rw [if_pos h];simp
 ·
  rw [if_neg (by omega),if_pos h];simp
 ·
  rw [if_neg (by omega),if_neg (by omega),if_pos h];simp [dig_length]
 rw [if_neg (by omega),if_neg (by omega),if_neg (by omega)];simp only [List.length_cons,bytesOf_length];omega
theorem put_tells (acc : List Int) {v : IVal} (h : Shape v) (ha : acc.length≤1048576) : Eve (fun k=>Fw.f k acc v.f0 v.f1 v.f2) (acc++encB v):=by
 simp only [Fw.f,Option.bind_some,List.length_append,List.length_cons,List.length_nil,List.append_assoc,List.cons_append,List.nil_append];refine Eve.ite (fun _=>?_) (fun h=>absurd (by omega) h);unfold encB;rcases h with ⟨h,_⟩|⟨h,h1,_⟩|⟨h,h1,_⟩|⟨h,_,hz⟩
 ·
  rw [if_pos h]
  simp only [h];exact Eve.one
 ·
  rw [if_neg (show ¬ v.f0=0 by omega),if_pos h]
  simp only [h,if_true];refine Eve.ite (fun _=>Eve.one.eq ?_) (fun h=>absurd (by omega) h);rw [show v.f1 % 256=v.f1 by omega];rfl
 ·
  rw [if_neg (show ¬ v.f0=0 by omega),if_neg (show ¬ v.f0=1 by omega),if_pos h]
  refine Eve.ite (fun h=>absurd h (by omega)) (fun _=>Eve.ite (fun _=>?_) (fun h2=>absurd h h2));rw [show wrap64 (v.f1+4611686018427387904)=v.f1+4611686018427387904 from w64 (by omega) (by omega)];refine Eve.bind (eight_tells _) ?_;refine Eve.ite (fun _=>Eve.one.eq (by rw [h];rfl)) (fun h=>absurd (by rw [dig_length];omega) h)
 rw [if_neg (show ¬ v.f0=0 by omega),if_neg (show ¬ v.f0=1 by omega),if_neg (show ¬ v.f0=2 by omega)];have hk : v.f0 % 256=v.f0:=by omega
 have fin : Eve (fun _=>if acc.length+(0+1)+(0+1+1)<140737488355328 then (if acc.length+(0+1+1+1)+v.f2.size<140737488355328 then some (acc++v.f0 % 256 :: (v.f2.size : Int) / 256 % 256 :: (v.f2.size : Int) % 256 :: bytesOf v.f2) else none) else none) (acc++v.f0 :: (v.f2.size : Int) / 256 % 256 :: (v.f2.size : Int) % 256 :: bytesOf v.f2) :=
  Eve.ite (fun _=>Eve.ite (fun _=>Eve.one.eq (by rw [hk])) (fun h=>absurd (by omega) h)) (fun h=>absurd (by omega) h)
 refine Eve.ite (fun h=>absurd h (by omega)) (fun _=>Eve.ite (fun h=>absurd h (by omega)) (fun _=>?_));exact Eve.ite (fun _=>fin) (fun _=>Eve.ite (fun _=>fin) (fun _=>Eve.ite (fun _=>fin) (fun h=>absurd (by omega) h)))
theorem enc_tells {v : IVal} (h : Shape v) : Eve (fun k=>Fr.f k v.f0 v.f1 v.f2) (strOfNums (encB v)):=by
 have n1 : ∀ x : Int,0≤x→x≤255→dig x 1=[x]:=by
  intro x h0 h1;show [shr .i64 x (8*((0 : Nat) : Int)) % 256]=[x];rw [shr_zero,show x % 256=x by omega]
 simp only [Fr.f]
 have hk : 0≤v.f0∧v.f0≤5:=by
  rcases h with ⟨h,_⟩|⟨h,_⟩|⟨h,_⟩|⟨h,_⟩ <;> omega
 have t1:=number_tells v.f0 1 (by omega);rw [n1 _ hk.1 (by omega)] at t1;refine Eve.bind t1 ?_;unfold encB;rcases h with ⟨h,_⟩|⟨h,h1,_⟩|⟨h,h1,_⟩|⟨h,_,hz⟩
 ·
  rw [if_pos h]
  simp only [h,if_true];exact Eve.one
 ·
  rw [if_neg (show ¬ v.f0=0 by omega),if_pos h]
  refine Eve.ite (fun h=>absurd h (by omega)) (fun _=>Eve.ite (fun _=>?_) (fun h2=>absurd h h2));have t2:=number_tells v.f1 1 (by omega);rw [n1 _ h1.1 (by omega)] at t2;refine Eve.bind t2 ?_;simp only [strOfNums_size,List.length_cons,List.length_nil];refine Eve.ite (fun _=>Eve.one.eq ?_) (fun h=>absurd (by omega) h);rw [← str_app,h];rfl
 ·
  rw [if_neg (show ¬ v.f0=0 by omega),if_neg (show ¬ v.f0=1 by omega),if_pos h]
  refine Eve.ite (fun h=>absurd h (by omega)) (fun _=>Eve.ite (fun h=>absurd h (by omega)) (fun _=>Eve.ite (fun _=>?_) (fun h2=>absurd h h2)));rw [show wrap64 (v.f1+4611686018427387904)=v.f1+4611686018427387904 from w64 (by omega) (by omega)];refine Eve.bind (number_tells _ 8 (by omega)) ?_;simp only [strOfNums_size,List.length_cons,List.length_nil,dig_length];refine Eve.ite (fun _=>Eve.one.eq ?_) (fun h=>absurd (by omega) h);rw [← str_app,h];rfl
 rw [if_neg (show ¬ v.f0=0 by omega),if_neg (show ¬ v.f0=1 by omega),if_neg (show ¬ v.f0=2 by omega)];refine Eve.ite (fun h=>absurd h (by omega)) (fun _=>Eve.ite (fun h=>absurd h (by omega)) (fun _=>Eve.ite (fun h=>absurd h (by omega)) (fun _=>?_)));have t2:=number_tells (v.f2.size : Int) 2 (by omega)
 have e2 : dig (v.f2.size : Int) 2=[(v.f2.size : Int) / 256 % 256,(v.f2.size : Int) % 256]:=by
  show [shr .i64 (v.f2.size : Int) (8*((1 : Nat) : Int)) % 256,shr .i64 (v.f2.size : Int) (8*((0 : Nat) : Int)) % 256]=_;rw [shr_zero,shr_at _ 1 (by omega)];rfl
 rw [e2] at t2;refine Eve.bind t2 ?_;simp only [ByteArray.size_append,strOfNums_size,List.length_cons,List.length_nil];refine Eve.ite (fun _=>Eve.ite (fun _=>Eve.one.eq ?_) (fun h=>absurd (by omega) h)) (fun h=>absurd (by omega) h);rw [← str_app]
 conv=>lhs;rw [← str_bytes v.f2]
 rw [← str_app,str_bytes];rfl
theorem head_of (v : IVal) (h : Shape v) (r : List Int) (hr : Byts r) : bt (strOfNums (encB v++r)) 0=v.f0:=by
 have hb:=byts_app (enc_in h) hr;have hlen:=enc_length h;have:=bt_of _ hb 0 (by simp;omega);rw [show ((0 : Nat) : Int)=0 from rfl] at this;rw [this];unfold encB;rcases h with ⟨h,_⟩|⟨h,_⟩|⟨h,_⟩|⟨h,_⟩
 ·
  simp [h]
 ·
  simp [h]
 ·
  simp [h]
 rw [List.getElem_append_left (by rw [if_neg (show ¬ v.f0=0 by omega),if_neg (show ¬ v.f0=1 by omega),if_neg (show ¬ v.f0=2 by omega)];simp)];simp only [if_neg (show ¬ v.f0=0 by omega),if_neg (show ¬ v.f0=1 by omega),if_neg (show ¬ v.f0=2 by omega),List.getElem_cons_zero]
theorem read_0 (v : IVal) (h : v.f0=0) (h1 : v.f1=0) (h2 : v.f2=eB) (r : List Int) (hb : Byts (encB v++r)) (h0 : bt (strOfNums (encB v++r)) 0=v.f0) (hs : (strOfNums (encB v++r)).size=(encB v).length+r.length) (hlen : 1≤(encB v).length) : nxtV (strOfNums (encB v++r))=some (v,strOfNums r):=by
 unfold nxtV;rw [if_neg (by omega),h0];have he : encB v=[0]:=by unfold encB;rw [if_pos h]
 rw [if_pos h,tail_of _ hb,he];simp only [List.cons_append,List.nil_append,List.drop_succ_cons,List.drop_zero];rw [show (⟨0,0,eB⟩ : IVal)=v from ival_ext h.symm h1.symm h2.symm]
theorem read_1 (v : IVal) (h : v.f0=1) (_h1 : 0≤v.f1∧v.f1≤1) (h2 : v.f2=eB) (r : List Int) (hb : Byts (encB v++r)) (h0 : bt (strOfNums (encB v++r)) 0=v.f0) (hs : (strOfNums (encB v++r)).size=(encB v).length+r.length) (hlen : 1≤(encB v).length) : nxtV (strOfNums (encB v++r))=some (v,strOfNums r):=by
 unfold nxtV;rw [if_neg (by omega),h0];have he : encB v=[1,v.f1]:=by unfold encB;rw [if_neg (show ¬ v.f0=0 by omega),if_pos h]
 have b1 : bt (strOfNums (encB v++r)) 1=v.f1:=by
  have:=bt_of _ hb 1 (by rw [he];simp);rw [show ((1 : Nat) : Int)=1 from rfl] at this;rw [this];simp [he]
 rw [if_neg (show ¬ v.f0=0 by omega),if_pos h,if_neg (by rw [hs,he];simp),b1,tail_of _ hb,he];simp only [List.cons_append,List.nil_append,List.drop_succ_cons,List.drop_zero];rw [show (⟨1,v.f1,eB⟩ : IVal)=v from ival_ext h.symm rfl h2.symm]
theorem read_2 (v : IVal) (h : v.f0=2) (h1 : -1000000000000≤v.f1∧v.f1≤1000000000000) (h2 : v.f2=eB) (r : List Int) (hb : Byts (encB v++r)) (h0 : bt (strOfNums (encB v++r)) 0=v.f0) (hs : (strOfNums (encB v++r)).size=(encB v).length+r.length) (hlen : 1≤(encB v).length) : nxtV (strOfNums (encB v++r))=some (v,strOfNums r):=by
 unfold nxtV;rw [if_neg (by omega),h0];obtain ⟨x,hx⟩ : ∃ x,x=v.f1+4611686018427387904:=⟨_,rfl⟩;have he : encB v=2 :: dig x 8:=by unfold encB;rw [if_neg (show ¬ v.f0=0 by omega),if_neg (show ¬ v.f0=1 by omega),if_pos h,← hx]
 have b1 : bt (strOfNums (encB v++r)) 1≤127:=by
  have:=bt_of _ hb 1 (by rw [he];simp [dig_length];omega);rw [show ((1 : Nat) : Int)=1 from rfl] at this;rw [this];have e : (encB v++r)[1]'(by rw [he];simp [dig_length];omega)=(dig x 8)[0]'(by rw [dig_length];omega):=by simp [he,List.getElem_append_left,dig_length]
  have e2 : (dig x 8)[0]'(by rw [dig_length];omega)=shr .i64 x (8*((7 : Nat) : Int)) % 256:=rfl;rw [e,e2,shr_at _ 7 (by omega),show (2 : Int) ^ (8*7)=72057594037927936 by decide]
  omega
 have e9 : (strOfNums (encB v++r)).extract 1 9=strOfNums (dig x 8):=by
  rw [ext_of _ hb,he];simp only [List.cons_append,List.drop_succ_cons,List.drop_zero];rw [List.take_append_of_le_length (by rw [dig_length];omega),List.take_of_length_le (by rw [dig_length];omega)]
 rw [if_neg (show ¬ v.f0=0 by omega),if_neg (show ¬ v.f0=1 by omega),if_pos h,if_neg (by rw [hs,he];simp [dig_length]),if_neg (by omega),e9,bytes_str _ (dig_in _ _),big_dig _ (by omega) (by omega),tail_of _ hb,he,
  w64 (show -9223372036854775808≤x - 4611686018427387904 by omega) (by omega)]
 simp only [List.cons_append,List.drop_succ_cons];rw [List.drop_left' (dig_length _ 8),show (⟨2,x - 4611686018427387904,eB⟩ : IVal)=v from ival_ext h.symm (by show x - 4611686018427387904=v.f1;omega) h2.symm]
def enc3 (v : IVal) : List Int:=v.f0 :: ((v.f2.size : Int) / 256 % 256) :: ((v.f2.size : Int) % 256) :: bytesOf v.f2
theorem enc3_is (v : IVal) (h : 3≤v.f0∧v.f0≤5) : encB v=enc3 v:=by
 unfold encB;rw [if_neg (show ¬ v.f0=0 by omega),if_neg (show ¬ v.f0=1 by omega),if_neg (show ¬ v.f0=2 by omega)];rfl
theorem enc3_len (v : IVal) : (enc3 v).length=3+v.f2.size:=by unfold enc3;simp only [List.length_cons,bytesOf_length];omega
theorem two_big (n : Nat) (hz : n≤300) : stp (stp 0 ((n : Int) / 256 % 256)) ((n : Int) % 256)=n:=by
 rw [stp_zero _ (by omega),show 0*256+(n : Int) / 256 % 256=(n : Int) / 256 by omega,stp_back _ (by omega) (by omega)]
theorem enc3_two (v : IVal) (r : List Int) : ((enc3 v++r).drop 1).take (3 - 1)=[(v.f2.size : Int) / 256 % 256,(v.f2.size : Int) % 256]:=by
 simp only [enc3,List.cons_append,List.drop_succ_cons,List.drop_zero,show 3 - 1=1+1 from rfl,List.take_succ_cons,List.take_zero]
theorem two_bytes (n : Nat) : bytesOf (strOfNums [(n : Int) / 256 % 256,(n : Int) % 256])=[(n : Int) / 256 % 256,(n : Int) % 256]:=by
 rw [bytes_str _ (by intro b hb;simp only [List.mem_cons,List.not_mem_nil,or_false] at hb;omega)]
theorem big_two (x y : Int) : bigV [x,y]=stp (stp 0 x) y:=by
 simp only [bigV,List.foldl_cons,List.foldl_nil]
theorem enc3_big (v : IVal) (hz : v.f2.size≤300) (r : List Int) (hb : Byts (enc3 v++r)) : bigV (bytesOf ((strOfNums (enc3 v++r)).extract 1 3))=(v.f2.size : Int):=by
 rw [ext_of _ hb,enc3_two,two_bytes,big_two,two_big _ hz]
theorem enc3_text (v : IVal) (r : List Int) (hb : Byts (enc3 v++r)) : (strOfNums (enc3 v++r)).extract 3 (3+v.f2.size)=v.f2:=by
 rw [ext_of _ hb];have e : (enc3 v++r).drop 3=bytesOf v.f2++r:=rfl;rw [e,show 3+v.f2.size - 3=(bytesOf v.f2).length by rw [bytesOf_length];omega,List.take_left,str_bytes]
theorem enc3_rest (v : IVal) (r : List Int) (hb : Byts (enc3 v++r)) : (strOfNums (enc3 v++r)).extract (3+v.f2.size) (strOfNums (enc3 v++r)).size=strOfNums r:=by
 rw [tail_of _ hb,← enc3_len v,List.drop_left]
theorem read_3 (v : IVal) (h : 3≤v.f0∧v.f0≤5) (h1 : v.f1=0) (hz : v.f2.size≤300) (r : List Int) (hb : Byts (encB v++r)) (h0 : bt (strOfNums (encB v++r)) 0=v.f0) (hs : (strOfNums (encB v++r)).size=(encB v).length+r.length) (_hlen : 1≤(encB v).length) : nxtV (strOfNums (encB v++r))=some (v,strOfNums r):=by
 rw [enc3_is v h] at *;have e3:=enc3_big v hz r hb;have e4:=enc3_text v r hb;have e5:=enc3_rest v r hb;have hn:=enc3_len v;generalize strOfNums (enc3 v++r)=a at *;have en : (3+(v.f2.size : Int)).toNat=3+v.f2.size:=by omega
 unfold nxtV;rw [if_neg (by omega),h0];rw [if_neg (show ¬ v.f0=0 by omega),if_neg (show ¬ v.f0=1 by omega),if_neg (show ¬ v.f0=2 by omega),if_pos (by omega),e3,en,e4,e5,if_neg (by omega),if_neg (by omega)];rw [show (⟨v.f0,0,v.f2⟩ : IVal)=v from ival_ext rfl h1.symm rfl]
theorem read_back (v : IVal) (h : Shape v) (r : List Int) (hr : Byts r) : nxtV (strOfNums (encB v++r))=some (v,strOfNums r):=by
 have hb:=byts_app (enc_in h) hr;have hlen:=enc_length h;have h0:=head_of v h r hr;have hs : (strOfNums (encB v++r)).size=(encB v).length+r.length:=by rw [strOfNums_size,List.length_append]
 rcases h with ⟨h,h1,h2⟩|⟨h,h1,h2⟩|⟨h,h1,h2⟩|⟨h,h1,hz⟩
 ·
  exact read_0 v h h1 h2 r hb h0 hs hlen.1
 ·
  exact read_1 v h h1 h2 r hb h0 hs hlen.1
 ·
  exact read_2 v h h1 h2 r hb h0 hs hlen.1
 exact read_3 v h h1 hz r hb h0 hs hlen.1
def encL (l : List IVal) : List Int:=l.flatMap encB
theorem encL_cons (v : IVal) (l : List IVal) : encL (v :: l)=encB v++encL l:=List.flatMap_cons ..
theorem app_none (s : ByteArray) : s++eB=s:=ba_ext (by rw [ba_toList,ba_toList,ByteArray.data_append];simp)
theorem none_app (s : ByteArray) : eB++s=s:=ba_ext (by rw [ba_toList,ba_toList,ByteArray.data_append];simp)
theorem Eve.list {α β : Type} (g : Nat→α→Option β) (q : α→β) : ∀ l : List α,(∀ x ∈ l,Eve (fun k=>g k x) (q x)) → ∃ K,∀ k,K≤k → ∀ x ∈ l,g k x=some (q x)
 | [],_=>⟨0,fun _ _ x hx=>by simp at hx⟩
 | y :: l,h=>by
  obtain ⟨K,hK⟩:=Eve.list g q l (fun x hx=>h x (by simp [hx]));obtain ⟨K2,hK2⟩:=h y (by simp);refine ⟨max K K2,fun k hk x hx=>?_⟩;rcases List.mem_cons.1 hx with rfl|hx
  ·
   exact hK2 k (by omega)
  exact hK k (by omega) x hx
theorem cf_tells (l : List IVal) (q : IVal→Bool) (e : Int) (hl : l.length≤4194304) (h : ∀ x ∈ l,Eve (fun k=>F4.f k x.f0 x.f1 x.f2 (wrap64 (e - 1))) (q x)) :
  Eve (fun k=>Fe.f k (F4.f k) l e) (l.any (fun x => !q x)):=by
 obtain ⟨K,hK⟩:=Eve.list (fun k (x : IVal)=>F4.f k x.f0 x.f1 x.f2 (wrap64 (e - 1))) q l h;refine ⟨max K (l.length+1),fun k hk=>?_⟩;have hG : ∀ x ∈ l,F4.f k x.f0 x.f1 x.f2 (wrap64 (e - 1))=some (q x):=hK k (by omega);show Fe.f k (F4.f k) l e=_;generalize F4.f k=G at hG;unfold Fe.f Fu.f
 have:=first_loop (fun k i=>Fu.l0 G k l (l.length : Int) i e) l (fun x => !q x) (fun k i hi=>by
  have hx:=hG l[i] (List.getElem_mem hi);simp only [Fu.l0];rw [if_pos (by omega),if_pos (by omega),if_pos (by omega),rdV l i hi,wi (show i≤9223372036854775806 by omega)];unfold F07.f;rw [hx]
  rfl) (fun k=>by simp only [Fu.l0];rw [if_neg (by omega)]) l.length k 0 (by omega) (by omega)
 rw [show ((0 : Nat) : Int)=0 from rfl,List.drop_zero] at this;rw [this];simp only [Option.bind_some,first_any]
theorem any_not (l : List IVal) (q : IVal→Bool) : (!(l.any (fun x => !q x)))=l.all q:=by
 induction l with
 | nil=>rfl
 | cons x l ih=>simp only [List.any_cons,List.all_cons,← ih];cases q x <;> simp
theorem inner_loop (l : List IFld) (hl : l.length≤1048576) (hn : ∀ f ∈ l,f.f0.size≤1048576) (ok : Bool) : Eve (fun k=>F3.l0 k l ok [] l (l.length : Int) 0) (l.map (·.f1),ok && nms none l):=by
 have:=ev_loop0 l (fun k (s : Bool×List IVal) i=>F3.l0 k l s.1 s.2 l (l.length : Int) i) (fun i s r=>(s.2++r.map (·.f1),s.1 && nms (if i=0 then none else some (l.getD (i - 1) z109).f0) r)) (fun i s=>s.2.length=i) (fun s _=>by
  simp only [F3.l0]
  exact Eve.ite (fun h=>absurd h (by omega)) (fun _=>Eve.one.eq (by simp [nms]))) (fun i hi s hI ih=>by
  obtain ⟨b,out⟩:=s;simp only at hI;have hf:=hn l[i] (List.getElem_mem hi);have hnx:=fun b' => ih (b',out ++ [⟨l[i].f1.f0,l[i].f1.f1,l[i].f1.f2⟩]) (by simp;omega);simp only [Nat.add_one_ne_zero,if_false,Nat.add_sub_cancel,List.getD_eq_getElem?_getD,List.getElem?_eq_getElem hi,Option.getD_some] at hnx;have hout : ∀ r : List IFld,out ++ [(⟨l[i].f1.f0,l[i].f1.f1,l[i].f1.f2⟩ : IVal)]++r.map (·.f1)=out++(l[i] :: r).map (·.f1):=by intro r;simp
  simp only [F3.l0];refine Eve.ite (fun _=>?_) (fun h=>absurd (by omega) h);refine Eve.ite (fun _=>?_) (fun h=>absurd (by omega) h);refine Eve.ite (fun _=>?_) (fun h=>absurd (by omega) h);simp only [rdF l i hi,wi (show i≤9223372036854775806 by omega)];refine Eve.ite (fun hb=>?_) (fun hb=>?_)
  ·
   refine Eve.bind (nam_impl _ hf) ?_
   refine Eve.ite (fun h1=>?_) (fun h1=>?_)
   ·
    refine Eve.ite (fun h2=>?_) (fun h2=>?_)
    ·
     obtain rfl : i=0:=by omega
     refine Eve.ite (fun _=>(hnx true).eq ?_) (fun h=>absurd (by omega) h);rw [hout,if_pos rfl];simp only [nms,h1,hb,Bool.true_and]
    have hw : wrap64 ((i : Int) - 1)=((i - 1 : Nat) : Int):=by rw [w64 (by omega) (by omega)];omega
    simp only [hw];refine Eve.ite (fun _=>?_) (fun h=>absurd (by omega) h);refine Eve.ite (fun _=>?_) (fun h=>absurd (by omega) h);refine Eve.ite (fun _=>?_) (fun h=>absurd (by omega) h);have hi1 : i - 1<l.length:=by omega
    have hz : ¬ i=0:=by omega
    simp only [rdF l (i - 1) hi1];refine (hnx _).eq ?_;rw [hout,if_neg hz,List.getD_eq_getElem?_getD,List.getElem?_eq_getElem hi1,Option.getD_some];simp only [nms,h1,hb,Bool.true_and]
   refine Eve.ite (fun _=>(hnx false).eq ?_) (fun h=>absurd (by omega) h);rw [hout];simp only [nms,Bool.eq_false_iff.mpr h1,Bool.false_and,Bool.and_false]
  refine Eve.ite (fun _=>(hnx false).eq ?_) (fun h=>absurd (by omega) h);rw [hout]
  simp only [Bool.eq_false_iff.mpr hb,Bool.false_and]) (ok,[]) rfl
 exact this.eq (by simp)
theorem inner_four (v : IVal) (h4 : v.f0=4) (hs : v.f2.size≤1048576) : ∃ l ok,Eve (fun k=>F3.f k v.f0 v.f1 v.f2) (l,ok)∧l.length≤1048576∧(∀ x ∈ l,x.f2.size≤1048576) ∧
  ((itS v.f2.size v.f2=some l∧ok=true)∨(itS v.f2.size v.f2=none∧(ok=false ∨ ∃ x ∈ l,Bad x))):=by
 simp only [F3.f,Fj.f,if_pos h4]
 cases hi : itS v.f2.size v.f2 with
 | some l =>
  obtain ⟨h1,h2⟩:=its_size _ _ l hi hs;exact ⟨l,true,(Eve.bind (items_some _ v.f2 [] l hi (by simp;omega)) Eve.one),by omega,h2,.inl ⟨rfl,rfl⟩⟩
 | none =>
  obtain ⟨l,ok,hl,hb,h1,h2⟩:=items_none _ v.f2 [] (Nat.le_refl _) hi (by simp;omega);exact ⟨l,ok,(Eve.bind hl Eve.one),by omega,h2,.inr ⟨rfl,hb⟩⟩
theorem inner_five (v : IVal) (h5 : v.f0=5) (hs : v.f2.size≤1048576) : ∃ l ok,Eve (fun k=>F3.f k v.f0 v.f1 v.f2) (l,ok)∧l.length≤1048576∧(∀ x ∈ l,x.f2.size≤1048576) ∧
  ((∃ fs,fdS v.f2.size v.f2=some fs∧l=fs.map (·.f1)∧ok=nms none fs)∨(fdS v.f2.size v.f2=none∧(ok=false ∨ ∃ x ∈ l,Bad x))):=by
 have h4 : ¬ v.f0=4:=by omega
 simp only [F3.f,F7.f,if_neg h4]
 cases hi : fdS v.f2.size v.f2 with
 | some fs =>
  obtain ⟨h1,h2⟩:=fds_size _ _ fs hi hs;refine ⟨fs.map (·.f1),nms none fs,?_,by simp;omega,?_,.inl ⟨fs,rfl,rfl,rfl⟩⟩
  ·
   refine Eve.bind (fields_some _ v.f2 [] fs hi (by simp;omega)) ?_
   exact (inner_loop fs (by omega) (fun f hf=>(h2 f hf).1) true).eq (by simp)
  intro x hx;obtain ⟨f,hf,rfl⟩:=List.mem_map.1 hx;exact (h2 f hf).2
 | none =>
  obtain ⟨fs,ok,hl,hb,h1,h2⟩:=fields_none _ v.f2 [] (Nat.le_refl _) hi (by simp;omega);refine ⟨fs.map (·.f1),ok && nms none fs,?_,by simp;omega,?_,.inr ⟨rfl,?_⟩⟩
  ·
   refine Eve.bind hl ?_
   exact inner_loop fs (by omega) (fun f hf=>(h2 f hf).1) ok
  ·
   intro x hx
   obtain ⟨f,hf,rfl⟩:=List.mem_map.1 hx;exact (h2 f hf).2
  rcases hb with hb|⟨f,hf,hb⟩
  ·
   left;rw [hb];rfl
  right;exact ⟨f.f1,List.mem_map.2 ⟨f,hf,rfl⟩,hb⟩
theorem all_bad (l : List IVal) (q : IVal→Bool) (x : IVal) (hx : x ∈ l) (h : q x=false) : l.all q=false:=by
 rw [List.all_eq_false];exact ⟨x,hx,by simp [h]⟩
theorem nest_tells (v : IVal) (d : Nat) (l : List IVal) (ok : Bool) (hd : d≤1000) (h45 : v.f0=4∨v.f0=5) (hin : Eve (fun k=>F3.f k v.f0 v.f1 v.f2) (l,ok)) (hl : l.length≤1048576)
  (hq : ∀ x ∈ l,Eve (fun k=>F4.f k x.f0 x.f1 x.f2 (d : Int)) (rightV d x)) :
  Eve (fun k=>F4.f k v.f0 v.f1 v.f2 ((d+1 : Nat) : Int)) (decide (v.f1=0) && (decide ((v.f2.size : Int)≤300) && (ok && l.all (rightV d)))):=by
 have hj : Eve (fun k=>F4.j0 k true v.f0 v.f1 v.f2 ((d+1 : Nat) : Int)) (decide (v.f1=0) && (decide ((v.f2.size : Int)≤300) && (ok && l.all (rightV d)))):=by
  refine Eve.succ ?_;simp only [F4.j0,if_true];refine Eve.bind hin ?_;refine Eve.ite (fun h1=>?_) (fun h1=>Eve.one.eq (by simp [h1]));refine Eve.ite (fun h2=>?_) (fun h2=>Eve.one.eq (by simp [h2]));refine Eve.ite (fun _=>?_) (fun h=>absurd (by omega) h);refine Eve.ite (fun h3=>?_) (fun h3=>Eve.one.eq (by rw [show ok=false from Bool.eq_false_iff.mpr h3];simp));have hc:=cf_tells l (rightV d) ((d+1 : Nat) : Int) (by omega) (fun x hx=>by rw [dn d hd];exact hq x hx);refine Eve.bind hc (Eve.one.eq ?_);rw [any_not,show ok=true from h3];simp [h1,h2]
 refine Eve.succ ?_;simp only [F4.f];rcases h45 with h|h
 ·
  simp only [h] at hj ⊢
  simp only [show ¬ (4 : Int)=0 by omega,show ¬ (4 : Int)=1 by omega,show ¬ (4 : Int)=2 by omega,show ¬ (4 : Int)=3 by omega,if_false,if_true,beq_self_eq_true];exact hj
 simp only [h] at hj ⊢;simp only [show ¬ (5 : Int)=0 by omega,show ¬ (5 : Int)=1 by omega,show ¬ (5 : Int)=2 by omega,show ¬ (5 : Int)=3 by omega,show ¬ (5 : Int)=4 by omega,if_false,beq_self_eq_true];exact hj
theorem nest_zero (v : IVal) (l : List IVal) (ok : Bool) (h45 : v.f0=4∨v.f0=5) (hin : Eve (fun k=>F3.f k v.f0 v.f1 v.f2) (l,ok)) : Eve (fun k=>F4.f k v.f0 v.f1 v.f2 ((0 : Nat) : Int)) false:=by
 have hj : Eve (fun k=>F4.j0 k true v.f0 v.f1 v.f2 ((0 : Nat) : Int)) false:=by
  refine Eve.succ ?_;simp only [F4.j0,if_true];refine Eve.bind hin ?_;refine Eve.ite (fun _=>?_) (fun _=>Eve.one);refine Eve.ite (fun _=>?_) (fun _=>Eve.one);exact Eve.ite (fun h=>absurd h (by omega)) (fun _=>Eve.one)
 refine Eve.succ ?_;simp only [F4.f];rcases h45 with h|h
 ·
  simp only [h] at hj ⊢
  simp only [show ¬ (4 : Int)=0 by omega,show ¬ (4 : Int)=1 by omega,show ¬ (4 : Int)=2 by omega,show ¬ (4 : Int)=3 by omega,if_false,if_true,beq_self_eq_true];exact hj
 simp only [h] at hj ⊢;simp only [show ¬ (5 : Int)=0 by omega,show ¬ (5 : Int)=1 by omega,show ¬ (5 : Int)=2 by omega,show ¬ (5 : Int)=3 by omega,show ¬ (5 : Int)=4 by omega,if_false,beq_self_eq_true];exact hj
theorem right_impl : ∀ (d : Nat) (v : IVal),d≤1000→v.f2.size≤1048576→Eve (fun k=>F4.f k v.f0 v.f1 v.f2 (d : Int)) (rightV d v):=by
 intro d
 induction d with
 | zero =>
  intro v hd hs
  by_cases h4 : v.f0=4
  ·
   obtain ⟨l,ok,hin,_⟩:=inner_four v h4 hs
   refine (nest_zero v l ok (.inl h4) hin).eq ?_;show false=flat v;unfold flat;rw [if_neg (by omega),if_neg (by omega),if_neg (by omega),if_neg (by omega)]
  by_cases h5 : v.f0=5
  ·
   obtain ⟨l,ok,hin,_⟩:=inner_five v h5 hs
   refine (nest_zero v l ok (.inr h5) hin).eq ?_;show false=flat v;unfold flat;rw [if_neg (by omega),if_neg (by omega),if_neg (by omega),if_neg (by omega)]
  exact impl_flat v _ h4 h5
 | succ d ih =>
  intro v hd hs
  by_cases h4 : v.f0=4
  ·
   obtain ⟨l,ok,hin,hl,hsz,hc⟩:=inner_four v h4 hs
   refine (nest_tells v d l ok (by omega) (.inl h4) hin hl (fun x hx=>ih x (by omega) (hsz x hx))).eq ?_;unfold rightV;rw [if_pos h4];rcases hc with ⟨hi,rfl⟩|⟨hi,hb⟩
   ·
    rw [hi];simp
   rw [hi];rcases hb with rfl|⟨x,hx,hb⟩
   ·
    simp
   rw [all_bad l (rightV d) x hx (bad_right x hb d)];simp
  by_cases h5 : v.f0=5
  ·
   obtain ⟨l,ok,hin,hl,hsz,hc⟩:=inner_five v h5 hs
   refine (nest_tells v d l ok (by omega) (.inr h5) hin hl (fun x hx=>ih x (by omega) (hsz x hx))).eq ?_;unfold rightV;rw [if_neg h4,if_pos h5];rcases hc with ⟨fs,hi,rfl,rfl⟩|⟨hi,hb⟩
   ·
    rw [hi,List.all_map];rfl
   rw [hi];rcases hb with rfl|⟨x,hx,hb⟩
   ·
    simp
   rw [all_bad l (rightV d) x hx (bad_right x hb d)];simp
  unfold rightV;rw [if_neg h4,if_neg h5];exact impl_flat v _ h4 h5
theorem right_small (d : Nat) (v : IVal) (h : 300<v.f2.size) : rightV d v=false:=by
 have he : emB v.f2=false:=by
  have : ¬ v.f2.toList=([] : List UInt8):=fun e=>by have:=(emp _).1 e;omega
  simpa [emB] using this
 have hz : decide ((v.f2.size : Int)≤300)=false:=by simp;omega
 have hf : flat v=false:=by
  unfold flat;rw [he,hz]
  repeat' split
  all_goals simp
 cases d with
 | zero=>exact hf
 | succ d =>
  unfold rightV;rw [hz,hf]
  repeat' split
  all_goals simp
theorem ok_impl (v : IVal) (hs : v.f2.size≤1048576) : Eve (fun k=>Fh.f k v.f0 v.f1 v.f2) (rightV 5 v):=by
 simp only [Fh.f];exact Eve.bind (right_impl 5 v (by omega) hs) Eve.one
theorem ok_spec (v : IVal) (hs : v.f2.size≤1048576) : Eve (fun k=>Fo.f k v.f0 v.f1 v.f2) (rightV 5 v):=by
 simp only [Fo.f];refine Eve.ite (fun _=>Eve.bind (right_spec 5 v (by omega) hs) Eve.one) (fun h=>Eve.one.eq ?_);rw [right_small 5 v (by omega)]
def fldB (f : IFld) : List Int:=((f.f0.size : Int) % 256) :: (bytesOf f.f0++encB f.f1)
def docB (l : List IFld) : List Int:=l.flatMap fldB
theorem docB_cons (f : IFld) (l : List IFld) : docB (f :: l)=fldB f++docB l:=List.flatMap_cons ..
theorem fldB_length (f : IFld) (h : Shape f.f1) (hn : f.f0.size≤12) : (fldB f).length≤316:=by
 have:=enc_length h;unfold fldB;simp only [List.length_cons,List.length_append,bytesOf_length]
 omega
theorem dig_one (x : Int) : dig x 1=[x % 256]:=by
 show [shr .i64 x (8*((0 : Nat) : Int)) % 256]=[x % 256];rw [shr_zero]
theorem strs (l : List Int) : (strOfNums l).size=l.length:=by
 unfold strOfNums;rw [← data_length];simp
theorem doc_spec (l : List IFld) (hS : ∀ f ∈ l,Shape f.f1) (hn : ∀ f ∈ l,f.f0.size≤12) (hl : l.length≤3000) : Eve (fun k=>Fd.f k l) (5,0,strOfNums (docB l)):=by
 simp only [Fd.f]
 have:=ev_loop0 l (fun k (acc : ByteArray) i=>Fd.l0 k l acc i) (fun _ acc r=>((5 : Int),(0 : Int),acc++strOfNums (docB r))) (fun i acc=>acc.size≤316*i) (fun acc _=>by
  simp only [Fd.l0];refine Eve.ite (fun h=>absurd h (by omega)) (fun _=>Eve.one.eq ?_);have : strOfNums (docB [])=ByteArray.empty:=rfl
  rw [this,ByteArray.append_empty]) (fun i hi acc ha ih=>by
  have h1:=hS l[i] (List.getElem_mem hi);have h2:=hn l[i] (List.getElem_mem hi);have h3:=enc_length h1;have h4:=number_tells (l[i].f0.size : Int) 1 (by omega);rw [dig_one] at h4;have h5 : (strOfNums [(l[i].f0.size : Int) % 256]).size=1:=by rw [strs];rfl
  have h6 : (strOfNums (encB l[i].f1)).size=(encB l[i].f1).length:=strs _;simp only [Fd.l0,rdF l i hi,wi (show i≤9223372036854775806 by omega)];refine Eve.ite (fun _=>?_) (fun h=>absurd (by omega) h);refine Eve.ite (fun _=>?_) (fun h=>absurd (by omega) h);refine Eve.bind h4 ?_;refine Eve.ite (fun _=>?_) (fun h=>absurd (by omega) h);refine Eve.bind (enc_tells h1) ?_;refine Eve.ite (fun _=>?_) (fun h=>absurd (by rw [ByteArray.size_append];omega) h);refine Eve.ite (fun _=>?_) (fun h=>absurd (by rw [ByteArray.size_append,ByteArray.size_append];omega) h);refine (ih _ (by rw [ByteArray.size_append,ByteArray.size_append,ByteArray.size_append];omega)).eq ?_
  have e : strOfNums (fldB l[i])=strOfNums [(l[i].f0.size : Int) % 256]++l[i].f0++strOfNums (encB l[i].f1):=by
   have : fldB l[i]=[(l[i].f0.size : Int) % 256]++bytesOf l[i].f0++encB l[i].f1:=by simp [fldB]
   rw [this,str_app,str_app,str_bytes]
  rw [docB_cons,str_app,e,ByteArray.append_assoc]) ⟨#[]⟩ (by simp [ByteArray.size])
 refine this.eq ?_;have : (⟨#[]⟩ : ByteArray)=ByteArray.empty:=rfl;rw [this,ByteArray.empty_append]
theorem spec_list (l : List IVal) (hl : l.length≤300) (h : ∀ v ∈ l,Shape v) : Eve (fun k=>Fq.f k l) (4,0,strOfNums (encL l)):=by
 simp only [Fq.f];refine (ev_loop0 l (fun k (s : ByteArray) i=>Fq.l0 k l s i) (fun _ s r=>((4 : Int),(0 : Int),s++strOfNums (encL r))) (fun i s=>s.size≤303*i) (fun s hs=>?_) (fun i hi s hs ih=>?_) eB (by show (0 : Nat)≤_;omega)).eq ?_
 ·
  simp only [Fq.l0]
  refine Eve.ite (fun h=>absurd h (by omega)) (fun _=>Eve.one.eq ?_);have : strOfNums (encL [])=eB:=rfl;rw [this,app_none]
 ·
  have hv:=h _ (List.getElem_mem hi)
  have hlen:=enc_length hv;simp only [Fq.l0,rdV l i hi,wi (show i≤9223372036854775806 by omega)];refine Eve.ite (fun _=>?_) (fun h=>absurd (by omega) h);refine Eve.ite (fun _=>?_) (fun h=>absurd (by omega) h);refine Eve.bind (enc_tells hv) ?_;refine Eve.ite (fun _=>?_) (fun h=>absurd (by rw [strOfNums_size];omega) h);refine (ih (s++strOfNums (encB l[i])) (by rw [ByteArray.size_append,strOfNums_size];omega)).eq ?_;rw [encL_cons,str_app,ByteArray.append_assoc]
 rw [none_app]
theorem rdS5 (l : List ByteArray) (i : Nat) (h : i<l.length) : rdOf ByteArray.empty l (i : Int)=l[i]:=rdOf_at _ l i h
def Okst (at_ seed : Int) : Prop:=0≤at_∧at_≤1000000000∧0≤seed∧seed<2147483648
theorem byte_draw (code : List Int) (hc : ∀ b ∈ code,0≤b∧b≤255) (at_ seed : Int) (h : Okst at_ seed) : ∃ b s,Fb.f code at_ seed=some (b,at_+1,s)∧0≤b∧b≤255∧0≤s∧s<2147483648:=by
 obtain ⟨h0,h1,h2,h3⟩:=h;have e1 : wrap64 (at_+1)=at_+1:=w64 (by omega) (by omega);have e2 : wrap64 (at_+1 - 1)=at_:=by rw [w64 (by omega) (by omega)];omega
 have tm : ∀ x : Int,0≤x→Int.tmod x 2147483648=x % 2147483648:=fun x hx=>Int.tmod_eq_emod_of_nonneg hx;unfold Fb.f;simp only [e1,e2]
 by_cases hl : at_+1≤(code.length : Int)
 ·
  rw [if_pos hl,if_pos h0,if_pos (by omega)]
  obtain ⟨i,rfl⟩ : ∃ i : Nat,at_=(i : Int):=⟨at_.toNat,by omega⟩;have hi : i<code.length:=by omega
  have hb:=hc _ (List.getElem_mem hi);rw [rd_at code i hi];have e3 : wrap64 code[i]=code[i]:=w64 (by omega) (by omega);have e4 : wrap64 (seed*31)=seed*31:=w64 (by omega) (by omega);have e5 : wrap64 (seed*31+code[i])=seed*31+code[i]:=w64 (by omega) (by omega);have e6 : wrap64 (seed*31+code[i]+7)=seed*31+code[i]+7:=w64 (by omega) (by omega);rw [e3,e4,e5,e6,tm _ (by omega)];exact ⟨_,_,rfl,hb.1,hb.2,by omega,by omega⟩
 rw [if_neg hl];have e4 : wrap64 (seed*1103515245)=seed*1103515245:=w64 (by omega) (by omega);have e5 : wrap64 (seed*1103515245+12345)=seed*1103515245+12345:=w64 (by omega) (by omega);rw [e4,e5,tm _ (by omega)];generalize hx : (seed*1103515245+12345) % 2147483648=x;have hx0 : 0≤x∧x<2147483648:=by omega
 by_cases h3k : at_+1 > 3000
 ·
  rw [if_pos h3k];exact ⟨_,_,rfl,by omega,by omega,h2,h3⟩
 rw [if_neg h3k];have e7 : Int.tdiv x 65536=x / 65536:=Int.tdiv_eq_ediv_of_nonneg hx0.1;have e8 : wrap64 (x / 65536)=x / 65536:=w64 (by omega) (by omega);have e9 : Int.tmod (x / 65536) 256=x / 65536 % 256:=Int.tmod_eq_emod_of_nonneg (by omega);rw [e7,e8,e9];exact ⟨_,_,rfl,by omega,by omega,hx0.1,hx0.2⟩
theorem next_draw (code : List Int) (hc : ∀ b ∈ code,0≤b∧b≤255) (n : Int) (hn : 1<n) (hn2 : n≤256) (at_ seed : Int) (h : Okst at_ seed) : ∃ v s,Fv.f code at_ seed n=some (v,at_+1,s)∧0≤v∧v<n∧0≤s∧s<2147483648:=by
 obtain ⟨b,s,hb,h0,h1,h2,h3⟩:=byte_draw code hc at_ seed h;unfold Fv.f;rw [if_neg (by omega),if_pos hn2,hb];simp only [Option.bind_some];rw [if_neg (by omega)];have e : Int.tmod b n=b % n:=Int.tmod_eq_emod_of_nonneg h0;rw [e];exact ⟨_,_,rfl,Int.emod_nonneg _ (by omega),Int.emod_lt_of_pos _ (by omega),h2,h3⟩
theorem pick_draw (code : List Int) (hc : ∀ b ∈ code,0≤b∧b≤255) (l : List ByteArray) (hn : 1<l.length) (hn2 : l.length≤256) (at_ seed : Int) (h : Okst at_ seed) : ∃ t s,F0e.f code at_ seed l=some (t,at_+1,s)∧t ∈ l∧0≤s∧s<2147483648:=by
 obtain ⟨v,s,hv,h0,h1,h2,h3⟩:=next_draw code hc (l.length : Int) (by omega) (by omega) at_ seed h;unfold F0e.f;rw [if_neg (by omega),hv];simp only [Option.bind_some];rw [if_pos h0,if_pos h1];obtain ⟨i,rfl⟩ : ∃ i : Nat,v=(i : Int):=⟨v.toNat,by omega⟩;rw [rdS5 l i (by omega)];exact ⟨_,_,rfl,List.getElem_mem _,h2,h3⟩
def cst : Nat→Int
 | 0=>3
 | d+1=>5+4*cst d
theorem cst_pos : ∀ d,3≤cst d
 | 0=>by simp [cst]
 | d+1=>by have:=cst_pos d;simp only [cst];omega
abbrev Drawn5:=Int×Int×ByteArray×Int×Int
def DrawsTo (F : Nat→List Int→Int→Int→Int→Option Drawn5) (code : List Int) (deep : Nat) (C : Int) : Prop :=
 ∀ at_ seed,0≤at_→at_+C≤1000000000→0≤seed→seed<2147483648 → ∃ (v : IVal) (a s : Int),Eve (fun k=>F k code at_ seed (deep : Int)) (v.f0,v.f1,v.f2,a,s)∧rightV 5 v=true∧at_≤a∧a≤at_+C∧0≤s∧s<2147483648
theorem right_flat (v : IVal) (h4 : ¬ v.f0=4) (h5 : ¬ v.f0=5) : rightV 5 v=flat v:=by
 unfold rightV;rw [if_neg h4,if_neg h5]
theorem em_none : emB ⟨#[]⟩=true:=by unfold emB;rw [ba_toList];rfl
theorem right_null : rightV 5 ⟨0,0,⟨#[]⟩⟩=true:=by
 rw [right_flat _ (show ¬ (0 : Int)=4 by decide) (show ¬ (0 : Int)=5 by decide)];unfold flat;simp only [if_true,em_none,Bool.and_true]
 rfl
theorem right_bool (n : Int) (h : 0≤n∧n<2) : rightV 5 ⟨1,n,⟨#[]⟩⟩=true:=by
 rw [right_flat _ (show ¬ (1 : Int)=4 by decide) (show ¬ (1 : Int)=5 by decide)];unfold flat inr;rw [if_neg (show ¬ (1 : Int)=0 by decide),if_pos rfl,em_none];simp only [Bool.and_eq_true,decide_eq_true_eq];exact ⟨⟨h.1,by omega⟩,trivial⟩
theorem right_int (n : Int) (h : -1000000000000≤n∧n≤1000000000000) : rightV 5 ⟨2,n,⟨#[]⟩⟩=true:=by
 rw [right_flat _ (show ¬ (2 : Int)=4 by decide) (show ¬ (2 : Int)=5 by decide)];unfold flat inr;rw [if_neg (show ¬ (2 : Int)=0 by decide),if_neg (show ¬ (2 : Int)=1 by decide),if_pos rfl,em_none];simp only [Bool.and_eq_true,decide_eq_true_eq];exact ⟨h,trivial⟩
theorem right_text (t : ByteArray) (h : t.size≤300) : rightV 5 ⟨3,0,t⟩=true:=by
 rw [right_flat _ (show ¬ (3 : Int)=4 by decide) (show ¬ (3 : Int)=5 by decide)];unfold flat;rw [if_neg (show ¬ (3 : Int)=0 by decide),if_neg (show ¬ (3 : Int)=1 by decide),if_neg (show ¬ (3 : Int)=2 by decide),if_pos rfl];simp only [Bool.and_eq_true,decide_eq_true_eq];exact ⟨trivial,by omega⟩
theorem right_empty : rightV 5 ⟨5,0,eB⟩=true:=by
 unfold rightV;rw [if_neg (by decide),if_pos rfl]
 rfl
theorem flat_draw (D : DrawD) (code : List Int) (hc : ∀ b ∈ code,0≤b∧b≤255) (x1 : Int) (c : Int) (h0 : 0≤c) (h6 : c<6) (at_ seed : Int) (h : Okst at_ seed) (b : Int) (hb : b≤at_∧at_≤b+2) :
  ∃ (v : IVal) (a s : Int),Eve (fun k=>F1.j0 D k x1 c code at_ seed) (v.f0,v.f1,v.f2,a,s)∧rightV 5 v=true∧b≤a∧a≤b+3∧0≤s∧s<2147483648:=by
 obtain ⟨k0,k1,k2,k3⟩:=h;have hst : Okst at_ seed:=⟨k0,k1,k2,k3⟩
 have hint : ∀ (y : Int),(y=2∨y=3) → ∃ (v : IVal) (a s : Int),Eve (fun k=>F1.j1 D k x1 y true code at_ seed) (v.f0,v.f1,v.f2,a,s)∧rightV 5 v=true∧b≤a∧a≤b+3∧0≤s∧s<2147483648:=fun y _=>by
  obtain ⟨n,s,e1,a0,a1,g0,g1⟩:=next_draw code hc 9 (by omega) (by omega) at_ seed hst;refine ⟨⟨2,n - 3,⟨#[]⟩⟩,at_+1,s,Eve.succ ?_,right_int _ (by omega),by omega,by omega,g0,g1⟩;simp only [F1.j1,if_true,e1,Option.bind_some,F01.f,w64 (show -9223372036854775808≤n - 3 by omega) (show n - 3≤9223372036854775807 by omega)];exact Eve.one
 obtain rfl|rfl|rfl|rfl|rfl|rfl : c=0∨c=1∨c=2∨c=3∨c=4∨c=5:=by omega
 ·
  refine ⟨⟨0,0,⟨#[]⟩⟩,at_,seed,Eve.succ ?_,right_null,by omega,by omega,k2,k3⟩
  simp only [F1.j0,if_true];exact Eve.one
 ·
  obtain ⟨n,s,e1,a0,a1,g0,g1⟩:=next_draw code hc 2 (by omega) (by omega) at_ seed hst
  refine ⟨⟨1,n,⟨#[]⟩⟩,at_+1,s,Eve.succ ?_,right_bool n ⟨a0,a1⟩,by omega,by omega,g0,g1⟩;simp only [F1.j0,e1,Option.bind_some];exact Eve.ite (fun h=>absurd h (by decide)) (fun _=>Eve.ite (fun _=>Eve.one) (fun h=>(h (by first|rfl|trivial)).elim))
 ·
  obtain ⟨v,a,s,q1,q2⟩:=hint 2 (.inl rfl)
  refine ⟨v,a,s,Eve.succ ?_,q2⟩;simp only [F1.j0];exact Eve.ite (fun h=>absurd h (by decide)) (fun _=>Eve.ite (fun h=>absurd h (by decide)) (fun _=>Eve.ite (fun _=>q1) (fun h=>(h (by first|rfl|trivial)).elim)))
 ·
  obtain ⟨v,a,s,q1,q2⟩:=hint 3 (.inr rfl)
  refine ⟨v,a,s,Eve.succ ?_,q2⟩;simp only [F1.j0];exact Eve.ite (fun h=>absurd h (by decide)) (fun _=>Eve.ite (fun h=>absurd h (by decide)) (fun _=>Eve.ite (fun h=>absurd h (by decide)) (fun _=>q1)))
 ·
  obtain ⟨t,s,e1,ht,g0,g1⟩:=pick_draw code hc [(⟨#[]⟩ : ByteArray),(⟨#[97]⟩ : ByteArray),(⟨#[97,98]⟩ : ByteArray),(⟨#[98]⟩ : ByteArray),(⟨#[0]⟩ : ByteArray)] (by simp) (by simp) at_ seed hst
  have hz : t.size≤300:=by
   simp only [List.mem_cons,List.not_mem_nil,or_false] at ht;rcases ht with rfl|rfl|rfl|rfl|rfl
   all_goals decide
  refine ⟨⟨3,0,t⟩,at_+1,s,Eve.succ ?_,right_text t hz,by omega,by omega,g0,g1⟩;simp only [F1.j0];refine Eve.ite (fun h=>absurd h (by decide)) (fun _=>Eve.ite (fun h=>absurd h (by decide)) (fun _=>Eve.ite (fun h=>absurd h (by decide)) (fun _=>Eve.succ ?_)));simp only [F1.j1,e1,Option.bind_some,F0f.f];exact Eve.ite (fun h=>absurd h (by decide)) (fun _=>Eve.ite (fun _=>Eve.one) (fun h=>(h (by first|rfl|trivial)).elim))
 obtain ⟨n,s,e1,a0,a1,g0,g1⟩:=next_draw code hc 3 (by omega) (by omega) at_ seed hst
 have hrd : ∃ y,rd [1000000000000,(-1000000000000),300] n=y ∧ -1000000000000≤y∧y≤1000000000000:=by
  obtain rfl|rfl|rfl : n=0∨n=1∨n=2:=by omega
  all_goals exact ⟨_,rfl,by decide,by decide⟩
 obtain ⟨y,hy,hy2⟩:=hrd;refine ⟨⟨2,y,⟨#[]⟩⟩,at_+1,s,Eve.succ ?_,right_int y hy2,by omega,by omega,g0,g1⟩;simp only [F1.j0];refine Eve.ite (fun h=>absurd h (by decide)) (fun _=>Eve.ite (fun h=>absurd h (by decide)) (fun _=>Eve.ite (fun h=>absurd h (by decide)) (fun _=>Eve.succ ?_)));simp only [F1.j1,e1,Option.bind_some,F01.f,hy];refine Eve.ite (fun h=>absurd h (by decide)) (fun _=>Eve.ite (fun h=>absurd h (by decide)) (fun _=>Eve.ite (fun _=>?_) (fun h=>(h (by first|rfl|trivial)).elim)));refine Eve.ite (fun _=>?_) (fun h=>absurd a0 h);exact Eve.ite (fun _=>Eve.one) (fun h=>absurd a1 h)
theorem value_draw (D : DrawD) (code : List Int) (hc : ∀ b ∈ code,0≤b∧b≤255) : ∀ (d : Nat),d≤1000→(∀ e,e<d→DrawsTo D.f code e (4+4*cst e))→DrawsTo (fun k c a s x=>F1.f D k c a s x) code d (cst d):=by
 intro d
 induction d with
 | zero =>
  intro _ _ at_ seed h0 h1 h2 h3;have hcd : cst 0=3:=rfl;rw [hcd] at h1;obtain ⟨v8,s8,e8,-,-,g0,g1⟩:=next_draw code hc 8 (by omega) (by omega) at_ seed ⟨h0,by omega,h2,h3⟩;obtain ⟨v6,s6,e6,a0,a1,g2,g3⟩:=next_draw code hc 6 (by omega) (by omega) (at_+1) s8 ⟨by omega,by omega,g0,g1⟩
  have hj : ∃ (v : IVal) (a s : Int),Eve (fun k=>F1.j0 D k 0 v6 code (at_+1+1) s6) (v.f0,v.f1,v.f2,a,s)∧rightV 5 v=true∧at_≤a∧a≤at_+3∧0≤s∧s<2147483648 :=
   flat_draw D code hc 0 v6 a0 (by omega) (at_+1+1) s6 ⟨by omega,by omega,g2,g3⟩ at_ (by omega)
  obtain ⟨v,a,s,hv,hr⟩:=hj;refine ⟨v,a,s,Eve.succ ?_,hr⟩;simp only [F1.f,e8,Option.bind_some];refine Eve.ite (fun _=>?_) (fun h=>(h (by first|rfl|trivial)).elim);simp only [e6,Option.bind_some];exact hv
 | succ d ih =>
  intro hd hD at_ seed h0 h1 h2 h3;have hcd : cst (d+1)=5+4*cst d:=rfl;have hcp:=cst_pos d;rw [hcd] at h1 ⊢;obtain ⟨v8,s8,e8,a0,a1,g0,g1⟩:=next_draw code hc 8 (by omega) (by omega) at_ seed ⟨h0,by omega,h2,h3⟩;have hw : wrap64 (((d+1 : Nat) : Int) - 1)=(d : Int):=by rw [w64 (by omega) (by omega)];omega
  have hj : ∃ (v : IVal) (a s : Int),Eve (fun k=>F1.j0 D k ((d+1 : Nat) : Int) v8 code (at_+1) s8) (v.f0,v.f1,v.f2,a,s)∧rightV 5 v=true∧at_≤a∧a≤at_+(5+4*cst d)∧0≤s∧s<2147483648:=by
   by_cases h6 : v8<6
   ·
    obtain ⟨v,a,s,q1,q2,q3,q4,q5⟩:=flat_draw D code hc ((d+1 : Nat) : Int) v8 a0 h6 (at_+1) s8 ⟨by omega,by omega,g0,g1⟩ at_ (by omega)
    exact ⟨v,a,s,q1,q2,q3,by omega,q5⟩
   by_cases h7 : v8=6
   ·
    subst h7
    obtain ⟨n4,s4,e4,b0,b1,g2,g3⟩:=next_draw code hc 4 (by omega) (by omega) (at_+1) s8 ⟨by omega,by omega,g0,g1⟩;have hval:=ih (by omega) (fun e he=>hD e (by omega))
    -- the items
    have hl : ∀ (m : Nat) (out : List IVal) (a s : Int),(∀ v ∈ out,rightV 5 v=true)→out.length+m≤3→0≤a→a+(m : Int)*cst d≤1000000000→0≤s→s<2147483648 →
      ∃ (v : IVal) (a' s' : Int),Eve (fun k=>F1.l0 D k ((d+1 : Nat) : Int) out (m : Int) code a s) (v.f0,v.f1,v.f2,a',s')∧rightV 5 v=true∧a≤a' ∧ a' ≤ a+(m : Int)*cst d∧0≤s' ∧ s' < 2147483648:=by
     intro m
     induction m with
     | zero =>
      intro out a s hout hol ha ha2 hs hs2;have hS : ∀ v ∈ out,Shape v:=fun v hv=>right_shape 5 v (hout v hv);have hsp:=spec_list out (by omega) hS
      have hz : (strOfNums (encL out)).size≤1048576:=by
       rw [strOfNums_size]
       have : ∀ l : List IVal,(∀ v ∈ l,Shape v)→(encL l).length≤303*l.length:=by
        intro l
        induction l with
        | nil=>intro _;simp [encL]
        | cons x xs ihx =>
         intro hx;rw [encL_cons,List.length_append,List.length_cons];have:=ihx (fun v hv=>hx v (List.mem_cons_of_mem _ hv));have:=enc_length (hx x (List.mem_cons_self ..))
         omega
       have:=this out hS
       omega
      have hok:=ok_spec (⟨4,0,strOfNums (encL out)⟩ : IVal) hz
      cases hr : rightV 5 (⟨4,0,strOfNums (encL out)⟩ : IVal) with
      | true =>
       rw [hr] at hok;refine ⟨⟨4,0,strOfNums (encL out)⟩,a,s,Eve.succ ?_,hr,by omega,by omega,hs,hs2⟩;simp only [F1.l0];refine Eve.ite (fun h=>absurd h (by simp)) (fun _=>?_);refine Eve.bind hsp ?_;refine Eve.bind hok ?_;simp only [if_true];exact Eve.one
      | false =>
       rw [hr] at hok;refine ⟨⟨2,1,⟨#[]⟩⟩,a,s,Eve.succ ?_,right_int 1 (by omega),by omega,by omega,hs,hs2⟩;simp only [F1.l0];refine Eve.ite (fun h=>absurd h (by simp)) (fun _=>?_);refine Eve.bind hsp ?_;refine Eve.bind hok ?_;simp only [Bool.false_eq_true,if_false,F01.f,Option.bind_some];exact Eve.one
     | succ m ihm =>
      intro out a s hout hol ha ha2 hs hs2;have hmul : ((m+1 : Nat) : Int)*cst d=(m : Int)*cst d+cst d:=by rw [Int.natCast_add,Int.add_mul];simp
      have hm0 : 0≤(m : Int)*cst d:=Int.mul_nonneg (by omega) (by omega);rw [hmul] at ha2 ⊢;obtain ⟨v,a1',s1',q1,q2,q3,q4,q5,q6⟩:=hval a s ha (by omega) hs hs2
      obtain ⟨u,a2',s2',p1,p2,p3,p4,p5,p6⟩:=ihm (out ++ [v]) a1' s1' (fun x hx=>by
       rcases List.mem_append.1 hx with hx|hx
       ·
        exact hout x hx
       rw [List.mem_singleton.1 hx];exact q2) (by rw [List.length_append,List.length_singleton];omega) (by omega) (by omega) q5 q6
      refine ⟨u,a2',s2',Eve.succ ?_,p2,by omega,by omega,p5,p6⟩;have hwm : wrap64 (((m+1 : Nat) : Int) - 1)=(m : Int):=by rw [w64 (by omega) (by omega)];omega
      simp only [F1.l0,hw,hwm];refine Eve.ite (fun _=>?_) (fun h=>absurd (by omega) h);refine Eve.bind q1 ?_;refine Eve.ite (fun _=>?_) (fun h=>absurd (by omega) h);exact p1
    obtain ⟨m,rfl⟩ : ∃ m : Nat,n4=(m : Int):=⟨n4.toNat,by omega⟩;have hm3 : (m : Int)*cst d≤3*cst d:=Int.mul_le_mul_of_nonneg_right (by omega) (by omega);obtain ⟨v,a,s,q1,q2,q3,q4,q5⟩:=hl m [] (at_+1+1) s4 (by simp) (by simp;omega) (by omega) (by omega) g2 g3;refine ⟨v,a,s,Eve.succ ?_,q2,by omega,by omega,q5⟩;simp only [F1.j0];refine Eve.ite (fun h=>absurd h (by decide)) (fun _=>Eve.ite (fun h=>absurd h (by decide)) (fun _=>Eve.ite (fun h=>absurd h (by decide)) (fun _=>Eve.succ ?_)));simp only [F1.j1];refine Eve.ite (fun h=>absurd h (by decide)) (fun _=>Eve.ite (fun h=>absurd h (by decide)) (fun _=>Eve.ite (fun h=>absurd h (by decide)) (fun _=>Eve.ite (fun _=>?_) (fun h=>(h (by first|rfl|trivial)).elim))));simp only [e4,Option.bind_some];exact q1
   obtain rfl : v8=7:=by omega
   obtain ⟨v,a,s,q1,q2,q3,q4,q5⟩:=hD d (by omega) (at_+1) s8 (by omega) (by omega) g0 g1;refine ⟨v,a,s,Eve.succ ?_,q2,by omega,by omega,q5⟩;simp only [F1.j0];refine Eve.ite (fun h=>absurd h (by decide)) (fun _=>Eve.ite (fun h=>absurd h (by decide)) (fun _=>Eve.ite (fun h=>absurd h (by decide)) (fun _=>Eve.succ ?_)));simp only [F1.j1,hw];refine Eve.ite (fun h=>absurd h (by decide)) (fun _=>Eve.ite (fun h=>absurd h (by decide)) (fun _=>Eve.ite (fun h=>absurd h (by decide)) (fun _=>Eve.ite (fun h=>absurd h (by decide)) (fun _=>?_))));exact Eve.bind q1 Eve.one
  obtain ⟨v,a,s,hv,hr⟩:=hj;refine ⟨v,a,s,Eve.succ ?_,hr⟩;simp only [F1.f,e8,Option.bind_some];refine Eve.ite (fun h=>absurd h (by omega)) (fun _=>?_);exact hv
def fldNames : List ByteArray:=[(⟨#[97]⟩ : ByteArray),(⟨#[98]⟩ : ByteArray),(⟨#[99]⟩ : ByteArray),(⟨#[116,97,103,115]⟩ : ByteArray)]
theorem n_one {i m : Nat} (h : i+(m+1)=4) : i+1+m=4∧i<4∧((i : Int)<4):=by omega
theorem fldNames_at (i : Nat) (h : i<4) : ∃ t : ByteArray,rdOf ByteArray.empty fldNames (i : Int)=t∧t.size≤12:=by
 have hl : i<fldNames.length:=h;refine ⟨fldNames[i],rdS5 _ i hl,?_⟩;have : ∀ t ∈ fldNames,t.size≤12:=by decide
 exact this _ (List.getElem_mem hl)
set_option maxHeartbeats 1000000 in
theorem doc_draw (V : DrawV) (code : List Int) (hc : ∀ b ∈ code,0≤b∧b≤255) (e : Nat) (hV : DrawsTo V.f code e (cst e)) : DrawsTo (Ff.f V) code e (4+4*cst e):=by
 have hcp:=cst_pos e
 revert hV hcp
 generalize cst e=C;intro hV hcp at_ seed h0 h1 h2 h3;have hl : ∀ (m i : Nat),i+m=4 → ∀ (out : List IFld) (a s : Int),(∀ f ∈ out,Shape f.f1∧f.f0.size≤12)→out.length≤i→0≤a→a+(m : Int)*(1+C)≤1000000000→0≤s→s<2147483648 →
   ∃ (v : IVal) (a' s' : Int),Eve (fun k=>Ff.l0 V k (e : Int) out (i : Int) code a s) (v.f0,v.f1,v.f2,a',s')∧rightV 5 v=true∧a≤a' ∧ a' ≤ a+(m : Int)*(1+C)∧0≤s' ∧ s' < 2147483648:=by
  intro m
  induction m with
  | zero =>
   intro i him out a s hout hol ha ha2 hs hs2;have hsp:=doc_spec out (fun f hf=>(hout f hf).1) (fun f hf=>(hout f hf).2) (by omega);have hsp0:=doc_spec ([] : List IFld) (by simp) (by simp) (by simp)
   have hz : (strOfNums (docB out)).size≤1048576:=by
    rw [strOfNums_size]
    have : ∀ l : List IFld,(∀ f ∈ l,Shape f.f1∧f.f0.size≤12)→(docB l).length≤316*l.length:=by
     intro l
     induction l with
     | nil=>intro _;simp [docB]
     | cons x xs ihx =>
      intro hx;rw [docB_cons,List.length_append,List.length_cons];have:=ihx (fun v hv=>hx v (List.mem_cons_of_mem _ hv));have hx0:=hx x (List.mem_cons_self ..);have:=fldB_length x hx0.1 hx0.2
      omega
    have:=this out hout
    omega
   have hok:=ok_spec (⟨5,0,strOfNums (docB out)⟩ : IVal) hz
   have hend : ∀ (u : IVal),Eve (fun k=>(Fd.f k out).bind fun bt459=>((Fo.f k bt459.1 bt459.2.1 bt459.2.2).bind fun t463=>(if t463=true then (some (bt459.1,bt459.2.1,bt459.2.2,a,s)) else ((Fd.f k (([] : List IFld))).bind fun bt467=>(some (bt467.1,bt467.2.1,bt467.2.2,a,s)))))) (u.f0,u.f1,u.f2,a,s)→Eve (fun k=>Ff.l0 V k (e : Int) out (i : Int) code a s) (u.f0,u.f1,u.f2,a,s):=fun u hu=>by
    refine Eve.succ ?_;simp only [Ff.l0];exact Eve.ite (fun h=>absurd h (by omega)) (fun _=>hu)
   cases hr : rightV 5 (⟨5,0,strOfNums (docB out)⟩ : IVal) with
   | true =>
    rw [hr] at hok;refine ⟨⟨5,0,strOfNums (docB out)⟩,a,s,hend _ ?_,hr,by omega,by omega,hs,hs2⟩;refine Eve.bind hsp ?_;refine Eve.bind hok ?_;simp only [if_true];exact Eve.one
   | false =>
    rw [hr] at hok;refine ⟨⟨5,0,strOfNums (docB [])⟩,a,s,hend _ ?_,?_,by omega,by omega,hs,hs2⟩
    ·
     refine Eve.bind hsp ?_
     refine Eve.bind hok ?_;simp only [Bool.false_eq_true,if_false];exact Eve.bind hsp0 Eve.one
    have : strOfNums (docB [])=eB:=rfl;rw [this];exact right_empty
  | succ m ihm =>
   intro i him out a s hout hol ha ha2 hs hs2;obtain ⟨q0,hi4,hi4'⟩:=n_one him;clear him;have hmul : ((m+1 : Nat) : Int)*(1+C)=(m : Int)*(1+C)+(1+C):=by rw [Int.natCast_add,Int.add_mul];simp
   have hm0 : 0≤(m : Int)*(1+C):=Int.mul_nonneg (by omega) (by omega);rw [hmul] at ha2 ⊢;clear hmul;generalize (m : Int)*(1+C)=M at ha2 hm0 ihm ⊢;obtain ⟨c,s1,e1,-,-,g0,g1⟩:=next_draw code hc 2 (by omega) (by omega) a s ⟨ha,by omega,hs,hs2⟩
   have ech : F0h.f code a s 2=some (c == wrap64 (2 - 1),a+1,s1):=by
    unfold F0h.f;rw [e1];rfl
   have hwi : wrap64 ((i : Int)+1)=((i+1 : Nat) : Int):=by rw [w64 (by omega) (by omega)];omega
   clear e1
   revert ech
   generalize (c == wrap64 (2 - 1))=b;intro ech
   cases b with
   | false =>
    obtain ⟨u,a2,s2,p1,p2,p3,p4,p5,p6⟩:=ihm (i+1) q0 out (a+1) s1 hout (Nat.le_succ_of_le hol) (by omega) (by omega) g0 g1;refine ⟨u,a2,s2,Eve.succ ?_,p2,by omega,by omega,p5,p6⟩;simp only [Ff.l0,ech,Option.bind_some,hwi,Bool.false_eq_true,if_false];exact Eve.ite (fun _=>p1) (fun h=>absurd hi4' h)
   | true =>
    obtain ⟨v,a1,s1',q1,q2,q3,q4,q5,q6⟩:=hV (a+1) s1 (by omega) (by omega) g0 g1;have hnm:=fldNames_at i hi4;unfold fldNames at hnm;obtain ⟨t,ht,ht2⟩:=hnm
    obtain ⟨u,a2,s2,p1,p2,p3,p4,p5,p6⟩:=ihm (i+1) q0 (out ++ [⟨t,v⟩]) a1 s1' (fun f hf=>by
     rcases List.mem_append.1 hf with hf|hf
     ·
      exact hout f hf
     rw [List.mem_singleton.1 hf];exact ⟨right_shape 5 v q2,ht2⟩) (by rw [List.length_append,List.length_singleton];exact Nat.succ_le_succ hol) (by omega) (by omega) q5 q6
    refine ⟨u,a2,s2,Eve.succ ?_,p2,by omega,by omega,p5,p6⟩;simp only [Ff.l0,ech,Option.bind_some,hwi,if_true,ht];refine Eve.ite (fun _=>?_) (fun h=>absurd hi4' h);refine Eve.ite (fun _=>?_) (fun h=>absurd (Int.natCast_nonneg i) h);refine Eve.ite (fun _=>?_) (fun h=>absurd hi4' h);refine Eve.bind q1 ?_;exact Eve.ite (fun _=>p1) (fun h=>absurd (Nat.lt_of_le_of_lt (Nat.le_trans hol (Nat.le_of_lt hi4)) (by decide)) h)
 obtain ⟨v,a,s,q1,q2,q3,q4,q5⟩:=hl 4 0 rfl [] at_ seed (by simp) (by simp) h0 (by omega) h2 h3;exact ⟨v,a,s,q1,q2,q3,by omega,q5⟩
theorem draws (code : List Int) (hc : ∀ b ∈ code,0≤b∧b≤255) : ∀ (m d : Nat),d≤m→d≤1000→DrawsTo (drawV m).f code d (cst d):=by
 intro m
 induction m with
 | zero =>
  intro d hd h9;exact value_draw drawNone code hc d h9 (fun e he=>by omega)
 | succ m ih =>
  intro d hd h9;exact value_draw (docOf_ (drawV m)) code hc d h9 (fun e he=>doc_draw (drawV m) code hc e (ih e (by omega) (by omega)))
def depV : Nat→IVal→Int
 | 0,_=>0
 | d+1,v =>
  if v.f0=4 then (match itS v.f2.size v.f2 with|some l=>(l.map (depV d)).foldl mx 0+1|none=>0)
  else if v.f0=5 then (match fdS v.f2.size v.f2 with|some l=>(l.map (fun f=>depV d f.f1)).foldl mx 0+1|none=>0)
  else 0
theorem mx_in {d : Int} {x y : Int} (hx : 0≤x∧x≤d) (hy : 0≤y∧y≤d) : 0≤mx x y∧mx x y≤d:=by
 unfold mx
 split <;> omega
theorem fold_in (d : Int) : ∀ (l : List Int) (x : Int),0≤x∧x≤d→(∀ y ∈ l,0≤y∧y≤d)→0≤l.foldl mx x∧l.foldl mx x≤d
 | [],_,h,_=>h
 | y :: l,x,h,h2=>fold_in d l (mx x y) (mx_in h (h2 y (by simp))) (fun z hz=>h2 z (by simp [hz]))
theorem dep_in : ∀ (d : Nat) (v : IVal),0≤depV d v∧depV d v≤d:=by
 intro d
 induction d with
 | zero=>intro v;simp [depV]
 | succ d ih =>
  intro v;unfold depV
  by_cases h4 : v.f0=4
  ·
   rw [if_pos h4]
   cases itS v.f2.size v.f2 with
   | none=>simp only;omega
   | some l =>
    have:=fold_in d (l.map (depV d)) 0 (by omega) (fun y hy=>by
     obtain ⟨x,_,rfl⟩:=List.mem_map.1 hy
     exact ih x)
    simp only;omega
  rw [if_neg h4]
  by_cases h5 : v.f0=5
  ·
   rw [if_pos h5]
   cases fdS v.f2.size v.f2 with
   | none=>simp only;omega
   | some l =>
    have:=fold_in d (l.map (fun f=>depV d f.f1)) 0 (by omega) (fun y hy=>by
     obtain ⟨x,_,rfl⟩:=List.mem_map.1 hy
     exact ih x.f1)
    simp only;omega
  rw [if_neg h5];omega
theorem dep_spec : ∀ (d : Nat) (v : IVal),d≤1000→v.f2.size≤1048576→rightV d v=true→Eve (fun k=>F6.f k v.f0 v.f1 v.f2) (depV d v):=by
 intro d
 induction d with
 | zero =>
  intro v hd hs h;refine Eve.succ ?_;simp only [F6.f];refine Eve.ite (fun h4=>?_) (fun _=>Eve.ite (fun h5=>?_) (fun _=>Eve.one))
  ·
   obtain ⟨e,_,he,_⟩:=right_four h h4;cases he
  obtain ⟨e,_,he,_⟩:=right_five h h5;cases he
 | succ d ih =>
  intro v hd hs h;refine Eve.succ ?_;simp only [F6.f,Fi.f,Fg.f];refine Eve.ite (fun h4=>?_) (fun h4=>Eve.ite (fun h5=>?_) (fun h5=>?_))
  ·
   obtain ⟨e,l,he,hi,hr⟩:=right_four h h4
   obtain rfl : d=e:=by omega
   obtain ⟨h1,h2⟩:=its_size _ _ l hi hs;have hit:=items_spec _ v.f2 [] (Nat.le_refl _) hs (by simp;omega);rw [hi] at hit;refine Eve.bind hit ?_;unfold depV;rw [if_pos h4,hi];simp only [toldL,List.nil_append];refine (ev_loop0 l (fun k (x : Int) i=>F6.l0 k x l i) (fun _ x r=>(r.map (depV d)).foldl mx x+1) (fun _ x=>0≤x∧x≤d) (fun x hx=>?_) (fun i hi x hx ih2=>?_) 0 (by omega))
   ·
    simp only [F6.l0]
    refine Eve.ite (fun h=>absurd h (by omega)) (fun _=>Eve.one.eq ?_);rw [w64 (by omega) (by omega)];rfl
   have hm:=List.getElem_mem hi;simp only [F6.l0,rdV l i hi,wi (show i≤9223372036854775806 by omega)];refine Eve.ite (fun _=>?_) (fun h=>absurd (by omega) h);refine Eve.ite (fun _=>?_) (fun h=>absurd (by omega) h);refine Eve.bind (ih l[i] (by omega) (h2 _ hm) (List.all_eq_true.1 hr _ hm)) ?_;exact ih2 _ (mx_in hx (dep_in d l[i]))
  ·
   obtain ⟨e,l,he,hi,_,hr⟩:=right_five h h5
   obtain rfl : d=e:=by omega
   obtain ⟨h1,h2⟩:=fds_size _ _ l hi hs;have hit:=fields_spec _ v.f2 [] (Nat.le_refl _) hs (by simp;omega);rw [hi] at hit;refine Eve.bind hit ?_;unfold depV;rw [if_neg h4,if_pos h5,hi];simp only [toldF,List.nil_append];refine (ev_loop0 l (fun k (x : Int) i=>F6.l1 k x l i) (fun _ x r=>(r.map (fun f=>depV d f.f1)).foldl mx x+1) (fun _ x=>0≤x∧x≤d) (fun x hx=>?_) (fun i hi x hx ih2=>?_) 0 (by omega))
   ·
    simp only [F6.l1]
    refine Eve.ite (fun h=>absurd h (by omega)) (fun _=>Eve.one.eq ?_);rw [w64 (by omega) (by omega)];rfl
   have hm:=List.getElem_mem hi;simp only [F6.l1,rdF l i hi,wi (show i≤9223372036854775806 by omega)];refine Eve.ite (fun _=>?_) (fun h=>absurd (by omega) h);refine Eve.ite (fun _=>?_) (fun h=>absurd (by omega) h);refine Eve.bind (ih l[i].f1 (by omega) (h2 _ hm).2 (List.all_eq_true.1 hr _ hm)) ?_;exact ih2 _ (mx_in hx (dep_in d l[i].f1))
  unfold depV;rw [if_neg h4,if_neg h5];exact Eve.one
theorem dep_loop (l : List IVal) (d : Nat) (hd : d≤1000) (hl : l.length≤1048576) (h : ∀ x ∈ l,Eve (fun k=>F5.f k x.f0 x.f1 x.f2) (depV d x)) : Eve (fun k=>F5.l0 k 0 l (l.length : Int) 0) ((l.map (depV d)).foldl mx 0+1):=by
 refine (ev_loop0 l (fun k (x : Int) i=>F5.l0 k x l (l.length : Int) i) (fun _ x r=>(r.map (depV d)).foldl mx x+1) (fun _ x=>0≤x∧x≤d) (fun x hx=>?_) (fun i hi x hx ih2=>?_) 0 (by omega))
 ·
  simp only [F5.l0]
  refine Eve.ite (fun h=>absurd h (by omega)) (fun _=>Eve.one.eq ?_);rw [w64 (by omega) (by omega)];rfl
 simp only [F5.l0,rdV l i hi,wi (show i≤9223372036854775806 by omega)];refine Eve.ite (fun _=>?_) (fun h=>absurd (by omega) h);refine Eve.ite (fun _=>?_) (fun h=>absurd (by omega) h);refine Eve.ite (fun _=>?_) (fun h=>absurd (by omega) h);refine Eve.bind (h l[i] (List.getElem_mem hi)) ?_;exact ih2 _ (mx_in hx (dep_in d l[i]))
theorem dep_nest (v : IVal) (d : Nat) (l : List IVal) (ok : Bool) (hd : d≤1000) (h45 : v.f0=4∨v.f0=5) (hin : Eve (fun k=>F3.f k v.f0 v.f1 v.f2) (l,ok)) (hl : l.length≤1048576)
  (hq : ∀ x ∈ l,Eve (fun k=>F5.f k x.f0 x.f1 x.f2) (depV d x)) : Eve (fun k=>F5.f k v.f0 v.f1 v.f2) ((l.map (depV d)).foldl mx 0+1):=by
 have hj : Eve (fun k=>F5.j0 k false v.f0 v.f1 v.f2) ((l.map (depV d)).foldl mx 0+1):=by
  refine Eve.succ ?_;simp only [F5.j0,Bool.false_eq_true,if_false];refine Eve.bind hin ?_;refine Eve.ite (fun _=>dep_loop l d hd hl hq) (fun h=>Eve.one.eq ?_);have : l=[]:=List.length_eq_zero_iff.1 (by simp only at h;omega);rw [this];rfl
 refine Eve.succ ?_;simp only [F5.f];rcases h45 with h|h
 ·
  simp only [if_pos h];exact hj
 have h4 : ¬ v.f0=4:=by omega
 have h5 : (v.f0 != 5)=false:=by rw [h];rfl
 simp only [if_neg h4,h5];exact hj
theorem dep_impl : ∀ (d : Nat) (v : IVal),d≤1000→v.f2.size≤1048576→rightV d v=true→Eve (fun k=>F5.f k v.f0 v.f1 v.f2) (depV d v):=by
 intro d
 have flat0 : ∀ (v : IVal),v.f0≠4→v.f0≠5→Eve (fun k=>F5.f k v.f0 v.f1 v.f2) 0:=by
  intro v h4 h5;refine Eve.succ ?_;have h5' : (v.f0 != 5)=true:=by simpa using h5
  simp only [F5.f,if_neg h4,h5'];refine Eve.succ ?_;simp only [F5.j0,if_true];exact Eve.one
 induction d with
 | zero =>
  intro v hd hs h;refine flat0 v (fun h4=>?_) (fun h5=>?_)
  ·
   obtain ⟨e,_,he,_⟩:=right_four h h4;cases he
  obtain ⟨e,_,he,_⟩:=right_five h h5;cases he
 | succ d ih =>
  intro v hd hs h
  by_cases h4 : v.f0=4
  ·
   obtain ⟨e,l,he,hi,hr⟩:=right_four h h4
   obtain rfl : d=e:=by omega
   obtain ⟨l2,ok,hin,hl,hsz,hc⟩:=inner_four v h4 hs;rw [hi] at hc
   have hl2 : l=l2:=by
    rcases hc with ⟨e,_⟩|⟨e,_⟩
    ·
     simpa using e
    simp at e
   subst hl2;refine (dep_nest v d l ok (by omega) (.inl h4) hin hl (fun x hx=>ih x (by omega) (hsz x hx) (List.all_eq_true.1 hr _ hx))).eq ?_;unfold depV;rw [if_pos h4,hi]
  by_cases h5 : v.f0=5
  ·
   obtain ⟨e,fs,he,hi,_,hr⟩:=right_five h h5
   obtain rfl : d=e:=by omega
   obtain ⟨l2,ok,hin,hl,hsz,hc⟩:=inner_five v h5 hs;rw [hi] at hc
   have hl2 : l2=fs.map (·.f1):=by
    rcases hc with ⟨f2,e,e2,_⟩|⟨e,_⟩
    ·
     obtain rfl : fs=f2:=by simpa using e
     exact e2
    simp at e
   subst hl2;refine (dep_nest v d _ ok (by omega) (.inr h5) hin hl (fun x hx=>ih x (by omega) (hsz x hx) ?_)).eq ?_
   ·
    obtain ⟨f,hf,rfl⟩:=List.mem_map.1 hx
    exact List.all_eq_true.1 hr f hf
   unfold depV;rw [if_neg h4,if_pos h5,hi,List.map_map];rfl
  unfold depV;rw [if_neg h4,if_neg h5];exact flat0 v h4 h5
abbrev Dec:=Int×Int×ByteArray×Int
def no3 : Dec:=(0,0,eB,3)
def decV (l : List Int) : Dec :=
 if (l.length : Int) > 65536 then (0,0,eB,2) else
 match nxtV (strOfNums l) with
 | none=>no3
 | some (v,r)=>if r.size=0 then (if rightV 5 v=true then (v.f0,v.f1,v.f2,0) else no3) else no3
theorem nums_size (l : List Int) : (strOfNums l).size=l.length:=by
 unfold strOfNums;rw [← data_length];simp
theorem dec_impl (l : List Int) : Eve (fun k=>Ft.f k l) (decV l):=by
 simp only [Ft.f];unfold decV;refine Eve.ite (fun h=>?_) (fun h=>?_)
 ·
  rw [if_pos h];exact Eve.one
 rw [if_neg h];have hz:=nums_size l;refine Eve.bind (value_tells (strOfNums l) false) ?_;have hv:=val_size (strOfNums l) false (by omega)
 cases hn : nxtV (strOfNums l) with
 | none =>
  refine Eve.ite (fun _=>Eve.one) (fun h1=>?_);have hb:=(nxt_none _ hn).resolve_left h1;refine Eve.ite (fun _=>?_) (fun _=>Eve.one);refine Eve.bind (ok_impl (rdv (valV (strOfNums l) false)) hv) ?_;rw [bad_right _ hb 5];simp only [Bool.false_eq_true,if_false];exact Eve.one
 | some p =>
  obtain ⟨v,r⟩:=p;have hs:=(nxt_some _ v r hn).1;rw [hs] at hv ⊢;simp only [Bool.false_eq_true,if_false];refine Eve.ite (fun h1=>?_) (fun h1=>?_)
  ·
   rw [if_pos ((emp r).1 h1)]
   refine Eve.bind (ok_impl v hv) ?_;exact Eve.ite (fun h2=>Eve.one.eq (by rw [if_pos h2])) (fun h2=>Eve.one.eq (by rw [if_neg h2];rfl))
  rw [if_neg (fun h2=>h1 ((emp r).2 h2))];exact Eve.one
def encA (v : IVal) : List Int×Int:=if rightV 5 v=true then (encB v,0) else ([],1)
theorem encode_spec (v : IVal) (hs : v.f2.size≤1048576) : Eve (fun k=>F03.f k v.f0 v.f1 v.f2) (encA v):=by
 simp only [F03.f];unfold encA;refine Eve.bind (ok_spec v hs) ?_;refine Eve.ite (fun h=>?_) (fun h=>Eve.one.eq (by rw [if_neg h]));have hq:=right_shape 5 v h;rw [if_pos h];refine Eve.bind (enc_tells hq) ?_;have hl:=enc_length hq;refine Eve.ite (fun _=>Eve.one.eq ?_) (fun h=>absurd (by rw [strOfNums_size];omega) h);rw [bytes_str _ (enc_in hq)]
theorem encode_impl (v : IVal) (hs : v.f2.size≤1048576) : Eve (fun k=>F04.f k v.f0 v.f1 v.f2) (encA v):=by
 simp only [F04.f];unfold encA;refine Eve.bind (ok_impl v hs) ?_;refine Eve.ite (fun h=>?_) (fun h=>Eve.one.eq (by rw [if_neg h]));rw [if_pos h];exact Eve.bind (put_tells [] (right_shape 5 v h) (by simp)) Eve.one
theorem dec_back (v : IVal) (h : rightV 5 v=true) : decV (encB v)=(v.f0,v.f1,v.f2,0):=by
 have hS:=right_shape 5 v h;have hl:=enc_length hS;have hb:=read_back v hS [] (by intro b hb;simp at hb);rw [List.append_nil] at hb;unfold decV;rw [if_neg (by omega),hb];have : (strOfNums []).size=0:=by rw [nums_size];rfl
 simp only;rw [if_pos this,if_pos h]
theorem dec_not (l : List Int) (hl : (l.length : Int)≤65536) (h : ∀ v r,nxtV (strOfNums l)=some (v,r)→r.size=0→rightV 5 v=true→False) : decV l=no3:=by
 unfold decV;rw [if_neg (by omega)]
 cases hn : nxtV (strOfNums l) with
 | none=>rfl
 | some p =>
  obtain ⟨v,r⟩:=p;simp only
  by_cases h1 : r.size=0
  ·
   rw [if_pos h1]
   by_cases h2 : rightV 5 v=true
   ·
    exact (h v r hn h1 h2).elim
   rw [if_neg h2]
  rw [if_neg h1]
theorem size_zero {a b : ByteArray} (h : a.size=0) (h2 : b.size=0) : a=b:=by
 apply bytes_inj;have : ∀ c : ByteArray,c.size=0→bytesOf c=[]:=fun c hc=>List.eq_nil_of_length_eq_zero (by rw [bytesOf_length];exact hc);rw [this a h,this b h2]
theorem dec_cut (v : IVal) (h : rightV 5 v=true) (n : Nat) (hn : n<(encB v).length) : decV ((encB v).take n)=no3:=by
 have hS:=right_shape 5 v h;have hl:=enc_length hS;have hin:=enc_in hS;refine dec_not _ (by rw [List.length_take];omega) (fun u r hu hr hru=>?_);have hSu:=right_shape 5 u hru;have hb:=read_back u hSu [] (by intro b hb;simp at hb);rw [List.append_nil,size_zero (show (strOfNums []).size=0 by rw [nums_size];rfl) hr] at hb;have he:=nxt_inj _ _ u r hu hb
 have he2 : (encB v).take n=encB u:=by
  have:=congrArg bytesOf he
  rwa [bytes_str _ (fun b hb=>hin b (List.mem_of_mem_take hb)),bytes_str _ (enc_in hSu)] at this
 have hd : ∀ b ∈ (encB v).drop n,0≤b∧b≤255:=fun b hb=>hin b (List.mem_of_mem_drop hb);have h1:=read_back u hSu ((encB v).drop n) hd;rw [← he2,List.take_append_drop] at h1;have h2:=read_back v hS [] (by intro b hb;simp at hb);rw [List.append_nil] at h2;rw [h1] at h2;injection h2 with h2;injection h2 with _ h2;have:=congrArg ByteArray.size h2;rw [nums_size,nums_size,List.length_drop,List.length_nil] at this
 omega
theorem dec_more (v : IVal) (h : rightV 5 v=true) : decV (encB v ++ [0])=no3:=by
 have hS:=right_shape 5 v h;have hl:=enc_length hS;refine dec_not _ (by rw [List.length_append];simp;omega) (fun u r hu hr hru=>?_);rw [read_back v hS [0] (by intro b hb;simp at hb;omega)] at hu;injection hu with hu;injection hu with _ hu;rw [← hu,nums_size] at hr;simp at hr
theorem at_tells (l : List Int) (hl : ∀ b ∈ l,0≤b∧b≤255) (hz : l.length≤1048576) (n : Int) (h1 : 1≤n) (h2 : n≤1048576) : ∃ t,F0d.f l 0 n=some t∧0≤t∧t<n:=by
 unfold F0d.f
 by_cases hn : n≤1
 ·
  rw [if_pos hn];exact ⟨0,rfl,by omega,by omega⟩
 rw [if_neg hn]
 by_cases h0 : (l.length : Int)=0
 ·
  rw [if_pos h0,if_neg (by omega)]
  have e : wrap64 (0*7)=0:=w64 (by omega) (by omega);rw [e];exact ⟨_,rfl,by simp,by simp;omega⟩
 rw [if_neg h0];have t0 : Int.tmod 0 (l.length : Int)=0:=Int.zero_tmod _;have e1 : wrap64 (0+1)=1:=w64 (by omega) (by omega);have t1 : Int.tmod 1 (l.length : Int)=1 % (l.length : Int):=Int.tmod_eq_emod_of_nonneg (by omega);have t2 : Int.tdiv 0 (l.length : Int)=0:=Int.zero_tdiv _;have g0 : 0≤1 % (l.length : Int):=Int.emod_nonneg _ (by omega);have g1 : 1 % (l.length : Int)<(l.length : Int):=Int.emod_lt_of_pos _ (by omega);rw [e1,t0,t1,t2,if_pos (by omega),if_pos (by omega),if_pos g0,if_pos g1,if_neg (by omega)];obtain ⟨i,hi⟩ : ∃ i : Nat,1 % (l.length : Int)=(i : Int):=⟨(1 % (l.length : Int)).toNat,by omega⟩;rw [hi] at g1 ⊢;have hil : i<l.length:=by omega
 have h0l : 0<l.length:=by omega
 have r0 : rd l 0=l[0]:=rd_at l 0 h0l;have b0:=hl _ (List.getElem_mem h0l);have b1:=hl _ (List.getElem_mem hil);rw [r0,rd_at l i hil];generalize l[0]=x at b0 ⊢;generalize l[i]=y at b1 ⊢;have w1 : wrap64 x=x:=w64 (by omega) (by omega);have w2 : wrap64 y=y:=w64 (by omega) (by omega);have w3 : wrap64 (x*31)=x*31:=w64 (by omega) (by omega);have w4 : wrap64 (x*31+y)=x*31+y:=w64 (by omega) (by omega);have w5 : wrap64 0=0:=w64 (by omega) (by omega);have w6 : wrap64 (x*31+y+0)=x*31+y:=by rw [Int.add_zero];exact w4
 rw [w1,w2,w3,w4,w5,w6];have e9 : Int.tmod (x*31+y) n=(x*31+y) % n:=Int.tmod_eq_emod_of_nonneg (by omega);rw [e9];exact ⟨_,rfl,Int.emod_nonneg _ (by omega),Int.emod_lt_of_pos _ (by omega)⟩
theorem byte_of {x : List Int} (h : ∀ y ∈ x,(Lit.int .u8 y).wf=true) : ∀ b ∈ x,0≤b∧b≤255:=fun b hb=>by
 have:=h b hb;simp [Lit.wf,IntKind.min,IntKind.max,IntKind.signed,IntKind.bits] at this
 omega
theorem FnCodec : Fc.Pure:=by
 rintro code more ⟨_,hc0⟩ ⟨_,hm0⟩;have hc:=byte_of hc0;have hm:=byte_of hm0;refine Eve.get (g:=fun k=>Fc.f k code more) ?_;have hbig : Eve (fun k=>Fc.j0 k code more true) true:=Eve.succ (by simp only [Fc.j0,if_true];exact Eve.one);simp only [Fc.f];refine Eve.ite (fun _=>hbig) (fun hcl=>?_)
 by_cases hml : (more.length : Int) > 1048576
 ·
  simp only [decide_eq_true hml];exact hbig
 simp only [decide_eq_false hml];refine Eve.succ ?_;simp only [Fc.j0,Bool.false_eq_true,if_false];have hd:=draws code hc 4 3 (by omega) (by omega);have hcst : cst 3=297:=by rfl
 rw [hcst] at hd;obtain ⟨v,a,s,hv,hr,_⟩:=hd 0 ((code.length : Int) % 1000) (by omega) (by omega) (by omega) (by omega);have hS:=right_shape 5 v hr;have hl:=enc_length hS;have hin:=enc_in hS
 have hvs : v.f2.size≤1048576:=by
  rcases Nat.lt_or_ge 300 v.f2.size with h3|h3
  ·
   rw [right_small 5 v h3] at hr;simp at hr
  omega
 have hV : Eve (fun k=>F05.f k code) (v.f0,v.f1,v.f2):=by
  simp only [F05.f,F0i.f,Option.bind_some];exact Eve.bind hv Eve.one
 refine Eve.bind hV ?_;have h1:=encode_impl v hvs;have h2:=encode_spec v hvs;have hA : encA v=(encB v,0):=by unfold encA;rw [if_pos hr]
 rw [hA] at h1 h2;refine Eve.bind h1 ?_;refine Eve.bind h2 ?_;simp only [if_true,bne_self_eq_false];refine Eve.succ ?_;simp only [Fc.j1,Bool.false_eq_true,if_false,if_true];have g1:=dec_impl (encB v);rw [dec_back v hr] at g1;refine Eve.bind g1 ?_;obtain ⟨t,ht,t0,t1⟩:=at_tells more hm (by omega) ((encB v).length : Int) (by omega) (by omega);simp only [ht,Option.bind_some];refine Eve.ite (fun _=>?_) (fun h=>absurd t0 h);refine Eve.ite (fun _=>?_) (fun h=>absurd (by omega) h);have g2:=dec_impl ((encB v).take t.toNat);rw [dec_cut v hr t.toNat (by omega)] at g2;refine Eve.bind g2 ?_;simp only [List.nil_append,List.length_nil];refine Eve.ite (fun _=>?_) (fun h=>absurd (by omega) h);refine Eve.ite (fun _=>?_) (fun h=>absurd (by omega) h);have g3:=dec_impl (encB v ++ [0]);rw [dec_more v hr] at g3;refine Eve.bind g3 ?_
 have k1 : Eve (fun k=>Fy.f k v.f0 v.f1 v.f2) (depV 5 v,0):=by
  simp only [Fy.f];refine Eve.bind (ok_impl v hvs) ?_;simp only [if_pos hr];exact Eve.bind (dep_impl 5 v (by omega) hvs hr) Eve.one
 have k2 : Eve (fun k=>Fx.f k v.f0 v.f1 v.f2) (depV 5 v,0):=by
  simp only [Fx.f];refine Eve.bind (ok_spec v hvs) ?_;simp only [if_pos hr];exact Eve.bind (dep_spec 5 v (by omega) hvs hr) Eve.one
 refine Eve.bind k1 ?_;refine Eve.bind k2 ?_;have hdp:=dep_in 5 v;simp only [no3,if_true,beq_self_eq_true,Bool.and_self];have hok:=ok_impl v hvs;rw [hr] at hok;refine Eve.bind hok ?_;simp only [if_true];exact Eve.one.eq (decide_eq_true hdp.2)
end Go.Proofs.Ytjgcddjdmfcgoaa.Pure
end
section
namespace Go.Proofs.Ytjgcddjdmfcgoaa.fnCodec
open Go.ChangeShapes Go.WideShapes Go.ChangeAt Go.RowKit Go.Proofs.YtjgcddjdmfcgoaaW.PrintWords Go.Proofs.YtjgcddjdmfcgoaaW.PrintOpen Go.Proofs.Ytjgcddjdmfcgoaa.Q
open Go.ChangeMaps (open_string shut_string)
set_option linter.unusedVariables false
theorem own : ownKnob Try.prog.godebug=none:=by kernel_rfl
theorem laidOut : laidOutB Try.prog=true:=by kernel_rfl
set_option maxRecDepth 100000 in
theorem lifted (os : Os) (started : os.Started) (H : Type) (enc : TypeId×Value→H) :
  ReturnsInHanded {} Try.checked os 4 .any (Rows.fnCodecSpec.pre6 enc Try.prog Try.f4 Rows.fnCodecRow.domain false) (Rows.fnCodecSpec.post enc Try.prog Try.f4 false true false false):=by
 refine returnsInHanded_of_change_sized (C:=Try.checked) own started (by kernel_rfl) Try.func4
  (ChangeSpec.witness6 (enc:=enc) (C:=Try.checked) false ⟨#[],#[.slice none 0 0,.slice none 0 0],[]⟩ 8 (by kernel_rfl) (by kernel_rfl) (by kernel_rfl) (by kernel_rfl)) ?_
 intro W base args ds gs before hval0 hW hcnd hsz0 _
 have hval : ∀ (j : Nat) t v,Try.f4.params[j]? = some t→args[j]? = some v→Value.okWide Try.prog W .any base t v:=hval0
 have hW':=hW
 obtain ⟨p,q,hA0,hV,rfl,hfz,hnd⟩:=hW
 have hA : DataW.TrodAll enc Try.prog W 0 (fun _=>true) true Try.f4.params.toList args.toList ds p:=hA0
 rw [Try.params4] at hA hval
 obtain ⟨v0,vs0,d0,ds0,p0,q0,hargs,rfl,rfl,h0,r0⟩:=trodAll_cons hA
 obtain ⟨v1,vs1,d1,ds1,p1,q1,rfl,rfl,rfl,h1,r1⟩:=trodAll_cons r0
 obtain ⟨rfl,rfl,rfl⟩:=trodAll_nil r1
 obtain rfl : args = #[v0,v1]:=by cases args;simp_all
 obtain ⟨rfl,rfl⟩:=trodVars_none hV
 have t0:=h0
 have lt0 : ∀ x ∈ p0,x.block<W.heap.size:=by obtain ⟨m,hm⟩:=t0;exact DataW.trod_lt m _ _ _ hm
 obtain ⟨x0,A0,c0,rfl,hl0,hc0,g0⟩:=arg_slice Try.underlying22 (opens_slice Try.underlying22 (by kernel_rfl) (opens_int Try.underlying5)) (hval 0 22 v0 rfl rfl) h0
 have t1:=h1
 have lt1 : ∀ x ∈ p1,x.block<W.heap.size:=by obtain ⟨m,hm⟩:=t1;exact DataW.trod_lt m _ _ _ hm
 obtain ⟨x1,A1,c1,rfl,hl1,hc1,g1⟩:=arg_slice Try.underlying22 (opens_slice Try.underlying22 (by kernel_rfl) (opens_int Try.underlying5)) (hval 1 22 v1 rfl rfl) h1
 clear hA0 hval0 hsz0
 obtain ⟨k,hp⟩:=Pure.FnCodec x0 x1 g0 g1
 refine (Fc.calls k A0 c0 x0 A1 c1 x1 true W hc0 hl0 hc1 hl1 hp rfl).mono fun e W' ⟨he,bel0⟩=>?_
 have bel : Below W.heap.size W W':=bel0
 subst he
 exact ⟨_,rfl,_,_,_,[],_,[],hW',trodAll_mk1 (shut_bool Try.underlying4 _),(trodAll_cons_mk (Below.trod laidOut (by kernel_rfl) (of_decide_eq_true (by kernel_rfl)) t0 bel lt0) (trodAll_cons_mk (Below.trod laidOut (by kernel_rfl) (of_decide_eq_true (by kernel_rfl)) t1 bel lt1) trodAll_mk0)),rfl,bel.frame _,fun h=>by cases h⟩
theorem over : Rows.fnCodecRow.holds Try.pinned (OpenSpec.ofChange Rows.fnCodecSpec) :=
 OpenClaim.holds_of_wide 4 Try.f4 rfl rfl rfl rfl rfl rfl rfl ⟨rfl,rfl,rfl,rfl,rfl⟩ rfl rfl rfl rfl rfl (by kernel_rfl) Try.func4 (by kernel_rfl)
  (of_decide_eq_true (by kernel_rfl)) (by unfold Func.isWrapper;first|(rw [if_pos (by decide +kernel)];kernel_rfl)|(rw [if_neg (by decide +kernel)];exact ⟨rfl,rfl⟩))
  (fun os started H enc _=>lifted os started H enc)
theorem proved : Rows.FnCodecSaid:=over
#print axioms proved
end Go.Proofs.Ytjgcddjdmfcgoaa.fnCodec
namespace Go.Proofs.Ytjgcddjdmfcgoaa
theorem fnCodec_holds : Rows.FnCodecSaid:=fnCodec.proved
end Go.Proofs.Ytjgcddjdmfcgoaa
end
