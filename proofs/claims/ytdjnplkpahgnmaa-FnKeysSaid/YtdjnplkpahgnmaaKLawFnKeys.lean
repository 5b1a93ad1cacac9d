/- FnKeys: for all arguments the law answers true, and they read behind the call as they read before. No condition. -/
import Derived.Test.YtdjnplkpahgnmaaKLawFnKeysp28
import Derived.Test.YtdjnplkpahgnmaaRows
import Derived.Carry
section
namespace Go.Proofs.Ytdjnplkpahgnmaa.Pure
open Go Go.RowKit Go.Proofs.Ytdjnplkpahgnmaa.Q Go.Proofs.YtdjnplkpahgnmaaW.PrintWords Go.Proofs.YtdjnplkpahgnmaaW.PrintLast Go.Proofs.YtdjnplkpahgnmaaW.PrintMore Go.Proofs.YtdjnplkpahgnmaaW.Pl
theorem cmp_tells (a b : Int) : F0n.f a b=some (cmpI a b):=by
 unfold F0n.f F0i.f cmpI;simp only [bne_self_eq_false,Option.bind_some,Bool.false_eq_true,if_false]
 split
 ·
  rfl
 split <;> rfl
theorem or_tells (x y : Int) (k : Nat) (hk : 2<k) : Fs.f k [x,y]=some (or2 x y):=by
 obtain ⟨m,rfl⟩ : ∃ m,k=m+3:=⟨k - 3,by omega⟩;have r0 : rd [x,y] 0=x:=rfl;have r1 : rd [x,y] 1=y:=rfl;have w1 : wrap64 (0+1)=1:=w64 (by omega) (by omega);have w2 : wrap64 (1+1)=2:=w64 (by omega) (by omega);have l2 : ((([x,y] : List Int).length : Nat) : Int)=2:=rfl;simp only [Fs.f,Fs.l0,l2,r0,r1,w1,w2];unfold or2
 by_cases h : x=0
 ·
  by_cases h2 : y=0
  ·
   simp [h,h2]
  simp [h,h2]
 simp [h]
theorem Eve.list2 {α β : Type} (g : Nat→α→α→Option β) (q : α→α→β) (m : List α) : ∀ l : List α,(∀ x ∈ l,∀ y ∈ m,Eve (fun k=>g k x y) (q x y)) → ∃ K,∀ k,K≤k → ∀ x ∈ l,∀ y ∈ m,g k x y=some (q x y)
 | [],_=>⟨0,fun _ _ x hx=>by simp at hx⟩
 | z :: l,h=>by
  obtain ⟨K,hK⟩:=Eve.list2 g q m l (fun x hx=>h x (by simp [hx]));obtain ⟨K2,hK2⟩:=Eve.list (fun k y=>g k z y) (q z) m (h z (by simp));refine ⟨max K K2,fun k hk x hx y hy=>?_⟩;rcases List.mem_cons.1 hx with rfl|hx
  ·
   exact hK2 k (by omega) y hy
  exact hK k (by omega) x hx y hy
theorem lists_loop (G : Int→Int→ByteArray→Int→Int→ByteArray→Option Int) (c : IVal→IVal→Int) (l m : List IVal) (hl : l.length≤1048576) (hG : ∀ x ∈ l,∀ y ∈ m,G x.f0 x.f1 x.f2 y.f0 y.f1 y.f2=some (c x y)) :
  ∀ (d i k : Nat),i+d=l.length→d<k→i≤m.length→Fw.l0 G k l m l (l.length : Int) (i : Int)=some (lexL c (l.drop i) (m.drop i)):=by
 intro d
 induction d with
 | zero =>
  intro i k hi hk hm;obtain ⟨k,rfl⟩ : ∃ q,k=q+1:=⟨k - 1,by omega⟩;simp only [Fw.l0];rw [if_neg (by omega),show l.drop i=[] from List.drop_eq_nil_of_le (by omega)]
  by_cases h : i<m.length
  ·
   rw [if_pos (by omega),drop_at m i h];rfl
  rw [if_neg (by omega),show m.drop i=[] from List.drop_eq_nil_of_le (by omega)];rfl
 | succ d ih =>
  intro i k hi hk hm;obtain ⟨k,rfl⟩ : ∃ q,k=q+1:=⟨k - 1,by omega⟩;have hlt : i<l.length:=by omega
  simp only [Fw.l0];rw [if_pos (by omega),if_pos (by omega),if_pos (by omega),drop_at l i hlt]
  by_cases h : i<m.length
  ·
   rw [if_neg (by omega),if_pos (by omega),rdV l i hlt,rdV m i h,hG _ (List.getElem_mem hlt) _ (List.getElem_mem h),Option.bind_some,wi (by omega),drop_at m i h]
   simp only [lexL,or2]
   by_cases h0 : c l[i] m[i]=0
   ·
    rw [if_pos h0,if_pos h0];exact ih (i+1) k (by omega) (by omega) (by omega)
   rw [if_neg h0,if_neg h0]
  rw [if_pos (by omega),show m.drop i=[] from List.drop_eq_nil_of_le (by omega)];rfl
theorem docs_loop (G : Int→Int→ByteArray→Int→Int→ByteArray→Option Int) (c : IVal→IVal→Int) (l m : List IFld) (hl : l.length≤1048576) (hG : ∀ x ∈ l,∀ y ∈ m,G x.f1.f0 x.f1.f1 x.f1.f2 y.f1.f0 y.f1.f1 y.f1.f2=some (c x.f1 y.f1)) :
  ∀ (d i k : Nat),i+d=l.length→d+4<k→i≤m.length→Fv.l0 G k l m l (l.length : Int) (i : Int)=some (lexL (cmpF c) (l.drop i) (m.drop i)):=by
 intro d
 induction d with
 | zero =>
  intro i k hi hk hm;obtain ⟨k,rfl⟩ : ∃ q,k=q+1:=⟨k - 1,by omega⟩;simp only [Fv.l0];rw [if_neg (by omega),show l.drop i=[] from List.drop_eq_nil_of_le (by omega)]
  by_cases h : i<m.length
  ·
   rw [if_pos (by omega),drop_at m i h];rfl
  rw [if_neg (by omega),show m.drop i=[] from List.drop_eq_nil_of_le (by omega)];rfl
 | succ d ih =>
  intro i k hi hk hm;obtain ⟨k,rfl⟩ : ∃ q,k=q+1:=⟨k - 1,by omega⟩;have hlt : i<l.length:=by omega
  simp only [Fv.l0];rw [if_pos (by omega),if_pos (by omega),if_pos (by omega),drop_at l i hlt]
  by_cases h : i<m.length
  ·
   rw [if_neg (by omega),if_pos (by omega),rdF l i hlt,rdF m i h]
   simp only [F0h.f,strings_Compare.f,hG _ (List.getElem_mem hlt) _ (List.getElem_mem h),Option.bind_some,or_tells _ _ k (by omega)];rw [wi (by omega),drop_at m i h];show (if cmpF c l[i] m[i]=0 then _ else some (cmpF c l[i] m[i]))=some (or2 (cmpF c l[i] m[i]) _);unfold or2
   by_cases h0 : cmpF c l[i] m[i]=0
   ·
    rw [if_pos h0,if_pos h0];exact ih (i+1) k (by omega) (by omega) (by omega)
   rw [if_neg h0,if_neg h0]
  rw [if_pos (by omega),show m.drop i=[] from List.drop_eq_nil_of_le (by omega)];rfl
theorem ord_impl : ∀ (d : Nat) (a b : IVal),rightV d a=true→rightV d b=true→a.f2.size≤1048576→b.f2.size≤1048576→Eve (fun k=>F3.f k a.f0 a.f1 a.f2 b.f0 b.f1 b.f2) (ordV d a b):=by
 intro d;have head : ∀ (a b : IVal) (w : Int),(a.f0=b.f0→Eve (fun k=>if a.f0=4 then ((Fa.f k a.f0 a.f1 a.f2).bind fun bt674=>((Fa.f k b.f0 b.f1 b.f2).bind fun bt678=>((Fw.f k (F3.f k) bt674.1 bt678.1).bind fun t682=>(some t682)))) else (if a.f0=5 then ((F4.f k a.f0 a.f1 a.f2).bind fun bt683=>((F4.f k b.f0 b.f1 b.f2).bind fun bt687=>((Fv.f k (F3.f k) bt683.1 bt687.1).bind fun t691=>(some t691)))) else ((strings_Compare.f a.f2 b.f2).bind fun t692=>(some t692)))) w) →
   Eve (fun k=>F3.f k a.f0 a.f1 a.f2 b.f0 b.f1 b.f2) (or2 (or2 (cmpI a.f0 b.f0) (cmpI a.f1 b.f1)) w):=by
  intro a b w h;refine Eve.succ ?_;simp only [F3.f,cmp_tells,Option.bind_some];refine Eve.bind (Eve.of (n:=2) (fun k hk=>or_tells _ _ k hk)) ?_;refine Eve.ite (fun h0=>(h (cmpI_zero (or2_zero h0).1)).eq ?_) (fun h0=>Eve.one.eq ?_)
  ·
   exact (or2_r h0).symm
  exact (or2_l h0).symm
 induction d with
 | zero =>
  intro a b ra rb sa sb;refine head a b _ (fun _=>Eve.ite (fun h4=>?_) (fun _=>Eve.ite (fun h5=>?_) (fun _=>Eve.one)))
  ·
   obtain ⟨e,he,_⟩:=four_holds ra h4 sa;cases he
  obtain ⟨e,he,_⟩:=five_holds ra h5 sa;cases he
 | succ d ih =>
  intro a b ra rb sa sb;refine head a b _ (fun e0=>Eve.ite (fun k4=>?_) (fun k4=>Eve.ite (fun k5=>?_) (fun k5=>?_)))
  ·
   obtain ⟨e,he,ia,la,ha⟩:=four_holds ra k4 sa
   obtain ⟨e',he',ib,lb,hb⟩:=four_holds rb (e0 ▸ k4) sb;obtain rfl : d=e:=by omega
   obtain rfl : d=e':=by omega
   rw [if_pos k4];simp only [Fa.f];refine Eve.bind (items_some _ a.f2 [] _ ia (by simp;omega)) ?_;refine Eve.bind (items_some _ b.f2 [] _ ib (by simp;omega)) ?_;simp only [List.nil_append];obtain ⟨K,hK⟩:=Eve.list2 (fun k (x y : IVal)=>F3.f k x.f0 x.f1 x.f2 y.f0 y.f1 y.f2) (ordV d) (lsV b) (lsV a) (fun x hx y hy=>ih x y (ha x hx).1 (hb y hy).1 (ha x hx).2 (hb y hy).2);refine ⟨max K ((lsV a).length+1),fun k hk=>?_⟩;have:=lists_loop (F3.f k) (ordV d) (lsV a) (lsV b) la (hK k (by omega)) (lsV a).length 0 k (by omega) (by omega) (by omega);simp only [List.drop_zero] at this;show (Fw.f k (F3.f k) (lsV a) (lsV b)).bind _=_;unfold Fw.f;rw [show ((0 : Nat) : Int)=0 from rfl] at this;rw [this];rfl
  ·
   obtain ⟨e,he,ia,la,ha⟩:=five_holds ra k5 sa
   obtain ⟨e',he',ib,lb,hb⟩:=five_holds rb (e0 ▸ k5) sb;obtain rfl : d=e:=by omega
   obtain rfl : d=e':=by omega
   rw [if_neg k4,if_pos k5];simp only [F4.f];refine Eve.bind (fields_some _ a.f2 [] _ ia (by simp;omega)) ?_;refine Eve.bind (fields_some _ b.f2 [] _ ib (by simp;omega)) ?_;simp only [List.nil_append];obtain ⟨K,hK⟩:=Eve.list2 (fun k (x y : IFld)=>F3.f k x.f1.f0 x.f1.f1 x.f1.f2 y.f1.f0 y.f1.f1 y.f1.f2) (fun x y=>ordV d x.f1 y.f1) (fsV b) (fsV a) (fun x hx y hy=>ih x.f1 y.f1 (ha x hx).1 (hb y hy).1 (ha x hx).2 (hb y hy).2);refine ⟨max K ((fsV a).length+5),fun k hk=>?_⟩;have:=docs_loop (F3.f k) (ordV d) (fsV a) (fsV b) la (hK k (by omega)) (fsV a).length 0 k (by omega) (by omega) (by omega);simp only [List.drop_zero] at this;show (Fv.f k (F3.f k) (fsV a) (fsV b)).bind _=_;unfold Fv.f;rw [show ((0 : Nat) : Int)=0 from rfl] at this;rw [this];rfl
  rw [if_neg k4,if_neg k5];exact Eve.one
def ansO (a b : IVal) : Int×Int:=if rightV 5 a=true∧rightV 5 b=true then (ordV 5 a b,0) else (0,1)
theorem order_impl (a b : IVal) (sa : a.f2.size≤1048576) (sb : b.f2.size≤1048576) : Eve (fun k=>F0l.f k a.f0 a.f1 a.f2 b.f0 b.f1 b.f2) (ansO a b):=by
 simp only [F0l.f];unfold ansO
 refine Eve.bind (are_list [⟨a.f0,a.f1,a.f2⟩,⟨b.f0,b.f1,b.f2⟩] (by simp) (fun x hx=>by
  rcases List.mem_cons.1 hx with rfl|hx
  ·
   exact sa
  rcases List.mem_cons.1 hx with rfl|hx
  ·
   exact sb
  cases hx)) ?_
 simp only [List.all_cons,List.all_nil,Bool.and_true,Bool.and_eq_true];refine Eve.ite (fun h=>?_) (fun h=>?_)
 ·
  rw [if_pos h]
  exact Eve.bind (ord_impl 5 a b h.1 h.2 sa sb) Eve.one
 rw [if_neg h];exact Eve.one
abbrev Spl:=List ByteArray×Int
def cut : Nat→List ByteArray→List Int→Spl
 | 0,out,l=>if l=[] then (out,0) else ([],3)
 | n+1,out,l=>if kl l=0 then ([],3) else cut n (out ++ [strOfNums (l.take (kl l))]) (l.drop (kl l))
def splA (a : ByteArray) (n : Int) : Spl:=if (a.size : Int) > 65536 then ([],2) else if inr n 0 8=true then cut n.toNat [] (bytesOf a) else ([],4)
theorem nil_is (l : List Int) : (strOfNums l).toList=([] : List UInt8)↔l=[]:=by
 rw [ba_toList,strOfNums_data,List.map_eq_nil_iff]
theorem cut_impl : ∀ (m i : Nat) (out : List ByteArray) (l : List Int),m≤8→i+m≤8→out.length≤i→Byts l→l.length≤65536→Eve (fun k=>Fh.l0 k out ((i+m : Nat) : Int) (i : Int) (strOfNums l) false) (cut m out l):=by
 intro m
 induction m with
 | zero =>
  intro i out l _ _ _ _ _;refine Eve.succ ?_;simp only [Fh.l0];refine Eve.ite (fun h=>absurd h (by omega)) (fun _=>?_);unfold cut;exact Eve.ite (fun h=>Eve.one.eq (by rw [if_pos ((nil_is l).1 h)])) (fun h=>Eve.one.eq (by rw [if_neg (fun e=>h ((nil_is l).2 e))]))
 | succ m ih =>
  intro i out l hm hi ho hl hz;refine Eve.succ ?_;have hle:=kl_le l;have hp:=(keyEnd_impl l.length).1 l (Nat.le_refl _) hl;simp only [Fh.l0,wi (show i≤9223372036854775806 by omega)];refine Eve.ite (fun _=>?_) (fun h=>absurd (by omega) h);unfold cut;obtain ⟨q,hq⟩ : ∃ q,kl l=q:=⟨_,rfl⟩;rw [hq] at hle hp ⊢
  by_cases hq0 : q=0
  ·
   rw [if_pos hq0]
   obtain ⟨r,hr,he⟩:=hp.1 hq0;refine Eve.bind he ?_;simp only [if_true];exact Eve.one
  rw [if_neg hq0];refine Eve.bind (hp.2 hq0) ?_
  have w : wrap64 (((strOfNums l).size : Int) - ((strOfNums (l.drop q)).size : Int))=(q : Int):=by
   rw [strOfNums_size,strOfNums_size,List.length_drop,w64 (by omega) (by omega)];omega
  simp only [Bool.false_eq_true,if_false,w,Int.toNat_natCast,ext_of l hl 0 q,List.drop_zero,Nat.sub_zero];refine Eve.ite (fun _=>?_) (fun h=>absurd (by omega) h);refine Eve.ite (fun _=>?_) (fun h=>absurd (by rw [strOfNums_size];omega) h);refine Eve.ite (fun _=>?_) (fun h=>absurd (by omega) h);have:=ih (i+1) (out ++ [strOfNums (l.take q)]) (l.drop q) (by omega) (by omega) (by simp only [List.length_append,List.length_cons,List.length_nil];omega) (byts_drop hl q) (by rw [List.length_drop];omega);rw [show i+1+m=i+(m+1) by omega] at this;exact this
theorem in8 {n : Int} (h : inr n 0 8=true) : 0≤n∧n≤8:=by
 unfold inr at h;rw [Bool.and_eq_true,decide_eq_true_eq,decide_eq_true_eq] at h;exact h
theorem long_tells (a : ByteArray) : Eve (fun k=>F0d.f k [a]) (decide ((a.size : Int) > 65536)):=by
 have r0 : rdOf ByteArray.empty [a] 0=a:=rfl;have w1 : wrap64 (0+1)=1:=w64 (by omega) (by omega);have l1 : ((([a] : List ByteArray).length : Nat) : Int)=1:=rfl;refine ⟨3,fun k hk=>?_⟩;obtain ⟨k,rfl⟩ : ∃ m,k=m+2:=⟨k - 2,by omega⟩;simp only [F0d.f,F0w.f,F0a.f,F0a.l0,l1,r0,w1,F15.f,Option.bind_some]
 by_cases h : (a.size : Int) > 65536
 ·
  simp [h]
 simp [h]
theorem split_impl (a : ByteArray) (n : Int) : Eve (fun k=>Fh.f k a n) (splA a n):=by
 simp only [Fh.f,in_impl];unfold splA;refine Eve.bind (long_tells a) ?_;simp only [decide_eq_true_eq,Option.bind_some];refine Eve.ite (fun h=>Eve.one.eq (by rw [if_pos h])) (fun h=>?_);rw [if_neg h];refine Eve.ite (fun h2=>?_) (fun h2=>Eve.one.eq (by rw [if_neg h2]));rw [if_pos h2];have hn:=in8 h2;have:=cut_impl n.toNat 0 [] (bytesOf a) (by omega) (by omega) (by simp) (bytes_in a) (by rw [bytesOf_length];omega);rw [str_bytes,show ((0+n.toNat : Nat) : Int)=n by omega] at this;exact this
def cat (acc : ByteArray) (l : List ByteArray) : ByteArray:=l.foldl (· ++ ·) acc
def long (t : ByteArray) : Bool:=decide ((t.size : Int) > 1000)
theorem impl_loop (l : List ByteArray) (h8 : l.length≤8) (hs : l.any long=false) : ∀ (d k i : Nat) (acc : ByteArray),i+d=l.length→d<k→acc.size≤1000*i →
  Fq.l0 k acc l (l.length : Int) (i : Int)=some (cat acc (l.drop i),0):=by
 intro d
 induction d with
 | zero =>
  intro k i acc hi hk ha;obtain ⟨k,rfl,_⟩:=fuel hk;obtain rfl : i=l.length:=by omega
  simp only [Fq.l0];rw [if_neg (by omega),List.drop_length];rfl
 | succ d ih =>
  intro k i acc hi hk ha;obtain ⟨k,rfl,_⟩:=fuel hk;have hlt : i<l.length:=by omega
  have hz : ¬ (l[i].size : Int) > 1000:=by
   have:=List.any_eq_false.1 hs l[i] (List.getElem_mem hlt)
   simpa [long] using this
  simp only [Fq.l0];rw [if_pos (by omega),if_pos (by omega),if_pos (by omega),rdOf_at _ _ _ hlt,drop_at l i hlt,if_pos (by omega),w64 (by omega) (by omega)];have:=ih k (i+1) (acc++l[i]) (by omega) (by omega) (by rw [ByteArray.size_append];omega);rw [show ((i : Int)+1)=((i+1 : Nat) : Int) by omega,this]
  rfl
theorem any_tells (l : List ByteArray) (hl : l.length≤1048576) {k : Nat} (hk : l.length<k) : F0r.f k l=some (l.any long):=by
 unfold F0r.f F06.f
 have:=first_loop (fun k i=>F06.l0 k l (l.length : Int) i) l long (fun k i hi=>by
  simp only [F06.l0];rw [if_pos (by omega),if_pos (by omega),if_pos (by omega),rdOf_at _ _ _ hi,w64 (by omega) (by omega)]
  rfl) (fun k=>by simp only [F06.l0];rw [if_neg (by omega)]) l.length k 0 (by omega) hk
 rw [show ((0 : Nat) : Int)=0 from rfl,List.drop_zero] at this;rw [this];simp only [Option.bind_some,first_any]
theorem byte_of {x : List Int} (h : ∀ y ∈ x,(Lit.int .u8 y).wf=true) : ∀ b ∈ x,0≤b∧b≤255:=fun b hb=>by
 have:=h b hb;simp [Lit.wf,IntKind.min,IntKind.max,IntKind.signed,IntKind.bits] at this
 omega
theorem str_cmp (x y : List Int) (hx : Byts x) (hy : Byts y) : cmpB (strOfNums x) (strOfNums y)=lexI x y:=by
 unfold cmpB;rw [← bytes_cmp,← bytesOf_map,← bytesOf_map,bytes_str x hx,bytes_str y hy]
theorem less_cmp (a b : ByteArray) : Op.bytesLess a.toList b.toList=decide (cmpB a b<0):=by
 unfold cmpB;rw [cb_is,ba_toList,ba_toList]
 by_cases h : Op.bytesLess a.data.toList b.data.toList=true
 ·
  rw [if_pos h,h];rfl
 rw [if_neg h];have h' : Op.bytesLess a.data.toList b.data.toList=false:=by simpa using h
 rw [h']
 split <;> rfl
theorem turn_in {l : List Int} : Byts (turnB l):=by
 intro b hb;unfold turnB at hb;obtain ⟨c,_,rfl⟩:=List.mem_map.1 hb
 omega
theorem turn_app (x y : List Int) : turnB (x++y)=turnB x++turnB y:=by unfold turnB;rw [List.map_append]
theorem raw_small {v : IVal} (h : rightV 5 v=true) : (rawB 5 v).length≤909:=by
 have h1:=raw_len 5 v h;have h2:=right_300 h
 have h3 : esz v≤303:=by
  unfold esz
  repeat' split
  all_goals first|omega|exact Nat.le_trans (by omega) (by omega)
 omega
theorem keyOf_tells (v : IVal) (h : rightV 5 v=true) (hs : v.f2.size≤1048576) (desc : Bool) : Eve (fun k=>Fd.f k v.f0 v.f1 v.f2 desc) (strOfNums (keyB v desc),0):=by
 simp only [Fd.f];have t2:=ok_impl v hs;rw [h] at t2;refine Eve.bind t2 ?_;simp only [if_true];exact Eve.bind (keyOf_impl h desc) Eve.one
theorem keyOf_spec (v : IVal) (h : rightV 5 v=true) (hs : v.f2.size≤1048576) (desc : Bool) : Eve (fun k=>F0f.f k v.f0 v.f1 v.f2 desc) (strOfNums (keyB v desc),0):=by
 simp only [F0f.f];have t1:=ok_spec v hs;rw [h] at t1;refine Eve.bind t1 ?_;simp only [if_true];exact Eve.bind (key_spec h desc) Eve.one
theorem value_tells2 (code : List Int) (hc : ∀ b ∈ code,0≤b∧b≤255) (_ : code.length≤1048576) : ∃ v : IVal,Eve (fun k=>F0e.f k code) (v.f0,v.f1,v.f2)∧rightV 5 v=true∧v.f2.size≤1048576:=by
 have hd:=draws code hc 4 3 (by omega) (by omega);have hcst : cst 3=297:=by rfl
 rw [hcst] at hd;obtain ⟨v,a,s,hv,hr,_⟩:=hd 0 ((code.length : Int) % 1000) (by omega) (by omega) (by omega) (by omega);refine ⟨v,?_,hr,?_⟩
 ·
  simp only [F0e.f,F16.f,Option.bind_some]
  exact Eve.bind hv Eve.one
 have:=right_300 hr
 omega
theorem join_tells (x y : ByteArray) (hx : x.size≤1000) (hy : y.size≤1000) : Eve (fun k=>Fq.f k [x,y]) (x++y,0):=by
 have ha : ([x,y] : List ByteArray).any long=false:=by
  have h1 : long x=false:=by unfold long;exact decide_eq_false (by omega)
  have h2 : long y=false:=by unfold long;exact decide_eq_false (by omega)
  simp [h1,h2]
 have e1:=Eve.of (n:=2) (fun k (hk : 2<k)=>any_tells [x,y] (by simp) (k:=k) (by simpa using hk))
 have e2 : Eve (fun k=>Fq.l0 k (⟨#[]⟩ : ByteArray) [x,y] (([x,y] : List ByteArray).length : Int) 0) (x++y,0):=by
  have:=Eve.of (n:=2) (fun k (hk : 2<k)=>impl_loop [x,y] (by simp) ha 2 k 0 (⟨#[]⟩ : ByteArray) (by simp) hk (by simp [ByteArray.size]));refine Eve.eq this ?_;show ((⟨#[]⟩ : ByteArray)++x++y,(0 : Int))=_;have : (⟨#[]⟩ : ByteArray)=ByteArray.empty:=rfl;rw [this,ByteArray.empty_append]
 simp only [Fq.f];refine Eve.ite (fun h=>absurd h (by simp)) (fun _=>?_);refine Eve.ite (fun h=>absurd h (by simp)) (fun _=>?_);rw [ha] at e1;refine Eve.bind e1 ?_;simp only [Bool.false_eq_true,if_false];exact e2
theorem kl_nil : kl []=0:=by rw [kl]
theorem split_two (a b : List Int) (ha : Byts a) (hb : Byts b) (ka : ∀ r,kl (a++r)=a.length) (kb : ∀ r,kl (b++r)=b.length) (na : a.length≠0) (nb : b.length≠0) (hz : a.length+b.length≤2000) :
  splA (strOfNums a++strOfNums b) 2=([strOfNums a,strOfNums b],0)∧splA (strOfNums a++strOfNums b) 3=([],3):=by
 have e : bytesOf (strOfNums a++strOfNums b)=a++b:=by
  rw [← str_app,bytes_str];intro x hx;rcases List.mem_append.1 hx with hx|hx
  ·
   exact ha x hx
  exact hb x hx
 have hs : (strOfNums a++strOfNums b).size≤2000:=by rw [ByteArray.size_append,strOfNums_size,strOfNums_size];exact hz
 have kb0:=kb [];rw [List.append_nil] at kb0;have t1 : (a++b).take a.length=a:=List.take_left;have d1 : (a++b).drop a.length=b:=List.drop_left;have t2 : b.take b.length=b:=List.take_length;have d2 : b.drop b.length=[]:=List.drop_length
 constructor
 ·
  unfold splA
  rw [if_neg (by omega),if_pos (by rfl),e];show cut 2 [] (a++b)=_;unfold cut;rw [ka,if_neg na,t1,d1];unfold cut;rw [kb0,if_neg nb,t2,d2];unfold cut;rw [if_pos rfl]
  rfl
 unfold splA;rw [if_neg (by omega),if_pos (by rfl),e];show cut 3 [] (a++b)=_;unfold cut;rw [ka,if_neg na,t1,d1];unfold cut;rw [kb0,if_neg nb,t2,d2];unfold cut;rw [if_pos kl_nil]
theorem FnKeys : F1.Pure:=by
 rintro code more ⟨_,hc0⟩ ⟨_,hm0⟩;have hc:=byte_of hc0;have hm:=byte_of hm0;refine Eve.get (g:=fun k=>F1.f k code more) ?_;have hbig : Eve (fun k=>F1.j0 k code more true) true:=Eve.succ (by simp only [F1.j0,if_true];exact Eve.one);simp only [F1.f];refine Eve.ite (fun _=>hbig) (fun hcl=>?_)
 by_cases hml : (more.length : Int) > 1048576
 ·
  simp only [decide_eq_true hml];exact hbig
 simp only [decide_eq_false hml];refine Eve.succ ?_;simp only [F1.j0,Bool.false_eq_true,if_false];obtain ⟨a,hva,ra,sa⟩:=value_tells2 code hc (by omega);obtain ⟨b,hvb,rb,sb⟩:=value_tells2 more hm (by omega);refine Eve.bind hva ?_;refine Eve.bind hvb ?_;have ho:=order_impl a b sa sb;have hA : ansO a b=(ordV 5 a b,0):=by unfold ansO;rw [if_pos ⟨ra,rb⟩]
 rw [hA] at ho;refine Eve.bind ho ?_;simp only [if_true];refine Eve.bind (keyOf_tells a ra sa false) ?_;refine Eve.bind (keyOf_tells b rb sb false) ?_;refine Eve.bind (keyOf_tells a ra sa true) ?_;refine Eve.bind (keyOf_tells b rb sb true) ?_;refine Eve.bind (keyOf_spec a ra sa false) ?_;simp only [if_true];have hdc:=raw_dcd 5 a b ra rb sa sb;have hz:=fun h=>ord_zero 5 a b ra rb sa sb h;have ia:=raw_in 5 a;have ib:=raw_in 5 b;have ka:=kl_raw 5 a ra sa;have kb:=kl_raw 5 b rb sb;have na:=raw_pos ra;have nb:=raw_pos rb;have la:=raw_small ra;have lb:=raw_small rb;have eF : ∀ v,keyB v false=rawB 5 v:=fun v=>by unfold keyB;rw [if_neg (by simp)]
 have eT : ∀ v,keyB v true=turnB (rawB 5 v):=fun v=>by unfold keyB;rw [if_pos rfl]
 rw [eF,eF,eT,eT]
 -- the order, and the falling one
 have h1 : Op.bytesLess (strOfNums (rawB 5 a)).toList (strOfNums (rawB 5 b)).toList=decide (ordV 5 a b<0):=by
  rw [less_cmp,str_cmp _ _ ia ib,hdc.now]
 have h2 : Op.bytesLess (strOfNums (turnB (rawB 5 b))).toList (strOfNums (turnB (rawB 5 a))).toList=decide (ordV 5 a b<0):=by
  rw [less_cmp,str_cmp _ _ turn_in turn_in]
  by_cases h0 : ordV 5 a b=0
  ·
   rw [h0,hz h0,lexI_self]
  obtain ⟨p,x,y,u,w,e1,e2,e3,e4⟩:=hdc.apart h0;have bx:=ia x (by rw [e1];simp);have by_:=ib y (by rw [e2];simp)
  have hl : lexI (turnB (rawB 5 b)) (turnB (rawB 5 a))=cmpI ((255 - y) % 256) ((255 - x) % 256):=by
   rw [e1,e2,turn_app,turn_app,(Dcd.refl (turnB p)) _ _,or2_zero_l];show or2 (cmpI ((255 - y) % 256) ((255 - x) % 256)) _=_;rw [or2_l (fun e=>by have:=cmpI_zero e;omega)]
  have hxy : cmpI ((255 - y) % 256) ((255 - x) % 256)=cmpI x y:=by
   unfold cmpI
   by_cases hlt : x<y
   ·
    rw [if_pos hlt,if_pos (by omega)]
   rw [if_neg hlt,if_neg (by omega),if_pos (by omega),if_pos (by omega)]
  rw [hl,hxy,e4]
 have h3 : ((ordV 5 a b == 0) != ((strOfNums (rawB 5 a)).toList == (strOfNums (rawB 5 b)).toList))=false:=by
  by_cases h0 : ordV 5 a b=0
  ·
   rw [h0,hz h0];simp
  have hn : ¬ (strOfNums (rawB 5 a)).toList=(strOfNums (rawB 5 b)).toList:=by
   intro e;have he:=str_cmp _ _ ia ib;rw [show strOfNums (rawB 5 a)=strOfNums (rawB 5 b) from ba_ext e,cmpB_self,hdc.now] at he;exact h0 he.symm
  rw [beq_eq_false_iff_ne.mpr h0,beq_eq_false_iff_ne.mpr hn];rfl
 have h4 : ordV 5 a b≠0→(strOfNums (rawB 5 a)).size≤(strOfNums (rawB 5 b)).size→(((strOfNums (rawB 5 b)).extract 0 (strOfNums (rawB 5 a)).size).toList == (strOfNums (rawB 5 a)).toList)=false:=by
  intro h0 hsz;rw [beq_eq_false_iff_ne];intro e;obtain ⟨p,x,y,u,w,e1,e2,e3,e4⟩:=hdc.apart h0;have he : bytesOf ((strOfNums (rawB 5 b)).extract 0 (strOfNums (rawB 5 a)).size)=bytesOf (strOfNums (rawB 5 a)):=by rw [show (strOfNums (rawB 5 b)).extract 0 (strOfNums (rawB 5 a)).size=strOfNums (rawB 5 a) from ba_ext e]
  rw [bytes_cut,bytes_str _ ia,bytes_str _ ib,strOfNums_size,List.drop_zero,Nat.sub_zero] at he;have hg:=congrArg (fun l=>l[p.length]?) he
  (try simp only at hg)
  rw [e1,e2,List.getElem?_take,if_pos (by simp)] at hg;simp at hg;exact e3 hg.symm
 simp only [h1,h2,bne_self_eq_false,Bool.false_eq_true,if_false,h3];generalize hA0 : rawB 5 a=A at *;generalize hB0 : rawB 5 b=B at *
 have hj2 : Eve (fun k=>F1.j2 k (strOfNums A) (strOfNums B) false) true:=by
  refine Eve.succ ?_;simp only [F1.j2,Bool.false_eq_true,if_false];refine Eve.bind (join_tells _ _ (by rw [strOfNums_size];omega) (by rw [strOfNums_size];omega)) ?_;obtain ⟨s1,s2⟩:=split_two A B ia ib ka kb na nb (by omega);have g1:=split_impl (strOfNums A++strOfNums B) 2;have g2:=split_impl (strOfNums A++strOfNums B) 3;rw [s1] at g1;rw [s2] at g2;refine Eve.bind g1 ?_;refine Eve.bind g2 ?_;have r0 : rdOf ByteArray.empty [strOfNums A,strOfNums B] 0=strOfNums A:=rfl;have r1 : rdOf ByteArray.empty [strOfNums A,strOfNums B] 1=strOfNums B:=rfl;simp only [if_true,r0,r1,List.length_cons,List.length_nil];refine Eve.ite (fun _=>?_) (fun h=>absurd (by rw [strOfNums_size,strOfNums_size];omega) h);refine Eve.ite (fun _=>?_) (fun h=>(h (by decide)).elim);refine Eve.ite (fun _=>?_) (fun h=>(h (by decide)).elim);refine Eve.ite (fun _=>?_) (fun h=>(h (by decide)).elim);exact Eve.one.eq rfl
 refine Eve.succ ?_;simp only [F1.j1,Bool.false_eq_true,if_false];refine Eve.ite (fun _=>hj2) (fun h0=>?_);refine Eve.ite (fun hsz=>?_) (fun _=>hj2);refine Eve.ite (fun _=>?_) (fun h=>absurd (Int.natCast_nonneg _) h);have:=h4 h0 (by omega);simp only [Int.toNat_natCast,this];exact hj2
end Go.Proofs.Ytdjnplkpahgnmaa.Pure
end
section
namespace Go.Proofs.Ytdjnplkpahgnmaa.fnKeys
open Go.ChangeShapes Go.WideShapes Go.ChangeAt Go.RowKit Go.Proofs.YtdjnplkpahgnmaaW.PrintWords Go.Proofs.YtdjnplkpahgnmaaW.PrintOpen Go.Proofs.Ytdjnplkpahgnmaa.Q
open Go.ChangeMaps (open_string shut_string)
set_option linter.unusedVariables false
theorem own : ownKnob Try.prog.godebug=none:=by kernel_rfl
theorem laidOut : laidOutB Try.prog=true:=by kernel_rfl
set_option maxRecDepth 100000 in
theorem lifted (os : Os) (started : os.Started) (H : Type) (enc : TypeId×Value→H) :
  ReturnsInHanded {} Try.checked os 3 .any (Rows.fnKeysSpec.pre6 enc Try.prog Try.f3 Rows.fnKeysRow.domain false) (Rows.fnKeysSpec.post enc Try.prog Try.f3 false true false false):=by
 refine returnsInHanded_of_change_sized (C:=Try.checked) own started jA Try.func3
  (ChangeSpec.witness6 (enc:=enc) (C:=Try.checked) false ⟨#[],#[.slice none 0 0,.slice none 0 0],[]⟩ 8 jA jA jA jA) ?_
 intro W base args ds gs before hval0 hW hcnd hsz0 _
 have hval : ∀ (j : Nat) t v,Try.f3.params[j]? = some t→args[j]? = some v→Value.okWide Try.prog W .any base t v:=hval0
 have hW':=hW
 obtain ⟨p,q,hA0,hV,rfl,hfz,hnd⟩:=hW
 have hA : DataW.TrodAll enc Try.prog W 0 (fun _=>true) true Try.f3.params.toList args.toList ds p:=hA0
 rw [Try.params3] at hA hval
 obtain ⟨v0,vs0,d0,ds0,p0,q0,hargs,rfl,rfl,h0,r0⟩:=trodAll_cons hA
 obtain ⟨v1,vs1,d1,ds1,p1,q1,rfl,rfl,rfl,h1,r1⟩:=trodAll_cons r0
 obtain ⟨rfl,rfl,rfl⟩:=trodAll_nil r1
 obtain rfl : args = #[v0,v1]:=by cases args;simp_all
 obtain ⟨rfl,rfl⟩:=trodVars_none hV
 have t0:=h0
 have lt0 : ∀ x ∈ p0,x.block<W.heap.size:=by obtain ⟨m,hm⟩:=t0;exact DataW.trod_lt m _ _ _ hm
 obtain ⟨x0,A0,c0,rfl,hl0,hc0,g0⟩:=arg_slice Try.underlying22 (opens_slice Try.underlying22 jA (opens_int Try.underlying5)) (hval 0 22 v0 rfl rfl) h0
 have t1:=h1
 have lt1 : ∀ x ∈ p1,x.block<W.heap.size:=by obtain ⟨m,hm⟩:=t1;exact DataW.trod_lt m _ _ _ hm
 obtain ⟨x1,A1,c1,rfl,hl1,hc1,g1⟩:=arg_slice Try.underlying22 (opens_slice Try.underlying22 jA (opens_int Try.underlying5)) (hval 1 22 v1 rfl rfl) h1
 clear hA0 hval0 hsz0
 obtain ⟨k,hp⟩:=Pure.FnKeys x0 x1 g0 g1
 refine (F1.calls k A0 c0 x0 A1 c1 x1 true W hc0 hl0 hc1 hl1 hp rfl).mono fun e W' ⟨he,bel0⟩=>?_
 have bel : Below W.heap.size W W':=bel0
 subst he
 exact ⟨_,rfl,_,_,_,[],_,[],hW',trodAll_mk1 (shut_bool Try.underlying4 _),(trodAll_cons_mk (Below.trod laidOut jA (of_decide_eq_true jA) t0 bel lt0) (trodAll_cons_mk (Below.trod laidOut jA (of_decide_eq_true jA) t1 bel lt1) trodAll_mk0)),rfl,bel.frame _,fun h=>by cases h⟩
theorem over : Rows.fnKeysRow.holds Try.pinned (OpenSpec.ofChange Rows.fnKeysSpec) :=
 OpenClaim.holds_of_wide 3 Try.f3 rfl rfl rfl rfl rfl rfl rfl ⟨rfl,rfl,rfl,rfl,rfl⟩ rfl rfl rfl rfl rfl jA Try.func3 jA
  (of_decide_eq_true jA) (by unfold Func.isWrapper;first|(rw [if_pos (by decide +kernel)];kernel_rfl)|(rw [if_neg (by decide +kernel)];exact ⟨rfl,rfl⟩))
  (fun os started H enc _=>lifted os started H enc)
theorem proved : Rows.FnKeysSaid:=over
#print axioms proved
end Go.Proofs.Ytdjnplkpahgnmaa.fnKeys
namespace Go.Proofs.Ytdjnplkpahgnmaa
theorem fnKeys_holds : Rows.FnKeysSaid:=fnKeys.proved
end Go.Proofs.Ytdjnplkpahgnmaa
end
