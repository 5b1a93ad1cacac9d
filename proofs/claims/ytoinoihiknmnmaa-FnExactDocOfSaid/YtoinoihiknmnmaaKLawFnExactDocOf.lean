/- FnExactDocOf: for every argument the law answers true, and the argument reads behind the call as it read before. No condition. -/
import Derived.Test.YtoinoihiknmnmaaKLawFnExactDocOfp26
import Derived.Test.YtoinoihiknmnmaaRows
import Derived.Carry
section
namespace Go.Proofs.Ytoinoihiknmnmaa.Pure
open Go Go.RowKit Go.Proofs.Ytoinoihiknmnmaa.Q Go.Proofs.YtoinoihiknmnmaaW.PrintWords Go.Proofs.YtoinoihiknmnmaaW.PrintLast Go.Proofs.YtoinoihiknmnmaaW.PrintMore Go.Proofs.YtoinoihiknmnmaaW.Pl
theorem right_four {d : Nat} {v : IVal} (h : rightV d v=true) (h4 : v.f0=4) : ∃ e l,d=e+1∧itS v.f2.size v.f2=some l∧l.all (rightV e)=true:=by
 cases d with
 | zero =>
  have : flat v=true:=h;unfold flat at this;rw [if_neg (by omega),if_neg (by omega),if_neg (by omega),if_neg (by omega)] at this
  cases this
 | succ e =>
  unfold rightV at h;rw [if_pos h4] at h
  cases hi : itS v.f2.size v.f2 with
  | none=>rw [hi] at h;simp at h
  | some l =>
   rw [hi] at h;simp only [Bool.and_eq_true] at h;exact ⟨e,l,rfl,rfl,h.2.2⟩
theorem right_five {d : Nat} {v : IVal} (h : rightV d v=true) (h5 : v.f0=5) : ∃ e l,d=e+1∧fdS v.f2.size v.f2=some l∧nms none l=true∧l.all (fun f=>rightV e f.f1)=true:=by
 have h4 : ¬ v.f0=4:=by omega
 cases d with
 | zero =>
  have : flat v=true:=h;unfold flat at this;rw [if_neg (by omega),if_neg (by omega),if_neg (by omega),if_neg (by omega)] at this
  cases this
 | succ e =>
  unfold rightV at h;rw [if_neg h4,if_pos h5] at h
  cases hi : fdS v.f2.size v.f2 with
  | none=>rw [hi] at h;simp at h
  | some l =>
   rw [hi] at h;simp only [Bool.and_eq_true] at h;exact ⟨e,l,rfl,rfl,h.2.2.1,h.2.2.2⟩
def depV : Nat→IVal→Int
 | 0,_=>0
 | d+1,v =>
  if v.f0=4 then (match itS v.f2.size v.f2 with|some l=>(l.map (depV d)).foldl mx 0+1|none=>0)
  else if v.f0=5 then (match fdS v.f2.size v.f2 with|some l=>(l.map (fun f=>depV d f.f1)).foldl mx 0+1|none=>0)
  else 0
theorem mx_in {d : Int} {x y : Int} (hx : 0≤x∧x≤d) (hy : 0≤y∧y≤d) : 0≤mx x y∧mx x y≤d:=by
 unfold mx
 split <;> omega
theorem fold_in (d : Int) : ∀ (l : List Int) (x : Int),0≤x∧x≤d→(∀ y ∈ l,0≤y∧y≤d)→0≤l.foldl mx x∧l.foldl mx x≤d
 | [],_,h,_=>h
 | y :: l,x,h,h2=>fold_in d l (mx x y) (mx_in h (h2 y (by simp))) (fun z hz=>h2 z (by simp [hz]))
theorem dep_in : ∀ (d : Nat) (v : IVal),0≤depV d v∧depV d v≤d:=by
 intro d
 induction d with
 | zero=>intro v;simp [depV]
 | succ d ih =>
  intro v;unfold depV
  by_cases h4 : v.f0=4
  ·
   rw [if_pos h4]
   cases itS v.f2.size v.f2 with
   | none=>simp only;omega
   | some l =>
    have:=fold_in d (l.map (depV d)) 0 (by omega) (fun y hy=>by
     obtain ⟨x,_,rfl⟩:=List.mem_map.1 hy
     exact ih x)
    simp only;omega
  rw [if_neg h4]
  by_cases h5 : v.f0=5
  ·
   rw [if_pos h5]
   cases fdS v.f2.size v.f2 with
   | none=>simp only;omega
   | some l =>
    have:=fold_in d (l.map (fun f=>depV d f.f1)) 0 (by omega) (fun y hy=>by
     obtain ⟨x,_,rfl⟩:=List.mem_map.1 hy
     exact ih x.f1)
    simp only;omega
  rw [if_neg h5];omega
theorem dep_loop (l : List IVal) (d : Nat) (hd : d≤1000) (hl : l.length≤1048576) (h : ∀ x ∈ l,Eve (fun k=>F5.f k x.f0 x.f1 x.f2) (depV d x)) : Eve (fun k=>F5.l0 k 0 l (l.length : Int) 0) ((l.map (depV d)).foldl mx 0+1):=by
 refine (ev_loop0 l (fun k (x : Int) i=>F5.l0 k x l (l.length : Int) i) (fun _ x r=>(r.map (depV d)).foldl mx x+1) (fun _ x=>0≤x∧x≤d) (fun x hx=>?_) (fun i hi x hx ih2=>?_) 0 (by omega))
 ·
  simp only [F5.l0]
  refine Eve.ite (fun h=>absurd h (by omega)) (fun _=>Eve.one.eq ?_);rw [w64 (by omega) (by omega)];rfl
 simp only [F5.l0,rdV l i hi,wi (show i≤9223372036854775806 by omega)];refine Eve.ite (fun _=>?_) (fun h=>absurd (by omega) h);refine Eve.ite (fun _=>?_) (fun h=>absurd (by omega) h);refine Eve.ite (fun _=>?_) (fun h=>absurd (by omega) h);refine Eve.bind (h l[i] (List.getElem_mem hi)) ?_;exact ih2 _ (mx_in hx (dep_in d l[i]))
theorem dep_nest (v : IVal) (d : Nat) (l : List IVal) (ok : Bool) (hd : d≤1000) (h45 : v.f0=4∨v.f0=5) (hin : Eve (fun k=>F3.f k v.f0 v.f1 v.f2) (l,ok)) (hl : l.length≤1048576)
  (hq : ∀ x ∈ l,Eve (fun k=>F5.f k x.f0 x.f1 x.f2) (depV d x)) : Eve (fun k=>F5.f k v.f0 v.f1 v.f2) ((l.map (depV d)).foldl mx 0+1):=by
 have hj : Eve (fun k=>F5.j0 k false v.f0 v.f1 v.f2) ((l.map (depV d)).foldl mx 0+1):=by
  refine Eve.succ ?_;simp only [F5.j0,Bool.false_eq_true,if_false];refine Eve.bind hin ?_;refine Eve.ite (fun _=>dep_loop l d hd hl hq) (fun h=>Eve.one.eq ?_);have : l=[]:=List.length_eq_zero_iff.1 (by simp only at h;omega);rw [this];rfl
 refine Eve.succ ?_;simp only [F5.f];rcases h45 with h|h
 ·
  simp only [if_pos h];exact hj
 have h4 : ¬ v.f0=4:=by omega
 have h5 : (v.f0 != 5)=false:=by rw [h];rfl
 simp only [if_neg h4,h5];exact hj
theorem dep_impl : ∀ (d : Nat) (v : IVal),d≤1000→v.f2.size≤1048576→rightV d v=true→Eve (fun k=>F5.f k v.f0 v.f1 v.f2) (depV d v):=by
 intro d
 have flat0 : ∀ (v : IVal),v.f0≠4→v.f0≠5→Eve (fun k=>F5.f k v.f0 v.f1 v.f2) 0:=by
  intro v h4 h5;refine Eve.succ ?_;have h5' : (v.f0 != 5)=true:=by simpa using h5
  simp only [F5.f,if_neg h4,h5'];refine Eve.succ ?_;simp only [F5.j0,if_true];exact Eve.one
 induction d with
 | zero =>
  intro v hd hs h;refine flat0 v (fun h4=>?_) (fun h5=>?_)
  ·
   obtain ⟨e,_,he,_⟩:=right_four h h4;cases he
  obtain ⟨e,_,he,_⟩:=right_five h h5;cases he
 | succ d ih =>
  intro v hd hs h
  by_cases h4 : v.f0=4
  ·
   obtain ⟨e,l,he,hi,hr⟩:=right_four h h4
   obtain rfl : d=e:=by omega
   obtain ⟨l2,ok,hin,hl,hsz,hc⟩:=inner_four v h4 hs;rw [hi] at hc
   have hl2 : l=l2:=by
    rcases hc with ⟨e,_⟩|⟨e,_⟩
    ·
     simpa using e
    simp at e
   subst hl2;refine (dep_nest v d l ok (by omega) (.inl h4) hin hl (fun x hx=>ih x (by omega) (hsz x hx) (List.all_eq_true.1 hr _ hx))).eq ?_;unfold depV;rw [if_pos h4,hi]
  by_cases h5 : v.f0=5
  ·
   obtain ⟨e,fs,he,hi,_,hr⟩:=right_five h h5
   obtain rfl : d=e:=by omega
   obtain ⟨l2,ok,hin,hl,hsz,hc⟩:=inner_five v h5 hs;rw [hi] at hc
   have hl2 : l2=fs.map (·.f1):=by
    rcases hc with ⟨f2,e,e2,_⟩|⟨e,_⟩
    ·
     obtain rfl : fs=f2:=by simpa using e
     exact e2
    simp at e
   subst hl2;refine (dep_nest v d _ ok (by omega) (.inr h5) hin hl (fun x hx=>ih x (by omega) (hsz x hx) ?_)).eq ?_
   ·
    obtain ⟨f,hf,rfl⟩:=List.mem_map.1 hx
    exact List.all_eq_true.1 hr f hf
   unfold depV;rw [if_neg h4,if_pos h5,hi,List.map_map];rfl
  unfold depV;rw [if_neg h4,if_neg h5];exact flat0 v h4 h5
theorem bytes_cut (a : ByteArray) (i j : Nat) : bytesOf (a.extract i j)=((bytesOf a).drop i).take (j - i):=by
 unfold bytesOf;rw [ByteArray.data_extract,Array.toList_extract,List.map_take,List.map_drop] <;> rfl
theorem bytes_inj {a b : ByteArray} (h : bytesOf a=bytesOf b) : a=b:=by
 have h2 : a.data.toList=b.data.toList:=by
  refine (List.map_inj_right (fun x y hxy=>?_)).1 h;exact UInt8.toNat_inj.1 (by exact_mod_cast hxy)
 cases a;cases b
 simp only [ByteArray.mk.injEq];exact Array.toList_inj.1 h2
theorem stp_zero (b : Int) (h : 0≤b∧b≤255) : stp 0 b=0*256+b:=by
 unfold stp;rw [w64m,w64m,w64m]
 omega
theorem str_app (a b : List Int) : strOfNums (a++b)=strOfNums a++strOfNums b:=by
 apply ba_ext;rw [ba_toList,ba_toList,ByteArray.data_append,Array.toList_append,strOfNums_data,strOfNums_data,strOfNums_data,List.map_append]
theorem str_bytes (s : ByteArray) : strOfNums (bytesOf s)=s:=by
 apply ba_ext;rw [ba_toList,ba_toList,strOfNums_data,bytesOf,List.map_map]
 conv=>rhs;rw [← List.map_id s.data.toList]
 refine List.map_congr_left (fun b _=>?_);show UInt8.ofNat ((b.toNat : Int)).toNat=b;rw [Int.toNat_natCast];exact UInt8.ofNat_toNat
theorem bytes_str (l : List Int) (h : ∀ b ∈ l,0≤b∧b≤255) : bytesOf (strOfNums l)=l:=by
 rw [bytesOf,strOfNums_data,List.map_map]
 conv=>rhs;rw [← List.map_id l]
 refine List.map_congr_left (fun b hb=>?_);have:=h b hb;show (((UInt8.ofNat b.toNat).toNat : Nat) : Int)=b;rw [UInt8.toNat_ofNat']
 omega
abbrev Byts (l : List Int) : Prop:=∀ b ∈ l,0≤b∧b≤255
theorem byts_app {a b : List Int} (ha : Byts a) (hb : Byts b) : Byts (a++b):=fun x hx=>(List.mem_append.1 hx).elim (ha x) (hb x)
theorem bt_of (l : List Int) (hl : Byts l) (i : Nat) (h : i<l.length) : bt (strOfNums l) (i : Int)=l[i]:=by
 have hz:=bytes_str l hl;have:=bt_get (strOfNums l) i (by rw [hz];exact h);simp only [hz] at this;exact this
theorem ext_of (l : List Int) (hl : Byts l) (i j : Nat) : (strOfNums l).extract i j=strOfNums ((l.drop i).take (j - i)):=by
 apply bytes_inj;rw [bytes_cut,bytes_str l hl,bytes_str _ (fun b hb=>hl b (List.mem_of_mem_drop (List.mem_of_mem_take hb)))]
theorem tail_of (l : List Int) (hl : Byts l) (i : Nat) : (strOfNums l).extract i (strOfNums l).size=strOfNums (l.drop i):=by
 rw [ext_of l hl,strOfNums_size,List.take_of_length_le (by simp)]
theorem filled {α : Type} (ys : List α) (n : Nat) (c : Nat→α) (h1 : ys.length=n) (h2 : ∀ j,j<n→ys[j]? = some (c j)) : ys=(List.range n).map c:=by
 apply List.ext_getElem?
 intro j
 by_cases hj : j<n
 ·
  rw [h2 j hj];simp [hj]
 rw [List.getElem?_eq_none (by omega),List.getElem?_eq_none (by simp;omega)]
theorem fill_next {α : Type} (ys : List α) (i : Nat) (c : Nat→α) (h1 : i<ys.length) (h2 : ∀ j,j<i→ys[j]? = some (c j)) : ∀ j,j<i+1→(ys.set i (c i))[j]? = some (c j):=by
 intro j hj
 by_cases h : j=i
 ·
  subst h;simp [h1]
 rw [List.getElem?_set_ne (by omega)];exact h2 j (by omega)
def Shape (v : IVal) : Prop :=
 (v.f0=0∧v.f1=0∧v.f2=eB)∨(v.f0=1∧(0≤v.f1∧v.f1≤1)∧v.f2=eB)∨(v.f0=2∧(-1000000000000≤v.f1∧v.f1≤1000000000000)∧v.f2=eB)∨((3≤v.f0∧v.f0≤5)∧v.f1=0∧v.f2.size≤300)
theorem em_is {a : ByteArray} (h : emB a=true) : a=eB:=ba_ext (by rw [show a.toList=([] : List UInt8) from eq_of_beq h,ba_toList])
theorem flat_shape {v : IVal} (h : flat v=true) : Shape v:=by
 unfold flat at h;unfold Shape
 by_cases q0 : v.f0=0
 ·
  rw [if_pos q0,Bool.and_eq_true,decide_eq_true_eq] at h
  exact .inl ⟨q0,h.1,em_is h.2⟩
 rw [if_neg q0] at h
 by_cases q1 : v.f0=1
 ·
  rw [if_pos q1,Bool.and_eq_true] at h
  have h1:=h.1;unfold inr at h1;rw [Bool.and_eq_true,decide_eq_true_eq,decide_eq_true_eq] at h1;exact .inr (.inl ⟨q1,h1,em_is h.2⟩)
 rw [if_neg q1] at h
 by_cases q2 : v.f0=2
 ·
  rw [if_pos q2,Bool.and_eq_true] at h
  have h1:=h.1;unfold inr at h1;rw [Bool.and_eq_true,decide_eq_true_eq,decide_eq_true_eq] at h1;exact .inr (.inr (.inl ⟨q2,h1,em_is h.2⟩))
 rw [if_neg q2] at h
 by_cases q3 : v.f0=3
 ·
  rw [if_pos q3,Bool.and_eq_true,decide_eq_true_eq,decide_eq_true_eq] at h
  exact .inr (.inr (.inr ⟨by omega,h.1,by omega⟩))
 rw [if_neg q3] at h;cases h
theorem right_shape : ∀ (d : Nat) (v : IVal),rightV d v=true→Shape v:=by
 intro d v h
 cases d with
 | zero=>exact flat_shape h
 | succ d =>
  unfold rightV at h
  by_cases h4 : v.f0=4
  ·
   rw [if_pos h4,Bool.and_eq_true,Bool.and_eq_true,decide_eq_true_eq,decide_eq_true_eq] at h
   exact .inr (.inr (.inr ⟨by omega,h.1,by omega⟩))
  rw [if_neg h4] at h
  by_cases h5 : v.f0=5
  ·
   rw [if_pos h5,Bool.and_eq_true,Bool.and_eq_true,decide_eq_true_eq,decide_eq_true_eq] at h
   exact .inr (.inr (.inr ⟨by omega,h.1,by omega⟩))
  rw [if_neg h5] at h;exact flat_shape h
def dig (x : Int) : Nat→List Int
 | 0 => []
 | m+1=>(shr .i64 x (8*(m : Int)) % 256) :: dig x m
theorem dig_in (x : Int) : ∀ m,∀ b ∈ dig x m,0≤b∧b≤255
 | 0=>fun b hb=>by simp [dig] at hb
 | m+1=>fun b hb=>by
  rcases List.mem_cons.1 hb with rfl|hb
  ·
   omega
  exact dig_in x m b hb
theorem dig_length (x : Int) : ∀ m,(dig x m).length=m
 | 0=>rfl
 | m+1=>by rw [dig,List.length_cons,dig_length x m]
theorem pow_eight (m : Nat) : (2 : Int) ^ (8*(m+1))=2 ^ (8*m)*256:=by
 rw [show 8*(m+1)=8*m+1+1+1+1+1+1+1+1 by omega];simp only [Int.pow_succ,Int.mul_assoc]
 rfl
theorem pow_at (m : Nat) : (0 : Int)<2 ^ (8*m):=by
 induction m with
 | zero=>decide
 | succ m ih=>rw [pow_eight];omega
theorem shr_at (x : Int) (m : Nat) (h : m≤8) : shr .i64 x (8*(m : Int))=x / 2 ^ (8*m):=by
 unfold shr;have e1 : (8*(m : Int)).toNat=8*m:=by omega
 have e2 : min (8*m) (IntKind.bits .i64)=8*m:=Nat.min_eq_left (by show 8*m≤64;omega);rw [e1,e2]
theorem shr_zero (x : Int) : shr .i64 x (8*((0 : Nat) : Int))=x:=by rw [shr_at x 0 (by omega)];simp
theorem stp_back (y : Int) (h0 : 0≤y) (h1 : y<9223372036854775808) : stp (y / 256) (y % 256)=y:=by
 unfold stp;rw [w64m,w64m,w64m]
 omega
theorem fold_dig (x : Int) (h0 : 0≤x) (h1 : x<9223372036854775808) : ∀ m : Nat,m≤8→(dig x m).foldl stp (x / 2 ^ (8*m))=x
 | 0,_=>by simp [dig]
 | m+1,h=>by
  have hp:=pow_at m;have hy0 : 0≤x / 2 ^ (8*m):=Int.ediv_nonneg h0 (by omega);have hy1 : x / 2 ^ (8*m)≤x:=Int.ediv_le_self _ h0;rw [dig,List.foldl_cons,shr_at x m (by omega),pow_eight,← Int.ediv_ediv_of_nonneg (by omega),stp_back _ hy0 (by omega)];exact fold_dig x h0 h1 m (by omega)
theorem big_dig (x : Int) (h0 : 0≤x) (h1 : x<9223372036854775808) : bigV (dig x 8)=x:=by
 have:=fold_dig x h0 h1 8 (by omega)
 rw [show x / 2 ^ (8*8)=0 from by
  have : (2 : Int) ^ (8*8)=18446744073709551616:=by decide
  rw [this];omega] at this
 exact this
theorem u64_at (m : Nat) (h : m≤8) : IntKind.u64.wrap (wrap64 (8*(m : Int)))=8*(m : Int):=by
 rw [w64 (by omega) (by omega)];rw [show IntKind.u64.wrap (8*(m : Int))=(8*(m : Int)) % 18446744073709551616 from rfl]
 omega
theorem number_loop (x : Int) : ∀ (m : Nat) (acc : List Int),m≤8→acc.length+m≤100→Eve (fun k=>F9.l0 k x acc ((m : Int) - 1)) (strOfNums (acc++dig x m)):=by
 intro m
 induction m with
 | zero =>
  intro acc _ _;refine Eve.succ ?_;simp only [F9.l0];exact Eve.ite (fun h=>absurd h (by omega)) (fun _=>Eve.one.eq (by simp [dig]))
 | succ m ih =>
  intro acc h1 h2;refine Eve.succ ?_;simp only [F9.l0,show ((m+1 : Nat) : Int) - 1=(m : Int) by omega,u64_at m (by omega),w64 (show -9223372036854775808≤(m : Int) - 1 by omega) (by omega)];refine Eve.ite (fun _=>?_) (fun h=>absurd (by omega) h);refine Eve.ite (fun _=>?_) (fun h=>absurd (by omega) h);refine Eve.ite (fun _=>?_) (fun h=>absurd (by omega) h);exact (ih _ (by omega) (by simp;omega)).eq (by simp [dig])
theorem number_tells (x : Int) (n : Nat) (h : n≤8) : Eve (fun k=>F9.f k x (n : Int)) (strOfNums (dig x n)):=by
 simp only [F9.f,w64 (show -9223372036854775808≤(n : Int) - 1 by omega) (by omega)];exact (number_loop x n [] h (by simp;omega)).eq (by simp)
def dig8 (x : Int) (i : Nat) : Int:=shr .i64 x (56 - 8*(i : Int)) % 256
theorem eight_tells (x : Int) : Eve (fun k=>Fq.f k x) (dig x 8):=by
 simp only [Fq.f];refine Eve.ite (fun _=>?_) (fun h=>absurd (by decide) h);have hl : (List.replicate 8 (0 : Int)).length=8:=by simp
 have he : (List.range 8).map (dig8 x)=dig x 8:=rfl;refine ev_loop0 (List.replicate 8 (0 : Int)) (fun k (s : List Int) i=>Fq.l0 k x s i) (fun _ _ _=>dig x 8) (fun i s=>s.length=8 ∧ ∀ j,j<i→s[j]? = some (dig8 x j)) (fun s hs=>?_) (fun i hi s hs ih=>?_) (List.replicate 8 0) ⟨hl,by intro j hj;omega⟩
 ·
  simp only [Fq.l0]
  refine Eve.ite (fun h=>absurd h (by omega)) (fun _=>Eve.one.eq ?_);rw [← he];exact filled s 8 _ hs.1 (fun j hj=>hs.2 j (by omega))
 obtain ⟨h1,h2⟩:=hs;have hi8 : i<8:=by omega
 have e1 : wrap64 (8*(i : Int))=8*(i : Int):=w64 (by omega) (by omega);have e2 : wrap64 (56 - 8*(i : Int))=56 - 8*(i : Int):=w64 (by omega) (by omega);simp only [Fq.l0,e1,e2,Int.toNat_natCast,wi (show i≤9223372036854775806 by omega)];refine Eve.ite (fun _=>?_) (fun h=>absurd (by omega) h);refine Eve.ite (fun _=>?_) (fun h=>absurd (by omega) h);refine Eve.ite (fun _=>?_) (fun h=>absurd (by omega) h);refine Eve.ite (fun _=>?_) (fun h=>absurd (by omega) h);exact ih (s.set i (dig8 x i)) ⟨by simpa using h1,fill_next s i (dig8 x) (by omega) h2⟩
abbrev LVal:=S48

def iv (v : LVal) : IVal:=⟨v.f0,v.f1,v.f2⟩
theorem ival_ext {a b : IVal} (h0 : a.f0=b.f0) (h1 : a.f1=b.f1) (h2 : a.f2=b.f2) : a=b:=by cases a;cases b;simp_all
theorem szValue_tells (v : LVal) (h : v.f2.size≤9223372036854775807) {left : Int} (h0 : 0≤left) (h1 : left≤1048576) :
  F0g.f v.f0 v.f1 v.f2 left=some (if left - v.f2.size<0 then -1 else left - v.f2.size):=by
 unfold F0g.f;rw [w64 (by omega) (by omega)]
 split <;> rfl
theorem toValue_tells (v : LVal) : F0i.f v.f0 v.f1 v.f2=some (v.f0,v.f1,v.f2):=rfl
end Go.Proofs.Ytoinoihiknmnmaa.Pure
end
section

end
section
namespace Go.Proofs.Ytoinoihiknmnmaa.Pure
open Go Go.RowKit Go.Proofs.Ytoinoihiknmnmaa.Q Go.Proofs.YtoinoihiknmnmaaW.PrintWords Go.Proofs.YtoinoihiknmnmaaW.PrintLast Go.Proofs.YtoinoihiknmnmaaW.PrintMore Go.Proofs.YtoinoihiknmnmaaW.Pl
def encB (v : IVal) : List Int :=
 if v.f0=0 then [0] else if v.f0=1 then [1,v.f1] else if v.f0=2 then 2 :: dig (v.f1+4611686018427387904) 8
 else v.f0 :: ((v.f2.size : Int) / 256 % 256) :: ((v.f2.size : Int) % 256) :: bytesOf v.f2
theorem enc_in {v : IVal} (h : Shape v) : ∀ b ∈ encB v,0≤b∧b≤255:=by
 unfold encB;rcases h with ⟨h,_⟩|⟨h,h1,_⟩|⟨h,_⟩|⟨h,_,hz⟩
 ·
  rw [if_pos h];intro b hb;simp at hb;omega
 ·
  rw [if_neg (by omega),if_pos h];intro b hb;simp at hb;omega
 ·
  rw [if_neg (by omega),if_neg (by omega),if_pos h]
  intro b hb;rcases List.mem_cons.1 hb with rfl|hb
  ·
   omega
  exact dig_in _ _ b hb
 rw [if_neg (by omega),if_neg (by omega),if_neg (by omega)];intro b hb;rcases List.mem_cons.1 hb with rfl|hb
 ·
  omega
 rcases List.mem_cons.1 hb with rfl|hb
 ·
  omega
 rcases List.mem_cons.1 hb with rfl|hb
 ·
  omega
 exact bytes_in _ b hb
theorem enc_length {v : IVal} (h : Shape v) : 1≤(encB v).length∧(encB v).length≤303:=by
 unfold encB;rcases h with ⟨h,_⟩|⟨h,h1,_⟩|⟨h,_⟩|⟨h,_,hz⟩
 ·
  rw [if_pos h];simp
 ·
  rw [if_neg (by omega),if_pos h];simp
 ·
  rw [if_neg (by omega),if_neg (by omega),if_pos h];simp [dig_length]
 rw [if_neg (by omega),if_neg (by omega),if_neg (by omega)];simp only [List.length_cons,bytesOf_length];omega
theorem enc_tells {v : IVal} (h : Shape v) : Eve (fun k=>Fz.f k v.f0 v.f1 v.f2) (strOfNums (encB v)):=by
 have n1 : ∀ x : Int,0≤x→x≤255→dig x 1=[x]:=by
  intro x h0 h1;show [shr .i64 x (8*((0 : Nat) : Int)) % 256]=[x];rw [shr_zero,show x % 256=x by omega]
 simp only [Fz.f]
 have hk : 0≤v.f0∧v.f0≤5:=by
  rcases h with ⟨h,_⟩|⟨h,_⟩|⟨h,_⟩|⟨h,_⟩ <;> omega
 have t1:=number_tells v.f0 1 (by omega);rw [n1 _ hk.1 (by omega)] at t1;refine Eve.bind t1 ?_;unfold encB;rcases h with ⟨h,_⟩|⟨h,h1,_⟩|⟨h,h1,_⟩|⟨h,_,hz⟩
 ·
  rw [if_pos h]
  simp only [h,if_true];exact Eve.one
 ·
  rw [if_neg (show ¬ v.f0=0 by omega),if_pos h]
  refine Eve.ite (fun h=>absurd h (by omega)) (fun _=>Eve.ite (fun _=>?_) (fun h2=>absurd h h2));have t2:=number_tells v.f1 1 (by omega);rw [n1 _ h1.1 (by omega)] at t2;refine Eve.bind t2 ?_;simp only [strOfNums_size,List.length_cons,List.length_nil];refine Eve.ite (fun _=>Eve.one.eq ?_) (fun h=>absurd (by omega) h);rw [← str_app,h];rfl
 ·
  rw [if_neg (show ¬ v.f0=0 by omega),if_neg (show ¬ v.f0=1 by omega),if_pos h]
  refine Eve.ite (fun h=>absurd h (by omega)) (fun _=>Eve.ite (fun h=>absurd h (by omega)) (fun _=>Eve.ite (fun _=>?_) (fun h2=>absurd h h2)));rw [show wrap64 (v.f1+4611686018427387904)=v.f1+4611686018427387904 from w64 (by omega) (by omega)];refine Eve.bind (number_tells _ 8 (by omega)) ?_;simp only [strOfNums_size,List.length_cons,List.length_nil,dig_length];refine Eve.ite (fun _=>Eve.one.eq ?_) (fun h=>absurd (by omega) h);rw [← str_app,h];rfl
 rw [if_neg (show ¬ v.f0=0 by omega),if_neg (show ¬ v.f0=1 by omega),if_neg (show ¬ v.f0=2 by omega)];refine Eve.ite (fun h=>absurd h (by omega)) (fun _=>Eve.ite (fun h=>absurd h (by omega)) (fun _=>Eve.ite (fun h=>absurd h (by omega)) (fun _=>?_)));have t2:=number_tells (v.f2.size : Int) 2 (by omega)
 have e2 : dig (v.f2.size : Int) 2=[(v.f2.size : Int) / 256 % 256,(v.f2.size : Int) % 256]:=by
  show [shr .i64 (v.f2.size : Int) (8*((1 : Nat) : Int)) % 256,shr .i64 (v.f2.size : Int) (8*((0 : Nat) : Int)) % 256]=_;rw [shr_zero,shr_at _ 1 (by omega)];rfl
 rw [e2] at t2;refine Eve.bind t2 ?_;simp only [ByteArray.size_append,strOfNums_size,List.length_cons,List.length_nil];refine Eve.ite (fun _=>Eve.ite (fun _=>Eve.one.eq ?_) (fun h=>absurd (by omega) h)) (fun h=>absurd (by omega) h);rw [← str_app]
 conv=>lhs;rw [← str_bytes v.f2]
 rw [← str_app,str_bytes];rfl
theorem head_of (v : IVal) (h : Shape v) (r : List Int) (hr : Byts r) : bt (strOfNums (encB v++r)) 0=v.f0:=by
 have hb:=byts_app (enc_in h) hr;have hlen:=enc_length h;have:=bt_of _ hb 0 (by simp;omega);rw [show ((0 : Nat) : Int)=0 from rfl] at this;rw [this];unfold encB;rcases h with ⟨h,_⟩|⟨h,_⟩|⟨h,_⟩|⟨h,_⟩
 ·
  simp [h]
 ·
  simp [h]
 ·
  simp [h]
 rw [List.getElem_append_left (by rw [if_neg (show ¬ v.f0=0 by omega),if_neg (show ¬ v.f0=1 by omega),if_neg (show ¬ v.f0=2 by omega)];simp)];simp only [if_neg (show ¬ v.f0=0 by omega),if_neg (show ¬ v.f0=1 by omega),if_neg (show ¬ v.f0=2 by omega),List.getElem_cons_zero]
theorem read_0 (v : IVal) (h : v.f0=0) (h1 : v.f1=0) (h2 : v.f2=eB) (r : List Int) (hb : Byts (encB v++r)) (h0 : bt (strOfNums (encB v++r)) 0=v.f0) (hs : (strOfNums (encB v++r)).size=(encB v).length+r.length) (hlen : 1≤(encB v).length) : nxtV (strOfNums (encB v++r))=some (v,strOfNums r):=by
 unfold nxtV;rw [if_neg (by omega),h0];have he : encB v=[0]:=by unfold encB;rw [if_pos h]
 rw [if_pos h,tail_of _ hb,he];simp only [List.cons_append,List.nil_append,List.drop_succ_cons,List.drop_zero];rw [show (⟨0,0,eB⟩ : IVal)=v from ival_ext h.symm h1.symm h2.symm]
theorem read_1 (v : IVal) (h : v.f0=1) (_h1 : 0≤v.f1∧v.f1≤1) (h2 : v.f2=eB) (r : List Int) (hb : Byts (encB v++r)) (h0 : bt (strOfNums (encB v++r)) 0=v.f0) (hs : (strOfNums (encB v++r)).size=(encB v).length+r.length) (hlen : 1≤(encB v).length) : nxtV (strOfNums (encB v++r))=some (v,strOfNums r):=by
 unfold nxtV;rw [if_neg (by omega),h0];have he : encB v=[1,v.f1]:=by unfold encB;rw [if_neg (show ¬ v.f0=0 by omega),if_pos h]
 have b1 : bt (strOfNums (encB v++r)) 1=v.f1:=by
  have:=bt_of _ hb 1 (by rw [he];simp);rw [show ((1 : Nat) : Int)=1 from rfl] at this;rw [this];simp [he]
 rw [if_neg (show ¬ v.f0=0 by omega),if_pos h,if_neg (by rw [hs,he];simp),b1,tail_of _ hb,he];simp only [List.cons_append,List.nil_append,List.drop_succ_cons,List.drop_zero];rw [show (⟨1,v.f1,eB⟩ : IVal)=v from ival_ext h.symm rfl h2.symm]
theorem read_2 (v : IVal) (h : v.f0=2) (h1 : -1000000000000≤v.f1∧v.f1≤1000000000000) (h2 : v.f2=eB) (r : List Int) (hb : Byts (encB v++r)) (h0 : bt (strOfNums (encB v++r)) 0=v.f0) (hs : (strOfNums (encB v++r)).size=(encB v).length+r.length) (hlen : 1≤(encB v).length) : nxtV (strOfNums (encB v++r))=some (v,strOfNums r):=by
 unfold nxtV;rw [if_neg (by omega),h0];obtain ⟨x,hx⟩ : ∃ x,x=v.f1+4611686018427387904:=⟨_,rfl⟩;have he : encB v=2 :: dig x 8:=by unfold encB;rw [if_neg (show ¬ v.f0=0 by omega),if_neg (show ¬ v.f0=1 by omega),if_pos h,← hx]
 have b1 : bt (strOfNums (encB v++r)) 1≤127:=by
  have:=bt_of _ hb 1 (by rw [he];simp [dig_length];omega);rw [show ((1 : Nat) : Int)=1 from rfl] at this;rw [this];have e : (encB v++r)[1]'(by rw [he];simp [dig_length];omega)=(dig x 8)[0]'(by rw [dig_length];omega):=by simp [he,List.getElem_append_left,dig_length]
  have e2 : (dig x 8)[0]'(by rw [dig_length];omega)=shr .i64 x (8*((7 : Nat) : Int)) % 256:=rfl;rw [e,e2,shr_at _ 7 (by omega),show (2 : Int) ^ (8*7)=72057594037927936 by decide]
  omega
 have e9 : (strOfNums (encB v++r)).extract 1 9=strOfNums (dig x 8):=by
  rw [ext_of _ hb,he];simp only [List.cons_append,List.drop_succ_cons,List.drop_zero];rw [List.take_append_of_le_length (by rw [dig_length];omega),List.take_of_length_le (by rw [dig_length];omega)]
 rw [if_neg (show ¬ v.f0=0 by omega),if_neg (show ¬ v.f0=1 by omega),if_pos h,if_neg (by rw [hs,he];simp [dig_length]),if_neg (by omega),e9,bytes_str _ (dig_in _ _),big_dig _ (by omega) (by omega),tail_of _ hb,he,
  w64 (show -9223372036854775808≤x - 4611686018427387904 by omega) (by omega)]
 simp only [List.cons_append,List.drop_succ_cons];rw [List.drop_left' (dig_length _ 8),show (⟨2,x - 4611686018427387904,eB⟩ : IVal)=v from ival_ext h.symm (by show x - 4611686018427387904=v.f1;omega) h2.symm]
def enc3 (v : IVal) : List Int:=v.f0 :: ((v.f2.size : Int) / 256 % 256) :: ((v.f2.size : Int) % 256) :: bytesOf v.f2
theorem enc3_is (v : IVal) (h : 3≤v.f0∧v.f0≤5) : encB v=enc3 v:=by
 unfold encB;rw [if_neg (show ¬ v.f0=0 by omega),if_neg (show ¬ v.f0=1 by omega),if_neg (show ¬ v.f0=2 by omega)];rfl
theorem enc3_len (v : IVal) : (enc3 v).length=3+v.f2.size:=by unfold enc3;simp only [List.length_cons,bytesOf_length];omega
theorem two_big (n : Nat) (hz : n≤300) : stp (stp 0 ((n : Int) / 256 % 256)) ((n : Int) % 256)=n:=by
 rw [stp_zero _ (by omega),show 0*256+(n : Int) / 256 % 256=(n : Int) / 256 by omega,stp_back _ (by omega) (by omega)]
theorem enc3_two (v : IVal) (r : List Int) : ((enc3 v++r).drop 1).take (3 - 1)=[(v.f2.size : Int) / 256 % 256,(v.f2.size : Int) % 256]:=by
 simp only [enc3,List.cons_append,List.drop_succ_cons,List.drop_zero,show 3 - 1=1+1 from rfl,List.take_succ_cons,List.take_zero]
theorem two_bytes (n : Nat) : bytesOf (strOfNums [(n : Int) / 256 % 256,(n : Int) % 256])=[(n : Int) / 256 % 256,(n : Int) % 256]:=by
 rw [bytes_str _ (by intro b hb;simp only [List.mem_cons,List.not_mem_nil,or_false] at hb;omega)]
theorem big_two (x y : Int) : bigV [x,y]=stp (stp 0 x) y:=by
 simp only [bigV,List.foldl_cons,List.foldl_nil]
theorem enc3_big (v : IVal) (hz : v.f2.size≤300) (r : List Int) (hb : Byts (enc3 v++r)) : bigV (bytesOf ((strOfNums (enc3 v++r)).extract 1 3))=(v.f2.size : Int):=by
 rw [ext_of _ hb,enc3_two,two_bytes,big_two,two_big _ hz]
theorem enc3_text (v : IVal) (r : List Int) (hb : Byts (enc3 v++r)) : (strOfNums (enc3 v++r)).extract 3 (3+v.f2.size)=v.f2:=by
 rw [ext_of _ hb];have e : (enc3 v++r).drop 3=bytesOf v.f2++r:=rfl;rw [e,show 3+v.f2.size - 3=(bytesOf v.f2).length by rw [bytesOf_length];omega,List.take_left,str_bytes]
theorem enc3_rest (v : IVal) (r : List Int) (hb : Byts (enc3 v++r)) : (strOfNums (enc3 v++r)).extract (3+v.f2.size) (strOfNums (enc3 v++r)).size=strOfNums r:=by
 rw [tail_of _ hb,← enc3_len v,List.drop_left]
theorem read_3 (v : IVal) (h : 3≤v.f0∧v.f0≤5) (h1 : v.f1=0) (hz : v.f2.size≤300) (r : List Int) (hb : Byts (encB v++r)) (h0 : bt (strOfNums (encB v++r)) 0=v.f0) (hs : (strOfNums (encB v++r)).size=(encB v).length+r.length) (_hlen : 1≤(encB v).length) : nxtV (strOfNums (encB v++r))=some (v,strOfNums r):=by
 rw [enc3_is v h] at *;have e3:=enc3_big v hz r hb;have e4:=enc3_text v r hb;have e5:=enc3_rest v r hb;have hn:=enc3_len v;generalize strOfNums (enc3 v++r)=a at *;have en : (3+(v.f2.size : Int)).toNat=3+v.f2.size:=by omega
 unfold nxtV;rw [if_neg (by omega),h0];rw [if_neg (show ¬ v.f0=0 by omega),if_neg (show ¬ v.f0=1 by omega),if_neg (show ¬ v.f0=2 by omega),if_pos (by omega),e3,en,e4,e5,if_neg (by omega),if_neg (by omega)];rw [show (⟨v.f0,0,v.f2⟩ : IVal)=v from ival_ext rfl h1.symm rfl]
theorem read_back (v : IVal) (h : Shape v) (r : List Int) (hr : Byts r) : nxtV (strOfNums (encB v++r))=some (v,strOfNums r):=by
 have hb:=byts_app (enc_in h) hr;have hlen:=enc_length h;have h0:=head_of v h r hr;have hs : (strOfNums (encB v++r)).size=(encB v).length+r.length:=by rw [strOfNums_size,List.length_append]
 rcases h with ⟨h,h1,h2⟩|⟨h,h1,h2⟩|⟨h,h1,h2⟩|⟨h,h1,hz⟩
 ·
  exact read_0 v h h1 h2 r hb h0 hs hlen.1
 ·
  exact read_1 v h h1 h2 r hb h0 hs hlen.1
 ·
  exact read_2 v h h1 h2 r hb h0 hs hlen.1
 exact read_3 v h h1 hz r hb h0 hs hlen.1
def encL (l : List IVal) : List Int:=l.flatMap encB
theorem put_tells (acc : List Int) {v : IVal} (h : Shape v) (ha : acc.length≤1048576) : Eve (fun k=>Fx.f k acc v.f0 v.f1 v.f2) (acc++encB v):=by
 simp only [Fx.f,Option.bind_some,List.length_append,List.length_cons,List.length_nil,List.append_assoc,List.cons_append,List.nil_append];refine Eve.ite (fun _=>?_) (fun h=>absurd (by omega) h);unfold encB;rcases h with ⟨h,_⟩|⟨h,h1,_⟩|⟨h,h1,_⟩|⟨h,_,hz⟩
 ·
  rw [if_pos h]
  simp only [h];exact Eve.one
 ·
  rw [if_neg (show ¬ v.f0=0 by omega),if_pos h]
  simp only [h,if_true];refine Eve.ite (fun _=>Eve.one.eq ?_) (fun h=>absurd (by omega) h);rw [show v.f1 % 256=v.f1 by omega];rfl
 ·
  rw [if_neg (show ¬ v.f0=0 by omega),if_neg (show ¬ v.f0=1 by omega),if_pos h]
  refine Eve.ite (fun h=>absurd h (by omega)) (fun _=>Eve.ite (fun _=>?_) (fun h2=>absurd h h2));rw [show wrap64 (v.f1+4611686018427387904)=v.f1+4611686018427387904 from w64 (by omega) (by omega)];refine Eve.bind (eight_tells _) ?_;refine Eve.ite (fun _=>Eve.one.eq (by rw [h];rfl)) (fun h=>absurd (by rw [dig_length];omega) h)
 rw [if_neg (show ¬ v.f0=0 by omega),if_neg (show ¬ v.f0=1 by omega),if_neg (show ¬ v.f0=2 by omega)];have hk : v.f0 % 256=v.f0:=by omega
 have fin : Eve (fun _=>if acc.length+(0+1)+(0+1+1)<140737488355328 then (if acc.length+(0+1+1+1)+v.f2.size<140737488355328 then some (acc++v.f0 % 256 :: (v.f2.size : Int) / 256 % 256 :: (v.f2.size : Int) % 256 :: bytesOf v.f2) else none) else none) (acc++v.f0 :: (v.f2.size : Int) / 256 % 256 :: (v.f2.size : Int) % 256 :: bytesOf v.f2) :=
  Eve.ite (fun _=>Eve.ite (fun _=>Eve.one.eq (by rw [hk])) (fun h=>absurd (by omega) h)) (fun h=>absurd (by omega) h)
 refine Eve.ite (fun h=>absurd h (by omega)) (fun _=>Eve.ite (fun h=>absurd h (by omega)) (fun _=>?_));exact Eve.ite (fun _=>fin) (fun _=>Eve.ite (fun _=>fin) (fun _=>Eve.ite (fun _=>fin) (fun h=>absurd (by omega) h)))
def fldB (f : IFld) : List Int:=((f.f0.size : Int) % 256) :: (bytesOf f.f0++encB f.f1)
def docB (l : List IFld) : List Int:=l.flatMap fldB
theorem docB_cons (f : IFld) (l : List IFld) : docB (f :: l)=fldB f++docB l:=List.flatMap_cons ..
theorem doc_impl (l : List IFld) (hS : ∀ f ∈ l,Shape f.f1) (hn : ∀ f ∈ l,f.f0.size≤12) (hl : l.length≤3000) : Eve (fun k=>Fg.f k l) (5,0,strOfNums (docB l)):=by
 simp only [Fg.f]
 have:=ev_loop0 l (fun k (acc : List Int) i=>Fg.l0 k acc l (l.length : Int) i) (fun _ acc r=>((5 : Int),(0 : Int),strOfNums (acc++docB r))) (fun i acc=>acc.length≤316*i) (fun acc _=>by
  simp only [Fg.l0]
  exact Eve.ite (fun h=>absurd h (by omega)) (fun _=>Eve.one.eq (by simp [docB]))) (fun i hi acc ha ih=>by
  have h1:=hS l[i] (List.getElem_mem hi);have h2:=hn l[i] (List.getElem_mem hi);have h3:=enc_length h1;simp only [Fg.l0,rdF l i hi,Option.bind_some,List.length_append,List.length_cons,List.length_nil,wi (show i≤9223372036854775806 by omega)];refine Eve.ite (fun _=>?_) (fun h=>absurd (by omega) h);refine Eve.ite (fun _=>?_) (fun h=>absurd (by omega) h);refine Eve.ite (fun _=>?_) (fun h=>absurd (by omega) h);refine Eve.ite (fun _=>?_) (fun h=>absurd (by omega) h);refine Eve.ite (fun _=>?_) (fun h=>absurd (by omega) h);refine Eve.bind (put_tells _ h1 (by simp only [List.length_append,List.length_cons,List.length_nil,bytesOf_length];omega)) ?_;refine (ih _ (by simp only [List.length_append,List.length_cons,List.length_nil,bytesOf_length];omega)).eq ?_;rw [docB_cons]
  simp only [fldB,List.append_assoc,List.cons_append,List.nil_append]) [] (by simp)
 simpa using this
theorem dig_one (x : Int) : dig x 1=[x % 256]:=by
 show [shr .i64 x (8*((0 : Nat) : Int)) % 256]=[x % 256];rw [shr_zero]
theorem strs (l : List Int) : (strOfNums l).size=l.length:=by
 unfold strOfNums;rw [← data_length];simp
theorem doc_spec (l : List IFld) (hS : ∀ f ∈ l,Shape f.f1) (hn : ∀ f ∈ l,f.f0.size≤12) (hl : l.length≤3000) : Eve (fun k=>Fk.f k l) (5,0,strOfNums (docB l)):=by
 simp only [Fk.f]
 have:=ev_loop0 l (fun k (acc : ByteArray) i=>Fk.l0 k l acc i) (fun _ acc r=>((5 : Int),(0 : Int),acc++strOfNums (docB r))) (fun i acc=>acc.size≤316*i) (fun acc _=>by
  simp only [Fk.l0];refine Eve.ite (fun h=>absurd h (by omega)) (fun _=>Eve.one.eq ?_);have : strOfNums (docB [])=ByteArray.empty:=rfl
  rw [this,ByteArray.append_empty]) (fun i hi acc ha ih=>by
  have h1:=hS l[i] (List.getElem_mem hi);have h2:=hn l[i] (List.getElem_mem hi);have h3:=enc_length h1;have h4:=number_tells (l[i].f0.size : Int) 1 (by omega);rw [dig_one] at h4;have h5 : (strOfNums [(l[i].f0.size : Int) % 256]).size=1:=by rw [strs];rfl
  have h6 : (strOfNums (encB l[i].f1)).size=(encB l[i].f1).length:=strs _;simp only [Fk.l0,rdF l i hi,wi (show i≤9223372036854775806 by omega)];refine Eve.ite (fun _=>?_) (fun h=>absurd (by omega) h);refine Eve.ite (fun _=>?_) (fun h=>absurd (by omega) h);refine Eve.bind h4 ?_;refine Eve.ite (fun _=>?_) (fun h=>absurd (by omega) h);refine Eve.bind (enc_tells h1) ?_;refine Eve.ite (fun _=>?_) (fun h=>absurd (by rw [ByteArray.size_append];omega) h);refine Eve.ite (fun _=>?_) (fun h=>absurd (by rw [ByteArray.size_append,ByteArray.size_append];omega) h);refine (ih _ (by rw [ByteArray.size_append,ByteArray.size_append,ByteArray.size_append];omega)).eq ?_
  have e : strOfNums (fldB l[i])=strOfNums [(l[i].f0.size : Int) % 256]++l[i].f0++strOfNums (encB l[i].f1):=by
   have : fldB l[i]=[(l[i].f0.size : Int) % 256]++bytesOf l[i].f0++encB l[i].f1:=by simp [fldB]
   rw [this,str_app,str_app,str_bytes]
  rw [docB_cons,str_app,e,ByteArray.append_assoc]) ⟨#[]⟩ (by simp [ByteArray.size])
 refine this.eq ?_;have : (⟨#[]⟩ : ByteArray)=ByteArray.empty:=rfl;rw [this,ByteArray.empty_append]
theorem fldB_in {f : IFld} (h : Shape f.f1) : Byts (fldB f):=by
 intro b hb;unfold fldB at hb;rcases List.mem_cons.1 hb with rfl|hb
 ·
  omega
 rcases List.mem_append.1 hb with hb|hb
 ·
  exact bytes_in _ b hb
 exact enc_in h b hb
theorem docB_in {l : List IFld} (h : ∀ f ∈ l,Shape f.f1) : Byts (docB l):=by
 intro b hb;obtain ⟨f,hf,hb⟩:=List.mem_flatMap.1 hb;exact fldB_in (h f hf) b hb
theorem docs_back : ∀ (l : List IFld) (m : Nat),(∀ f ∈ l,Shape f.f1)→(∀ f ∈ l,f.f0.size≤12)→(docB l).length≤m→fdS m (strOfNums (docB l))=some l
 | [],m,_,_,_=>by
  have hs : (strOfNums (docB [])).size=0:=by rw [strOfNums_size];rfl
  cases m <;> · unfold fdS;rw [if_pos hs]
 | f :: l,m,h,hn,hm=>by
  have hf:=h f (by simp);have hz:=hn f (by simp);have hr : ∀ g ∈ l,Shape g.f1:=fun g hg=>h g (by simp [hg]);have hnr : ∀ g ∈ l,g.f0.size≤12:=fun g hg=>hn g (by simp [hg])
  have e : docB (f :: l)=((f.f0.size : Int) % 256) :: (bytesOf f.f0++(encB f.f1++docB l)):=by
   rw [docB_cons];simp [fldB]
  have hb : Byts (((f.f0.size : Int) % 256) :: (bytesOf f.f0++(encB f.f1++docB l))):=e ▸ docB_in h;have hl:=enc_length hf;rw [e] at hm ⊢
  have hlen : (((f.f0.size : Int) % 256) :: (bytesOf f.f0++(encB f.f1++docB l))).length=1+f.f0.size+(encB f.f1).length+(docB l).length:=by
   simp only [List.length_cons,List.length_append,bytesOf_length];omega
  rw [hlen] at hm;obtain ⟨m,rfl⟩ : ∃ q,m=q+1:=⟨m - 1,by omega⟩
  have b0 : bt (strOfNums (((f.f0.size : Int) % 256) :: (bytesOf f.f0++(encB f.f1++docB l)))) 0=(f.f0.size : Int):=by
   have:=bt_of _ hb 0 (by simp);rw [show ((0 : Nat) : Int)=0 from rfl] at this;rw [this,List.getElem_cons_zero];omega
  have hsz : (strOfNums (((f.f0.size : Int) % 256) :: (bytesOf f.f0++(encB f.f1++docB l)))).size=1+f.f0.size+(encB f.f1).length+(docB l).length:=by rw [strOfNums_size,hlen]
  have hnm : (strOfNums (((f.f0.size : Int) % 256) :: (bytesOf f.f0++(encB f.f1++docB l)))).extract 1 (1+f.f0.size)=f.f0:=by
   rw [ext_of _ hb,List.drop_succ_cons,List.drop_zero,show 1+f.f0.size - 1=(bytesOf f.f0).length by rw [bytesOf_length];omega,List.take_left,str_bytes]
  have htl : (strOfNums (((f.f0.size : Int) % 256) :: (bytesOf f.f0++(encB f.f1++docB l)))).extract (1+f.f0.size) (strOfNums (((f.f0.size : Int) % 256) :: (bytesOf f.f0++(encB f.f1++docB l)))).size=strOfNums (encB f.f1++docB l):=by
   rw [tail_of _ hb,show 1+f.f0.size=f.f0.size+1 by omega,List.drop_succ_cons,show f.f0.size=(bytesOf f.f0).length by rw [bytesOf_length],List.drop_left]
  have hlen2:=hsz;generalize strOfNums (((f.f0.size : Int) % 256) :: (bytesOf f.f0++(encB f.f1++docB l)))=a at *;have en : (1+(f.f0.size : Int)).toNat=1+f.f0.size:=by omega
  unfold fdS;rw [if_neg (by omega),b0,if_neg (by omega),en,hnm,htl,read_back f.f1 hf _ (docB_in hr)];simp only [docs_back l m hr hnr (by omega),Option.map_some]
theorem fold_le (d : Int) : ∀ (l : List Int) (x : Int),l.foldl mx x≤d↔x≤d ∧ ∀ y ∈ l,y≤d
 | [],x=>by simp
 | y :: l,x=>by
  rw [List.foldl_cons,fold_le d l];have : mx x y≤d↔x≤d∧y≤d:=by unfold mx;split <;> omega
  rw [this];simp only [List.mem_cons,forall_eq_or_imp,and_assoc]
theorem flat_four {v : IVal} (h4 : v.f0=4∨v.f0=5) : flat v=false:=by
 unfold flat;rw [if_neg (by omega),if_neg (by omega),if_neg (by omega),if_neg (by omega)]
theorem right_dep : ∀ (d : Nat) (v : IVal),rightV (d+1) v=true→(rightV d v=true↔depV (d+1) v≤d):=by
 intro d
 induction d with
 | zero =>
  intro v h
  by_cases h4 : v.f0=4
  ·
   obtain ⟨e,l,_,hi,_⟩:=right_four h h4
   unfold depV;rw [if_pos h4,hi];have hf : rightV 0 v=false:=flat_four (.inl h4)
   have:=(fold_in 0 (l.map (depV 0)) 0 (by omega) (fun y hy=>by
    obtain ⟨x,_,rfl⟩:=List.mem_map.1 hy
    simp [depV])).1
   rw [hf];simp only [Bool.false_eq_true,false_iff];omega
  by_cases h5 : v.f0=5
  ·
   obtain ⟨e,l,_,hi,_,_⟩:=right_five h h5
   unfold depV;rw [if_neg h4,if_pos h5,hi];have hf : rightV 0 v=false:=flat_four (.inr h5)
   have:=(fold_in 0 (l.map (fun f=>depV 0 f.f1)) 0 (by omega) (fun y hy=>by
    obtain ⟨x,_,rfl⟩:=List.mem_map.1 hy
    simp [depV])).1
   rw [hf];simp only [Bool.false_eq_true,false_iff];omega
  unfold depV;rw [if_neg h4,if_neg h5];unfold rightV at h;rw [if_neg h4,if_neg h5] at h;exact ⟨fun _=>by omega,fun _=>h⟩
 | succ d ih =>
  intro v h
  by_cases h4 : v.f0=4
  ·
   obtain ⟨e,l,he,hi,hr⟩:=right_four h h4
   obtain rfl : d+1=e:=by omega
   have hk : depV (d+1+1) v≤((d+1 : Nat) : Int) ↔ ∀ x ∈ l,depV (d+1) x≤d:=by
    have e2 : depV (d+1+1) v=(l.map (depV (d+1))).foldl mx 0+1:=by
     conv=>lhs;unfold depV
     rw [if_pos h4,hi]
    rw [e2];have:=fold_le d (l.map (depV (d+1))) 0
    constructor
    ·
     intro hle x hx
     exact (this.1 (by omega)).2 _ (List.mem_map_of_mem hx)
    intro hall
    have:=this.2 ⟨by omega,fun y hy=>by
     obtain ⟨x,hx,rfl⟩:=List.mem_map.1 hy
     exact hall x hx⟩
    omega
   rw [hk];unfold rightV at h ⊢;rw [if_pos h4,hi] at h;rw [if_pos h4,hi];simp only [Bool.and_eq_true] at h ⊢;refine ⟨fun hx x hm=>(ih x (List.all_eq_true.1 hr x hm)).1 (List.all_eq_true.1 hx.2.2 x hm),fun hx=>⟨h.1,h.2.1,List.all_eq_true.2 (fun x hm=>(ih x (List.all_eq_true.1 hr x hm)).2 (hx x hm))⟩⟩
  by_cases h5 : v.f0=5
  ·
   obtain ⟨e,l,he,hi,_,hr⟩:=right_five h h5
   obtain rfl : d+1=e:=by omega
   have hk : depV (d+1+1) v≤((d+1 : Nat) : Int) ↔ ∀ x ∈ l,depV (d+1) x.f1≤d:=by
    have e2 : depV (d+1+1) v=(l.map (fun f=>depV (d+1) f.f1)).foldl mx 0+1:=by
     conv=>lhs;unfold depV
     rw [if_neg h4,if_pos h5,hi]
    rw [e2];have:=fold_le d (l.map (fun f=>depV (d+1) f.f1)) 0
    constructor
    ·
     intro hle x hx
     exact (this.1 (by omega)).2 _ (List.mem_map_of_mem (f:=fun f=>depV (d+1) f.f1) hx)
    intro hall
    have:=this.2 ⟨by omega,fun y hy=>by
     obtain ⟨x,hx,rfl⟩:=List.mem_map.1 hy
     exact hall x hx⟩
    omega
   rw [hk];unfold rightV at h ⊢;rw [if_neg h4,if_pos h5,hi] at h;rw [if_neg h4,if_pos h5,hi];simp only [Bool.and_eq_true] at h ⊢;refine ⟨fun hx x hm=>(ih x.f1 (List.all_eq_true.1 hr x hm)).1 (List.all_eq_true.1 hx.2.2.2 x hm),fun hx=>⟨h.1,h.2.1,h.2.2.1,List.all_eq_true.2 (fun x hm=>(ih x.f1 (List.all_eq_true.1 hr x hm)).2 (hx x hm))⟩⟩
  have e2 : depV (d+1+1) v=0:=by unfold depV;rw [if_neg h4,if_neg h5]
  rw [e2];unfold rightV at h ⊢;rw [if_neg h4,if_neg h5] at h;rw [if_neg h4,if_neg h5];exact ⟨fun _=>by omega,fun _=>h⟩
abbrev AnsF:=Int×Int×ByteArray×Int
theorem bl_total : ∀ x y : List UInt8,Op.bytesLess x y=false→Op.bytesLess y x=false→x=y
 | [],[],_,_=>rfl
 | [],_ :: _,h,_=>by simp [Op.bytesLess] at h
 | _ :: _,[],_,h=>by simp [Op.bytesLess] at h
 | a :: x,b :: y,h1,h2=>by
  simp only [Op.bytesLess,Bool.or_eq_false_iff,decide_eq_false_iff_not,Bool.and_eq_false_iff,beq_eq_false_iff_ne] at h1 h2
  have e : a=b:=by
   apply UInt8.toNat_inj.mp;have q1:=h1.1;have q2:=h2.1;rw [UInt8.lt_iff_toNat_lt] at q1 q2
   omega
  subst e;have q1 : Op.bytesLess x y=false:=h1.2.resolve_left (fun h=>h rfl);have q2 : Op.bytesLess y x=false:=h2.2.resolve_left (fun h=>h rfl);rw [bl_total x y q1 q2]
theorem ltB_total {a b : ByteArray} (h1 : ¬ ltB a b) (h2 : ¬ ltB b a) : a=b :=
 ba_ext (bl_total _ _ (by unfold ltB at h1;simpa using h1) (by unfold ltB at h2;simpa using h2))
theorem ltB_asym {a b : ByteArray} (h1 : ltB a b) (h2 : ltB b a) : False:=ltB_ne (ltB_trans h1 h2) rfl
structure Outs (l : List IFld) : Prop where
 rise : ∀ i j (hi : i<l.length) (hj : j<l.length),i<j→ltB l[i].f0 l[j].f0
 name : ∀ f ∈ l,nam f.f0=true
 good : ∀ f ∈ l,rightV 5 f.f1=true
theorem Outs.nil : Outs []:=⟨fun i j hi=>by simp at hi,by simp,by simp⟩
abbrev plc (l : List IFld) (nm : ByteArray) : Nat:=F0.place l nm l.length
theorem place_tells (l : List IFld) (nm : ByteArray) : ∀ n,n≤l.length →
  (∀ j (hj : j<l.length),F0.place l nm n≤j→j<n→ltB nm l[j].f0)∧(∀ p (hp : p<l.length),F0.place l nm n=p+1 → ¬ ltB nm l[p].f0)
 | 0,_=>⟨fun j _ _ h=>absurd h (by omega),fun p _ h=>by simp [F0.place] at h⟩
 | n+1,h=>by
  have ih:=place_tells l nm n (by omega);unfold F0.place;rw [rdF l n (by omega)]
  by_cases c : Op.bytesLess nm.toList l[n].f0.toList=true
  ·
   rw [if_pos c]
   refine ⟨fun j hj h1 h2=>?_,ih.2⟩
   by_cases e : j=n
   ·
    subst e;exact c
   exact ih.1 j hj h1 (by omega)
  rw [if_neg c];refine ⟨fun j hj h1 h2=>absurd h1 (by omega),fun p hp e=>?_⟩;have : p=n:=by omega
  subst this;exact c
def twc (l : List IFld) (nm : ByteArray) : Bool:=decide (0<plc l nm∧(rd_T43 l ((plc l nm : Int) - 1)).f0.toList=nm.toList)
theorem twc_at (l : List IFld) (nm : ByteArray) : twc l nm=true ↔ ∃ p,∃ hp : p<l.length,plc l nm=p+1∧l[p].f0=nm:=by
 unfold twc;rw [decide_eq_true_iff];have hle:=F0.place_le l nm l.length
 constructor
 ·
  rintro ⟨h0,h1⟩
  obtain ⟨p,hp⟩ : ∃ p,plc l nm=p+1:=⟨plc l nm - 1,by omega⟩;have hpl : p<l.length:=by show p<l.length;have : plc l nm≤l.length:=hle;omega
  rw [hp,show ((p+1 : Nat) : Int) - 1=(p : Int) by omega,rdF l p hpl] at h1;exact ⟨p,hpl,hp,ba_ext h1⟩
 rintro ⟨p,hpl,hp,h1⟩;rw [hp];refine ⟨by omega,?_⟩;rw [show ((p+1 : Nat) : Int) - 1=(p : Int) by omega,rdF l p hpl,h1]
theorem half_place (l : List IFld) (nm : ByteArray) (hR : ∀ i j (hi : i<l.length) (hj : j<l.length),i<j→ltB l[i].f0 l[j].f0) (p : Nat) (hp : p≤l.length) (g1 : ∀ j (hj : j<l.length),j<p→ltB l[j].f0 nm) (g2 : ∀ j (hj : j<l.length),p≤j → ¬ ltB l[j].f0 nm) :
  (if h : p<l.length then decide (l[p].f0=nm) else false)=twc l nm∧(twc l nm=false→plc l nm=p):=by
 have hle : plc l nm≤l.length:=F0.place_le l nm l.length;obtain ⟨t1,t2⟩:=place_tells l nm l.length (Nat.le_refl _)
 have key : ∀ j (hj : j<l.length),l[j].f0=nm→plc l nm=j+1∧p=j:=by
  intro j hj e
  have hpj : p=j:=by
   rcases Nat.lt_trichotomy p j with h|h|h
   ·
    exact absurd (e ▸ hR p j (by omega) hj h) (g2 p (by omega) (Nat.le_refl _))
   ·
    exact h
   exact absurd e (ltB_ne (g1 j hj h))
  refine ⟨?_,hpj⟩;rcases Nat.lt_trichotomy (plc l nm) (j+1) with h|h|h
  ·
   exact absurd e.symm (ltB_ne (t1 j hj (by show plc l nm≤j;omega) hj))
  ·
   exact h
  obtain ⟨q,hq⟩ : ∃ q,plc l nm=q+1:=⟨plc l nm - 1,by omega⟩;exact absurd (e ▸ hR j q hj (by omega) (by omega)) (t2 q (by omega) hq)
 by_cases ht : twc l nm=true
 ·
  obtain ⟨q,hq,e1,e2⟩:=(twc_at l nm).1 ht
  obtain ⟨_,rfl⟩:=key q hq e2;rw [ht,dif_pos hq];exact ⟨decide_eq_true e2,fun h=>by cases h⟩
 have hf : twc l nm=false:=by simpa using ht
 have hno : ∀ j (hj : j<l.length),l[j].f0≠nm:=fun j hj e=>by
  obtain ⟨h1,_⟩:=key j hj e;exact ht ((twc_at l nm).2 ⟨j,hj,h1,e⟩)
 rw [hf];refine ⟨?_,fun _=>?_⟩
 ·
  by_cases h : p<l.length
  ·
   rw [dif_pos h];exact decide_eq_false (hno p h)
  rw [dif_neg h]
 rcases Nat.lt_trichotomy (plc l nm) p with h|h|h
 ·
  have hq : plc l nm<l.length:=by omega
  exact (ltB_asym (g1 _ hq h) (t1 _ hq (Nat.le_refl _) hq)).elim
 ·
  exact h
 obtain ⟨q,hq⟩ : ∃ q,plc l nm=q+1:=⟨plc l nm - 1,by omega⟩;have hql : q<l.length:=by omega
 exact absurd (ltB_total (g2 q hql (by omega)) (t2 q hql hq)) (hno q hql)
theorem place_ins (l : List IFld) (f : IFld) (hO : Outs l) (hn : nam f.f0=true) (hg : rightV 5 f.f1=true) (ht : twc l f.f0=false) : Outs (F0.ins l f):=by
 have hle : plc l f.f0≤l.length:=F0.place_le l f.f0 l.length;obtain ⟨t1,t2⟩:=place_tells l f.f0 l.length (Nat.le_refl _)
 have b1 : ∀ j (hj : j<l.length),j<plc l f.f0→ltB l[j].f0 f.f0:=by
  intro j hj h;obtain ⟨q,hq⟩ : ∃ q,plc l f.f0=q+1:=⟨plc l f.f0 - 1,by omega⟩;have hql : q<l.length:=by omega
  have hq1 : ltB l[q].f0 f.f0:=by
   by_cases c : ltB l[q].f0 f.f0
   ·
    exact c
   have:=(twc_at l f.f0).2 ⟨q,hql,hq,ltB_total c (t2 q hql hq)⟩;rw [ht] at this;cases this
  by_cases e : j=q
  ·
   subst e;exact hq1
  exact ltB_trans (hO.rise j q hj hql (by omega)) hq1
 have b2 : ∀ j (hj : j<l.length),plc l f.f0≤j→ltB f.f0 l[j].f0:=fun j hj h=>t1 j hj h hj
 have hmem : ∀ g ∈ F0.ins l f,g ∈ l∨g=f:=by
  intro g hg;unfold F0.ins at hg;rcases List.mem_append.1 hg with hg|hg
  ·
   rcases List.mem_append.1 hg with hg|hg
   ·
    exact .inl (List.mem_of_mem_take hg)
   exact .inr (List.mem_singleton.1 hg)
  exact .inl (List.mem_of_mem_drop hg)
 refine ⟨fun i j hi hj hij=>?_,fun g h=>?_,fun g h=>?_⟩
 ·
  have hP : (l.take (plc l f.f0)).length=plc l f.f0:=by rw [List.length_take];omega
  have at_ : ∀ q (hq : q<(F0.ins l f).length),(q<plc l f.f0 ∧ ∃ h : q<l.length,(F0.ins l f)[q]=l[q])∨(q=plc l f.f0∧(F0.ins l f)[q]=f)∨(plc l f.f0<q ∧ ∃ h : q - 1<l.length,(F0.ins l f)[q]=l[q - 1]):=by
   intro q hq
   have hlen : (F0.ins l f).length=l.length+1:=by
    unfold F0.ins;simp only [List.length_append,List.length_take,List.length_drop,List.length_singleton];have : F0.place l f.f0 l.length≤l.length:=hle
    omega
   rw [hlen] at hq;rcases Nat.lt_trichotomy q (plc l f.f0) with h|h|h
   ·
    refine .inl ⟨h,by omega,?_⟩
    simp only [F0.ins];rw [List.getElem_append_left (by simp only [List.length_append,List.length_take,List.length_singleton];have : F0.place l f.f0 l.length=plc l f.f0:=rfl;omega),List.getElem_append_left (by rw [hP];exact h),List.getElem_take]
   ·
    refine .inr (.inl ⟨h,?_⟩)
    simp only [F0.ins];rw [List.getElem_append_left (by simp only [List.length_append,List.length_take,List.length_singleton];have : F0.place l f.f0 l.length=plc l f.f0:=rfl;omega),List.getElem_append_right (by rw [hP];omega)];simp
   refine .inr (.inr ⟨h,by omega,?_⟩);simp only [F0.ins];rw [List.getElem_append_right (by simp only [List.length_append,List.length_take,List.length_singleton];have : F0.place l f.f0 l.length=plc l f.f0:=rfl;omega)];rw [List.getElem_drop]
   congr 1
   simp only [List.length_append,List.length_take,List.length_singleton];have : F0.place l f.f0 l.length=plc l f.f0:=rfl
   omega
  rcases at_ i hi with ⟨hi1,hi2,ei⟩|⟨hi1,ei⟩|⟨hi1,hi2,ei⟩ <;> rcases at_ j hj with ⟨hj1,hj2,ej⟩|⟨hj1,ej⟩|⟨hj1,hj2,ej⟩ <;> rw [ei,ej]
  ·
   exact hO.rise i j hi2 hj2 hij
  ·
   exact b1 i hi2 hi1
  ·
   exact ltB_trans (b1 i hi2 hi1) (b2 (j - 1) hj2 (by omega))
  ·
   omega
  ·
   omega
  ·
   exact b2 (j - 1) hj2 (by omega)
  ·
   omega
  ·
   omega
  exact hO.rise (i - 1) (j - 1) hi2 hj2 (by omega)
 ·
  rcases hmem g h with h|rfl
  ·
   exact hO.name g h
  exact hn
 rcases hmem g h with h|rfl
 ·
  exact hO.good g h
 exact hg
theorem nam_small {t : ByteArray} (h : nam t=true) : t.size≤12:=by
 simp only [nam,Bool.and_eq_true,decide_eq_true_eq] at h
 omega
theorem outs_nms (l : List IFld) (hO : Outs l) : nms none l=true:=by
 have : ∀ (l : List IFld) (p : Option ByteArray),(∀ i j (hi : i<l.length) (hj : j<l.length),i<j→ltB l[i].f0 l[j].f0)→(∀ f ∈ l,nam f.f0=true)→(∀ q,p=some q → ∀ f ∈ l,ltB q f.f0)→nms p l=true:=by
  intro l
  induction l with
  | nil=>intros;rfl
  | cons f l ih =>
   intro p h1 h2 h3;simp only [nms,Bool.and_eq_true];refine ⟨h2 f (by simp),?_,ih _ (fun i j hi hj hij=>?_) (fun g hg=>h2 g (by simp [hg])) (fun q hq g hg=>?_)⟩
   ·
    cases p with
    | none=>rfl
    | some q=>exact h3 q rfl f (by simp)
   ·
    have:=h1 (i+1) (j+1) (by simpa using hi) (by simpa using hj) (by omega)
    simpa using this
   injection hq with hq;subst hq;obtain ⟨j,hj,rfl⟩:=List.getElem_of_mem hg;have:=h1 0 (j+1) (by simp) (by simpa using hj) (by omega)
   simpa using this
 exact this l none hO.rise hO.name (fun q h=>by cases h)
def docV (l : List IFld) : IVal:=⟨5,0,strOfNums (docB l)⟩
def fitD (l : List IFld) : AnsF:=if ((strOfNums (docB l)).size : Int) > 300 then (0,0,⟨#[]⟩,10) else if rightV 5 (docV l)=true then (5,0,strOfNums (docB l),0) else (0,0,⟨#[]⟩,9)
def ansD : List IFld→List IFld→AnsF
 | [],out=>fitD out
 | f :: rest,out=>if nam f.f0=true then (if rightV 5 f.f1=true then (if twc out f.f0=true then (0,0,⟨#[]⟩,12) else ansD rest (F0.ins out f)) else (0,0,⟨#[]⟩,1)) else (0,0,⟨#[]⟩,11)
theorem ins_length (l : List IFld) (f : IFld) : (F0.ins l f).length=l.length+1:=by
 have : F0.place l f.f0 l.length≤l.length:=F0.place_le l f.f0 l.length;unfold F0.ins;simp only [List.length_append,List.length_take,List.length_drop,List.length_singleton]
 omega
theorem go_tells : ∀ (rest out : List IFld),Outs out→out.length+rest.length≤3000→(∀ f ∈ rest,f.f0.size≤1048576∧f.f1.f2.size≤1048576)→Eve (fun k=>F0.go k rest out) (ansD rest out)
 | [],out,hO,hl,_=>by
  simp only [F0.go,ansD];have hsh : ∀ f ∈ out,Shape f.f1:=fun f hf=>right_shape 5 f.f1 (hO.good f hf);have hnm : ∀ f ∈ out,f.f0.size≤12:=fun f hf=>nam_small (hO.name f hf);refine Eve.bind (doc_spec out hsh hnm (by simpa using hl)) ?_;refine Eve.bind (v:=fitD out) ?_ Eve.one;simp only [F0d.f];unfold fitD;refine Eve.ite (fun h=>Eve.one.eq (by rw [if_pos h])) (fun h=>?_);rw [if_neg h];refine Eve.bind (ok_spec (docV out) (by show (strOfNums (docB out)).size≤_;omega)) ?_;exact Eve.ite (fun h=>Eve.one.eq (by rw [if_pos h])) (fun h=>Eve.one.eq (by rw [if_neg h]))
 | f :: rest,out,hO,hl,hs=>by
  simp only [F0.go,ansD];have hf:=hs f (by simp);refine Eve.bind (nam_spec f.f0 hf.1) ?_;refine Eve.ite (fun h1=>?_) (fun h1=>Eve.one.eq (by rw [if_neg h1]));rw [if_pos h1];refine Eve.bind (ok_spec f.f1 hf.2) ?_;refine Eve.ite (fun h2=>?_) (fun h2=>Eve.one.eq (by rw [if_neg h2]));rw [if_pos h2];refine Eve.ite (fun h3=>Eve.one.eq ?_) (fun h3=>?_)
  ·
   rw [if_pos (show twc out f.f0=true from decide_eq_true h3)]
  have h3' : twc out f.f0=false:=decide_eq_false h3;rw [if_neg (by rw [h3'];decide)];exact go_tells rest _ (place_ins out f hO h1 h2 h3') (by rw [ins_length];simp only [List.length_cons] at hl;omega) (fun g hg=>hs g (by simp [hg]))
theorem find_tells (l : List IFld) (nm : ByteArray) (hO : Outs l) (hl : l.length≤1048576) : ∃ p : Nat,p≤l.length∧(twc l nm=false→plc l nm=p)∧Eve (fun k=>Fu.f k l nm) ((p : Int),twc l nm):=by
 obtain ⟨p,hp,g1,g2,hev⟩:=half_loop l nm hl hO.rise l.length 0 l.length (by omega) (by omega) (Nat.le_refl _) (fun j _ h=>absurd h (by omega)) (fun j hj h=>absurd hj (by omega));obtain ⟨e1,e2⟩:=half_place l nm hO.rise p hp g1 g2;refine ⟨p,hp,e2,?_⟩;rw [e1] at hev;simp only [Fu.f,Fo.f];exact Eve.bind hev Eve.one
theorem put_tells2 (l : List IFld) (f : IFld) (hO : Outs l) (hl : l.length≤3000) (ht : twc l f.f0=false) : Eve (fun k=>F00.f k l f.f0 f.f1.f0 f.f1.f1 f.f1.f2) (F0.ins l f):=by
 obtain ⟨p,hp,e2,hev⟩:=find_tells l f.f0 hO (by omega);rw [ht] at hev;simp only [F00.f];refine Eve.bind hev ?_;refine Eve.ite (fun _=>?_) (fun h=>absurd (by simp) h);refine Eve.ite (fun h=>by cases h) (fun _=>?_);refine Eve.ite (fun _=>?_) (fun h=>absurd (by simp;omega) h);refine Eve.ite (fun _=>Eve.one.eq ?_) (fun h=>absurd (by omega) h);have : F0.place l f.f0 l.length=p:=e2 ht;unfold F0.ins;rw [this];rfl
theorem bounded_tells (out : List IFld) (hO : Outs out) : Eve (fun k=>F05.f k 5 0 (strOfNums (docB out))) (fitD out):=by
 have hsh : ∀ f ∈ out,Shape f.f1:=fun f hf=>right_shape 5 f.f1 (hO.good f hf);have hnm : ∀ f ∈ out,f.f0.size≤12:=fun f hf=>nam_small (hO.name f hf);simp only [F05.f];unfold fitD;refine Eve.ite (fun h=>Eve.one.eq (by rw [if_pos h])) (fun hz=>?_);rw [if_neg hz];have hi : fdS (docV out).f2.size (docV out).f2=some out:=docs_back out _ hsh hnm (by show _≤(strOfNums (docB out)).size;rw [strOfNums_size];exact Nat.le_refl _)
 have h6 : rightV 6 (docV out)=true:=by
  show (if (docV out).f0=4 then _ else if (docV out).f0=5 then _ else _)=true;rw [if_neg (show ¬ (docV out).f0=4 by show ¬ (5 : Int)=4;decide),if_pos (show (docV out).f0=5 from rfl),hi];have hd : decide (((docV out).f2.size : Int)≤300)=true:=decide_eq_true (by show ((strOfNums (docB out)).size : Int)≤300;omega);have hz : decide ((docV out).f1=0)=true:=rfl;have ha : out.all (fun f=>rightV 5 f.f1)=true:=List.all_eq_true.2 hO.good;simp only [hd,hz,ha,outs_nms out hO,Bool.and_self]
 have hd:=dep_impl 6 (docV out) (by omega) (by show (strOfNums (docB out)).size≤_;omega) h6;have hk : rightV 5 (docV out)=true↔depV 6 (docV out)≤((5 : Nat) : Int):=right_dep 5 (docV out) h6;refine Eve.bind hd ?_;refine Eve.ite (fun h=>Eve.one.eq ?_) (fun h=>Eve.one.eq ?_)
 ·
  rw [if_neg (fun hr=>by have:=hk.1 hr;omega)]
 rw [if_pos (hk.2 (by omega))]
theorem loop_tells (l : List IFld) (hl : l.length≤300) (hs : ∀ f ∈ l,f.f0.size≤1048576∧f.f1.f2.size≤1048576) : Eve (fun k=>Ff.l0 k [] l (l.length : Int) 0) (ansD l []):=by
 have:=ev_loop0 l (fun k (out : List IFld) i=>Ff.l0 k out l (l.length : Int) i) (fun _ out r=>ansD r out) (fun i out=>Outs out∧out.length≤i) (fun out ho=>by
  simp only [Ff.l0,ansD];refine Eve.ite (fun h=>absurd h (by omega)) (fun _=>?_);have hsh : ∀ f ∈ out,Shape f.f1:=fun f hf=>right_shape 5 f.f1 (ho.1.good f hf);have hnm : ∀ f ∈ out,f.f0.size≤12:=fun f hf=>nam_small (ho.1.name f hf);refine Eve.bind (doc_impl out hsh hnm (by have:=ho.2;omega)) ?_
  exact Eve.bind (bounded_tells out ho.1) Eve.one) (fun i hi out ho ih=>by
  have hf:=hs l[i] (List.getElem_mem hi);simp only [Ff.l0,rdF l i hi,ansD,wi (show i≤9223372036854775806 by omega)];refine Eve.ite (fun _=>?_) (fun h=>absurd (by omega) h);refine Eve.ite (fun _=>?_) (fun h=>absurd (by omega) h);refine Eve.ite (fun _=>?_) (fun h=>absurd (by omega) h);obtain ⟨p,hp,e2,hev⟩:=find_tells out l[i].f0 ho.1 (by have:=ho.2;omega);refine Eve.bind hev ?_;refine Eve.bind (nam_impl l[i].f0 hf.1) ?_;refine Eve.ite (fun h1=>?_) (fun h1=>Eve.one.eq (by rw [if_neg h1]));rw [if_pos h1];refine Eve.bind (ok_impl l[i].f1 hf.2) ?_;refine Eve.ite (fun h2=>?_) (fun h2=>Eve.one.eq (by rw [if_neg h2]));rw [if_pos h2];refine Eve.ite (fun h3=>Eve.one.eq (by rw [if_pos h3])) (fun h3=>?_);have h3' : twc out l[i].f0=false:=by simpa using h3
  rw [if_neg (by rw [h3'];decide)];refine Eve.bind (put_tells2 out l[i] ho.1 (by have:=ho.2;omega) h3') ?_
  exact ih _ ⟨place_ins out l[i] ho.1 h1 h2 h3',by rw [ins_length];have:=ho.2;omega⟩) [] ⟨Outs.nil,Nat.le_refl _⟩
 simpa using this
def ansDoc (l : List IFld) : AnsF:=if (l.length : Int) > 4096 then (0,0,⟨#[]⟩,2) else if (l.length : Int) > 300 then (0,0,⟨#[]⟩,10) else ansD l []
theorem doc_of_spec (l : List IFld) (hs : ∀ f ∈ l,f.f0.size≤1048576∧f.f1.f2.size≤1048576) : Eve (fun k=>F0.f k l) (ansDoc l):=by
 simp only [F0.f];unfold ansDoc;refine Eve.ite (fun h=>Eve.one.eq (by rw [if_pos h])) (fun h=>?_);rw [if_neg h];refine Eve.ite (fun h=>Eve.one.eq (by rw [if_pos h])) (fun h=>?_);rw [if_neg h];exact go_tells l [] Outs.nil (by simp;omega) hs
theorem doc_of_impl (l : List IFld) (hs : ∀ f ∈ l,f.f0.size≤1048576∧f.f1.f2.size≤1048576) : Eve (fun k=>Ff.f k l) (ansDoc l):=by
 simp only [Ff.f];unfold ansDoc;refine Eve.ite (fun h=>Eve.one.eq (by rw [if_pos h])) (fun h=>?_);rw [if_neg h];refine Eve.ite (fun h=>Eve.one.eq (by rw [if_pos h])) (fun h=>?_);rw [if_neg h];exact loop_tells l (by omega) hs
end Go.Proofs.Ytoinoihiknmnmaa.Pure
end
section
namespace Go.Proofs.Ytoinoihiknmnmaa.Pure
open Go.RowKit Go.Proofs.Ytoinoihiknmnmaa.Q Go.Proofs.YtoinoihiknmnmaaW.PrintWords Go.Proofs.YtoinoihiknmnmaaW.PrintLast Go.Proofs.YtoinoihiknmnmaaW.Pl
def ve (a b : IVal) : Bool:=a.f0 == b.f0 && (a.f1 == b.f1 && a.f2.toList == b.f2.toList)
theorem ve_iff (a b : IVal) : ve a b=true↔a=b:=by
 unfold ve
 constructor
 ·
  intro h
  simp only [Bool.and_eq_true,beq_iff_eq] at h;exact ival_ext h.1 h.2.1 (ba_ext h.2.2)
 rintro rfl;simp
theorem eqValue_tells (a b : IVal) : F01.f a.f0 a.f1 a.f2 b.f0 b.f1 b.f2=some (ve a b):=by
 unfold F01.f ve
 by_cases h0 : a.f0=b.f0
 ·
  rw [if_pos h0]
  by_cases h1 : a.f1=b.f1
  ·
   rw [if_pos h1]
   by_cases h2 : a.f2.toList=b.f2.toList
   ·
    rw [if_pos h2];simp [h0,h1,h2]
   rw [if_neg h2];simp [h2]
  rw [if_neg h1];simp [h1]
 rw [if_neg h0];simp [h0]
end Go.Proofs.Ytoinoihiknmnmaa.Pure
end
section
namespace Go.Proofs.Ytoinoihiknmnmaa.Pure
open Go Go.RowKit Go.Proofs.Ytoinoihiknmnmaa.Q Go.Proofs.YtoinoihiknmnmaaW.PrintWords Go.Proofs.YtoinoihiknmnmaaW.PrintLast Go.Proofs.YtoinoihiknmnmaaW.PrintMore Go.Proofs.YtoinoihiknmnmaaW.Pl
abbrev LFld:=S50
def ifl (f : LFld) : IFld:=⟨f.f0,iv f.f1⟩
def fsz (f : LFld) : Nat:=f.f0.size+f.f1.f2.size
theorem rdLF (l : List LFld) (i : Nat) (h : i<l.length) : rd_T50 l (i : Int)=l[i]:=getD_at _ l i h
theorem szFieldS_tells (l : List LFld) (hl : l.length≤9223372036854775807) (hs : ∀ x ∈ l,x.f0.size≤9223372036854775807∧x.f1.f2.size≤9223372036854775807) {left : Int} (h0 : 0≤left) (h1 : left≤1048576) {k : Nat} (hk : l.length<k) :
  Fs.f k l left=some (if left - l.length<0 then -1 else less fsz l (left - l.length)):=by
 unfold Fs.f;rw [w64 (by omega) (by omega)]
 by_cases h : left - l.length<0
 ·
  rw [if_pos h,if_pos h]
 rw [if_neg h,if_neg h]
 have:=less_loop (fun k l' i=>Fs.l0 k l l' i) l fsz (fun k i l' hi a b=>by
  have hsz:=hs l[i] (List.getElem_mem hi);simp only [Fs.l0,Fj.f];rw [if_pos (by omega),if_pos (by omega),rdLF _ _ hi,w64 (i:=(i : Int)+1) (by omega) (by omega),w64 (i:=l' - (l[i].f0.size : Int)) (by omega) (by omega)]
  by_cases h2 : l' - (l[i].f0.size : Int)<0
  ·
   have h3 : l' - (fsz l[i] : Int)<0:=by unfold fsz;omega
   rw [if_pos h2,if_pos h3];rfl
  rw [if_neg h2,szValue_tells _ hsz.2 (by omega) (by omega)];simp only [Option.bind_some]
  by_cases h3 : l' - (l[i].f0.size : Int) - (l[i].f1.f2.size : Int)<0
  ·
   have h4 : l' - (fsz l[i] : Int)<0:=by unfold fsz;omega
   rw [if_pos h3,if_pos (show (-1 : Int)<0 by omega),if_pos h4];rfl
  have h4 : ¬ l' - (fsz l[i] : Int)<0:=by unfold fsz;omega
  have e : l' - (l[i].f0.size : Int) - (l[i].f1.f2.size : Int)=l' - (fsz l[i] : Int):=by unfold fsz;omega
  rw [if_neg h3,if_neg h3,if_neg h4,e];simp only [Option.bind_some]
  rw [if_neg h4];rfl) (fun k l' => by simp only [Fs.l0];rw [if_neg (by omega)]) l.length k 0 (left - l.length) (by omega) hk (by omega) (by omega)
 simpa using this
theorem toFieldS_tells (l : List LFld) (hl : l.length≤1048576) {k : Nat} (hk : l.length<k) : Fe.f k l=some (l.map ifl):=by
 unfold Fe.f;rw [if_pos (by omega),if_pos (by omega)]
 have:=map_loop0 (fun k ys i=>Fe.l0 k l ys i) l ifl (fun k ys i hi hy=>by
  simp only [Fe.l0,Fa.f];rw [if_pos (by omega),if_pos (by omega),rdLF _ _ hi,toValue_tells];simp only [Option.bind_some];rw [if_pos (by omega),w64 (by omega) (by omega)]
  rfl) (fun k ys hy=>by simp only [Fe.l0];rw [if_neg (by omega)]) hk z43
 simpa using this
theorem eqFieldS_self (a : List IFld) (hl : a.length≤1048576) : Eve (fun k=>Fd.f k a a) true:=by
 simp only [Fd.f,if_true]
 have:=ev_all a (fun k i=>Fd.l0 k a a i) (fun _=>true) (by
  simp only [Fd.l0]
  exact Eve.ite (fun h=>absurd h (by omega)) (fun _=>Eve.one)) (fun i hi v ih=>by
  have he:=eqValue_tells a[i].f1 a[i].f1;rw [(ve_iff _ _).2 rfl] at he;simp only [Fd.l0,F8.f,rdF a i hi,he,if_true,Option.bind_some,wi (show i≤9223372036854775806 by omega)];refine Eve.ite (fun _=>?_) (fun h=>absurd (by omega) h);refine Eve.ite (fun _=>?_) (fun h=>absurd (by omega) h)
  exact Eve.ite (fun _=>by simpa using ih) (fun h=>absurd (by omega) h))
 exact this.eq (List.all_eq_true.2 (fun _ _=>rfl))
theorem FnExactDocOf : Fi.Pure:=by
 rintro l ⟨hl,hg⟩;refine Eve.get (g:=fun k=>Fi.f k l) ?_;simp only [Fi.f];have hsz:=fun (k : Nat) (hk : l.length<k)=>szFieldS_tells l hl (fun x hx=>⟨(hg x hx).1,(hg x hx).2.2.2⟩) (left:=1048576) (by omega) (by omega) hk;refine Eve.bind (Eve.of hsz) ?_
 by_cases h : (1048576 : Int) - l.length<0
 ·
  rw [if_pos h];exact Eve.ite (fun _=>Eve.one) (fun h=>absurd (by omega) h)
 rw [if_neg h,less_is _ _ _ (by omega)]
 by_cases h2 : (1048576 : Int) - l.length<total fsz l
 ·
  rw [if_pos h2];exact Eve.ite (fun _=>Eve.one) (fun h=>absurd (by omega) h)
 rw [if_neg h2];refine Eve.ite (fun h=>absurd h (by omega)) (fun _=>?_);have hto:=Eve.of (n:=l.length) (fun k (hk : l.length<k)=>toFieldS_tells l (by omega) hk)
 have hs : ∀ x ∈ l.map ifl,x.f0.size≤1048576∧x.f1.f2.size≤1048576:=fun x hx=>by
  obtain ⟨y,hy,rfl⟩:=List.mem_map.1 hx;have h3 : fsz y≤total fsz l:=total_le fsz l y hy;have h4 : fsz y=y.f0.size+y.f1.f2.size:=rfl;exact ⟨by show y.f0.size≤_;omega,by show y.f1.f2.size≤_;omega⟩
 refine Eve.bind hto ?_;refine Eve.bind (doc_of_spec (l.map ifl) hs) ?_;refine Eve.bind hto ?_;refine Eve.bind (doc_of_impl (l.map ifl) hs) ?_;generalize ansDoc (l.map ifl)=a;obtain ⟨a0,a1,a2,c⟩:=a
 have hv : F01.f a0 a1 a2 a0 a1 a2=some true:=by
  have:=eqValue_tells (⟨a0,a1,a2⟩ : IVal) ⟨a0,a1,a2⟩;rw [(ve_iff _ _).2 rfl] at this;exact this
 simp only [hv,Option.bind_some,if_true,bne_self_eq_false];refine Eve.succ ?_;simp only [Fi.j0,Bool.false_eq_true,if_false];refine Eve.bind hto ?_;refine Eve.bind (eqFieldS_self (l.map ifl) (by simp;omega)) ?_;simp only [if_true];exact Eve.one
end Go.Proofs.Ytoinoihiknmnmaa.Pure
end
section
namespace Go.Proofs.Ytoinoihiknmnmaa.fnExactDocOf
open Go.ChangeShapes Go.WideShapes Go.ChangeAt Go.RowKit Go.Proofs.YtoinoihiknmnmaaW.PrintWords Go.Proofs.YtoinoihiknmnmaaW.PrintOpen Go.Proofs.Ytoinoihiknmnmaa.Q
open Go.ChangeMaps (open_string shut_string)
set_option linter.unusedVariables false
theorem own : ownKnob Try.prog.godebug=none:=by kernel_rfl
theorem laidOut : laidOutB Try.prog=true:=by kernel_rfl
set_option maxRecDepth 100000 in
theorem lifted (os : Os) (started : os.Started) (H : Type) (enc : TypeId×Value→H) :
  ReturnsInHanded {} Try.checked os 3 .any (Rows.fnExactDocOfSpec.pre6 enc Try.prog Try.f3 Rows.fnExactDocOfRow.domain false) (Rows.fnExactDocOfSpec.post enc Try.prog Try.f3 false true false false):=by
 refine returnsInHanded_of_change_sized (C:=Try.checked) own started (by kernel_rfl) Try.func3
  (ChangeSpec.witness6 (enc:=enc) (C:=Try.checked) false ⟨#[],#[.slice none 0 0],[]⟩ 8 (by kernel_rfl) (by kernel_rfl) (by kernel_rfl) (by kernel_rfl)) ?_
 intro W base args ds gs before hval0 hW hcnd hsz0 _
 have hval : ∀ (j : Nat) t v,Try.f3.params[j]? = some t→args[j]? = some v→Value.okWide Try.prog W .any base t v:=hval0
 have hW':=hW
 obtain ⟨p,q,hA0,hV,rfl,hfz,hnd⟩:=hW
 have hA : DataW.TrodAll enc Try.prog W 0 (fun _=>true) true Try.f3.params.toList args.toList ds p:=hA0
 rw [Try.params3] at hA hval
 obtain ⟨v0,vs0,d0,ds0,p0,q0,hargs,rfl,rfl,h0,r0⟩:=trodAll_cons hA
 obtain ⟨rfl,rfl,rfl⟩:=trodAll_nil r0
 obtain rfl : args = #[v0]:=by cases args;simp_all
 obtain ⟨rfl,rfl⟩:=trodVars_none hV
 have t0:=h0
 have lt0 : ∀ x ∈ p0,x.block<W.heap.size:=by obtain ⟨m,hm⟩:=t0;exact DataW.trod_lt m _ _ _ hm
 obtain ⟨x0,A0,c0,rfl,hl0,hc0,g0⟩:=arg_slice Try.underlying22 (opens_slice Try.underlying22 (by kernel_rfl) opens50) (hval 0 22 v0 rfl rfl) h0
 clear hA0 hval0 hsz0
 obtain ⟨k,hp⟩:=Pure.FnExactDocOf x0 g0
 refine (Fi.calls k A0 c0 x0 true W hc0 hl0 hp).mono fun e W' ⟨he,bel0⟩=>?_
 have bel : Below W.heap.size W W':=bel0
 subst he
 exact ⟨_,rfl,_,_,_,[],_,[],hW',trodAll_mk1 (shut_bool Try.underlying4 _),(trodAll_cons_mk (Below.trod laidOut (by kernel_rfl) (of_decide_eq_true (by kernel_rfl)) t0 bel lt0) trodAll_mk0),rfl,bel.frame _,fun h=>by cases h⟩
theorem over : Rows.fnExactDocOfRow.holds Try.pinned (OpenSpec.ofChange Rows.fnExactDocOfSpec) :=
 OpenClaim.holds_of_wide 3 Try.f3 rfl rfl rfl rfl rfl rfl rfl ⟨rfl,rfl,rfl,rfl,rfl⟩ rfl rfl rfl rfl rfl (by kernel_rfl) Try.func3 (by kernel_rfl)
  (of_decide_eq_true (by kernel_rfl)) (by unfold Func.isWrapper;first|(rw [if_pos (by decide +kernel)];kernel_rfl)|(rw [if_neg (by decide +kernel)];exact ⟨rfl,rfl⟩))
  (fun os started H enc _=>lifted os started H enc)
theorem proved : Rows.FnExactDocOfSaid:=over
#print axioms proved
end Go.Proofs.Ytoinoihiknmnmaa.fnExactDocOf
namespace Go.Proofs.Ytoinoihiknmnmaa
theorem fnExactDocOf_holds : Rows.FnExactDocOfSaid:=fnExactDocOf.proved
end Go.Proofs.Ytoinoihiknmnmaa
end
