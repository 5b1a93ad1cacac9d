/- Texts of this claim, merged by a program of this session. -/
import Derived.Test.YtgifonogfgpjdaaKLawFnTreep26
import Derived.ProofKit
import Derived.OpenShut
import Derived.ShutString
import Derived.ChangeOld
import Derived.SizedLaws
import Derived.Deep.Slices
import Derived.Lib.SmallJoins
section
namespace Go.Proofs.Ytgifonogfgpjdaa.Q
open Go.RowKit Go.Proofs.YtgifonogfgpjdaaW.PrintWords Go.Proofs.YtgifonogfgpjdaaW.PrintLast Go.Proofs.YtgifonogfgpjdaaW.PrintMore
attribute [local go_sem] max2_int min2_int max_two min_two max_three min_three max_four min_four max2_str min2_str str_geq str_gtr str_leq
set_option linter.unusedVariables false
set_option linter.unusedSimpArgs false

theorem F8.R_behind {α : Type} {d : Kd α} {e base g n cap : Nat} {ok : Nat→Prop} {W : World} {xs : List α}
  (h : d.R e W base ok (.slice (some ⟨g,0,none⟩) n cap) xs) (o : Nat) (seg : List Value) (hno : n*d.sz≤o) (hs : o+seg.length≤cap*d.sz) :
  d.R e (W.setCells g o seg) base ok (.slice (some ⟨g,0,none⟩) n cap) xs∧W.grownBy (W.setCells g o seg) (some g):=by
 obtain ⟨hn,hnc,_⟩:=yh h;obtain ⟨hok,inner,ho,hr⟩:=h;obtain ⟨ho1,ho2⟩:=ho;rcases ho2 with ⟨hv,_⟩|⟨g',cap',cur,hv,hb,hh,hnc',hcm,hcs,ht⟩
 ·
  cases hv
 injection hv with ha _ hc;injection ha with ha;injection ha with hg;subst hg;subst hc;have hfit : o+seg.length≤cur.size:=by rw [hcs];omega
 obtain ⟨cur',h3,h4,h5⟩:=setCells_row seg o W cur hh hfit;obtain ⟨s1,s2,s3,s4⟩:=setCells_same g seg o W;have hfar : ∀ k,k≠g→(W.setCells g o seg).heap[k]? = W.heap[k]?:=fun k hk=>setCells_far seg _ k hk;have hgo : some g=(Value.slice (some ⟨g,0,none⟩) n cap).ownBlock:=by simp [Value.ownBlock]
 refine ⟨⟨hok,inner,⟨ho1,.inr ⟨g,cap,cur',by rw [hn],hb,h3,hnc',hcm,by rw [h4,hcs],?_⟩⟩,?_⟩,
  ⟨s1,s2,s3,by rw [s4];exact ye _,fun k _ hk=>hfar k (fun he=>hk (by rw [he]))⟩⟩
 ·
  rw [← ht]
  apply List.ext_getElem?
  intro q;rw [List.getElem?_take,List.getElem?_take,h5]
  by_cases hq : q<xs.length*d.sz
  ·
   rw [if_pos hq,if_pos hq,seg_get cur.toList seg o jCF q,if_pos (by rw [← hn] at hq;omega)]
  rw [if_neg hq,if_neg hq]
 exact hr.imp_ (fun x cs hM=>Kd.M_step hM (fun k hk _=>hfar k (fun he=>hk.2 (by rw [he];exact hgo))))
theorem F8.run_clear {P : Program} (w : World) (t e ty : TypeId) (z : Value) (ht : P.underlying t=some (.slice e)) (hv : ∀ w,(zeroValue e).run P w = .ok z w) (h1 : ∀ i,i<z.cells.size→(z.cells[i]!).oneCell' = true) (b o n c : Nat) (hn : 0<n)
  (hc : ∀ j,j<n*z.cells.size→(w.cell? ⟨b,o+j,none⟩).isSome=true) (hf : ∀ j,j<n*z.cells.size→w.frozen? ⟨b,o+j,none⟩=false) :
  (Builtin.clear_ #[t] ty #[.slice (some ⟨b,o,none⟩) n c]).run P w = .ok (.tuple #[]) (w.setCells b o (Builtin.zeroCells z.cells n).toList):=by
 have hlen : (Builtin.zeroCells z.cells n).toList.length=n*z.cells.size:=by simp [Builtin.zeroCells]
 have hst:=run_storeCells_cells (P:=P) b o (Builtin.zeroCells z.cells n).toList 0 w (by rw [hlen];simpa using hc) (by rw [hlen];simpa using hf) (by
  intro v hv';simp only [Builtin.zeroCells,Array.toList_map,Array.toList_range,List.mem_map,List.mem_range] at hv';obtain ⟨i,hi,rfl⟩:=hv'
  have hz : 0<z.cells.size:=by
   rcases Nat.eq_zero_or_pos z.cells.size with h|h
   ·
    rw [h] at hi;simp at hi
   exact h
  exact h1 _ (Nat.mod_lt _ hz))
 simp only [Nat.add_zero] at hst;obtain ⟨m,rfl⟩ : ∃ m,n=m+1:=⟨n - 1,jD⟩;simp [Builtin.clear_,run_underlying ht,hv,hst]
theorem F8.zeros_length (z : Array Value) (n : Nat) : (Builtin.zeroCells z n).toList.length=n*z.size:=by simp [Builtin.zeroCells]
def F8.hasB (lo hi : ByteArray) (op : Bool) (key : ByteArray) : Bool:=if Op.bytesLess key.toList lo.toList=true then false else if op=true then true else Op.bytesLess key.toList hi.toList
theorem F8.has_tells (lo hi : ByteArray) (op : Bool) (key : ByteArray) : F0c.f lo hi op key=some (F8.hasB lo hi op key):=by
 unfold F0c.f F8.hasB
 split
 ·
  rfl
 split <;> rfl
theorem F8.del_tells (e : S28) (lo hi : ByteArray) (op : Bool) : F0j.f e.f0 e.f1 lo hi op=some (!F8.hasB lo hi op e.f0):=by
 unfold F0j.f;rw [F8.has_tells];rfl
theorem F8.idx_from (lo hi : ByteArray) (op : Bool) (l : List S28) (hl : l.length≤4611686018427387904) : ∀ (d i : Nat),i+d=l.length → ∃ k r,Fw.l0 k l (l.length : Int) (i : Int) lo hi op=some r ∧
  ((r = -1 ∧ ∀ j,(h : j<l.length)→i≤j→F8.hasB lo hi op l[j].f0=true) ∨ ∃ m : Nat,r=(m : Int) ∧ ∃ h : m<l.length,i≤m∧(∀ j,(h : j<l.length)→i≤j→j<m→F8.hasB lo hi op l[j].f0=true)∧F8.hasB lo hi op l[m].f0=false):=by
 intro d
 induction d with
 | zero =>
  intro i hid;refine ⟨1,-1,?_,.inl ⟨rfl,fun j h h2=>by omega⟩⟩;simp only [Fw.l0];rw [if_neg jD]
 | succ d ih =>
  intro i hid;obtain ⟨k,r,h1,h2⟩:=ih (i+1) jD
  have hr : rd_T28 l (i : Int)=l[i]'jD:=by
   unfold rd_T28;rw [List.getD_eq_getElem?_getD,Int.toNat_natCast,List.getElem?_eq_getElem jD];rfl
  have hw : wrap64 ((i : Int)+1)=((i+1 : Nat) : Int):=by unfold wrap64;omega
  by_cases hd : F8.hasB lo hi op (l[i]'jD).f0=true
  ·
   refine ⟨k+1,r,?_,?_⟩
   ·
    simp only [Fw.l0]
    rw [if_pos jD,if_pos jD,if_pos jD,hr,F8.del_tells,hd];simp only [Option.bind_some,Bool.not_true,Bool.false_eq_true,if_false,hw];exact h1
   rcases h2 with ⟨h2,h3⟩|⟨m,h2,hm,h3,h4,h5⟩
   ·
    refine .inl ⟨h2,fun j hj hij=>?_⟩
    by_cases e : i=j
    ·
     subst e;exact hd
    exact h3 j hj jD
   refine .inr ⟨m,h2,hm,jD,fun j hj hij hjm=>?_,h5⟩
   by_cases e : i=j
   ·
    subst e;exact hd
   exact h4 j hj jD hjm
  have hd' : F8.hasB lo hi op (l[i]'jD).f0=false:=by simpa using hd
  refine ⟨k+1,(i : Int),?_,.inr ⟨i,rfl,jD,ye _,fun j hj h1 h2=>by omega,hd'⟩⟩;simp only [Fw.l0];rw [if_pos jD,if_pos jD,if_pos jD,hr,F8.del_tells,hd'];simp only [Option.bind_some,Bool.not_false,if_true]
theorem F8.w_next (i : Nat) (h : i≤4611686018427387904) : wrap64 ((i : Int)+1)=((i+1 : Nat) : Int):=by unfold wrap64;omega
theorem F8.n_zero (i : Nat) : (0≤(i : Int))=True:=eq_true (Int.natCast_nonneg i)
theorem F8.n_lt {i n : Nat} (h : i<n) : ((i : Int)<(n : Int))=True:=eq_true (Int.ofNat_lt.2 h)
theorem F8.n_step {q j n : Nat} (h : q+1+j=n) : q+(j+1)=n:=by omega
theorem F8.n_pre {g j n : Nat} (h : g+j=n) (hj : j<n) : ∃ q,g=q+1:=⟨g - 1,jD⟩
set_option maxHeartbeats 4000000 in
set_option maxRecDepth 100000 in
theorem F8.walk (P0 : Nat→Prop) (A : Option Addr) (c : Nat) (l : List S28) (gc : Nat) (lo hi : ByteArray) (op : Bool) (w0 w : World) (hB : Below w0.heap.size w0 w) (ho : Kd.R k28 28 w w0.heap.size P0 (.slice A l.length c) l) (hl : l.length≤4611686018427387904)
  (hb : w.heap[gc]? = some (.cells #[.string lo,.string hi,.bool op] 32 (0,0))) :
  Calls Try.prog 24 #[.slice A l.length c,.func (.func 26) #[] #[.pointer (some ⟨gc,0,none⟩)]] w fun e w' => ∃ v,e = .returned v∧Kd.R k28 28 w' w0.heap.size P0 v (l.filter (fun e=>F8.hasB lo hi op e.f0))∧Below w0.heap.size w0 w' ∧ Kept w w' P0:=by
 obtain ⟨hn,hnc,hC⟩:=yh ho;obtain ⟨k,r,h1,h2⟩:=F8.idx_from lo hi op l hl l.length 0 jD
 go_enter Try.func24,Try.ntmps24
 go_wp2_with fail
 go_at_call 48
 refine (Fw.calls k A c l gc lo hi op r w hC hnc hb h1).mono ?_;rintro e w1 ⟨rfl,hb1⟩;rcases h2 with ⟨rfl,h2⟩|⟨m,rfl,hm,-,h4,h5⟩
 ·
  go_wp2
  go_ret
  refine ⟨_,rfl,?_,zC hB hb1,Kept.of_below hb1 _⟩
  have e : l.filter (fun e=>F8.hasB lo hi op e.f0)=l:=List.filter_eq_self.2 (fun x hx=>by
   obtain ⟨j,hj,rfl⟩:=List.getElem_of_mem hx
   exact h2 j hj (Nat.zero_le _))
  rw [e];exact yg ho hb1
 have hne : decide ((m : Int) = -1)=false:=decide_eq_false jD;have hneb : ((m : Int) == -1)=false:=zY.mpr jD
 go_wp2
 go_loopg [5,6] (l.length - (m+1)) (fun kq v5 v6 w' => ∃ (i j : Nat) (L : List S28),v5 = .int .i64 (i : Int)∧v6 = .int .i64 (j : Int)∧Aside0 (kq+j=l.length∧i<j)∧Aside0 (Kd.R k28 28 w' w0.heap.size P0 (.slice A l.length c) L) ∧
  Aside0 (L.length=l.length∧L.take i=(l.take j).filter (fun e=>F8.hasB lo hi op e.f0)∧L.drop j=l.drop j)∧Aside0 (w'.heap[gc]? = some (.cells #[.string lo,.string hi,.bool op] 32 (0,0)))∧Aside0 (Kept w w' P0)∧Aside0 (Below w0.heap.size w0 w'))
 case atStart =>
  refine ⟨m,m+1,l,rfl,?_,⟨jD,jD⟩,⟨yg ho hb1⟩,⟨rfl,?_,rfl⟩,⟨zD hb hb1⟩,⟨Kept.of_below hb1 _⟩,⟨zC hB hb1⟩⟩
  ·
   have hw : wrap64 ((m : Int)+1)=((m+1 : Nat) : Int):=by unfold wrap64;omega
   first|rw [hw]|(simp [hw];done)|(show Value.int .i64 _=_;rw [hw])
  rw [List.take_add_one,List.getElem?_eq_getElem hm,List.filter_append]
  have e1 : (l.take m).filter (fun e=>F8.hasB lo hi op e.f0)=l.take m:=List.filter_eq_self.2 (fun x hx=>by
   obtain ⟨q,hq,rfl⟩:=List.getElem_of_mem hx;rw [zx] at hq;rw [List.getElem_take]
   exact h4 q jD (Nat.zero_le _) jD)
  rw [e1];simp [h5]
 case round =>
  obtain ⟨i,j,L,rfl,rfl,HI,HO,HL,HG,HK,HB⟩:=hrel;obtain ⟨hLl,hLt,hLd⟩:=HL.out;obtain ⟨g,co,eo,gb,gl,cl,HGc⟩:=Kd.R_form HO.out jD;rw [hLl] at eo;injection eo with ea _ ec;subst ea;subst ec
  by_cases hjl : j<l.length
  ·
   have c3 : decide ((j : Int)<(l.length : Int))=true:=decide_eq_true jD
   have hj0 : (0≤(j : Int))=True:=eq_true jD;have hjlt : ((j : Int)<(l.length : Int))=True:=eq_true jD;obtain ⟨cj,hcj,hMj,hccj,hfj⟩:=Kd.R_elem HO.out z28 (j : Int) (Int.natCast_nonneg j) (Int.ofNat_lt.2 hjl);have ej:=k28_openM hMj;subst ej;have hij:=HI.out.2;have hkj:=HI.out.1;have hi0:=F8.n_zero i;have hilt:=F8.n_lt (Nat.lt_trans hij hjl);have hwj : wrap64 ((j : Int)+1)=((j+1 : Nat) : Int):=F8.w_next j (Nat.le_trans (Nat.le_of_lt hjl) hl);have hwi : wrap64 ((i : Int)+1)=((i+1 : Nat) : Int):=F8.w_next i (Nat.le_trans (Nat.le_of_lt (Nat.lt_trans hij hjl)) hl);obtain ⟨kq,rfl⟩:=F8.n_pre hkj hjl
   have eg : L.getD (j : Int).toNat z28=l[j]:=by
    have h9:=congrArg (·[0]?) hLd;simp only [List.getElem?_drop,Nat.add_zero] at h9;rw [Int.toNat_natCast,List.getD_eq_getElem?_getD,h9,List.getElem?_eq_getElem hjl];rfl
   have hk0 : wr.cell? ⟨g,j*2,none⟩=some (.string l[j].f0):=by have:=hccj 0 _ rfl;rw [eg] at this;exact this
   have hk1 : wr.cell? ⟨g,j*2+1,none⟩=some (.int .i64 l[j].f1):=by have:=hccj 1 _ rfl;rw [eg] at this;exact this
   go_wp2_with fail
   obtain ⟨b,hbd⟩ : ∃ b,(!F8.hasB lo hi op l[j].f0)=b:=⟨_,rfl⟩;have hdt:=F8.del_tells l[j] lo hi op;rw [hbd] at hdt
   go_at_call 26
   refine (F0j.calls l[j].f0 l[j].f1 gc lo hi op _ _ (zg HG.out _) hdt).mono ?_;rintro e w2 ⟨rfl,hb2⟩;have Bx:=zD (blk_new wr (.cells #[.string l[j].f0,.int .i64 l[j].f1] 28)) hb2;have b0:=zz Bx 0;have b1:=zz Bx 1;have HO2:=yg (zm HO.out (.cells #[.string l[j].f0,.int .i64 l[j].f1] 28)) hb2;have HG2:=zD (zg HG.out (.cells #[.string l[j].f0,.int .i64 l[j].f1] 28)) hb2;have hbw : Below wr.heap.size wr w2:=zC (za (Below.refl _ _) _) hb2;have HB2:=zh (zC HB.out hbw);have HK2:=zh (HK.out.below hbw)
   have F1 : Aside0 (∀ b,(!F8.hasB lo hi op l[j].f0)=b→(l.take (j+1)).filter (fun e=>F8.hasB lo hi op e.f0)=L.take i++(if b=true then [] else [l[j]])):=⟨fun b hb=>by
    rw [List.take_add_one,List.getElem?_eq_getElem hjl,List.filter_append,hLt]
    cases b <;> simp_all⟩
   have F2 : Aside0 (L.drop (j+1)=l.drop (j+1)):=⟨by
    have:=congrArg List.tail hLd
    simpa [List.tail_drop] using this⟩
   have HBD:=zh hbd;have hbsz:=zh hbw.size;clear hbw hbd hdt Bx hb2 HB HK hk0 hk1 hcj hMj hccj hfj hLt hLd
   cases b with
   | false =>
    obtain ⟨ci,hci,hMi,hcci,hfi⟩:=Kd.R_elem HO2 z28 (i : Int) (Int.natCast_nonneg i) (Int.ofNat_lt.2 (Nat.lt_trans hij hjl));have ei:=k28_openM hMi;have hm0 : w2.cell? ⟨g,i*2,none⟩=some (.string (L.getD (i : Int).toNat z28).f0):=hcci 0 _ (by rw [ei];rfl);have hm1 : w2.cell? ⟨g,i*2+1,none⟩=some (.int .i64 (L.getD (i : Int).toNat z28).f1):=hcci 1 _ (by rw [ei];rfl);have hn0 : w2.frozen? ⟨g,i*2,none⟩=false:=hfi 0;have hn1 : w2.frozen? ⟨g,i*2+1,none⟩=false:=hfi 1;subst ei;have HP : Aside0 (Kd.R k28 28 ((w2.setCell ⟨g,i*2,none⟩ (.string l[j].f0)).setCell ⟨g,i*2+1,none⟩ (.int .i64 l[j].f1)) w0.heap.size P0 (.slice (some ⟨g,0,none⟩) l.length c) (L.set i l[j])∧w2.grownBy ((w2.setCell ⟨g,i*2,none⟩ (.string l[j].f0)).setCell ⟨g,i*2+1,none⟩ (.int .i64 l[j].f1)) (some g)):=⟨Kd.R_seg HO2 (i : Int) (Int.natCast_nonneg i) (Int.ofNat_lt.2 (Nat.lt_trans hij hjl)) (seg:=[.string l[j].f0,.int .i64 l[j].f1]) (j:=0) hci hcci (show 0+2≤2 from by decide) (x':=l[j]) (k28_mkM _ _ _ l[j]) (fun _ hk=>hk)⟩;have hPg : P0 g:=HO.out.1 g rfl;have G1:=zh (yv HG2 HP.out.2 (fun he=>by injection he with he;subst he;have h9:=HG.out.symm.trans HGc;simp at h9));have G2:=zh (yz HP.out.2 HK2.out (fun k hk => .inl jAM));have G3:=zh (pw_below_grown HB2.out (some g) (Nat.le_trans (Nat.le_of_lt (Nat.lt_of_le_of_lt gb gl)) (by have:=hbsz.out;exact this)) HP.out.2 (fun k hk=>by injection hk with hk;subst hk;exact gb));clear hci hMi hcci hfi HO2 HG2
    go_wp2_with fail
    go_roundg kq
    case measure=>exact Nat.lt_succ_self _
    case rel =>
     refine ⟨i+1,j+1,L.set i l[j],by first|rfl|rw [hwi],rfl,⟨F8.n_step hkj,Nat.succ_lt_succ hij⟩,⟨HP.out.1⟩,⟨by rw [List.length_set];exact hLl,?_,?_⟩,G1,G2,G3⟩
     ·
      rw [F1.out false HBD.out,List.take_succ_eq_append_getElem (by rw [List.length_set,hLl];exact Nat.lt_trans hij hjl),List.getElem_set_self,List.take_set_of_le (ye _)];rfl
     rw [List.drop_set_of_lt (Nat.lt_succ_of_lt hij)];exact F2.out
   | true =>
    go_wp2_with fail
    go_roundg kq
    case measure=>exact Nat.lt_succ_self _
    case rel =>
     refine ⟨i,j+1,L,rfl,rfl,⟨F8.n_step hkj,Nat.lt_succ_of_lt hij⟩,⟨HO2⟩,⟨hLl,?_,F2.out⟩,⟨HG2⟩,HK2,HB2⟩;rw [F1.out true HBD.out];simp
  have hij:=HI.out.2;obtain rfl : j=l.length:=Nat.le_antisymm (by have:=HI.out.1;omega) (Nat.le_of_not_lt hjl);have c3 : decide ((l.length : Int)<(l.length : Int))=false:=decide_eq_false (Int.lt_irrefl _);rw [List.take_length] at hLt
  have hcsz : ∀ q,q<(l.length - i)*2→(wr.cell? ⟨g,i*2+q,none⟩).isSome=true∧wr.frozen? ⟨g,i*2+q,none⟩=false:=fun q hq=>by
   obtain ⟨ci,hci,hMi,hcci,hfi⟩:=Kd.R_elem HO.out z28 ((i+q / 2 : Nat) : Int) (Int.natCast_nonneg _) (Int.ofNat_lt.2 jD);rw [Int.toNat_natCast] at hcci hfi;have e2 : i*2+q=(i+q / 2)*2+q % 2:=by omega
   have hq2 : q % 2<ci.length:=by rw [hci];exact Nat.mod_lt _ jB
   rw [e2];exact ⟨by have h8:=hcci (q % 2) _ (List.getElem?_eq_getElem hq2);exact Option.isSome_iff_exists.2 ⟨_,h8⟩,hfi _⟩
  have hcl : ∀ ty,(Builtin.clear_ #[33] ty #[.slice (some ⟨g,i*2,none⟩) (l.length - i) (c - i)]).run Try.prog wr = .ok (.tuple #[]) (wr.setCells g (i*2) (Builtin.zeroCells #[.string ⟨#[]⟩,.int .i64 0] (l.length - i)).toList) :=
   fun ty=>F8.run_clear wr 33 28 ty (.agg #[.string ⟨#[]⟩,.int .i64 0]) Try.underlying33 (fun w=>by rfl) (fun q hq=>by
    have hq' : q<2:=hq;obtain rfl|rfl : q=0∨q=1:=by omega
    ·
     rfl
    rfl) g (i*2) (l.length - i) (c - i) (Nat.sub_pos_of_lt hij) (fun q hq=>(hcsz q hq).1) (fun q hq=>(hcsz q hq).2)
  clear hcsz
  have HT:=zh (F8.R_behind (Kd.R_take HO.out (m:=i) (by rw [hLl];exact Nat.le_of_lt hij)) (i*2) (Builtin.zeroCells #[.string ⟨#[]⟩,.int .i64 0] (l.length - i)).toList (ye _) (by
   rw [F8.zeros_length];show i*2+(l.length - i)*2≤c*2
   omega))
  have hPg : P0 g:=HO.out.1 g rfl;have G2:=zh (yz HT.out.2 HK.out (fun k hk => .inl jAM));have G3:=zh (pw_below_grown HB.out (some g) (Nat.le_trans gb (Nat.le_of_lt gl)) HT.out.2 (fun k hk=>by injection hk with hk;subst hk;exact gb))
  go_wp2_with fail
  go_ret
  refine ⟨_,rfl,?_,G3.out,G2.out⟩;rw [← hLt];exact HT.out.1
def F8.f (l0 : List (S28)) (a1_0 : ByteArray) (a1_1 : ByteArray) (a1_2 : Bool) : Option (List (S28)):=if l0.length≤4611686018427387904 then (some (l0.filter (fun e=>F8.hasB a1_0 a1_1 a1_2 e.f0))) else (none)
theorem F8.calls (P0_ : Nat→Prop) (u9000_ : Value) (l0 : List (S28)) (g1_0_ : Nat) (a1_0 : ByteArray) (a1_1 : ByteArray) (a1_2 : Bool) (r : List (S28)) (w0 w : World) (hB : Below w0.heap.size w0 w) (ho0 : Kd.R k28 28 w w0.heap.size P0_ u9000_ l0) (hb1_0_ : w.heap[g1_0_]? = some (.cells #[.string a1_0,.string a1_1,.bool a1_2] 32 (0,0))) (h : F8.f l0 a1_0 a1_1 a1_2=some r) :
  Calls Try.prog 24 #[u9000_,.func (.func 26) #[] #[.pointer (some ⟨g1_0_,0,none⟩)]] w fun e w' => ∃ v0_ : Value,e = .returned (v0_)∧Kd.R k28 28 w' w0.heap.size (fun k_=>(P0_ k_∨w.heap.size≤k_)) v0_ r∧Below w0.heap.size w0 w' ∧ Kept w w' (fun k_=>P0_ k_):=by
 unfold F8.f at h
 by_cases hl : l0.length≤4611686018427387904
 ·
  rw [if_pos hl] at h
  obtain rfl:=zU h;obtain ⟨A,c,rfl⟩:=yk ho0;refine (F8.walk P0_ A c l0 g1_0_ a1_0 a1_1 a1_2 w0 w hB ho0 hl hb1_0_).mono ?_;rintro e w' ⟨v,rfl,h1,h2,h3⟩;exact ⟨v,rfl,zM h1 (fun _ hk => .inl hk),h2,h3⟩
 rw [if_neg hl] at h;exact absurd h (by simp)


def F9.l0 : Nat→List (S28)→List Int→List (S60)→Int→Int→ByteArray→ByteArray→Bool→Option ((List (S28))×List Int×Int)
 | 0,_,_,_,_,_,_,_,_=>none
 | k+1,x7,x9,x28,x29,x30,x329000,x329001,x329002=>if x30<x29 then (if 0≤x30 then (if x30<(x28.length : Int) then (if x30 > 0 then (if x329002=true then (if x9.length<17592186044416 then (F9.l0 k x7 (x9 ++ [(rd_T60 x28 x30).f0]) x28 x29 (wrap64 (x30+1)) x329000 x329001 x329002) else (none)) else (if 0<(((rd_T60 x28 x30).f1).length : Int) then (if ((Op.bytesLess (((rd_T28 ((rd_T60 x28 x30).f1) 0).f0).toList) x329001.toList)=true) then (if x9.length<17592186044416 then (F9.l0 k x7 (x9 ++ [(rd_T60 x28 x30).f0]) x28 x29 (wrap64 (x30+1)) x329000 x329001 x329002) else (none)) else (some (x7,x9,0))) else (none))) else (if x9.length<17592186044416 then (F9.l0 k x7 (x9 ++ [(rd_T60 x28 x30).f0]) x28 x29 (wrap64 (x30+1)) x329000 x329001 x329002) else (none))) else (none)) else (none)) else (some (x7,x9,0))
def F9.f (k : Nat) (l0_0 : List (S60)) (a0_1 : Int) (a1_0 : ByteArray) (a1_1 : ByteArray) (a1_2 : Bool) : Option ((List (S28))×List Int×Int):=(F3.f k l0_0 a0_1).bind fun t329=>(if t329=true then ((Fi.f k l0_0 a0_1).bind fun t330=>((F8.f t330 a1_0 a1_1 a1_2).bind fun t333=>((Fc.f k l0_0 a0_1 a1_0 (-1)).bind fun t336=>(if 0≤t336 then (if t336≤(l0_0.length : Int) then ((some (l0_0.drop (t336 : Int).toNat : List (S60))).bind fun y340=>(F9.l0 k t333 (([] : List Int)) y340 (y340.length : Int) 0 a1_0 a1_1 a1_2)) else (none)) else (none))))) else (some (([] : List (S28)),([] : List Int),1)))
theorem F9.mono_l : ∀ k,(∀ y0 y1 y2 y3 y4 y5 y6 y7,LeO (F9.l0 k y0 y1 y2 y3 y4 y5 y6 y7) (F9.l0 (k+1) y0 y1 y2 y3 y4 y5 y6 y7))
 | 0=>fun _ _ _ _ _ _ _ _ r h=>by simp [F9.l0] at h
 | k+1=>by
  have ih0:=F9.mono_l k;intro y0 y1 y2 y3 y4 y5 y6 y7;unfold F9.l0
  repeat' first|(with_reducible first|exact ih0 _ _ _ _ _ _ _ _|exact F3.mono _ _ _|exact Fi.mono _ _ _|exact Fc.mono _ _ _ _ _|exact zQ _|exact zN _|refine zP ?_ ?_|refine zO ?_ (fun _=>?_))|refine zP ?_ ?_|refine zO ?_ (fun _=>?_)
theorem F9.mono : ∀ a0 a1 a2 a3 a4 k,LeO (F9.f k a0 a1 a2 a3 a4) (F9.f (k+1) a0 a1 a2 a3 a4):=by
 intro a0 a1 a2 a3 a4 k;have ih0:=F9.mono_l k;unfold F9.f
 repeat' first|(with_reducible first|exact ih0 _ _ _ _ _ _ _ _|exact F3.mono _ _ _|exact Fi.mono _ _ _|exact Fc.mono _ _ _ _ _|exact zQ _|exact zN _|refine zP ?_ ?_|refine zO ?_ (fun _=>?_))|refine zP ?_ ?_|refine zO ?_ (fun _=>?_)
set_option maxHeartbeats 8000000 in
set_option maxRecDepth 100000 in
theorem F9.calls (k : Nat) (A0_0 : Option Addr) (c0_0 : Nat) (l0_0 : List (S60)) (a0_1 : Int) (a1_0 : ByteArray) (a1_1 : ByteArray) (a1_2 : Bool) (r1 : List (S28)) (r2 : List Int) (r3 : Int) (w : World) (hr0_0 : Kd.C k60 w A0_0 l0_0.length l0_0) (hc0_0 : l0_0.length≤c0_0) (h : F9.f k l0_0 a0_1 a1_0 a1_1 a1_2=some (r1,r2,r3)) :
  Calls Try.prog 8 #[.agg #[.slice A0_0 l0_0.length c0_0,.int .i64 a0_1],.agg #[.string a1_0,.string a1_1,.bool a1_2]] w fun e w' => ∃ v0_ v1_ : Value,e = .returned (.tuple #[v0_,v1_,.int .i64 r3])∧Kd.R k28 28 w' w.heap.size (fun _=>True) v0_ r1∧Kd.R (Kd.int .i64) 3 w' w.heap.size (fun _=>True) v1_ r2∧Below w.heap.size w w':=by
 have hu25:=Try.underlying25;have hu32:=Try.underlying32;have hu28:=Try.underlying28;have hu60:=Try.underlying60;have HR0_0:=zh hr0_0;have HC0_0:=zh hc0_0;clear hr0_0 hc0_0;have HB:=zh (Below.refl w.heap.size w);have H : ((F3.f k l0_0 a0_1).bind fun t329=>(if t329=true then ((Fi.f k l0_0 a0_1).bind fun t330=>((F8.f t330 a1_0 a1_1 a1_2).bind fun t333=>((Fc.f k l0_0 a0_1 a1_0 (-1)).bind fun t336=>(if 0≤t336 then (if t336≤(l0_0.length : Int) then ((some (l0_0.drop (t336 : Int).toNat : List (S60))).bind fun y340=>(F9.l0 k t333 (([] : List Int)) y340 (y340.length : Int) 0 a1_0 a1_1 a1_2)) else (none)) else (none))))) else (some (([] : List (S28)),([] : List Int),1))))=some (r1,r2,r3):=h;clear h;replace H:=zT.mp H;obtain ⟨t329,A30,H⟩:=H;have A3:=zh A30;clear A30
 by_cases c4 : t329=true
 ·
  subst c4
  rw [if_pos rfl] at H;replace H:=zT.mp H;obtain ⟨t330,A50,H⟩:=H;have A5:=zh A50;clear A50;replace H:=zT.mp H;obtain ⟨t333,A60,H⟩:=H;have A6:=zh A60;clear A60;replace H:=zT.mp H;obtain ⟨t336,A70,H⟩:=H;have A7:=zh A70;clear A70;obtain ⟨y337,hy337⟩ : ∃ y_ : List Int,y_=(([] : List Int)):=⟨_,rfl⟩;replace H : (if 0≤t336 then (if t336≤(l0_0.length : Int) then ((some (l0_0.drop (t336 : Int).toNat : List (S60))).bind fun y340=>(F9.l0 k t333 y337 y340 (y340.length : Int) 0 a1_0 a1_1 a1_2)) else (none)) else (none))=some (r1,r2,r3):=by first|(rw [hy337];with_reducible exact H)|(have H2_:=(Option.bind_some _ _).symm.trans H;rw [hy337];with_reducible exact H2_)|(have H2_:=(Option.bind_some _ _).symm.trans H;with_reducible exact H2_)|with_reducible exact H|(rw [hy337];exact H)|exact H
  have Ny337:=zh hy337;clear hy337
  by_cases c8 : 0≤t336
  ·
   rw [if_pos c8] at H
   have c8b0:=eq_true c8;have c8b1 : decide (0≤t336)=true:=decide_eq_true c8;clear c8
   by_cases c9 : t336≤(l0_0.length : Int)
   ·
    rw [if_pos c9] at H
    have c9b0:=eq_true c9;have c9b1 : decide (t336≤(l0_0.length : Int))=true:=decide_eq_true c9;clear c9;obtain ⟨y340,hy340⟩ : ∃ y_ : List (S60),y_=(l0_0.drop (t336 : Int).toNat):=⟨_,rfl⟩;replace H : (F9.l0 k t333 y337 y340 (y340.length : Int) 0 a1_0 a1_1 a1_2)=some (r1,r2,r3):=by first|(rw [hy340];with_reducible exact H)|(have H2_:=(Option.bind_some _ _).symm.trans H;rw [hy340];with_reducible exact H2_)|(have H2_:=(Option.bind_some _ _).symm.trans H;with_reducible exact H2_)|with_reducible exact H|(rw [hy340];exact H)|exact H
    have Ny340:=zh hy340;clear hy340;have H':=zh H;clear H
    go_enter Try.func8,Try.ntmps8
    go_wp2_with (first|((with_reducible refine zK (N:=2) rfl ?_);refine zI ?hg (N:=2) ?hd (cs:=#[.slice A0_0 l0_0.length c0_0,.int .i64 a0_1]) (t:=25) ?hr ?_;(case hd=>rfl);(case hg=>rfl);(case hr=>go_simp <;> rfl);intro gb327 hg w10 hbox hb;have BK327:=zh (hbox);have hH_:=cH jH hb hg;have GW327:=zh hH_.1;have GE327:=GW327;replace HB:=zh hH_.2;clear hb hbox hg hH_)|((with_reducible refine zK (N:=3) rfl ?_);refine zI ?hg (N:=3) ?hd (cs:=#[.string a1_0,.string a1_1,.bool a1_2]) (t:=32) ?hr ?_;(case hd=>rfl);(case hg=>rfl);(case hr=>go_simp <;> rfl);intro gb328 hg w11 hbox hb;have BK328:=zh (hbox);have hH_:=cH jB0 hb hg;have GW328:=zh hH_.1;have GE328:=GW328;replace HB:=zh hH_.2;have NB327_328:=zh ((jh : gb327≠gb328));have NB328_327:=zh NB327_328.out.symm;replace BK327:=zh (cD BK327.out jK hb);clear hb hbox hg hH_;have hnb12:=NB327_328.out;have hnc12:=NB328_327.out;obtain ⟨hcz13_0,hcz13_1,hfz13_0,hfz13_1⟩:=cB2 BK327.out)|(go_at_call 20;(with_reducible refine (F3.calls k  _ _ l0_0 a0_1 true _ ?side1 ?side2 A3.out).mono ?_);(case side1=>repeat (first|exact (Kd.C_below HR0_0.out HB.out)|(with_reducible refine Kd.C_alloc ?_ _)|(with_reducible refine Kd.C_drewN ?_ _)|(with_reducible refine Kd.C_drew ?_)));(case side2=>exact HC0_0.out);rintro e w14 ⟨rfl,hb⟩;replace BK327:=zh (cD BK327.out jK hb);replace BK328:=zh (cD BK328.out jM hb);replace HB:=zh (zC jO hb);(try clear hb);(try clear hb2);(try clear hk);(try clear hi);obtain ⟨hcz15_0,hcz15_1,hfz15_0,hfz15_1⟩:=cB2 BK327.out)|(go_at_call 25;(with_reducible refine (Fi.calls k  _ _ l0_0 a0_1 t330 _ ?side1 ?side2 A5.out).mono ?_);(case side1=>repeat (first|exact (Kd.C_below HR0_0.out HB.out)|(with_reducible refine Kd.C_alloc ?_ _)|(with_reducible refine Kd.C_drewN ?_ _)|(with_reducible refine Kd.C_drew ?_)));(case side2=>exact HC0_0.out);rintro e w16 ⟨v331,rfl,ho0,hb⟩;have HO332:=zh (yx ho0 (zB jO));replace BK327:=zh (cD BK327.out jK hb);replace BK328:=zh (cD BK328.out jM hb);replace HB:=zh (zC jO hb);(try clear hb);(try clear hb2);(try clear hk);(try clear hi);(try clear ho0);obtain ⟨Ao17,co17,eo17⟩:=yk HO332.out;subst eo17)|(go_at_call 24;(with_reducible refine (F8.calls  (fun k_=>some k_=(.slice Ao17 t330.length co17 : Value).ownBlock) (.slice Ao17 t330.length co17) t330 gb328 a1_0 a1_1 a1_2 t333 w _ ?side1 ?side2 ?side3 A6.out).mono ?_);(case side1=>repeat (with_reducible first|exact HB.out|apply za|apply zb|apply zc|refine zd ?_ GE327.out|refine zd ?_ GE328.out));(case side2=>exact Kd.R_tight rfl HO332.out);(case side3=>(with_reducible repeat first|apply ze|apply zf|apply zg);exact BK328.out);rintro e w18 ⟨v334,rfl,ho0,hb,hkp⟩;replace BK327:=zh (blk_kept jK hkp (fun hs_=>(fun e_=>(Kd.R_ne HO332.out BK327.out jB) e_) hs_));replace BK328:=zh (blk_kept jM hkp (fun hs_=>(fun e_=>(Kd.R_ne HO332.out BK328.out jB) e_) hs_));have HO335:=zh (zM (ok':=fun k_=>True) ho0 (fun k_ hk_=>trivial));replace HB:=zh (hb);clear HO332;(try clear hb);(try clear hkp);(try clear ho0);obtain ⟨hcz19_0,hcz19_1,hfz19_0,hfz19_1⟩:=cB2 BK327.out;obtain ⟨hcz20_0,hcz20_1,hcz20_2,hfz20_0,hfz20_1,hfz20_2⟩:=cB3 BK328.out)|(go_at_call 28;(with_reducible refine (Fc.calls k  _ _ l0_0 a0_1 a1_0 (-1) t336 _ ?side1 ?side2 A7.out).mono ?_);(case side1=>repeat (first|exact (Kd.C_below HR0_0.out HB.out)|(with_reducible refine Kd.C_alloc ?_ _)|(with_reducible refine Kd.C_drewN ?_ _)|(with_reducible refine Kd.C_drew ?_)));(case side2=>exact HC0_0.out);rintro e w21 ⟨rfl,hb⟩;replace HO335:=zh (yg jCY hb);replace BK327:=zh (cD BK327.out jK hb);replace BK328:=zh (cD BK328.out jM hb);replace HB:=zh (zC jO hb);(try clear hb);(try clear hb2);(try clear hk);(try clear hi))|((with_reducible refine zK (N:=24) rfl ?_);refine Kd.R_lit (Kd.int .i64) _ 3 ?hg (N:=24) ?hd (xs:=([] : List Int)) (inner:=[]) (ok:=fun _=>True) (okp:=fun _=>True) ?hr ?hp (fun _ hk=>hk) trivial (Below.refl _ _) (ye _) (by simp) ?_;(case hd=>rfl);(case hg=>rfl);(case hr=>go_simp <;> rfl);(case hp=>exact (Reps.none _ _));intro v338 w22 ho23 hb hg_ hnew_;clear hg_ hnew_;(first|rw [← Ny337.out] at ho23|(simp only [Int.reduceToNat] at ho23;rw [← Ny337.out] at ho23));replace HO335:=zh (yg jCY hb);have HO339:=zh (yx ho23 (zB jO));replace BK327:=zh (cD BK327.out jK hb);replace BK328:=zh (cD BK328.out jM hb);replace HB:=zh (zC jO hb);clear hb ho23;obtain ⟨hcz24_0,hcz24_1,hfz24_0,hfz24_1⟩:=cB2 BK327.out;have q25 : (t336 : Int)≤((l0_0.length : Int) : Int):=zy jC;obtain ⟨i025,hi025,_,hsz25,_⟩:=info_parts info60;have hroom25 : l0_0.length≤c0_0:=HC0_0.out;have hC25 : Kd.C k60 _ A0_0 l0_0.length l0_0:=HR0_0.out;have q025 : (0 : Int)≤(t336 : Int):=zy jC;have hcut25:=cut_from (P:=Try.prog) 23 60 .i64 Try.underlying23 hi025 2 hsz25 A0_0 l0_0.length c0_0 t336 q025 q25;have hr25:=Kd.C_drop (m:=(t336 : Int).toNat) (c:=c0_0) hC25 jD hroom25;obtain ⟨A25,hA25⟩ : ∃ A1,A1=(if c0_0=(t336 : Int).toNat then A0_0 else (A0_0 : Option Addr).map (·.add ((t336 : Int).toNat*2))):=⟨_,rfl⟩;obtain ⟨c25,hc25⟩ : ∃ c1,c1=c0_0 - (t336 : Int).toNat:=⟨_,rfl⟩;have hy25 : y340.length=l0_0.length - (t336 : Int).toNat:=(by rw [Ny340.out,zw] <;> omega);rw [show (l0_0).drop (t336 : Int).toNat=y340 from Ny340.out.symm] at hr25;replace hr25 : Kd.C k60 _ A25 y340.length y340:=(by rw [hA25];exact hr25);rw [← hy25,← hA25,← hc25] at hcut25;have HR343:=zh hr25;have HC343:=zh (show y340.length≤c25 from by rw [hy25,hc25];exact Nat.sub_le_sub_right hroom25 _);clear hr25 hC25 hroom25 hi025 hsz25 hc25;have KY25:=zh hy25;have KA25:=zh hA25;clear hy25 hA25;replace q25:=eq_true q25))
    go_loopg [9,30] k (fun kq v9 v30 w' => ∃ (x9_1 : List Int) (x30_1 : Int),v30 = .int .i64 x30_1∧Aside0 (F9.l0 kq t333 x9_1 y340 (y340.length : Int) x30_1 a1_0 a1_1 a1_2=some (r1,r2,r3))∧Aside0 (kq≤k)∧Aside0 (Kd.R k28 28 w' w.heap.size (fun _=>True) v334 t333)∧Aside0 (Kd.R (Kd.int .i64) 3 w' w.heap.size (fun _=>True) v9 x9_1)∧Aside0 (w'.heap[gb327]? = some (.cells #[(.slice A0_0 l0_0.length c0_0),.int .i64 a0_1] 25 (0,0)))∧Aside0 (w'.heap[gb328]? = some (.cells #[.string a1_0,.string a1_1,.bool a1_2] 32 (0,0)))∧Aside0 (Below w.heap.size w w'))
    case atStart=>exact ⟨(y337),(0),jE,H',⟨ye _⟩,⟨jCY⟩,⟨by (with_reducible repeat (first|apply zm|apply zn|apply zo));exact HO339.out⟩,⟨jK⟩,⟨jM⟩,⟨jO⟩⟩
    case round =>
     clear H'
     try clear c1 c2
     try clear p2
     try clear q2
     try clear c4 c8 c8b0 c8b1 c9 c9b0 c9b1 c12 c25
     try clear q25
     try clear hcz13_0 hcz13_1
     try clear hcz15_0 hcz15_1
     try clear hcz19_0 hcz19_1
     try clear hcz20_0 hcz20_1 hcz20_2
     try clear hcz24_0 hcz24_1
     try clear hfz13_0 hfz13_1
     try clear hfz15_0 hfz15_1
     try clear hfz19_0 hfz19_1
     try clear hfz20_0 hfz20_1 hfz20_2
     try clear hfz24_0 hfz24_1
     try clear q025
     try clear q25
     obtain ⟨x9_1,x30_1,rfl,HA,HK1,HO_7,HO_9,BK327,BK328,HB⟩:=hrel
     cases gk with
     | zero=>exact absurd HA.out (by simp [F9.l0])
     | succ k1 =>
      have H:=HA.out;clear HA;simp only [F9.l0] at H
      by_cases c26 : x30_1<(y340.length : Int)
      ·
       rw [if_pos c26] at H
       have c26b0 : decide (x30_1<(y340.length : Int))=true:=decide_eq_true c26;clear c26
       by_cases c27 : 0≤x30_1
       ·
        rw [if_pos c27] at H
        have c27b0 : decide (0≤x30_1)=true:=decide_eq_true c27;clear c27
        by_cases c28 : x30_1<(y340.length : Int)
        ·
         rw [if_pos c28] at H
         have c28b0 : decide (x30_1<(y340.length : Int))=true:=decide_eq_true c28;clear c28
         by_cases c29 : x30_1 > 0
         ·
          rw [if_pos c29] at H
          have c29b0 : decide (0<x30_1)=true:=decide_eq_true c29;clear c29
          by_cases c30 : a1_2=true
          ·
           subst c30
           rw [if_pos rfl] at H
           by_cases c31 : x9_1.length<17592186044416
           ·
            rw [if_pos c31] at H
            have LMc31:=zh c31;clear c31;obtain ⟨y346,hy346⟩ : ∃ y_ : List Int,y_=(x9_1 ++ [(rd_T60 y340 x30_1).f0]):=⟨_,rfl⟩;replace H : (F9.l0 k1 t333 y346 y340 (y340.length : Int) (wrap64 (x30_1+1)) a1_0 a1_1 true)=some (r1,r2,r3):=by first|(rw [hy346];with_reducible exact H)|(have H2_:=(Option.bind_some _ _).symm.trans H;rw [hy346];with_reducible exact H2_)|(have H2_:=(Option.bind_some _ _).symm.trans H;with_reducible exact H2_)|with_reducible exact H|(rw [hy346];exact H)|exact H
            have Ny346:=zh hy346;clear hy346;have H':=zh H;clear H;have p344 : 0≤(x30_1 : Int):=zy jC;have q344 : x30_1<(y340.length : Int):=zy jC;obtain ⟨ad344,A344_1,c344_1,e344,hx344_0,hx344_1,hl344_1,hi344_1⟩:=at_T60 HR343.out x30_1 p344 q344
            cases e344
            replace hx344_0:=(HB.out.cell (zl w _ hx344_0)).trans hx344_0;replace hx344_1:=(HB.out.cell (zl w _ hx344_1)).trans hx344_1;have HR344_1:=zh hi344_1;have HC344_1:=zh hl344_1;clear hi344_1 hl344_1;replace p344:=eq_true p344;replace q344:=eq_true q344
            go_wp2_with (first|((with_reducible refine zK (N:=11) rfl ?_);refine zI ?hg (N:=11) ?hd (cs:=#[.int .i64 0,.slice none 0 0]) (t:=60) ?hr ?_;(case hd=>rfl);(case hg=>rfl);(case hr=>go_simp <;> rfl);intro gb345 hg w32 hbox hb;replace HO_7:=zh (yg jJ hb);replace HO_9:=zh (yg ju hb);have BK345:=zh (hbox);have hH_:=cH jO hb hg;have GW345:=zh hH_.1;have GE345:=GW345;replace HB:=zh hH_.2;have NB327_345:=zh ((jh : gb327≠gb345));have NB345_327:=zh NB327_345.out.symm;replace BK327:=zh (cD BK327.out jK hb);have NB328_345:=zh ((jCZ : gb328≠gb345));have NB345_328:=zh NB328_345.out.symm;replace BK328:=zh (cD BK328.out jM hb);clear hb hbox hg hH_;have hnb33:=NB345_327.out;have hnc33:=NB327_345.out;have hnb34:=NB345_328.out;have hnc34:=NB328_345.out;obtain ⟨hcz35_0,hcz35_1,hfz35_0,hfz35_1⟩:=cB2 BK345.out;have hnb36:=NB328_327.out;have hnc36:=NB327_328.out;obtain ⟨hcz37_0,hcz37_1,hcz37_2,hfz37_0,hfz37_1,hfz37_2⟩:=cB3 BK328.out)|((with_reducible refine yA (b:=.append) (xs:=#[.tmp 52,.tmp 55]) rfl ?_);at_builtin;refine Kd.R_append (Kd.int .i64) (w0:=w) w.heap.size rfl (.tmp 52) (.tmp 55) 34 3 (.int .i64 0) 8 rfl Try.underlying34 info3 rfl jB jD u9 x9_1 ((rd_T60 y340 x30_1).f0) [.int .i64 ((rd_T60 y340 x30_1).f0)] (fun _=>True) (fun _=>False) rfl jAB ?aP (fun _ hk=>hk.elim) ?aF ?aO ?aB ?aS ?aL ?_;(case aP=>exact rfl);(case aB=>exact jT);(case aF=>exact (fun _ _=>trivial));(case aO=>exact jBE);(case aS=>exact (zB jT));(case aL=>have:=LMc31.out;omega);intro v347 w38 ho hb hg hat;rw [← Ny346.out] at ho;replace HO_7:=zh (Kd.R_over' jBF (Kd.R_typed jBG) jB hg);replace BK327:=zh (yv (g:=gb327) (o:=.cells #[.slice A0_0 l0_0.length c0_0,.int .i64 a0_1] 25 (0,0)) jAW hg (Kd.R_ne HO_9.out BK327.out jB));replace BK328:=zh (yv (g:=gb328) (o:=.cells #[.string a1_0,.string a1_1,.bool true] 32 (0,0)) jAX hg (Kd.R_ne HO_9.out BK328.out jB));replace BK345:=zh (yv (g:=gb345) (o:=.cells #[.int .i64 ((rd_T60 y340 x30_1).f0),.slice A344_1 ((rd_T60 y340 x30_1).f1).length c344_1] 60 (0,0)) jAY hg (Kd.R_ne HO_9.out BK345.out jB));replace HB:=zh (hb);have HO348:=zh (ho);clear HO_9 ho hb hg hat))
            repeat (go_quiet (first|((with_reducible refine zK (N:=11) rfl ?_);refine zI ?hg (N:=11) ?hd (cs:=#[.int .i64 0,.slice none 0 0]) (t:=60) ?hr ?_;(case hd=>rfl);(case hg=>rfl);(case hr=>go_simp <;> rfl);intro gb345 hg w32 hbox hb;replace HO_7:=zh (yg jJ hb);replace HO_9:=zh (yg ju hb);have BK345:=zh (hbox);have hH_:=cH jO hb hg;have GW345:=zh hH_.1;have GE345:=GW345;replace HB:=zh hH_.2;have NB327_345:=zh ((jh : gb327≠gb345));have NB345_327:=zh NB327_345.out.symm;replace BK327:=zh (cD BK327.out jK hb);have NB328_345:=zh ((jCZ : gb328≠gb345));have NB345_328:=zh NB328_345.out.symm;replace BK328:=zh (cD BK328.out jM hb);clear hb hbox hg hH_;have hnb33:=NB345_327.out;have hnc33:=NB327_345.out;have hnb34:=NB345_328.out;have hnc34:=NB328_345.out;obtain ⟨hcz35_0,hcz35_1,hfz35_0,hfz35_1⟩:=cB2 BK345.out;have hnb36:=NB328_327.out;have hnc36:=NB327_328.out;obtain ⟨hcz37_0,hcz37_1,hcz37_2,hfz37_0,hfz37_1,hfz37_2⟩:=cB3 BK328.out)|((with_reducible refine yA (b:=.append) (xs:=#[.tmp 52,.tmp 55]) rfl ?_);at_builtin;refine Kd.R_append (Kd.int .i64) (w0:=w) w.heap.size rfl (.tmp 52) (.tmp 55) 34 3 (.int .i64 0) 8 rfl Try.underlying34 info3 rfl jB jD u9 x9_1 ((rd_T60 y340 x30_1).f0) [.int .i64 ((rd_T60 y340 x30_1).f0)] (fun _=>True) (fun _=>False) rfl jAB ?aP (fun _ hk=>hk.elim) ?aF ?aO ?aB ?aS ?aL ?_;(case aP=>exact rfl);(case aB=>exact jT);(case aF=>exact (fun _ _=>trivial));(case aO=>exact jBE);(case aS=>exact (zB jT));(case aL=>have:=LMc31.out;omega);intro v347 w38 ho hb hg hat;rw [← Ny346.out] at ho;replace HO_7:=zh (Kd.R_over' jBF (Kd.R_typed jBG) jB hg);replace BK327:=zh (yv (g:=gb327) (o:=.cells #[.slice A0_0 l0_0.length c0_0,.int .i64 a0_1] 25 (0,0)) jAW hg (Kd.R_ne HO_9.out BK327.out jB));replace BK328:=zh (yv (g:=gb328) (o:=.cells #[.string a1_0,.string a1_1,.bool true] 32 (0,0)) jAX hg (Kd.R_ne HO_9.out BK328.out jB));replace BK345:=zh (yv (g:=gb345) (o:=.cells #[.int .i64 ((rd_T60 y340 x30_1).f0),.slice A344_1 ((rd_T60 y340 x30_1).f1).length c344_1] 60 (0,0)) jAY hg (Kd.R_ne HO_9.out BK345.out jB));replace HB:=zh (hb);have HO348:=zh (ho);clear HO_9 ho hb hg hat));try go_wp2_with (first|((with_reducible refine zK (N:=11) rfl ?_);refine zI ?hg (N:=11) ?hd (cs:=#[.int .i64 0,.slice none 0 0]) (t:=60) ?hr ?_;(case hd=>rfl);(case hg=>rfl);(case hr=>go_simp <;> rfl);intro gb345 hg w32 hbox hb;replace HO_7:=zh (yg jJ hb);replace HO_9:=zh (yg ju hb);have BK345:=zh (hbox);have hH_:=cH jO hb hg;have GW345:=zh hH_.1;have GE345:=GW345;replace HB:=zh hH_.2;have NB327_345:=zh ((jh : gb327≠gb345));have NB345_327:=zh NB327_345.out.symm;replace BK327:=zh (cD BK327.out jK hb);have NB328_345:=zh ((jCZ : gb328≠gb345));have NB345_328:=zh NB328_345.out.symm;replace BK328:=zh (cD BK328.out jM hb);clear hb hbox hg hH_;have hnb33:=NB345_327.out;have hnc33:=NB327_345.out;have hnb34:=NB345_328.out;have hnc34:=NB328_345.out;obtain ⟨hcz35_0,hcz35_1,hfz35_0,hfz35_1⟩:=cB2 BK345.out;have hnb36:=NB328_327.out;have hnc36:=NB327_328.out;obtain ⟨hcz37_0,hcz37_1,hcz37_2,hfz37_0,hfz37_1,hfz37_2⟩:=cB3 BK328.out)|((with_reducible refine yA (b:=.append) (xs:=#[.tmp 52,.tmp 55]) rfl ?_);at_builtin;refine Kd.R_append (Kd.int .i64) (w0:=w) w.heap.size rfl (.tmp 52) (.tmp 55) 34 3 (.int .i64 0) 8 rfl Try.underlying34 info3 rfl jB jD u9 x9_1 ((rd_T60 y340 x30_1).f0) [.int .i64 ((rd_T60 y340 x30_1).f0)] (fun _=>True) (fun _=>False) rfl jAB ?aP (fun _ hk=>hk.elim) ?aF ?aO ?aB ?aS ?aL ?_;(case aP=>exact rfl);(case aB=>exact jT);(case aF=>exact (fun _ _=>trivial));(case aO=>exact jBE);(case aS=>exact (zB jT));(case aL=>have:=LMc31.out;omega);intro v347 w38 ho hb hg hat;rw [← Ny346.out] at ho;replace HO_7:=zh (Kd.R_over' jBF (Kd.R_typed jBG) jB hg);replace BK327:=zh (yv (g:=gb327) (o:=.cells #[.slice A0_0 l0_0.length c0_0,.int .i64 a0_1] 25 (0,0)) jAW hg (Kd.R_ne HO_9.out BK327.out jB));replace BK328:=zh (yv (g:=gb328) (o:=.cells #[.string a1_0,.string a1_1,.bool true] 32 (0,0)) jAX hg (Kd.R_ne HO_9.out BK328.out jB));replace BK345:=zh (yv (g:=gb345) (o:=.cells #[.int .i64 ((rd_T60 y340 x30_1).f0),.slice A344_1 ((rd_T60 y340 x30_1).f1).length c344_1] 60 (0,0)) jAY hg (Kd.R_ne HO_9.out BK345.out jB));replace HB:=zh (hb);have HO348:=zh (ho);clear HO_9 ho hb hg hat)))
            go_roundg k1
            case measure=>have:=HK1.out;omega
            case rel=>exact ⟨(y346),(wrap64 (x30_1+1)),jE,H',⟨jR⟩,⟨jJ⟩,⟨by (with_reducible repeat (first|apply zm|apply zn|apply zo));exact HO348.out⟩,⟨jK⟩,⟨jM⟩,⟨jT⟩⟩
           rw [if_neg c31] at H;exact absurd H (by simp)
          replace c30:=yb.mpr c30;subst c30;rw [if_neg (show ¬ (false=true) by decide)] at H
          by_cases c39 : 0<(((rd_T60 y340 x30_1).f1).length : Int)
          ·
           rw [if_pos c39] at H
           have c39b0 : decide (0<(((rd_T60 y340 x30_1).f1).length : Int))=true:=decide_eq_true c39;have c39b1 : decide (0<((rd_T60 y340 x30_1).f1).length)=true:=decide_eq_true jD;clear c39
           by_cases c40 : ((Op.bytesLess (((rd_T28 ((rd_T60 y340 x30_1).f1) 0).f0).toList) a1_1.toList)=true)
           ·
            rw [if_pos c40] at H
            have c40b0 : (Op.bytesLess (((rd_T28 ((rd_T60 y340 x30_1).f1) 0).f0).toList) a1_1.toList)=true:=c40;clear c40
            by_cases c41 : x9_1.length<17592186044416
            ·
             rw [if_pos c41] at H
             have LMc41:=zh c41;clear c41;obtain ⟨y350,hy350⟩ : ∃ y_ : List Int,y_=(x9_1 ++ [(rd_T60 y340 x30_1).f0]):=⟨_,rfl⟩;replace H : (F9.l0 k1 t333 y350 y340 (y340.length : Int) (wrap64 (x30_1+1)) a1_0 a1_1 false)=some (r1,r2,r3):=by first|(rw [hy350];with_reducible exact H)|(have H2_:=(Option.bind_some _ _).symm.trans H;rw [hy350];with_reducible exact H2_)|(have H2_:=(Option.bind_some _ _).symm.trans H;with_reducible exact H2_)|with_reducible exact H|(rw [hy350];exact H)|exact H
             have Ny350:=zh hy350;clear hy350;have H':=zh H;clear H;have p344 : 0≤(x30_1 : Int):=zy jC;have q344 : x30_1<(y340.length : Int):=zy jC;obtain ⟨ad344,A344_1,c344_1,e344,hx344_0,hx344_1,hl344_1,hi344_1⟩:=at_T60 HR343.out x30_1 p344 q344
             cases e344
             replace hx344_0:=(HB.out.cell (zl w _ hx344_0)).trans hx344_0;replace hx344_1:=(HB.out.cell (zl w _ hx344_1)).trans hx344_1;have HR344_1:=zh hi344_1;have HC344_1:=zh hl344_1;clear hi344_1 hl344_1;replace p344:=eq_true p344;replace q344:=eq_true q344
             go_wp2_with (first|((with_reducible refine zK (N:=11) rfl ?_);refine zI ?hg (N:=11) ?hd (cs:=#[.int .i64 0,.slice none 0 0]) (t:=60) ?hr ?_;(case hd=>rfl);(case hg=>rfl);(case hr=>go_simp <;> rfl);intro gb345 hg w42 hbox hb;replace HO_7:=zh (yg jJ hb);replace HO_9:=zh (yg ju hb);have BK345:=zh (hbox);have hH_:=cH jO hb hg;have GW345:=zh hH_.1;have GE345:=GW345;replace HB:=zh hH_.2;have NB327_345:=zh ((jh : gb327≠gb345));have NB345_327:=zh NB327_345.out.symm;replace BK327:=zh (cD BK327.out jK hb);have NB328_345:=zh ((jBH : gb328≠gb345));have NB345_328:=zh NB328_345.out.symm;replace BK328:=zh (cD BK328.out jM hb);clear hb hbox hg hH_;have hnb43:=NB345_327.out;have hnc43:=NB327_345.out;have hnb44:=NB345_328.out;have hnc44:=NB328_345.out;obtain ⟨hcz45_0,hcz45_1,hfz45_0,hfz45_1⟩:=cB2 BK345.out;have hnb46:=NB328_327.out;have hnc46:=NB327_328.out;obtain ⟨hcz47_0,hcz47_1,hcz47_2,hfz47_0,hfz47_1,hfz47_2⟩:=cB3 BK328.out;have p349 : 0≤(0 : Int):=jD;have q349 : 0<(((rd_T60 y340 x30_1).f1).length : Int):=zy jC;obtain ⟨ad349,e349,hx349_0,hx349_1⟩:=at_T28 HR344_1.out 0 p349 q349;cases e349;have qi349 : (0<((rd_T60 y340 x30_1).f1).length)=True:=eq_true jD;(try rw [show ((0 : Int)).toNat=0 from rfl] at hx349_0);(try rw [show 0*2=0 from rfl] at hx349_0);(try rw [Addr.add_zero'] at hx349_0);(try rw [show ((0 : Int)).toNat=0 from rfl] at hx349_1);(try rw [show 0*2=0 from rfl] at hx349_1);(try rw [Addr.add_zero'] at hx349_1);have hn349_0 : ad349.block≠gb345:=yc (Nat.lt_of_lt_of_le jy GW345.out);have hn349_1 : ad349.block≠gb345:=yc (Nat.lt_of_lt_of_le jy GW345.out);replace hx349_0:=(HB.out.cell (zl w _ hx349_0)).trans hx349_0;replace hx349_1:=(HB.out.cell (zl w _ hx349_1)).trans hx349_1;replace hx349_0:=(zR (p:=⟨gb345,0,none⟩) jz (.int .i64 ((rd_T60 y340 x30_1).f0))).trans hx349_0;replace hx349_1:=(zR (p:=⟨gb345,0,none⟩) jz (.int .i64 ((rd_T60 y340 x30_1).f0))).trans hx349_1;replace hx349_0:=(zR (p:=⟨gb345,1,none⟩) jAA (.slice (some ad349) ((rd_T60 y340 x30_1).f1).length c344_1)).trans hx349_0;replace hx349_1:=(zR (p:=⟨gb345,1,none⟩) jAA (.slice (some ad349) ((rd_T60 y340 x30_1).f1).length c344_1)).trans hx349_1;(try have hy349_0:=fun (n_ : Nat)=>(show ((((w42.drewN n_).setCell ⟨gb345,0,none⟩ (.int .i64 ((rd_T60 y340 x30_1).f0))).setCell ⟨gb345,1,none⟩ (.slice (some ad349) ((rd_T60 y340 x30_1).f1).length c344_1))).cell? _=some _ from hx349_0));(try have hy349_1:=fun (n_ : Nat)=>(show ((((w42.drewN n_).setCell ⟨gb345,0,none⟩ (.int .i64 ((rd_T60 y340 x30_1).f0))).setCell ⟨gb345,1,none⟩ (.slice (some ad349) ((rd_T60 y340 x30_1).f1).length c344_1))).cell? _=some _ from hx349_1));clear hn349_0 hn349_1;replace p349:=eq_true p349;replace q349:=eq_true q349)|((with_reducible refine yA (b:=.append) (xs:=#[.tmp 52,.tmp 55]) rfl ?_);at_builtin;refine Kd.R_append (Kd.int .i64) (w0:=w) w.heap.size rfl (.tmp 52) (.tmp 55) 34 3 (.int .i64 0) 8 rfl Try.underlying34 info3 rfl jB jD u9 x9_1 ((rd_T60 y340 x30_1).f0) [.int .i64 ((rd_T60 y340 x30_1).f0)] (fun _=>True) (fun _=>False) rfl jAB ?aP (fun _ hk=>hk.elim) ?aF ?aO ?aB ?aS ?aL ?_;(case aP=>exact rfl);(case aB=>exact jT);(case aF=>exact (fun _ _=>trivial));(case aO=>exact jB1);(case aS=>exact (zB jT));(case aL=>have:=LMc41.out;omega);intro v351 w48 ho hb hg hat;rw [← Ny350.out] at ho;replace HO_7:=zh (Kd.R_over' jCb (Kd.R_typed jCc) jB hg);replace BK327:=zh (yv (g:=gb327) (o:=.cells #[.slice A0_0 l0_0.length c0_0,.int .i64 a0_1] 25 (0,0)) jAW hg (Kd.R_ne HO_9.out BK327.out jB));replace BK328:=zh (yv (g:=gb328) (o:=.cells #[.string a1_0,.string a1_1,.bool false] 32 (0,0)) jAX hg (Kd.R_ne HO_9.out BK328.out jB));replace BK345:=zh (yv (g:=gb345) (o:=.cells #[.int .i64 ((rd_T60 y340 x30_1).f0),.slice (some ad349) ((rd_T60 y340 x30_1).f1).length c344_1] 60 (0,0)) jAY hg (Kd.R_ne HO_9.out BK345.out jB));replace HB:=zh (hb);have HO352:=zh (ho);clear HO_9 ho hb hg hat))
             repeat (go_quiet (first|((with_reducible refine zK (N:=11) rfl ?_);refine zI ?hg (N:=11) ?hd (cs:=#[.int .i64 0,.slice none 0 0]) (t:=60) ?hr ?_;(case hd=>rfl);(case hg=>rfl);(case hr=>go_simp <;> rfl);intro gb345 hg w42 hbox hb;replace HO_7:=zh (yg jJ hb);replace HO_9:=zh (yg ju hb);have BK345:=zh (hbox);have hH_:=cH jO hb hg;have GW345:=zh hH_.1;have GE345:=GW345;replace HB:=zh hH_.2;have NB327_345:=zh ((jh : gb327≠gb345));have NB345_327:=zh NB327_345.out.symm;replace BK327:=zh (cD BK327.out jK hb);have NB328_345:=zh ((jBH : gb328≠gb345));have NB345_328:=zh NB328_345.out.symm;replace BK328:=zh (cD BK328.out jM hb);clear hb hbox hg hH_;have hnb43:=NB345_327.out;have hnc43:=NB327_345.out;have hnb44:=NB345_328.out;have hnc44:=NB328_345.out;obtain ⟨hcz45_0,hcz45_1,hfz45_0,hfz45_1⟩:=cB2 BK345.out;have hnb46:=NB328_327.out;have hnc46:=NB327_328.out;obtain ⟨hcz47_0,hcz47_1,hcz47_2,hfz47_0,hfz47_1,hfz47_2⟩:=cB3 BK328.out;have p349 : 0≤(0 : Int):=jD;have q349 : 0<(((rd_T60 y340 x30_1).f1).length : Int):=zy jC;obtain ⟨ad349,e349,hx349_0,hx349_1⟩:=at_T28 HR344_1.out 0 p349 q349;cases e349;have qi349 : (0<((rd_T60 y340 x30_1).f1).length)=True:=eq_true jD;(try rw [show ((0 : Int)).toNat=0 from rfl] at hx349_0);(try rw [show 0*2=0 from rfl] at hx349_0);(try rw [Addr.add_zero'] at hx349_0);(try rw [show ((0 : Int)).toNat=0 from rfl] at hx349_1);(try rw [show 0*2=0 from rfl] at hx349_1);(try rw [Addr.add_zero'] at hx349_1);have hn349_0 : ad349.block≠gb345:=yc (Nat.lt_of_lt_of_le jy GW345.out);have hn349_1 : ad349.block≠gb345:=yc (Nat.lt_of_lt_of_le jy GW345.out);replace hx349_0:=(HB.out.cell (zl w _ hx349_0)).trans hx349_0;replace hx349_1:=(HB.out.cell (zl w _ hx349_1)).trans hx349_1;replace hx349_0:=(zR (p:=⟨gb345,0,none⟩) jz (.int .i64 ((rd_T60 y340 x30_1).f0))).trans hx349_0;replace hx349_1:=(zR (p:=⟨gb345,0,none⟩) jz (.int .i64 ((rd_T60 y340 x30_1).f0))).trans hx349_1;replace hx349_0:=(zR (p:=⟨gb345,1,none⟩) jAA (.slice (some ad349) ((rd_T60 y340 x30_1).f1).length c344_1)).trans hx349_0;replace hx349_1:=(zR (p:=⟨gb345,1,none⟩) jAA (.slice (some ad349) ((rd_T60 y340 x30_1).f1).length c344_1)).trans hx349_1;(try have hy349_0:=fun (n_ : Nat)=>(show ((((w42.drewN n_).setCell ⟨gb345,0,none⟩ (.int .i64 ((rd_T60 y340 x30_1).f0))).setCell ⟨gb345,1,none⟩ (.slice (some ad349) ((rd_T60 y340 x30_1).f1).length c344_1))).cell? _=some _ from hx349_0));(try have hy349_1:=fun (n_ : Nat)=>(show ((((w42.drewN n_).setCell ⟨gb345,0,none⟩ (.int .i64 ((rd_T60 y340 x30_1).f0))).setCell ⟨gb345,1,none⟩ (.slice (some ad349) ((rd_T60 y340 x30_1).f1).length c344_1))).cell? _=some _ from hx349_1));clear hn349_0 hn349_1;replace p349:=eq_true p349;replace q349:=eq_true q349)|((with_reducible refine yA (b:=.append) (xs:=#[.tmp 52,.tmp 55]) rfl ?_);at_builtin;refine Kd.R_append (Kd.int .i64) (w0:=w) w.heap.size rfl (.tmp 52) (.tmp 55) 34 3 (.int .i64 0) 8 rfl Try.underlying34 info3 rfl jB jD u9 x9_1 ((rd_T60 y340 x30_1).f0) [.int .i64 ((rd_T60 y340 x30_1).f0)] (fun _=>True) (fun _=>False) rfl jAB ?aP (fun _ hk=>hk.elim) ?aF ?aO ?aB ?aS ?aL ?_;(case aP=>exact rfl);(case aB=>exact jT);(case aF=>exact (fun _ _=>trivial));(case aO=>exact jB1);(case aS=>exact (zB jT));(case aL=>have:=LMc41.out;omega);intro v351 w48 ho hb hg hat;rw [← Ny350.out] at ho;replace HO_7:=zh (Kd.R_over' jCb (Kd.R_typed jCc) jB hg);replace BK327:=zh (yv (g:=gb327) (o:=.cells #[.slice A0_0 l0_0.length c0_0,.int .i64 a0_1] 25 (0,0)) jAW hg (Kd.R_ne HO_9.out BK327.out jB));replace BK328:=zh (yv (g:=gb328) (o:=.cells #[.string a1_0,.string a1_1,.bool false] 32 (0,0)) jAX hg (Kd.R_ne HO_9.out BK328.out jB));replace BK345:=zh (yv (g:=gb345) (o:=.cells #[.int .i64 ((rd_T60 y340 x30_1).f0),.slice (some ad349) ((rd_T60 y340 x30_1).f1).length c344_1] 60 (0,0)) jAY hg (Kd.R_ne HO_9.out BK345.out jB));replace HB:=zh (hb);have HO352:=zh (ho);clear HO_9 ho hb hg hat));try go_wp2_with (first|((with_reducible refine zK (N:=11) rfl ?_);refine zI ?hg (N:=11) ?hd (cs:=#[.int .i64 0,.slice none 0 0]) (t:=60) ?hr ?_;(case hd=>rfl);(case hg=>rfl);(case hr=>go_simp <;> rfl);intro gb345 hg w42 hbox hb;replace HO_7:=zh (yg jJ hb);replace HO_9:=zh (yg ju hb);have BK345:=zh (hbox);have hH_:=cH jO hb hg;have GW345:=zh hH_.1;have GE345:=GW345;replace HB:=zh hH_.2;have NB327_345:=zh ((jh : gb327≠gb345));have NB345_327:=zh NB327_345.out.symm;replace BK327:=zh (cD BK327.out jK hb);have NB328_345:=zh ((jBH : gb328≠gb345));have NB345_328:=zh NB328_345.out.symm;replace BK328:=zh (cD BK328.out jM hb);clear hb hbox hg hH_;have hnb43:=NB345_327.out;have hnc43:=NB327_345.out;have hnb44:=NB345_328.out;have hnc44:=NB328_345.out;obtain ⟨hcz45_0,hcz45_1,hfz45_0,hfz45_1⟩:=cB2 BK345.out;have hnb46:=NB328_327.out;have hnc46:=NB327_328.out;obtain ⟨hcz47_0,hcz47_1,hcz47_2,hfz47_0,hfz47_1,hfz47_2⟩:=cB3 BK328.out;have p349 : 0≤(0 : Int):=jD;have q349 : 0<(((rd_T60 y340 x30_1).f1).length : Int):=zy jC;obtain ⟨ad349,e349,hx349_0,hx349_1⟩:=at_T28 HR344_1.out 0 p349 q349;cases e349;have qi349 : (0<((rd_T60 y340 x30_1).f1).length)=True:=eq_true jD;(try rw [show ((0 : Int)).toNat=0 from rfl] at hx349_0);(try rw [show 0*2=0 from rfl] at hx349_0);(try rw [Addr.add_zero'] at hx349_0);(try rw [show ((0 : Int)).toNat=0 from rfl] at hx349_1);(try rw [show 0*2=0 from rfl] at hx349_1);(try rw [Addr.add_zero'] at hx349_1);have hn349_0 : ad349.block≠gb345:=yc (Nat.lt_of_lt_of_le jy GW345.out);have hn349_1 : ad349.block≠gb345:=yc (Nat.lt_of_lt_of_le jy GW345.out);replace hx349_0:=(HB.out.cell (zl w _ hx349_0)).trans hx349_0;replace hx349_1:=(HB.out.cell (zl w _ hx349_1)).trans hx349_1;replace hx349_0:=(zR (p:=⟨gb345,0,none⟩) jz (.int .i64 ((rd_T60 y340 x30_1).f0))).trans hx349_0;replace hx349_1:=(zR (p:=⟨gb345,0,none⟩) jz (.int .i64 ((rd_T60 y340 x30_1).f0))).trans hx349_1;replace hx349_0:=(zR (p:=⟨gb345,1,none⟩) jAA (.slice (some ad349) ((rd_T60 y340 x30_1).f1).length c344_1)).trans hx349_0;replace hx349_1:=(zR (p:=⟨gb345,1,none⟩) jAA (.slice (some ad349) ((rd_T60 y340 x30_1).f1).length c344_1)).trans hx349_1;(try have hy349_0:=fun (n_ : Nat)=>(show ((((w42.drewN n_).setCell ⟨gb345,0,none⟩ (.int .i64 ((rd_T60 y340 x30_1).f0))).setCell ⟨gb345,1,none⟩ (.slice (some ad349) ((rd_T60 y340 x30_1).f1).length c344_1))).cell? _=some _ from hx349_0));(try have hy349_1:=fun (n_ : Nat)=>(show ((((w42.drewN n_).setCell ⟨gb345,0,none⟩ (.int .i64 ((rd_T60 y340 x30_1).f0))).setCell ⟨gb345,1,none⟩ (.slice (some ad349) ((rd_T60 y340 x30_1).f1).length c344_1))).cell? _=some _ from hx349_1));clear hn349_0 hn349_1;replace p349:=eq_true p349;replace q349:=eq_true q349)|((with_reducible refine yA (b:=.append) (xs:=#[.tmp 52,.tmp 55]) rfl ?_);at_builtin;refine Kd.R_append (Kd.int .i64) (w0:=w) w.heap.size rfl (.tmp 52) (.tmp 55) 34 3 (.int .i64 0) 8 rfl Try.underlying34 info3 rfl jB jD u9 x9_1 ((rd_T60 y340 x30_1).f0) [.int .i64 ((rd_T60 y340 x30_1).f0)] (fun _=>True) (fun _=>False) rfl jAB ?aP (fun _ hk=>hk.elim) ?aF ?aO ?aB ?aS ?aL ?_;(case aP=>exact rfl);(case aB=>exact jT);(case aF=>exact (fun _ _=>trivial));(case aO=>exact jB1);(case aS=>exact (zB jT));(case aL=>have:=LMc41.out;omega);intro v351 w48 ho hb hg hat;rw [← Ny350.out] at ho;replace HO_7:=zh (Kd.R_over' jCb (Kd.R_typed jCc) jB hg);replace BK327:=zh (yv (g:=gb327) (o:=.cells #[.slice A0_0 l0_0.length c0_0,.int .i64 a0_1] 25 (0,0)) jAW hg (Kd.R_ne HO_9.out BK327.out jB));replace BK328:=zh (yv (g:=gb328) (o:=.cells #[.string a1_0,.string a1_1,.bool false] 32 (0,0)) jAX hg (Kd.R_ne HO_9.out BK328.out jB));replace BK345:=zh (yv (g:=gb345) (o:=.cells #[.int .i64 ((rd_T60 y340 x30_1).f0),.slice (some ad349) ((rd_T60 y340 x30_1).f1).length c344_1] 60 (0,0)) jAY hg (Kd.R_ne HO_9.out BK345.out jB));replace HB:=zh (hb);have HO352:=zh (ho);clear HO_9 ho hb hg hat)))
             go_roundg k1
             case measure=>have:=HK1.out;omega
             case rel=>exact ⟨(y350),(wrap64 (x30_1+1)),jE,H',⟨jR⟩,⟨jJ⟩,⟨by (with_reducible repeat (first|apply zm|apply zn|apply zo));exact HO352.out⟩,⟨jK⟩,⟨jM⟩,⟨jT⟩⟩
            rw [if_neg c41] at H;exact absurd H (by simp)
           rw [if_neg c40] at H;have c40b0 : (Op.bytesLess (((rd_T28 ((rd_T60 y340 x30_1).f1) 0).f0).toList) a1_1.toList)=false:=by simpa using c40
           clear c40;simp only [Option.some.injEq,Prod.mk.injEq] at H;obtain ⟨rfl,rfl,rfl⟩:=H;have p344 : 0≤(x30_1 : Int):=zy jC;have q344 : x30_1<(y340.length : Int):=zy jC;obtain ⟨ad344,A344_1,c344_1,e344,hx344_0,hx344_1,hl344_1,hi344_1⟩:=at_T60 HR343.out x30_1 p344 q344
           cases e344
           replace hx344_0:=(HB.out.cell (zl w _ hx344_0)).trans hx344_0;replace hx344_1:=(HB.out.cell (zl w _ hx344_1)).trans hx344_1;have HR344_1:=zh hi344_1;have HC344_1:=zh hl344_1;clear hi344_1 hl344_1;replace p344:=eq_true p344;replace q344:=eq_true q344
           go_wp2_with (first|((with_reducible refine zK (N:=11) rfl ?_);refine zI ?hg (N:=11) ?hd (cs:=#[.int .i64 0,.slice none 0 0]) (t:=60) ?hr ?_;(case hd=>rfl);(case hg=>rfl);(case hr=>go_simp <;> rfl);intro gb345 hg w49 hbox hb;replace HO_7:=zh (yg jJ hb);replace HO_9:=zh (yg ju hb);have BK345:=zh (hbox);have hH_:=cH jO hb hg;have GW345:=zh hH_.1;have GE345:=GW345;replace HB:=zh hH_.2;have NB327_345:=zh ((jh : gb327≠gb345));have NB345_327:=zh NB327_345.out.symm;replace BK327:=zh (cD BK327.out jK hb);have NB328_345:=zh ((jBH : gb328≠gb345));have NB345_328:=zh NB328_345.out.symm;replace BK328:=zh (cD BK328.out jM hb);clear hb hbox hg hH_;have hnb50:=NB345_327.out;have hnc50:=NB327_345.out;have hnb51:=NB345_328.out;have hnc51:=NB328_345.out;obtain ⟨hcz52_0,hcz52_1,hfz52_0,hfz52_1⟩:=cB2 BK345.out;have hnb53:=NB328_327.out;have hnc53:=NB327_328.out;obtain ⟨hcz54_0,hcz54_1,hcz54_2,hfz54_0,hfz54_1,hfz54_2⟩:=cB3 BK328.out;have p349 : 0≤(0 : Int):=jD;have q349 : 0<(((rd_T60 y340 x30_1).f1).length : Int):=zy jC;obtain ⟨ad349,e349,hx349_0,hx349_1⟩:=at_T28 HR344_1.out 0 p349 q349;cases e349;have qi349 : (0<((rd_T60 y340 x30_1).f1).length)=True:=eq_true jD;(try rw [show ((0 : Int)).toNat=0 from rfl] at hx349_0);(try rw [show 0*2=0 from rfl] at hx349_0);(try rw [Addr.add_zero'] at hx349_0);(try rw [show ((0 : Int)).toNat=0 from rfl] at hx349_1);(try rw [show 0*2=0 from rfl] at hx349_1);(try rw [Addr.add_zero'] at hx349_1);have hn349_0 : ad349.block≠gb345:=yc (Nat.lt_of_lt_of_le jy GW345.out);have hn349_1 : ad349.block≠gb345:=yc (Nat.lt_of_lt_of_le jy GW345.out);replace hx349_0:=(HB.out.cell (zl w _ hx349_0)).trans hx349_0;replace hx349_1:=(HB.out.cell (zl w _ hx349_1)).trans hx349_1;replace hx349_0:=(zR (p:=⟨gb345,0,none⟩) jz (.int .i64 ((rd_T60 y340 x30_1).f0))).trans hx349_0;replace hx349_1:=(zR (p:=⟨gb345,0,none⟩) jz (.int .i64 ((rd_T60 y340 x30_1).f0))).trans hx349_1;replace hx349_0:=(zR (p:=⟨gb345,1,none⟩) jAA (.slice (some ad349) ((rd_T60 y340 x30_1).f1).length c344_1)).trans hx349_0;replace hx349_1:=(zR (p:=⟨gb345,1,none⟩) jAA (.slice (some ad349) ((rd_T60 y340 x30_1).f1).length c344_1)).trans hx349_1;(try have hy349_0:=fun (n_ : Nat)=>(show ((((w49.drewN n_).setCell ⟨gb345,0,none⟩ (.int .i64 ((rd_T60 y340 x30_1).f0))).setCell ⟨gb345,1,none⟩ (.slice (some ad349) ((rd_T60 y340 x30_1).f1).length c344_1))).cell? _=some _ from hx349_0));(try have hy349_1:=fun (n_ : Nat)=>(show ((((w49.drewN n_).setCell ⟨gb345,0,none⟩ (.int .i64 ((rd_T60 y340 x30_1).f0))).setCell ⟨gb345,1,none⟩ (.slice (some ad349) ((rd_T60 y340 x30_1).f1).length c344_1))).cell? _=some _ from hx349_1));clear hn349_0 hn349_1;replace p349:=eq_true p349;replace q349:=eq_true q349))
           repeat (go_quiet (first|((with_reducible refine zK (N:=11) rfl ?_);refine zI ?hg (N:=11) ?hd (cs:=#[.int .i64 0,.slice none 0 0]) (t:=60) ?hr ?_;(case hd=>rfl);(case hg=>rfl);(case hr=>go_simp <;> rfl);intro gb345 hg w49 hbox hb;replace HO_7:=zh (yg jJ hb);replace HO_9:=zh (yg ju hb);have BK345:=zh (hbox);have hH_:=cH jO hb hg;have GW345:=zh hH_.1;have GE345:=GW345;replace HB:=zh hH_.2;have NB327_345:=zh ((jh : gb327≠gb345));have NB345_327:=zh NB327_345.out.symm;replace BK327:=zh (cD BK327.out jK hb);have NB328_345:=zh ((jBH : gb328≠gb345));have NB345_328:=zh NB328_345.out.symm;replace BK328:=zh (cD BK328.out jM hb);clear hb hbox hg hH_;have hnb50:=NB345_327.out;have hnc50:=NB327_345.out;have hnb51:=NB345_328.out;have hnc51:=NB328_345.out;obtain ⟨hcz52_0,hcz52_1,hfz52_0,hfz52_1⟩:=cB2 BK345.out;have hnb53:=NB328_327.out;have hnc53:=NB327_328.out;obtain ⟨hcz54_0,hcz54_1,hcz54_2,hfz54_0,hfz54_1,hfz54_2⟩:=cB3 BK328.out;have p349 : 0≤(0 : Int):=jD;have q349 : 0<(((rd_T60 y340 x30_1).f1).length : Int):=zy jC;obtain ⟨ad349,e349,hx349_0,hx349_1⟩:=at_T28 HR344_1.out 0 p349 q349;cases e349;have qi349 : (0<((rd_T60 y340 x30_1).f1).length)=True:=eq_true jD;(try rw [show ((0 : Int)).toNat=0 from rfl] at hx349_0);(try rw [show 0*2=0 from rfl] at hx349_0);(try rw [Addr.add_zero'] at hx349_0);(try rw [show ((0 : Int)).toNat=0 from rfl] at hx349_1);(try rw [show 0*2=0 from rfl] at hx349_1);(try rw [Addr.add_zero'] at hx349_1);have hn349_0 : ad349.block≠gb345:=yc (Nat.lt_of_lt_of_le jy GW345.out);have hn349_1 : ad349.block≠gb345:=yc (Nat.lt_of_lt_of_le jy GW345.out);replace hx349_0:=(HB.out.cell (zl w _ hx349_0)).trans hx349_0;replace hx349_1:=(HB.out.cell (zl w _ hx349_1)).trans hx349_1;replace hx349_0:=(zR (p:=⟨gb345,0,none⟩) jz (.int .i64 ((rd_T60 y340 x30_1).f0))).trans hx349_0;replace hx349_1:=(zR (p:=⟨gb345,0,none⟩) jz (.int .i64 ((rd_T60 y340 x30_1).f0))).trans hx349_1;replace hx349_0:=(zR (p:=⟨gb345,1,none⟩) jAA (.slice (some ad349) ((rd_T60 y340 x30_1).f1).length c344_1)).trans hx349_0;replace hx349_1:=(zR (p:=⟨gb345,1,none⟩) jAA (.slice (some ad349) ((rd_T60 y340 x30_1).f1).length c344_1)).trans hx349_1;(try have hy349_0:=fun (n_ : Nat)=>(show ((((w49.drewN n_).setCell ⟨gb345,0,none⟩ (.int .i64 ((rd_T60 y340 x30_1).f0))).setCell ⟨gb345,1,none⟩ (.slice (some ad349) ((rd_T60 y340 x30_1).f1).length c344_1))).cell? _=some _ from hx349_0));(try have hy349_1:=fun (n_ : Nat)=>(show ((((w49.drewN n_).setCell ⟨gb345,0,none⟩ (.int .i64 ((rd_T60 y340 x30_1).f0))).setCell ⟨gb345,1,none⟩ (.slice (some ad349) ((rd_T60 y340 x30_1).f1).length c344_1))).cell? _=some _ from hx349_1));clear hn349_0 hn349_1;replace p349:=eq_true p349;replace q349:=eq_true q349));try go_wp2_with (first|((with_reducible refine zK (N:=11) rfl ?_);refine zI ?hg (N:=11) ?hd (cs:=#[.int .i64 0,.slice none 0 0]) (t:=60) ?hr ?_;(case hd=>rfl);(case hg=>rfl);(case hr=>go_simp <;> rfl);intro gb345 hg w49 hbox hb;replace HO_7:=zh (yg jJ hb);replace HO_9:=zh (yg ju hb);have BK345:=zh (hbox);have hH_:=cH jO hb hg;have GW345:=zh hH_.1;have GE345:=GW345;replace HB:=zh hH_.2;have NB327_345:=zh ((jh : gb327≠gb345));have NB345_327:=zh NB327_345.out.symm;replace BK327:=zh (cD BK327.out jK hb);have NB328_345:=zh ((jBH : gb328≠gb345));have NB345_328:=zh NB328_345.out.symm;replace BK328:=zh (cD BK328.out jM hb);clear hb hbox hg hH_;have hnb50:=NB345_327.out;have hnc50:=NB327_345.out;have hnb51:=NB345_328.out;have hnc51:=NB328_345.out;obtain ⟨hcz52_0,hcz52_1,hfz52_0,hfz52_1⟩:=cB2 BK345.out;have hnb53:=NB328_327.out;have hnc53:=NB327_328.out;obtain ⟨hcz54_0,hcz54_1,hcz54_2,hfz54_0,hfz54_1,hfz54_2⟩:=cB3 BK328.out;have p349 : 0≤(0 : Int):=jD;have q349 : 0<(((rd_T60 y340 x30_1).f1).length : Int):=zy jC;obtain ⟨ad349,e349,hx349_0,hx349_1⟩:=at_T28 HR344_1.out 0 p349 q349;cases e349;have qi349 : (0<((rd_T60 y340 x30_1).f1).length)=True:=eq_true jD;(try rw [show ((0 : Int)).toNat=0 from rfl] at hx349_0);(try rw [show 0*2=0 from rfl] at hx349_0);(try rw [Addr.add_zero'] at hx349_0);(try rw [show ((0 : Int)).toNat=0 from rfl] at hx349_1);(try rw [show 0*2=0 from rfl] at hx349_1);(try rw [Addr.add_zero'] at hx349_1);have hn349_0 : ad349.block≠gb345:=yc (Nat.lt_of_lt_of_le jy GW345.out);have hn349_1 : ad349.block≠gb345:=yc (Nat.lt_of_lt_of_le jy GW345.out);replace hx349_0:=(HB.out.cell (zl w _ hx349_0)).trans hx349_0;replace hx349_1:=(HB.out.cell (zl w _ hx349_1)).trans hx349_1;replace hx349_0:=(zR (p:=⟨gb345,0,none⟩) jz (.int .i64 ((rd_T60 y340 x30_1).f0))).trans hx349_0;replace hx349_1:=(zR (p:=⟨gb345,0,none⟩) jz (.int .i64 ((rd_T60 y340 x30_1).f0))).trans hx349_1;replace hx349_0:=(zR (p:=⟨gb345,1,none⟩) jAA (.slice (some ad349) ((rd_T60 y340 x30_1).f1).length c344_1)).trans hx349_0;replace hx349_1:=(zR (p:=⟨gb345,1,none⟩) jAA (.slice (some ad349) ((rd_T60 y340 x30_1).f1).length c344_1)).trans hx349_1;(try have hy349_0:=fun (n_ : Nat)=>(show ((((w49.drewN n_).setCell ⟨gb345,0,none⟩ (.int .i64 ((rd_T60 y340 x30_1).f0))).setCell ⟨gb345,1,none⟩ (.slice (some ad349) ((rd_T60 y340 x30_1).f1).length c344_1))).cell? _=some _ from hx349_0));(try have hy349_1:=fun (n_ : Nat)=>(show ((((w49.drewN n_).setCell ⟨gb345,0,none⟩ (.int .i64 ((rd_T60 y340 x30_1).f0))).setCell ⟨gb345,1,none⟩ (.slice (some ad349) ((rd_T60 y340 x30_1).f1).length c344_1))).cell? _=some _ from hx349_1));clear hn349_0 hn349_1;replace p349:=eq_true p349;replace q349:=eq_true q349)))
           go_ret3
           exact ⟨_,_,jG,by (with_reducible repeat (first|apply zm|apply zn|apply zo));exact zM (zE (p:=⟨gb345,1,none⟩) (zE (p:=⟨gb345,0,none⟩) (yf HO_7.out BK345.out jB) (fun _ hk=>hk.2) (.int .i64 ((rd_T60 y340 x30_1).f0))) (fun _ hk=>hk.2) (.slice (some ad349) ((rd_T60 y340 x30_1).f1).length c344_1)) (fun _ hk=>trivial),jB1,jT⟩
          rw [if_neg c39] at H;exact absurd H (by simp)
         rw [if_neg c29] at H;have c29b0 : decide (0<x30_1)=false:=decide_eq_false c29;clear c29
         by_cases c55 : x9_1.length<17592186044416
         ·
          rw [if_pos c55] at H
          have LMc55:=zh c55;clear c55;obtain ⟨y353,hy353⟩ : ∃ y_ : List Int,y_=(x9_1 ++ [(rd_T60 y340 x30_1).f0]):=⟨_,rfl⟩;replace H : (F9.l0 k1 t333 y353 y340 (y340.length : Int) (wrap64 (x30_1+1)) a1_0 a1_1 a1_2)=some (r1,r2,r3):=by first|(rw [hy353];with_reducible exact H)|(have H2_:=(Option.bind_some _ _).symm.trans H;rw [hy353];with_reducible exact H2_)|(have H2_:=(Option.bind_some _ _).symm.trans H;with_reducible exact H2_)|with_reducible exact H|(rw [hy353];exact H)|exact H
          have Ny353:=zh hy353;clear hy353;have H':=zh H;clear H;have p344 : 0≤(x30_1 : Int):=zy jC;have q344 : x30_1<(y340.length : Int):=zy jC;obtain ⟨ad344,A344_1,c344_1,e344,hx344_0,hx344_1,hl344_1,hi344_1⟩:=at_T60 HR343.out x30_1 p344 q344
          cases e344
          replace hx344_0:=(HB.out.cell (zl w _ hx344_0)).trans hx344_0;replace hx344_1:=(HB.out.cell (zl w _ hx344_1)).trans hx344_1;have HR344_1:=zh hi344_1;have HC344_1:=zh hl344_1;clear hi344_1 hl344_1;replace p344:=eq_true p344;replace q344:=eq_true q344
          go_wp2_with (first|((with_reducible refine zK (N:=11) rfl ?_);refine zI ?hg (N:=11) ?hd (cs:=#[.int .i64 0,.slice none 0 0]) (t:=60) ?hr ?_;(case hd=>rfl);(case hg=>rfl);(case hr=>go_simp <;> rfl);intro gb345 hg w56 hbox hb;replace HO_7:=zh (yg jJ hb);replace HO_9:=zh (yg ju hb);have BK345:=zh (hbox);have hH_:=cH jO hb hg;have GW345:=zh hH_.1;have GE345:=GW345;replace HB:=zh hH_.2;have NB327_345:=zh ((jh : gb327≠gb345));have NB345_327:=zh NB327_345.out.symm;replace BK327:=zh (cD BK327.out jK hb);have NB328_345:=zh ((jCd : gb328≠gb345));have NB345_328:=zh NB328_345.out.symm;replace BK328:=zh (cD BK328.out jM hb);clear hb hbox hg hH_;have hnb57:=NB345_327.out;have hnc57:=NB327_345.out;have hnb58:=NB345_328.out;have hnc58:=NB328_345.out;obtain ⟨hcz59_0,hcz59_1,hfz59_0,hfz59_1⟩:=cB2 BK345.out)|((with_reducible refine yA (b:=.append) (xs:=#[.tmp 52,.tmp 55]) rfl ?_);at_builtin;refine Kd.R_append (Kd.int .i64) (w0:=w) w.heap.size rfl (.tmp 52) (.tmp 55) 34 3 (.int .i64 0) 8 rfl Try.underlying34 info3 rfl jB jD u9 x9_1 ((rd_T60 y340 x30_1).f0) [.int .i64 ((rd_T60 y340 x30_1).f0)] (fun _=>True) (fun _=>False) rfl jAB ?aP (fun _ hk=>hk.elim) ?aF ?aO ?aB ?aS ?aL ?_;(case aP=>exact rfl);(case aB=>exact jT);(case aF=>exact (fun _ _=>trivial));(case aO=>exact jBE);(case aS=>exact (zB jT));(case aL=>have:=LMc55.out;omega);intro v354 w60 ho hb hg hat;rw [← Ny353.out] at ho;replace HO_7:=zh (Kd.R_over' jBF (Kd.R_typed jBG) jB hg);replace BK327:=zh (yv (g:=gb327) (o:=.cells #[.slice A0_0 l0_0.length c0_0,.int .i64 a0_1] 25 (0,0)) jAW hg (Kd.R_ne HO_9.out BK327.out jB));replace BK328:=zh (yv (g:=gb328) (o:=.cells #[.string a1_0,.string a1_1,.bool a1_2] 32 (0,0)) jAX hg (Kd.R_ne HO_9.out BK328.out jB));replace BK345:=zh (yv (g:=gb345) (o:=.cells #[.int .i64 ((rd_T60 y340 x30_1).f0),.slice A344_1 ((rd_T60 y340 x30_1).f1).length c344_1] 60 (0,0)) jAY hg (Kd.R_ne HO_9.out BK345.out jB));replace HB:=zh (hb);have HO355:=zh (ho);clear HO_9 ho hb hg hat))
          repeat (go_quiet (first|((with_reducible refine zK (N:=11) rfl ?_);refine zI ?hg (N:=11) ?hd (cs:=#[.int .i64 0,.slice none 0 0]) (t:=60) ?hr ?_;(case hd=>rfl);(case hg=>rfl);(case hr=>go_simp <;> rfl);intro gb345 hg w56 hbox hb;replace HO_7:=zh (yg jJ hb);replace HO_9:=zh (yg ju hb);have BK345:=zh (hbox);have hH_:=cH jO hb hg;have GW345:=zh hH_.1;have GE345:=GW345;replace HB:=zh hH_.2;have NB327_345:=zh ((jh : gb327≠gb345));have NB345_327:=zh NB327_345.out.symm;replace BK327:=zh (cD BK327.out jK hb);have NB328_345:=zh ((jCd : gb328≠gb345));have NB345_328:=zh NB328_345.out.symm;replace BK328:=zh (cD BK328.out jM hb);clear hb hbox hg hH_;have hnb57:=NB345_327.out;have hnc57:=NB327_345.out;have hnb58:=NB345_328.out;have hnc58:=NB328_345.out;obtain ⟨hcz59_0,hcz59_1,hfz59_0,hfz59_1⟩:=cB2 BK345.out)|((with_reducible refine yA (b:=.append) (xs:=#[.tmp 52,.tmp 55]) rfl ?_);at_builtin;refine Kd.R_append (Kd.int .i64) (w0:=w) w.heap.size rfl (.tmp 52) (.tmp 55) 34 3 (.int .i64 0) 8 rfl Try.underlying34 info3 rfl jB jD u9 x9_1 ((rd_T60 y340 x30_1).f0) [.int .i64 ((rd_T60 y340 x30_1).f0)] (fun _=>True) (fun _=>False) rfl jAB ?aP (fun _ hk=>hk.elim) ?aF ?aO ?aB ?aS ?aL ?_;(case aP=>exact rfl);(case aB=>exact jT);(case aF=>exact (fun _ _=>trivial));(case aO=>exact jBE);(case aS=>exact (zB jT));(case aL=>have:=LMc55.out;omega);intro v354 w60 ho hb hg hat;rw [← Ny353.out] at ho;replace HO_7:=zh (Kd.R_over' jBF (Kd.R_typed jBG) jB hg);replace BK327:=zh (yv (g:=gb327) (o:=.cells #[.slice A0_0 l0_0.length c0_0,.int .i64 a0_1] 25 (0,0)) jAW hg (Kd.R_ne HO_9.out BK327.out jB));replace BK328:=zh (yv (g:=gb328) (o:=.cells #[.string a1_0,.string a1_1,.bool a1_2] 32 (0,0)) jAX hg (Kd.R_ne HO_9.out BK328.out jB));replace BK345:=zh (yv (g:=gb345) (o:=.cells #[.int .i64 ((rd_T60 y340 x30_1).f0),.slice A344_1 ((rd_T60 y340 x30_1).f1).length c344_1] 60 (0,0)) jAY hg (Kd.R_ne HO_9.out BK345.out jB));replace HB:=zh (hb);have HO355:=zh (ho);clear HO_9 ho hb hg hat));try go_wp2_with (first|((with_reducible refine zK (N:=11) rfl ?_);refine zI ?hg (N:=11) ?hd (cs:=#[.int .i64 0,.slice none 0 0]) (t:=60) ?hr ?_;(case hd=>rfl);(case hg=>rfl);(case hr=>go_simp <;> rfl);intro gb345 hg w56 hbox hb;replace HO_7:=zh (yg jJ hb);replace HO_9:=zh (yg ju hb);have BK345:=zh (hbox);have hH_:=cH jO hb hg;have GW345:=zh hH_.1;have GE345:=GW345;replace HB:=zh hH_.2;have NB327_345:=zh ((jh : gb327≠gb345));have NB345_327:=zh NB327_345.out.symm;replace BK327:=zh (cD BK327.out jK hb);have NB328_345:=zh ((jCd : gb328≠gb345));have NB345_328:=zh NB328_345.out.symm;replace BK328:=zh (cD BK328.out jM hb);clear hb hbox hg hH_;have hnb57:=NB345_327.out;have hnc57:=NB327_345.out;have hnb58:=NB345_328.out;have hnc58:=NB328_345.out;obtain ⟨hcz59_0,hcz59_1,hfz59_0,hfz59_1⟩:=cB2 BK345.out)|((with_reducible refine yA (b:=.append) (xs:=#[.tmp 52,.tmp 55]) rfl ?_);at_builtin;refine Kd.R_append (Kd.int .i64) (w0:=w) w.heap.size rfl (.tmp 52) (.tmp 55) 34 3 (.int .i64 0) 8 rfl Try.underlying34 info3 rfl jB jD u9 x9_1 ((rd_T60 y340 x30_1).f0) [.int .i64 ((rd_T60 y340 x30_1).f0)] (fun _=>True) (fun _=>False) rfl jAB ?aP (fun _ hk=>hk.elim) ?aF ?aO ?aB ?aS ?aL ?_;(case aP=>exact rfl);(case aB=>exact jT);(case aF=>exact (fun _ _=>trivial));(case aO=>exact jBE);(case aS=>exact (zB jT));(case aL=>have:=LMc55.out;omega);intro v354 w60 ho hb hg hat;rw [← Ny353.out] at ho;replace HO_7:=zh (Kd.R_over' jBF (Kd.R_typed jBG) jB hg);replace BK327:=zh (yv (g:=gb327) (o:=.cells #[.slice A0_0 l0_0.length c0_0,.int .i64 a0_1] 25 (0,0)) jAW hg (Kd.R_ne HO_9.out BK327.out jB));replace BK328:=zh (yv (g:=gb328) (o:=.cells #[.string a1_0,.string a1_1,.bool a1_2] 32 (0,0)) jAX hg (Kd.R_ne HO_9.out BK328.out jB));replace BK345:=zh (yv (g:=gb345) (o:=.cells #[.int .i64 ((rd_T60 y340 x30_1).f0),.slice A344_1 ((rd_T60 y340 x30_1).f1).length c344_1] 60 (0,0)) jAY hg (Kd.R_ne HO_9.out BK345.out jB));replace HB:=zh (hb);have HO355:=zh (ho);clear HO_9 ho hb hg hat)))
          go_roundg k1
          case measure=>have:=HK1.out;omega
          case rel=>exact ⟨(y353),(wrap64 (x30_1+1)),jE,H',⟨jR⟩,⟨jJ⟩,⟨by (with_reducible repeat (first|apply zm|apply zn|apply zo));exact HO355.out⟩,⟨jK⟩,⟨jM⟩,⟨jT⟩⟩
         rw [if_neg c55] at H;exact absurd H (by simp)
        rw [if_neg c28] at H;exact absurd H (by simp)
       rw [if_neg c27] at H;exact absurd H (by simp)
      rw [if_neg c26] at H;have c26b0 : decide (x30_1<(y340.length : Int))=false:=decide_eq_false c26;clear c26;simp only [Option.some.injEq,Prod.mk.injEq] at H;obtain ⟨rfl,rfl,rfl⟩:=H
      go_wp2
      repeat (go_quiet (fail);try go_wp2)
      go_ret3
      exact ⟨_,_,jG,jJ,ju,jO⟩
   rw [if_neg c9] at H;exact absurd H (by simp)
  rw [if_neg c8] at H;exact absurd H (by simp)
 replace c4:=yb.mpr c4;subst c4;rw [if_neg (show ¬ (false=true) by decide)] at H;simp only [Option.some.injEq,Prod.mk.injEq] at H;obtain ⟨rfl,rfl,rfl⟩:=H
 go_enter Try.func8,Try.ntmps8
 go_wp2_with (first|((with_reducible refine zK (N:=2) rfl ?_);refine zI ?hg (N:=2) ?hd (cs:=#[.slice A0_0 l0_0.length c0_0,.int .i64 a0_1]) (t:=25) ?hr ?_;(case hd=>rfl);(case hg=>rfl);(case hr=>go_simp <;> rfl);intro gb327 hg w61 hbox hb;have BK327:=zh (hbox);have hH_:=cH jH hb hg;have GW327:=zh hH_.1;have GE327:=GW327;replace HB:=zh hH_.2;clear hb hbox hg hH_)|((with_reducible refine zK (N:=3) rfl ?_);refine zI ?hg (N:=3) ?hd (cs:=#[.string a1_0,.string a1_1,.bool a1_2]) (t:=32) ?hr ?_;(case hd=>rfl);(case hg=>rfl);(case hr=>go_simp <;> rfl);intro gb328 hg w62 hbox hb;have BK328:=zh (hbox);have hH_:=cH jB0 hb hg;have GW328:=zh hH_.1;have GE328:=GW328;replace HB:=zh hH_.2;have NB327_328:=zh ((jh : gb327≠gb328));have NB328_327:=zh NB327_328.out.symm;replace BK327:=zh (cD BK327.out jK hb);clear hb hbox hg hH_;have hnb63:=NB327_328.out;have hnc63:=NB328_327.out;obtain ⟨hcz64_0,hcz64_1,hfz64_0,hfz64_1⟩:=cB2 BK327.out)|(go_at_call 20;(with_reducible refine (F3.calls k  _ _ l0_0 a0_1 false _ ?side1 ?side2 A3.out).mono ?_);(case side1=>repeat (first|exact (Kd.C_below HR0_0.out HB.out)|(with_reducible refine Kd.C_alloc ?_ _)|(with_reducible refine Kd.C_drewN ?_ _)|(with_reducible refine Kd.C_drew ?_)));(case side2=>exact HC0_0.out);rintro e w65 ⟨rfl,hb⟩;replace BK327:=zh (cD BK327.out jK hb);replace BK328:=zh (cD BK328.out jM hb);replace HB:=zh (zC jO hb);(try clear hb);(try clear hb2);(try clear hk);(try clear hi)))
 repeat (go_quiet (first|((with_reducible refine zK (N:=2) rfl ?_);refine zI ?hg (N:=2) ?hd (cs:=#[.slice A0_0 l0_0.length c0_0,.int .i64 a0_1]) (t:=25) ?hr ?_;(case hd=>rfl);(case hg=>rfl);(case hr=>go_simp <;> rfl);intro gb327 hg w61 hbox hb;have BK327:=zh (hbox);have hH_:=cH jH hb hg;have GW327:=zh hH_.1;have GE327:=GW327;replace HB:=zh hH_.2;clear hb hbox hg hH_)|((with_reducible refine zK (N:=3) rfl ?_);refine zI ?hg (N:=3) ?hd (cs:=#[.string a1_0,.string a1_1,.bool a1_2]) (t:=32) ?hr ?_;(case hd=>rfl);(case hg=>rfl);(case hr=>go_simp <;> rfl);intro gb328 hg w62 hbox hb;have BK328:=zh (hbox);have hH_:=cH jB0 hb hg;have GW328:=zh hH_.1;have GE328:=GW328;replace HB:=zh hH_.2;have NB327_328:=zh ((jh : gb327≠gb328));have NB328_327:=zh NB327_328.out.symm;replace BK327:=zh (cD BK327.out jK hb);clear hb hbox hg hH_;have hnb63:=NB327_328.out;have hnc63:=NB328_327.out;obtain ⟨hcz64_0,hcz64_1,hfz64_0,hfz64_1⟩:=cB2 BK327.out)|(go_at_call 20;(with_reducible refine (F3.calls k  _ _ l0_0 a0_1 false _ ?side1 ?side2 A3.out).mono ?_);(case side1=>repeat (first|exact (Kd.C_below HR0_0.out HB.out)|(with_reducible refine Kd.C_alloc ?_ _)|(with_reducible refine Kd.C_drewN ?_ _)|(with_reducible refine Kd.C_drew ?_)));(case side2=>exact HC0_0.out);rintro e w65 ⟨rfl,hb⟩;replace BK327:=zh (cD BK327.out jK hb);replace BK328:=zh (cD BK328.out jM hb);replace HB:=zh (zC jO hb);(try clear hb);(try clear hb2);(try clear hk);(try clear hi)));try go_wp2_with (first|((with_reducible refine zK (N:=2) rfl ?_);refine zI ?hg (N:=2) ?hd (cs:=#[.slice A0_0 l0_0.length c0_0,.int .i64 a0_1]) (t:=25) ?hr ?_;(case hd=>rfl);(case hg=>rfl);(case hr=>go_simp <;> rfl);intro gb327 hg w61 hbox hb;have BK327:=zh (hbox);have hH_:=cH jH hb hg;have GW327:=zh hH_.1;have GE327:=GW327;replace HB:=zh hH_.2;clear hb hbox hg hH_)|((with_reducible refine zK (N:=3) rfl ?_);refine zI ?hg (N:=3) ?hd (cs:=#[.string a1_0,.string a1_1,.bool a1_2]) (t:=32) ?hr ?_;(case hd=>rfl);(case hg=>rfl);(case hr=>go_simp <;> rfl);intro gb328 hg w62 hbox hb;have BK328:=zh (hbox);have hH_:=cH jB0 hb hg;have GW328:=zh hH_.1;have GE328:=GW328;replace HB:=zh hH_.2;have NB327_328:=zh ((jh : gb327≠gb328));have NB328_327:=zh NB327_328.out.symm;replace BK327:=zh (cD BK327.out jK hb);clear hb hbox hg hH_;have hnb63:=NB327_328.out;have hnc63:=NB328_327.out;obtain ⟨hcz64_0,hcz64_1,hfz64_0,hfz64_1⟩:=cB2 BK327.out)|(go_at_call 20;(with_reducible refine (F3.calls k  _ _ l0_0 a0_1 false _ ?side1 ?side2 A3.out).mono ?_);(case side1=>repeat (first|exact (Kd.C_below HR0_0.out HB.out)|(with_reducible refine Kd.C_alloc ?_ _)|(with_reducible refine Kd.C_drewN ?_ _)|(with_reducible refine Kd.C_drew ?_)));(case side2=>exact HC0_0.out);rintro e w65 ⟨rfl,hb⟩;replace BK327:=zh (cD BK327.out jK hb);replace BK328:=zh (cD BK328.out jM hb);replace HB:=zh (zC jO hb);(try clear hb);(try clear hb2);(try clear hk);(try clear hi))))
 go_ret3
 exact ⟨_,_,jG,jDW,jDW,jO⟩

end Go.Proofs.Ytgifonogfgpjdaa.Q
end
section
namespace Go.Proofs.Ytgifonogfgpjdaa.Q
open Go.RowKit Go.Proofs.YtgifonogfgpjdaaW.PrintWords Go.Proofs.YtgifonogfgpjdaaW.PrintLast Go.Proofs.YtgifonogfgpjdaaW.PrintMore
attribute [local go_sem] max2_int min2_int max_two min_two max_three min_three max_four min_four max2_str min2_str str_geq str_gtr str_leq   -- for this text's walks alone
set_option linter.unusedVariables false
set_option linter.unusedSimpArgs false

attribute [local go_sem high] eqA28
attribute [local go_sem] Instr.field asAgg
mutual
def F0.j0 : Nat→List Int→List Int→Bool→Option (Bool)
 | 0,_,_,_=>none
 | k+1,x0,x1,x42=>if x42=true then (some true) else ((F09.f k x0).bind fun bt536=>((F0k.f x1).bind fun bt541=>((Fs.f k bt536.1 bt536.2 bt541.1 77).bind fun bt544=>((Fj.f k bt536.1 bt536.2 bt541.1 77).bind fun bt551=>((Fl.f k bt536.1 bt536.2).bind fun bt558=>((Fl.f k bt544.1 bt544.2.1).bind fun bt560=>((Fs.f k bt544.1 bt544.2.1 bt541.1 77).bind fun bt562=>((Fn.f k bt544.1 bt544.2.1 bt541.1 77).bind fun bt569=>((Fn.f k bt569.1 bt569.2.1 bt541.1 77).bind fun bt575=>((Fl.f k bt569.1 bt569.2.1).bind fun bt581=>((F9.f k bt544.1 bt544.2.1 (⟨#[]⟩ : ByteArray) (⟨#[]⟩ : ByteArray) true).bind fun bt583=>((Fp.f k bt544.1 bt544.2.1 bt541.1 77).bind fun bt590=>((Fo.f k bt544.1 bt544.2.1 bt541.1 77).bind fun bt592=>(if bt544.2.2.2=0 then (if bt544.2.2.1=bt551.2.2.1 then ((Fe.f k bt544.1 bt544.2.1 bt551.1 bt551.2.1).bind fun t594=>(if t594=true then ((F3.f k bt544.1 bt544.2.1).bind fun t595=>(if t595=true then (if bt558.2=0 then (if bt560.2=0 then (if bt560.1=(wrap64 (bt558.1+1)) then (if bt562.2.2.2=12 then (if bt569.2.2=0 then (if bt575.2.2=5 then (if bt581.2=0 then (if bt581.1=bt558.1 then ((F3.f k bt569.1 bt569.2.1).bind fun t596=>(if t596=true then (if bt583.2.2=0 then (if (bt583.1.length : Int)=bt560.1 then (if (bt583.2.1.length : Int)=(bt544.1.length : Int) then (if bt590.2=0 then (F0.j1 k bt583.1 (bt590.1 != bt592.1) bt541.1 77) else (F0.j1 k bt583.1 true bt541.1 77)) else (F0.j1 k bt583.1 true bt541.1 77)) else (F0.j1 k bt583.1 true bt541.1 77)) else (F0.j1 k bt583.1 true bt541.1 77)) else (F0.j1 k bt583.1 true bt541.1 77))) else (F0.j1 k bt583.1 true bt541.1 77)) else (F0.j1 k bt583.1 true bt541.1 77)) else (F0.j1 k bt583.1 true bt541.1 77)) else (F0.j1 k bt583.1 true bt541.1 77)) else (F0.j1 k bt583.1 true bt541.1 77)) else (F0.j1 k bt583.1 true bt541.1 77)) else (F0.j1 k bt583.1 true bt541.1 77)) else (F0.j1 k bt583.1 true bt541.1 77)) else (F0.j1 k bt583.1 true bt541.1 77))) else (F0.j1 k bt583.1 true bt541.1 77))) else (F0.j1 k bt583.1 true bt541.1 77)) else (F0.j1 k bt583.1 true bt541.1 77)))))))))))))))
def F0.j1 : Nat→List (S28)→Bool→ByteArray→Int→Option (Bool)
 | 0,_,_,_,_=>none
 | k+1,x26,x200,x544000,x544001=>if x200=true then (some false) else (F0.l0 k x26 0 0 x544000 x544001)
def F0.l0 : Nat→List (S28)→Int→Int→ByteArray→Int→Option (Bool)
 | 0,_,_,_,_,_=>none
 | k+1,x26,x33,x34,x544000,x544001=>if x34<(x26.length : Int) then (if x34 > 0 then (if 0≤(wrap64 (x34 - 1)) then (if (wrap64 (x34 - 1))<(x26.length : Int) then (if 0≤x34 then (if (Op.bytesLess (((rd_T28 x26 x34).f0).toList) (((rd_T28 x26 (wrap64 (x34 - 1))).f0).toList))=true then (F0.j3 k x26 x33 x34 true x544000 x544001) else (if ((rd_T28 x26 (wrap64 (x34 - 1))).f0).toList=((rd_T28 x26 x34).f0).toList then (F0.j3 k x26 x33 x34 (decide (((rd_T28 x26 (wrap64 (x34 - 1))).f1) ≥ ((rd_T28 x26 x34).f1))) x544000 x544001) else (F0.j3 k x26 x33 x34 false x544000 x544001))) else (none)) else (none)) else (none)) else (F0.j3 k x26 x33 x34 false x544000 x544001)) else (some (x33 == 1))
def F0.j3 : Nat→List (S28)→Int→Int→Bool→ByteArray→Int→Option (Bool)
 | 0,_,_,_,_,_,_=>none
 | k+1,x26,x33,x34,x250,x544000,x544001=>if x250=true then (some false) else (if 0≤x34 then (if x34<(x26.length : Int) then (if ((((rd_T28 x26 x34).f0).toList) == x544000.toList && (((rd_T28 x26 x34).f1) == x544001))=true then (F0.l0 k x26 (wrap64 (x33+1)) (wrap64 (x34+1)) x544000 x544001) else (F0.l0 k x26 x33 (wrap64 (x34+1)) x544000 x544001)) else (none)) else (none))
end
def F0.f (k : Nat) (l0 : List Int) (l1 : List Int) : Option (Bool):=if (l0.length : Int) > 1048576 then (F0.j0 k l0 l1 true) else (F0.j0 k l0 l1 (decide ((l1.length : Int) > 1048576)))
theorem F0.mono_l : ∀ k,(∀ y0 y1 y2,LeO (F0.j0 k y0 y1 y2) (F0.j0 (k+1) y0 y1 y2))∧(∀ y0 y1 y2 y3,LeO (F0.j1 k y0 y1 y2 y3) (F0.j1 (k+1) y0 y1 y2 y3))∧(∀ y0 y1 y2 y3 y4,LeO (F0.l0 k y0 y1 y2 y3 y4) (F0.l0 (k+1) y0 y1 y2 y3 y4))∧(∀ y0 y1 y2 y3 y4 y5,LeO (F0.j3 k y0 y1 y2 y3 y4 y5) (F0.j3 (k+1) y0 y1 y2 y3 y4 y5))
 | 0=>⟨fun _ _ _ r h=>by simp [F0.j0] at h,fun _ _ _ _ r h=>by simp [F0.j1] at h,fun _ _ _ _ _ r h=>by simp [F0.l0] at h,fun _ _ _ _ _ _ r h=>by simp [F0.j3] at h⟩
 | k+1=>by
  obtain ⟨ih0,ih1,ih2,ih3⟩:=F0.mono_l k;refine ⟨?_,?_,?_,?_⟩
  ·
   intro y0 y1 y2
   unfold F0.j0
   repeat' first|(with_reducible first|exact ih0 _ _ _|exact ih1 _ _ _ _|exact ih2 _ _ _ _ _|exact ih3 _ _ _ _ _ _|exact F09.mono _ _|exact F9.mono _ _ _ _ _ _|exact Fp.mono _ _ _ _ _|exact Fs.mono _ _ _ _ _|exact Fj.mono _ _ _ _ _|exact Fl.mono _ _ _|exact Fn.mono _ _ _ _ _|exact Fo.mono _ _ _ _ _|exact Fe.mono _ _ _ _ _|exact F3.mono _ _ _|exact zQ _|exact zN _|refine zP ?_ ?_|refine zO ?_ (fun _=>?_))|refine zP ?_ ?_|refine zO ?_ (fun _=>?_)
  ·
   intro y0 y1 y2 y3
   unfold F0.j1
   repeat' first|(with_reducible first|exact ih0 _ _ _|exact ih1 _ _ _ _|exact ih2 _ _ _ _ _|exact ih3 _ _ _ _ _ _|exact F09.mono _ _|exact F9.mono _ _ _ _ _ _|exact Fp.mono _ _ _ _ _|exact Fs.mono _ _ _ _ _|exact Fj.mono _ _ _ _ _|exact Fl.mono _ _ _|exact Fn.mono _ _ _ _ _|exact Fo.mono _ _ _ _ _|exact Fe.mono _ _ _ _ _|exact F3.mono _ _ _|exact zQ _|exact zN _|refine zP ?_ ?_|refine zO ?_ (fun _=>?_))|refine zP ?_ ?_|refine zO ?_ (fun _=>?_)
  ·
   intro y0 y1 y2 y3 y4
   unfold F0.l0
   repeat' first|(with_reducible first|exact ih0 _ _ _|exact ih1 _ _ _ _|exact ih2 _ _ _ _ _|exact ih3 _ _ _ _ _ _|exact F09.mono _ _|exact F9.mono _ _ _ _ _ _|exact Fp.mono _ _ _ _ _|exact Fs.mono _ _ _ _ _|exact Fj.mono _ _ _ _ _|exact Fl.mono _ _ _|exact Fn.mono _ _ _ _ _|exact Fo.mono _ _ _ _ _|exact Fe.mono _ _ _ _ _|exact F3.mono _ _ _|exact zQ _|exact zN _|refine zP ?_ ?_|refine zO ?_ (fun _=>?_))|refine zP ?_ ?_|refine zO ?_ (fun _=>?_)
  intro y0 y1 y2 y3 y4 y5;unfold F0.j3
  repeat' first|(with_reducible first|exact ih0 _ _ _|exact ih1 _ _ _ _|exact ih2 _ _ _ _ _|exact ih3 _ _ _ _ _ _|exact F09.mono _ _|exact F9.mono _ _ _ _ _ _|exact Fp.mono _ _ _ _ _|exact Fs.mono _ _ _ _ _|exact Fj.mono _ _ _ _ _|exact Fl.mono _ _ _|exact Fn.mono _ _ _ _ _|exact Fo.mono _ _ _ _ _|exact Fe.mono _ _ _ _ _|exact F3.mono _ _ _|exact zQ _|exact zN _|refine zP ?_ ?_|refine zO ?_ (fun _=>?_))|refine zP ?_ ?_|refine zO ?_ (fun _=>?_)
theorem F0.mono : ∀ a0 a1 k,LeO (F0.f k a0 a1) (F0.f (k+1) a0 a1):=by
 intro a0 a1 k;obtain ⟨ih0,ih1,ih2,ih3⟩:=F0.mono_l k;unfold F0.f
 repeat' first|(with_reducible first|exact ih0 _ _ _|exact ih1 _ _ _ _|exact ih2 _ _ _ _ _|exact ih3 _ _ _ _ _ _|exact F09.mono _ _|exact F9.mono _ _ _ _ _ _|exact Fp.mono _ _ _ _ _|exact Fs.mono _ _ _ _ _|exact Fj.mono _ _ _ _ _|exact Fl.mono _ _ _|exact Fn.mono _ _ _ _ _|exact Fo.mono _ _ _ _ _|exact Fe.mono _ _ _ _ _|exact F3.mono _ _ _|exact zQ _|exact zN _|refine zP ?_ ?_|refine zO ?_ (fun _=>?_))|refine zP ?_ ?_|refine zO ?_ (fun _=>?_)
theorem F0.j1_no3 : ∀ (k : Nat) y0 y1 y2,F0.j1 k y0 true y1 y2≠some true:=by
 intro k
 cases k <;> intros <;> simp [F0.j1]
set_option maxHeartbeats 8000000 in
set_option maxRecDepth 100000 in
theorem F0.calls (k : Nat) (A0 : Option Addr) (c0 : Nat) (l0 : List Int) (A1 : Option Addr) (c1 : Nat) (l1 : List Int) (r : Bool) (w : World) (hr0 : Kd.C (Kd.int .u8) w A0 l0.length l0) (hc0 : l0.length≤c0) (hr1 : Kd.C (Kd.int .u8) w A1 l1.length l1) (hc1 : l1.length≤c1) (h : F0.f k l0 l1=some r) (hr_ : r=true) :
  Calls Try.prog 4 #[.slice A0 l0.length c0,.slice A1 l1.length c1] w fun e w' => e = .returned (.bool r)∧Below w.heap.size w w':=by
 have hu25:=Try.underlying25;have hu28:=Try.underlying28;have hu32:=Try.underlying32;have HR0:=zh hr0;have HC0:=zh hc0;clear hr0 hc0;have HR1:=zh hr1;have HC1:=zh hc1;clear hr1 hc1;have HB:=zh (Below.refl w.heap.size w);have H : (if (l0.length : Int) > 1048576 then (F0.j0 k l0 l1 true) else (F0.j0 k l0 l1 (decide ((l1.length : Int) > 1048576))))=some r:=h;clear h;have HC3:=zh H;clear H
 go_enter Try.func4,Try.ntmps4
 go_upto_region 1 with (fail)
 repeat (go_quiet (fail);go_upto_region 1 with (fail))
 go_cut [42] (fun v42 wc => ∃ (kq : Nat) (x42_2 : Bool),v42 = .bool x42_2∧Aside0 (F0.j0 kq l0 l1 x42_2=some r)∧Aside0 (kq≤k)∧Aside0 (Below w.heap.size w wc))
 case first =>
  have H:=HC3.out;clear HC3
  by_cases c4 : (l0.length : Int) > 1048576
  ·
   rw [if_pos c4] at H
   have c4b0 : decide (1048576<(l0.length : Int))=true:=decide_eq_true c4;have c4b1 : decide (1048576<l0.length)=true:=decide_eq_true jD;clear c4;(first|rw [c4b0]|(simp only [zG,zH];rw [c4b0])|skip);have H':=zh H;clear H
   go_wp2
   repeat (go_quiet (fail);try go_wp2)
   go_meet
   case rel=>exact ⟨_,(true),jE,H',⟨jAI⟩,⟨jH⟩⟩
  rw [if_neg c4] at H;have c4b0 : decide (1048576<(l0.length : Int))=false:=decide_eq_false c4;have c4b1 : decide (1048576<l0.length)=false:=decide_eq_false jD;clear c4;(first|rw [c4b0]|(simp only [zG,zH];rw [c4b0])|skip);have H':=zh H;clear H
  go_wp2
  repeat (go_quiet (fail);try go_wp2)
  go_meet
  case rel=>exact ⟨_,(decide ((l1.length : Int) > 1048576)),jE,H',⟨jAI⟩,⟨jH⟩⟩
 case rest =>
  as_aux_lemma =>
   clear HC3
   try clear c1
   try clear p2
   try clear c4 c4b0 c4b1
   obtain ⟨kq,x42_2,rfl,HA,HJ2,HB⟩:=hcut
   cases kq with
   | zero=>exact absurd HA.out (by simp [F0.j0])
   | succ kj2 =>
    have H:=HA.out;clear HA;simp only [F0.j0] at H
    by_cases c5 : x42_2=true
    ·
     subst c5
     rw [if_pos rfl] at H;obtain rfl:=zU H
     go_wp2
     repeat (go_quiet (fail);try go_wp2)
     go_ret
     exact ⟨jG,jH⟩
    replace c5:=yb.mpr c5;subst c5;rw [if_neg (show ¬ (false=true) by decide)] at H;replace H:=zT.mp H;obtain ⟨⟨t536,t539⟩,A60,H⟩:=H;have A6:=zh A60;clear A60;replace H:=zT.mp H;obtain ⟨⟨t541,t542⟩,A70,H⟩:=H;have A7:=zh A70;clear A70;replace H:=zT.mp H;obtain ⟨⟨t544,t547,t548,t549⟩,A80,H⟩:=H;have A8:=zh A80;clear A80;replace H:=zT.mp H;obtain ⟨⟨t551,t554,t555,t556⟩,A90,H⟩:=H;have A9:=zh A90;clear A90;replace H:=zT.mp H;obtain ⟨⟨t558,t559⟩,A100,H⟩:=H;have A10:=zh A100;clear A100;replace H:=zT.mp H;obtain ⟨⟨t560,t561⟩,A110,H⟩:=H;have A11:=zh A110;clear A110;replace H:=zT.mp H;obtain ⟨⟨t562,t565,t566,t567⟩,A120,H⟩:=H;have A12:=zh A120;clear A120;replace H:=zT.mp H;obtain ⟨⟨t569,t572,t573⟩,A130,H⟩:=H;have A13:=zh A130;clear A130;replace H:=zT.mp H;obtain ⟨⟨t575,t578,t579⟩,A140,H⟩:=H;have A14:=zh A140;clear A140;replace H:=zT.mp H;obtain ⟨⟨t581,t582⟩,A150,H⟩:=H;have A15:=zh A150;clear A150;replace H:=zT.mp H;obtain ⟨⟨t583,t586,t589⟩,A160,H⟩:=H;have A16:=zh A160;clear A160;replace H:=zT.mp H;obtain ⟨⟨t590,t591⟩,A170,H⟩:=H;have A17:=zh A170;clear A170;replace H:=zT.mp H;obtain ⟨⟨t592,t593⟩,A180,H⟩:=H;have A18:=zh A180;clear A180;have HC19:=zh H;clear H
    go_upto_region 16 with (first|(go_at_call 5;(with_reducible refine (F09.calls kj2  _ _ l0 t536 t539 _ ?side1 ?side2 A6.out).mono ?_);(case side1=>repeat (first|exact (Kd.C_below HR0.out HB.out)|(with_reducible refine Kd.C_alloc ?_ _)|(with_reducible refine Kd.C_drewN ?_ _)|(with_reducible refine Kd.C_drew ?_)));(case side2=>exact HC0.out);rintro e w20 ⟨v537,rfl,ho0,hb⟩;have HO538:=zh (Kd.N_lower (Kd.N_mono (ok':=fun k_=>True) ho0 (fun k_ hk_=>trivial)) (zB jH));replace HB:=zh (zC jH hb);(try clear hb);(try clear hb2);(try clear hk);(try clear hi);(try clear ho0))|((with_reducible refine zK (N:=5) rfl ?_);(try (refine yy (by rfl) ?_;dsimp only));refine zI ?hg (N:=5) ?hd (cs:=#[.slice none 0 0,.int .i64 0]) (t:=25) ?hr ?_;(case hd=>rfl);(case hg=>rfl);(case hr=>go_simp <;> rfl);intro gb540 hg w21 hbox hb;replace HO538:=zh (Kd.N_below (Kd.N_elderB ji gb540 (Nat.le_of_eq hg.symm)) hb);have BK540:=zh (hbox);have hH_:=cH jH hb hg;have GW540:=zh hH_.1;have GE540:=GW540;replace HB:=zh hH_.2;clear hb hbox hg hH_;obtain ⟨Ao22,co22,eo22⟩:=Kd.N_slice HO538.out;subst eo22;obtain ⟨hcz23_0,hcz23_1,hfz23_0,hfz23_1⟩:=cB2 BK540.out)|(go_at_call 6;(with_reducible refine (F0k.calls  _ _ l1 t541 t542 _ ?side1 ?side2 A7.out).mono ?_);(case side1=>exact Kd.C_below HR1.out jCe);(case side2=>exact HC1.out);rintro e w24 ⟨rfl,hb⟩;replace HO538:=zh (Kd.N_below (by (with_reducible repeat (first|apply Kd.N_alloc|apply Kd.N_drewN|apply Kd.N_drew));exact (Kd.N_mono (Kd.N_far (p:=⟨gb540,1,none⟩) (Kd.N_far (p:=⟨gb540,0,none⟩) (Kd.N_mono HO538.out (fun k_ hk=>(⟨hk,hk.2⟩ : _∧k_≠gb540))) (fun _ hk=>hk.2) (.slice Ao22 t536.length co22)) (fun _ hk=>hk.2) (.int .i64 t539)) (fun _ h_=>h_.1))) hb);replace BK540:=zh (zD (g:=gb540) (o:=.cells #[.slice Ao22 t536.length co22,.int .i64 t539] 25 (0,0)) (by (with_reducible repeat first|apply ze|apply zf|apply zg);refine zL (cs:=#[.slice Ao22 t536.length co22,.int .i64 0]) ?_ 1 _ rfl;(with_reducible repeat first|apply ze|apply zf|apply zg);refine zL (cs:=#[.slice none 0 0,.int .i64 0]) ?_ 0 _ rfl;(with_reducible repeat first|apply ze|apply zf|apply zg);exact BK540.out) hb);replace HB:=zh (zC jCe hb);(try clear hb);(try clear hb2);(try clear hk);(try clear hi))|((with_reducible refine zK (N:=6) rfl ?_);(try (refine yy (by rfl) ?_;dsimp only));refine zI ?hg (N:=6) ?hd (cs:=#[.string (⟨#[]⟩ : ByteArray),.int .i64 0]) (t:=28) ?hr ?_;(case hd=>rfl);(case hg=>rfl);(case hr=>go_simp <;> rfl);intro gb543 hg w25 hbox hb;replace HO538:=zh (Kd.N_below (Kd.N_elderB ji gb543 (Nat.le_of_eq hg.symm)) hb);have BK543:=zh (hbox);have hH_:=cH jCe hb hg;have GW543:=zh hH_.1;have GE543:=GW543;replace HB:=zh hH_.2;have NB540_543:=zh ((jBI : gb540≠gb543));have NB543_540:=zh NB540_543.out.symm;replace BK540:=zh (cD BK540.out jP hb);clear hb hbox hg hH_;have hnb26:=NB543_540.out;have hnc26:=NB540_543.out;obtain ⟨hcz27_0,hcz27_1,hfz27_0,hfz27_1⟩:=cB2 BK543.out;obtain ⟨hcz28_0,hcz28_1,hfz28_0,hfz28_1⟩:=cB2 BK540.out)|(go_at_call 14;(with_reducible refine (Fs.calls kj2  _ _ t536 t539 t541 77 t544 t547 t548 t549 _ ?side1 ?side2 A8.out).mono ?_);(case side1=>refine (Kd.N_reads' (e:=60) (base:=w.heap.size) (ok:=fun k_=>((True∧k_≠gb540)∧k_≠gb543)) (n:=t536.length) (c:=co22) ?_).2.2;exact jCf);(case side2=>exact (Kd.N_reads' HO538.out).2.1);rintro e w29 ⟨v545,rfl,ho0,hb⟩;have HO546:=zh (Kd.N_lower (Kd.N_mono (ok':=fun k_=>some k_≠(.slice Ao22 t536.length co22 : Value).ownBlock∧k_≠gb540∧k_≠gb543) (Kd.S_N (Kd.S_bound ho0)) (fun k_ hk_=>⟨(Kd.fresh' (Kd.N_lt jCf) k_ hk_.2.1),(Kd.freshB (g:=gb540) (o:=.cells #[.slice Ao22 t536.length co22,.int .i64 t539] 25 (0,0)) jDX k_ hk_.2.1),(Kd.freshB (g:=gb543) (o:=.cells #[.string t541,.int .i64 77] 28 (0,0)) jDY k_ hk_.2.1)⟩)) (zB jCg));replace HO538:=zh (Kd.N_elder' jCf (Kd.N_base (Kd.S_N ho0)) hb);replace BK540:=zh (cD BK540.out jDX hb);replace BK543:=zh (zD (g:=gb543) (o:=.cells #[.string t541,.int .i64 77] 28 (0,0)) jDY hb);replace HB:=zh (zC jCg hb);(try clear hb);(try clear hb2);(try clear hk);(try clear hi);(try clear ho0))|((with_reducible refine zK (N:=7) rfl ?_);(try (refine yy (by rfl) ?_;dsimp only));refine zI ?hg (N:=7) ?hd (cs:=#[.slice none 0 0,.int .i64 0]) (t:=25) ?hr ?_;(case hd=>rfl);(case hg=>rfl);(case hr=>go_simp <;> rfl);intro gb550 hg w30 hbox hb;replace HO538:=zh (Kd.N_below (Kd.N_elderB ji gb550 (Nat.le_of_eq hg.symm)) hb);replace HO546:=zh (Kd.N_below (Kd.N_elderB jr gb550 (Nat.le_of_eq hg.symm)) hb);have BK550:=zh (hbox);have hH_:=cH jCg hb hg;have GW550:=zh hH_.1;have GE550:=GW550;replace HB:=zh hH_.2;have NB540_550:=zh ((jBI : gb540≠gb550));have NB550_540:=zh NB540_550.out.symm;replace BK540:=zh (cD BK540.out jP hb);have NB543_550:=zh ((jBT : gb543≠gb550));have NB550_543:=zh NB543_550.out.symm;replace BK543:=zh (cD BK543.out jQ hb);clear hb hbox hg hH_;obtain ⟨Ao31,co31,eo31⟩:=Kd.N_slice HO546.out;subst eo31;have hnb32:=NB550_540.out;have hnc32:=NB540_550.out;have hnb33:=NB550_543.out;have hnc33:=NB543_550.out;obtain ⟨hcz34_0,hcz34_1,hfz34_0,hfz34_1⟩:=cB2 BK550.out;obtain ⟨hcz35_0,hcz35_1,hfz35_0,hfz35_1⟩:=cB2 BK540.out;obtain ⟨hcz36_0,hcz36_1,hfz36_0,hfz36_1⟩:=cB2 BK543.out)|(go_at_call 15;(with_reducible refine (Fj.calls kj2  _ _ t536 t539 t541 77 t551 t554 t555 t556 _ ?side1 ?side2 A9.out).mono ?_);(case side1=>refine (Kd.N_reads' (e:=60) (base:=w.heap.size) (ok:=fun k_=>((((True∧k_≠gb540)∧k_≠gb543)∧some k_≠(.slice Ao31 t544.length co31 : Value).ownBlock)∧k_≠gb550)) (n:=t536.length) (c:=co22) ?_).2.2;exact jCh);(case side2=>exact (Kd.N_reads' HO538.out).2.1);rintro e w37 ⟨v552,rfl,ho0,hb⟩;have HO553:=zh (Kd.N_lower (Kd.N_mono (ok':=fun k_=>some k_≠(.slice Ao22 t536.length co22 : Value).ownBlock∧some k_≠(.slice Ao31 t544.length co31 : Value).ownBlock∧k_≠gb540∧k_≠gb543∧k_≠gb550) (Kd.S_N (Kd.S_bound ho0)) (fun k_ hk_=>⟨(Kd.fresh' (Kd.N_lt jCh) k_ hk_.2.1),(Kd.fresh' (Kd.N_lt jDZ) k_ hk_.2.1),(Kd.freshB (g:=gb540) (o:=.cells #[.slice Ao22 t536.length co22,.int .i64 t539] 25 (0,0)) jDb k_ hk_.2.1),(Kd.freshB (g:=gb543) (o:=.cells #[.string t541,.int .i64 77] 28 (0,0)) jDc k_ hk_.2.1),(Kd.freshB (g:=gb550) (o:=.cells #[.slice Ao31 t544.length co31,.int .i64 t547] 25 (0,0)) jDd k_ hk_.2.1)⟩)) (zB jCi));replace HO538:=zh (Kd.N_elder' jCh (Kd.N_base (Kd.S_N ho0)) hb);replace HO546:=zh (Kd.N_elder' jDZ (Kd.N_base (Kd.S_N ho0)) hb);replace BK540:=zh (cD BK540.out jDb hb);replace BK543:=zh (cD BK543.out jDc hb);replace BK550:=zh (zD (g:=gb550) (o:=.cells #[.slice Ao31 t544.length co31,.int .i64 t547] 25 (0,0)) jDd hb);replace HB:=zh (zC jCi hb);(try clear hb);(try clear hb2);(try clear hk);(try clear hi);(try clear ho0))|((with_reducible refine zK (N:=10) rfl ?_);(try (refine yy (by rfl) ?_;dsimp only));refine zI ?hg (N:=10) ?hd (cs:=#[.slice none 0 0,.int .i64 0]) (t:=25) ?hr ?_;(case hd=>rfl);(case hg=>rfl);(case hr=>go_simp <;> rfl);intro gb557 hg w38 hbox hb;replace HO538:=zh (Kd.N_below (Kd.N_elderB ji gb557 (Nat.le_of_eq hg.symm)) hb);replace HO546:=zh (Kd.N_below (Kd.N_elderB jr gb557 (Nat.le_of_eq hg.symm)) hb);replace HO553:=zh (Kd.N_below (Kd.N_elderB jv gb557 (Nat.le_of_eq hg.symm)) hb);have BK557:=zh (hbox);have hH_:=cH jCi hb hg;have GW557:=zh hH_.1;have GE557:=GW557;replace HB:=zh hH_.2;have NB540_557:=zh ((jBI : gb540≠gb557));have NB557_540:=zh NB540_557.out.symm;replace BK540:=zh (cD BK540.out jP hb);have NB543_557:=zh ((jBT : gb543≠gb557));have NB557_543:=zh NB543_557.out.symm;replace BK543:=zh (cD BK543.out jQ hb);have NB550_557:=zh ((jB2 : gb550≠gb557));have NB557_550:=zh NB550_557.out.symm;replace BK550:=zh (cD BK550.out jU hb);clear hb hbox hg hH_;obtain ⟨Ao39,co39,eo39⟩:=Kd.N_slice HO553.out;subst eo39;have hnb40:=NB557_540.out;have hnc40:=NB540_557.out;have hnb41:=NB557_543.out;have hnc41:=NB543_557.out;have hnb42:=NB557_550.out;have hnc42:=NB550_557.out;obtain ⟨hcz43_0,hcz43_1,hfz43_0,hfz43_1⟩:=cB2 BK557.out;obtain ⟨hcz44_0,hcz44_1,hfz44_0,hfz44_1⟩:=cB2 BK540.out)|(go_at_call 16;(with_reducible refine (Fl.calls kj2  _ _ t536 t539 t558 t559 _ ?side1 ?side2 A10.out).mono ?_);(case side1=>refine (Kd.N_reads' (e:=60) (base:=w.heap.size) (ok:=fun k_=>((((((True∧k_≠gb540)∧k_≠gb543)∧some k_≠(.slice Ao31 t544.length co31 : Value).ownBlock)∧k_≠gb550)∧some k_≠(.slice Ao39 t551.length co39 : Value).ownBlock)∧k_≠gb557)) (n:=t536.length) (c:=co22) ?_).2.2;exact jDe);(case side2=>exact (Kd.N_reads' HO538.out).2.1);rintro e w45 ⟨rfl,hb⟩;replace HO538:=zh (Kd.N_below jDe hb);replace HO546:=zh (Kd.N_below (by (with_reducible repeat (first|apply Kd.N_alloc|apply Kd.N_drewN|apply Kd.N_drew));exact (Kd.N_mono (Kd.N_far (p:=⟨gb557,1,none⟩) (Kd.N_far (p:=⟨gb557,0,none⟩) (Kd.N_mono HO546.out (fun k_ hk=>(⟨hk,hk.2⟩ : _∧k_≠gb557))) (fun _ hk=>hk.2) (.slice Ao39 t551.length co39)) (fun _ hk=>hk.2) (.int .i64 t554)) (fun _ h_=>h_.1))) hb);replace HO553:=zh (Kd.N_below (by (with_reducible repeat (first|apply Kd.N_alloc|apply Kd.N_drewN|apply Kd.N_drew));exact (Kd.N_mono (Kd.N_far (p:=⟨gb557,1,none⟩) (Kd.N_far (p:=⟨gb557,0,none⟩) (Kd.N_mono HO553.out (fun k_ hk=>(⟨hk,hk.2⟩ : _∧k_≠gb557))) (fun _ hk=>hk.2) (.slice Ao39 t551.length co39)) (fun _ hk=>hk.2) (.int .i64 t554)) (fun _ h_=>h_.1))) hb);replace BK540:=zh (cD BK540.out (by (with_reducible repeat first|apply ze|apply zf|apply zg);refine cS2 ?_ NB540_557.out;(with_reducible repeat first|apply ze|apply zf|apply zg);exact BK540.out) hb);replace BK543:=zh (cD BK543.out (by (with_reducible repeat first|apply ze|apply zf|apply zg);refine cS2 ?_ NB543_557.out;(with_reducible repeat first|apply ze|apply zf|apply zg);exact BK543.out) hb);replace BK550:=zh (cD BK550.out (by (with_reducible repeat first|apply ze|apply zf|apply zg);refine cS2 ?_ NB550_557.out;(with_reducible repeat first|apply ze|apply zf|apply zg);exact BK550.out) hb);replace BK557:=zh (zD (g:=gb557) (o:=.cells #[.slice Ao39 t551.length co39,.int .i64 t554] 25 (0,0)) (by (with_reducible repeat first|apply ze|apply zf|apply zg);refine zL (cs:=#[.slice Ao39 t551.length co39,.int .i64 0]) ?_ 1 _ rfl;(with_reducible repeat first|apply ze|apply zf|apply zg);refine zL (cs:=#[.slice none 0 0,.int .i64 0]) ?_ 0 _ rfl;(with_reducible repeat first|apply ze|apply zf|apply zg);exact BK557.out) hb);replace HB:=zh (zC jBU hb);(try clear hb);(try clear hb2);(try clear hk);(try clear hi);obtain ⟨hcz46_0,hcz46_1,hfz46_0,hfz46_1⟩:=cB2 BK550.out)|(go_at_call 16;(with_reducible refine (Fl.calls kj2  _ _ t544 t547 t560 t561 _ ?side1 ?side2 A11.out).mono ?_);(case side1=>repeat (first|exact (Kd.N_reads' HO546.out).2.2|(with_reducible refine Kd.C_alloc ?_ _)|(with_reducible refine Kd.C_drewN ?_ _)|(with_reducible refine Kd.C_drew ?_)));(case side2=>exact (Kd.N_reads' HO546.out).2.1);rintro e w47 ⟨rfl,hb⟩;replace HO538:=zh (Kd.N_below ji hb);replace HO546:=zh (Kd.N_below jr hb);replace HO553:=zh (Kd.N_below jv hb);replace BK540:=zh (cD BK540.out jP hb);replace BK543:=zh (cD BK543.out jQ hb);replace BK550:=zh (cD BK550.out jU hb);replace BK557:=zh (cD BK557.out jW hb);replace HB:=zh (zC jBU hb);(try clear hb);(try clear hb2);(try clear hk);(try clear hi);obtain ⟨hcz48_0,hcz48_1,hfz48_0,hfz48_1⟩:=cB2 BK550.out;obtain ⟨hcz49_0,hcz49_1,hfz49_0,hfz49_1⟩:=cB2 BK543.out)|(go_at_call 14;(with_reducible refine (Fs.calls kj2  _ _ t544 t547 t541 77 t562 t565 t566 t567 _ ?side1 ?side2 A12.out).mono ?_);(case side1=>repeat (first|exact (Kd.N_reads' HO546.out).2.2|(with_reducible refine Kd.C_alloc ?_ _)|(with_reducible refine Kd.C_drewN ?_ _)|(with_reducible refine Kd.C_drew ?_)));(case side2=>exact (Kd.N_reads' HO546.out).2.1);rintro e w50 ⟨v563,rfl,ho0,hb⟩;have HO564:=zh (Kd.N_lower (Kd.N_mono (ok':=fun k_=>some k_≠(.slice Ao22 t536.length co22 : Value).ownBlock∧some k_≠(.slice Ao31 t544.length co31 : Value).ownBlock∧some k_≠(.slice Ao39 t551.length co39 : Value).ownBlock∧k_≠gb540∧k_≠gb543∧k_≠gb550∧k_≠gb557) (Kd.S_N (Kd.S_bound ho0)) (fun k_ hk_=>⟨(Kd.fresh' (Kd.N_lt ji) k_ hk_.2.1),(Kd.fresh' (Kd.N_lt jr) k_ hk_.2.1),(Kd.fresh' (Kd.N_lt jv) k_ hk_.2.1),(Kd.freshB (g:=gb540) (o:=.cells #[.slice Ao22 t536.length co22,.int .i64 t539] 25 (0,0)) jP k_ hk_.2.1),(Kd.freshB (g:=gb543) (o:=.cells #[.string t541,.int .i64 77] 28 (0,0)) jQ k_ hk_.2.1),(Kd.freshB (g:=gb550) (o:=.cells #[.slice Ao31 t544.length co31,.int .i64 t547] 25 (0,0)) jU k_ hk_.2.1),(Kd.freshB (g:=gb557) (o:=.cells #[.slice Ao39 t551.length co39,.int .i64 t554] 25 (0,0)) jW k_ hk_.2.1)⟩)) (zB jBU));replace HO538:=zh (Kd.N_elder' ji (Kd.N_base (Kd.S_N ho0)) hb);replace HO546:=zh (Kd.N_elder' jr (Kd.N_base (Kd.S_N ho0)) hb);replace HO553:=zh (Kd.N_elder' jv (Kd.N_base (Kd.S_N ho0)) hb);replace BK540:=zh (cD BK540.out jP hb);replace BK543:=zh (cD BK543.out jQ hb);replace BK550:=zh (cD BK550.out jU hb);replace BK557:=zh (cD BK557.out jW hb);replace HB:=zh (zC jBU hb);(try clear hb);(try clear hb2);(try clear hk);(try clear hi);(try clear ho0))|((with_reducible refine zK (N:=17) rfl ?_);(try (refine yy (by rfl) ?_;dsimp only));refine zI ?hg (N:=17) ?hd (cs:=#[.slice none 0 0,.int .i64 0]) (t:=25) ?hr ?_;(case hd=>rfl);(case hg=>rfl);(case hr=>go_simp <;> rfl);intro gb568 hg w51 hbox hb;replace HO538:=zh (Kd.N_below (Kd.N_elderB ji gb568 (Nat.le_of_eq hg.symm)) hb);replace HO546:=zh (Kd.N_below (Kd.N_elderB jr gb568 (Nat.le_of_eq hg.symm)) hb);replace HO553:=zh (Kd.N_below (Kd.N_elderB jv gb568 (Nat.le_of_eq hg.symm)) hb);replace HO564:=zh (Kd.N_below (Kd.N_elderB jAZ gb568 (Nat.le_of_eq hg.symm)) hb);have BK568:=zh (hbox);have hH_:=cH jBU hb hg;have GW568:=zh hH_.1;have GE568:=GW568;replace HB:=zh hH_.2;have NB540_568:=zh ((jBI : gb540≠gb568));have NB568_540:=zh NB540_568.out.symm;replace BK540:=zh (cD BK540.out jP hb);have NB543_568:=zh ((jBT : gb543≠gb568));have NB568_543:=zh NB543_568.out.symm;replace BK543:=zh (cD BK543.out jQ hb);have NB550_568:=zh ((jB2 : gb550≠gb568));have NB568_550:=zh NB550_568.out.symm;replace BK550:=zh (cD BK550.out jU hb);have NB557_568:=zh ((jCk : gb557≠gb568));have NB568_557:=zh NB557_568.out.symm;replace BK557:=zh (cD BK557.out jW hb);clear hb hbox hg hH_;obtain ⟨Ao52,co52,eo52⟩:=Kd.N_slice HO564.out;subst eo52;have hnb53:=NB568_540.out;have hnc53:=NB540_568.out;have hnb54:=NB568_543.out;have hnc54:=NB543_568.out;have hnb55:=NB568_550.out;have hnc55:=NB550_568.out;have hnb56:=NB568_557.out;have hnc56:=NB557_568.out;obtain ⟨hcz57_0,hcz57_1,hfz57_0,hfz57_1⟩:=cB2 BK568.out;obtain ⟨hcz58_0,hcz58_1,hfz58_0,hfz58_1⟩:=cB2 BK550.out;obtain ⟨hcz59_0,hcz59_1,hfz59_0,hfz59_1⟩:=cB2 BK543.out)|(go_at_call 17;(with_reducible refine (Fn.calls kj2  _ _ t544 t547 t541 77 t569 t572 t573 _ ?side1 ?side2 A13.out).mono ?_);(case side1=>refine (Kd.N_reads' (e:=60) (base:=w.heap.size) (ok:=fun k_=>((((((some k_≠(.slice Ao22 t536.length co22 : Value).ownBlock∧(k_≠gb540∧k_≠gb543))∧k_≠gb550)∧some k_≠(.slice Ao39 t551.length co39 : Value).ownBlock)∧k_≠gb557)∧some k_≠(.slice Ao52 t562.length co52 : Value).ownBlock)∧k_≠gb568)) (n:=t544.length) (c:=co31) ?_).2.2;exact jCl);(case side2=>exact (Kd.N_reads' HO546.out).2.1);rintro e w60 ⟨v570,rfl,ho0,hb⟩;have HO571:=zh (Kd.N_lower (Kd.N_mono (ok':=fun k_=>some k_≠(.slice Ao22 t536.length co22 : Value).ownBlock∧some k_≠(.slice Ao31 t544.length co31 : Value).ownBlock∧some k_≠(.slice Ao39 t551.length co39 : Value).ownBlock∧some k_≠(.slice Ao52 t562.length co52 : Value).ownBlock∧k_≠gb540∧k_≠gb543∧k_≠gb550∧k_≠gb557∧k_≠gb568) (Kd.S_N (Kd.S_bound ho0)) (fun k_ hk_=>⟨(Kd.fresh' (Kd.N_lt jDf) k_ hk_.2.1),(Kd.fresh' (Kd.N_lt jCl) k_ hk_.2.1),(Kd.fresh' (Kd.N_lt jDg) k_ hk_.2.1),(Kd.fresh' (Kd.N_lt jDh) k_ hk_.2.1),(Kd.freshB (g:=gb540) (o:=.cells #[.slice Ao22 t536.length co22,.int .i64 t539] 25 (0,0)) jDi k_ hk_.2.1),(Kd.freshB (g:=gb543) (o:=.cells #[.string t541,.int .i64 77] 28 (0,0)) jDk k_ hk_.2.1),(Kd.freshB (g:=gb550) (o:=.cells #[.slice Ao31 t544.length co31,.int .i64 t547] 25 (0,0)) jDl k_ hk_.2.1),(Kd.freshB (g:=gb557) (o:=.cells #[.slice Ao39 t551.length co39,.int .i64 t554] 25 (0,0)) jDm k_ hk_.2.1),(Kd.freshB (g:=gb568) (o:=.cells #[.slice Ao52 t562.length co52,.int .i64 t565] 25 (0,0)) jDn k_ hk_.2.1)⟩)) (zB jCm));replace HO538:=zh (Kd.N_elder' jDf (Kd.N_base (Kd.S_N ho0)) hb);replace HO546:=zh (Kd.N_elder' jCl (Kd.N_base (Kd.S_N ho0)) hb);replace HO553:=zh (Kd.N_elder' jDg (Kd.N_base (Kd.S_N ho0)) hb);replace HO564:=zh (Kd.N_elder' jDh (Kd.N_base (Kd.S_N ho0)) hb);replace BK540:=zh (cD BK540.out jDi hb);replace BK543:=zh (cD BK543.out jDk hb);replace BK550:=zh (cD BK550.out jDl hb);replace BK557:=zh (cD BK557.out jDm hb);replace BK568:=zh (zD (g:=gb568) (o:=.cells #[.slice Ao52 t562.length co52,.int .i64 t565] 25 (0,0)) jDn hb);replace HB:=zh (zC jCm hb);(try clear hb);(try clear hb2);(try clear hk);(try clear hi);(try clear ho0))|((with_reducible refine zK (N:=20) rfl ?_);(try (refine yy (by rfl) ?_;dsimp only));refine zI ?hg (N:=20) ?hd (cs:=#[.slice none 0 0,.int .i64 0]) (t:=25) ?hr ?_;(case hd=>rfl);(case hg=>rfl);(case hr=>go_simp <;> rfl);intro gb574 hg w61 hbox hb;replace HO538:=zh (Kd.N_below (Kd.N_elderB ji gb574 (Nat.le_of_eq hg.symm)) hb);replace HO546:=zh (Kd.N_below (Kd.N_elderB jr gb574 (Nat.le_of_eq hg.symm)) hb);replace HO553:=zh (Kd.N_below (Kd.N_elderB jv gb574 (Nat.le_of_eq hg.symm)) hb);replace HO564:=zh (Kd.N_below (Kd.N_elderB jAZ gb574 (Nat.le_of_eq hg.symm)) hb);replace HO571:=zh (Kd.N_below (Kd.N_elderB jAl gb574 (Nat.le_of_eq hg.symm)) hb);have BK574:=zh (hbox);have hH_:=cH jCm hb hg;have GW574:=zh hH_.1;have GE574:=GW574;replace HB:=zh hH_.2;have NB540_574:=zh ((jBI : gb540≠gb574));have NB574_540:=zh NB540_574.out.symm;replace BK540:=zh (cD BK540.out jP hb);have NB543_574:=zh ((jBT : gb543≠gb574));have NB574_543:=zh NB543_574.out.symm;replace BK543:=zh (cD BK543.out jQ hb);have NB550_574:=zh ((jB2 : gb550≠gb574));have NB574_550:=zh NB550_574.out.symm;replace BK550:=zh (cD BK550.out jU hb);have NB557_574:=zh ((jCk : gb557≠gb574));have NB574_557:=zh NB557_574.out.symm;replace BK557:=zh (cD BK557.out jW hb);have NB568_574:=zh ((jDo : gb568≠gb574));have NB574_568:=zh NB568_574.out.symm;replace BK568:=zh (cD BK568.out jf hb);clear hb hbox hg hH_;obtain ⟨Ao62,co62,eo62⟩:=Kd.N_slice HO571.out;subst eo62;have hnb63:=NB574_540.out;have hnc63:=NB540_574.out;have hnb64:=NB574_543.out;have hnc64:=NB543_574.out;have hnb65:=NB574_550.out;have hnc65:=NB550_574.out;have hnb66:=NB574_557.out;have hnc66:=NB557_574.out;have hnb67:=NB574_568.out;have hnc67:=NB568_574.out;obtain ⟨hcz68_0,hcz68_1,hfz68_0,hfz68_1⟩:=cB2 BK574.out;obtain ⟨hcz69_0,hcz69_1,hfz69_0,hfz69_1⟩:=cB2 BK543.out)|(go_at_call 17;(with_reducible refine (Fn.calls kj2  _ _ t569 t572 t541 77 t575 t578 t579 _ ?side1 ?side2 A14.out).mono ?_);(case side1=>refine (Kd.N_reads' (e:=60) (base:=w.heap.size) (ok:=fun k_=>((some k_≠(.slice Ao22 t536.length co22 : Value).ownBlock∧(some k_≠(.slice Ao31 t544.length co31 : Value).ownBlock∧(some k_≠(.slice Ao39 t551.length co39 : Value).ownBlock∧(some k_≠(.slice Ao52 t562.length co52 : Value).ownBlock∧(k_≠gb540∧(k_≠gb543∧(k_≠gb550∧(k_≠gb557∧k_≠gb568))))))))∧k_≠gb574)) (n:=t569.length) (c:=co62) ?_).2.2;exact jCn);(case side2=>exact (Kd.N_reads' HO571.out).2.1);rintro e w70 ⟨v576,rfl,ho0,hb⟩;have HO577:=zh (Kd.N_lower (Kd.N_mono (ok':=fun k_=>some k_≠(.slice Ao22 t536.length co22 : Value).ownBlock∧some k_≠(.slice Ao31 t544.length co31 : Value).ownBlock∧some k_≠(.slice Ao39 t551.length co39 : Value).ownBlock∧some k_≠(.slice Ao52 t562.length co52 : Value).ownBlock∧some k_≠(.slice Ao62 t569.length co62 : Value).ownBlock∧k_≠gb540∧k_≠gb543∧k_≠gb550∧k_≠gb557∧k_≠gb568∧k_≠gb574) (Kd.S_N (Kd.S_bound ho0)) (fun k_ hk_=>⟨(Kd.fresh' (Kd.N_lt jDp) k_ hk_.2.1),(Kd.fresh' (Kd.N_lt jDq) k_ hk_.2.1),(Kd.fresh' (Kd.N_lt jDr) k_ hk_.2.1),(Kd.fresh' (Kd.N_lt jDs) k_ hk_.2.1),(Kd.fresh' (Kd.N_lt jCn) k_ hk_.2.1),(Kd.freshB (g:=gb540) (o:=.cells #[.slice Ao22 t536.length co22,.int .i64 t539] 25 (0,0)) jDt k_ hk_.2.1),(Kd.freshB (g:=gb543) (o:=.cells #[.string t541,.int .i64 77] 28 (0,0)) jDu k_ hk_.2.1),(Kd.freshB (g:=gb550) (o:=.cells #[.slice Ao31 t544.length co31,.int .i64 t547] 25 (0,0)) jDv k_ hk_.2.1),(Kd.freshB (g:=gb557) (o:=.cells #[.slice Ao39 t551.length co39,.int .i64 t554] 25 (0,0)) jDw k_ hk_.2.1),(Kd.freshB (g:=gb568) (o:=.cells #[.slice Ao52 t562.length co52,.int .i64 t565] 25 (0,0)) jDx k_ hk_.2.1),(Kd.freshB (g:=gb574) (o:=.cells #[.slice Ao62 t569.length co62,.int .i64 t572] 25 (0,0)) jDy k_ hk_.2.1)⟩)) (zB jCo));replace HO538:=zh (Kd.N_elder' jDp (Kd.N_base (Kd.S_N ho0)) hb);replace HO546:=zh (Kd.N_elder' jDq (Kd.N_base (Kd.S_N ho0)) hb);replace HO553:=zh (Kd.N_elder' jDr (Kd.N_base (Kd.S_N ho0)) hb);replace HO564:=zh (Kd.N_elder' jDs (Kd.N_base (Kd.S_N ho0)) hb);replace HO571:=zh (Kd.N_elder' jCn (Kd.N_base (Kd.S_N ho0)) hb);replace BK540:=zh (cD BK540.out jDt hb);replace BK543:=zh (cD BK543.out jDu hb);replace BK550:=zh (cD BK550.out jDv hb);replace BK557:=zh (cD BK557.out jDw hb);replace BK568:=zh (cD BK568.out jDx hb);replace BK574:=zh (zD (g:=gb574) (o:=.cells #[.slice Ao62 t569.length co62,.int .i64 t572] 25 (0,0)) jDy hb);replace HB:=zh (zC jCo hb);(try clear hb);(try clear hb2);(try clear hk);(try clear hi);(try clear ho0))|((with_reducible refine zK (N:=22) rfl ?_);(try (refine yy (by rfl) ?_;dsimp only));refine zI ?hg (N:=22) ?hd (cs:=#[.slice none 0 0,.int .i64 0]) (t:=25) ?hr ?_;(case hd=>rfl);(case hg=>rfl);(case hr=>go_simp <;> rfl);intro gb580 hg w71 hbox hb;replace HO538:=zh (Kd.N_below (Kd.N_elderB ji gb580 (Nat.le_of_eq hg.symm)) hb);replace HO546:=zh (Kd.N_below (Kd.N_elderB jr gb580 (Nat.le_of_eq hg.symm)) hb);replace HO553:=zh (Kd.N_below (Kd.N_elderB jv gb580 (Nat.le_of_eq hg.symm)) hb);replace HO564:=zh (Kd.N_below (Kd.N_elderB jAZ gb580 (Nat.le_of_eq hg.symm)) hb);replace HO571:=zh (Kd.N_below (Kd.N_elderB jAl gb580 (Nat.le_of_eq hg.symm)) hb);replace HO577:=zh (Kd.N_below (Kd.N_elderB jAt gb580 (Nat.le_of_eq hg.symm)) hb);have BK580:=zh (hbox);have hH_:=cH jCo hb hg;have GW580:=zh hH_.1;have GE580:=GW580;replace HB:=zh hH_.2;have NB540_580:=zh ((jBI : gb540≠gb580));have NB580_540:=zh NB540_580.out.symm;replace BK540:=zh (cD BK540.out jP hb);have NB543_580:=zh ((jBT : gb543≠gb580));have NB580_543:=zh NB543_580.out.symm;replace BK543:=zh (cD BK543.out jQ hb);have NB550_580:=zh ((jB2 : gb550≠gb580));have NB580_550:=zh NB550_580.out.symm;replace BK550:=zh (cD BK550.out jU hb);have NB557_580:=zh ((jCk : gb557≠gb580));have NB580_557:=zh NB557_580.out.symm;replace BK557:=zh (cD BK557.out jW hb);have NB568_580:=zh ((jDo : gb568≠gb580));have NB580_568:=zh NB568_580.out.symm;replace BK568:=zh (cD BK568.out jf hb);have NB574_580:=zh ((by rw [hg];exact yc (yi (g:=gb574) (o:=.cells #[.slice Ao62 t569.length co62,.int .i64 t572] 25 (0,0)) jk) : gb574≠gb580));have NB580_574:=zh NB574_580.out.symm;replace BK574:=zh (cD BK574.out jk hb);clear hb hbox hg hH_;obtain ⟨Ao72,co72,eo72⟩:=Kd.N_slice HO577.out;subst eo72;have hnb73:=NB580_540.out;have hnc73:=NB540_580.out;have hnb74:=NB580_543.out;have hnc74:=NB543_580.out;have hnb75:=NB580_550.out;have hnc75:=NB550_580.out;have hnb76:=NB580_557.out;have hnc76:=NB557_580.out;have hnb77:=NB580_568.out;have hnc77:=NB568_580.out;have hnb78:=NB580_574.out;have hnc78:=NB574_580.out;obtain ⟨hcz79_0,hcz79_1,hfz79_0,hfz79_1⟩:=cB2 BK580.out;obtain ⟨hcz80_0,hcz80_1,hfz80_0,hfz80_1⟩:=cB2 BK574.out)|(go_at_call 16;(with_reducible refine (Fl.calls kj2  _ _ t569 t572 t581 t582 _ ?side1 ?side2 A15.out).mono ?_);(case side1=>refine (Kd.N_reads' (e:=60) (base:=w.heap.size) (ok:=fun k_=>((((some k_≠(.slice Ao22 t536.length co22 : Value).ownBlock∧(some k_≠(.slice Ao31 t544.length co31 : Value).ownBlock∧(some k_≠(.slice Ao39 t551.length co39 : Value).ownBlock∧(some k_≠(.slice Ao52 t562.length co52 : Value).ownBlock∧(k_≠gb540∧(k_≠gb543∧(k_≠gb550∧(k_≠gb557∧k_≠gb568))))))))∧k_≠gb574)∧some k_≠(.slice Ao72 t575.length co72 : Value).ownBlock)∧k_≠gb580)) (n:=t569.length) (c:=co62) ?_).2.2;exact jDz);(case side2=>exact (Kd.N_reads' HO571.out).2.1);rintro e w81 ⟨rfl,hb⟩;replace HO538:=zh (Kd.N_below (by (with_reducible repeat (first|apply Kd.N_alloc|apply Kd.N_drewN|apply Kd.N_drew));exact (Kd.N_mono (Kd.N_far (p:=⟨gb580,1,none⟩) (Kd.N_far (p:=⟨gb580,0,none⟩) (Kd.N_mono HO538.out (fun k_ hk=>(⟨hk,hk.2⟩ : _∧k_≠gb580))) (fun _ hk=>hk.2) (.slice Ao72 t575.length co72)) (fun _ hk=>hk.2) (.int .i64 t578)) (fun _ h_=>h_.1))) hb);replace HO546:=zh (Kd.N_below (by (with_reducible repeat (first|apply Kd.N_alloc|apply Kd.N_drewN|apply Kd.N_drew));exact (Kd.N_mono (Kd.N_far (p:=⟨gb580,1,none⟩) (Kd.N_far (p:=⟨gb580,0,none⟩) (Kd.N_mono HO546.out (fun k_ hk=>(⟨hk,hk.2⟩ : _∧k_≠gb580))) (fun _ hk=>hk.2) (.slice Ao72 t575.length co72)) (fun _ hk=>hk.2) (.int .i64 t578)) (fun _ h_=>h_.1))) hb);replace HO553:=zh (Kd.N_below (by (with_reducible repeat (first|apply Kd.N_alloc|apply Kd.N_drewN|apply Kd.N_drew));exact (Kd.N_mono (Kd.N_far (p:=⟨gb580,1,none⟩) (Kd.N_far (p:=⟨gb580,0,none⟩) (Kd.N_mono HO553.out (fun k_ hk=>(⟨hk,hk.2⟩ : _∧k_≠gb580))) (fun _ hk=>hk.2) (.slice Ao72 t575.length co72)) (fun _ hk=>hk.2) (.int .i64 t578)) (fun _ h_=>h_.1))) hb);replace HO564:=zh (Kd.N_below (by (with_reducible repeat (first|apply Kd.N_alloc|apply Kd.N_drewN|apply Kd.N_drew));exact (Kd.N_mono (Kd.N_far (p:=⟨gb580,1,none⟩) (Kd.N_far (p:=⟨gb580,0,none⟩) (Kd.N_mono HO564.out (fun k_ hk=>(⟨hk,hk.2⟩ : _∧k_≠gb580))) (fun _ hk=>hk.2) (.slice Ao72 t575.length co72)) (fun _ hk=>hk.2) (.int .i64 t578)) (fun _ h_=>h_.1))) hb);replace HO571:=zh (Kd.N_below jDz hb);replace HO577:=zh (Kd.N_below (by (with_reducible repeat (first|apply Kd.N_alloc|apply Kd.N_drewN|apply Kd.N_drew));exact (Kd.N_mono (Kd.N_far (p:=⟨gb580,1,none⟩) (Kd.N_far (p:=⟨gb580,0,none⟩) (Kd.N_mono HO577.out (fun k_ hk=>(⟨hk,hk.2⟩ : _∧k_≠gb580))) (fun _ hk=>hk.2) (.slice Ao72 t575.length co72)) (fun _ hk=>hk.2) (.int .i64 t578)) (fun _ h_=>h_.1))) hb);replace BK540:=zh (cD BK540.out (by (with_reducible repeat first|apply ze|apply zf|apply zg);refine cS2 ?_ NB540_580.out;(with_reducible repeat first|apply ze|apply zf|apply zg);exact BK540.out) hb);replace BK543:=zh (cD BK543.out (by (with_reducible repeat first|apply ze|apply zf|apply zg);refine cS2 ?_ NB543_580.out;(with_reducible repeat first|apply ze|apply zf|apply zg);exact BK543.out) hb);replace BK550:=zh (cD BK550.out (by (with_reducible repeat first|apply ze|apply zf|apply zg);refine cS2 ?_ NB550_580.out;(with_reducible repeat first|apply ze|apply zf|apply zg);exact BK550.out) hb);replace BK557:=zh (cD BK557.out (by (with_reducible repeat first|apply ze|apply zf|apply zg);refine cS2 ?_ NB557_580.out;(with_reducible repeat first|apply ze|apply zf|apply zg);exact BK557.out) hb);replace BK568:=zh (cD BK568.out (by (with_reducible repeat first|apply ze|apply zf|apply zg);refine cS2 ?_ NB568_580.out;(with_reducible repeat first|apply ze|apply zf|apply zg);exact BK568.out) hb);replace BK574:=zh (cD BK574.out (by (with_reducible repeat first|apply ze|apply zf|apply zg);refine cS2 ?_ NB574_580.out;(with_reducible repeat first|apply ze|apply zf|apply zg);exact BK574.out) hb);replace BK580:=zh (zD (g:=gb580) (o:=.cells #[.slice Ao72 t575.length co72,.int .i64 t578] 25 (0,0)) (by (with_reducible repeat first|apply ze|apply zf|apply zg);refine zL (cs:=#[.slice Ao72 t575.length co72,.int .i64 0]) ?_ 1 _ rfl;(with_reducible repeat first|apply ze|apply zf|apply zg);refine zL (cs:=#[.slice none 0 0,.int .i64 0]) ?_ 0 _ rfl;(with_reducible repeat first|apply ze|apply zf|apply zg);exact BK580.out) hb);replace HB:=zh (zC jd hb);(try clear hb);(try clear hb2);(try clear hk);(try clear hi);obtain ⟨hcz82_0,hcz82_1,hfz82_0,hfz82_1⟩:=cB2 BK550.out)|(go_at_call 8;(with_reducible refine (F9.calls kj2  _ _ t544 t547 (⟨#[]⟩ : ByteArray) (⟨#[]⟩ : ByteArray) true t583 t586 t589 _ ?side1 ?side2 A16.out).mono ?_);(case side1=>repeat (first|exact (Kd.N_reads' HO546.out).2.2|(with_reducible refine Kd.C_alloc ?_ _)|(with_reducible refine Kd.C_drewN ?_ _)|(with_reducible refine Kd.C_drew ?_)));(case side2=>exact (Kd.N_reads' HO546.out).2.1);rintro e w83 ⟨v584,v587,rfl,ho0,ho1,hb⟩;replace HO538:=zh (Kd.N_mono (Kd.N_told (Kd.N_told (Kd.N_old ji hb) (Kd.R_base ho0)) (Kd.R_base ho1)) (fun _ h_=>h_.1));replace HO546:=zh (Kd.N_mono (Kd.N_told (Kd.N_told (Kd.N_old jr hb) (Kd.R_base ho0)) (Kd.R_base ho1)) (fun _ h_=>h_.1));replace HO553:=zh (Kd.N_mono (Kd.N_told (Kd.N_told (Kd.N_old jv hb) (Kd.R_base ho0)) (Kd.R_base ho1)) (fun _ h_=>h_.1));replace HO564:=zh (Kd.N_mono (Kd.N_told (Kd.N_told (Kd.N_old jAZ hb) (Kd.R_base ho0)) (Kd.R_base ho1)) (fun _ h_=>h_.1));replace HO571:=zh (Kd.N_mono (Kd.N_told (Kd.N_told (Kd.N_old jAl hb) (Kd.R_base ho0)) (Kd.R_base ho1)) (fun _ h_=>h_.1));replace HO577:=zh (Kd.N_mono (Kd.N_told (Kd.N_told (Kd.N_old jAt hb) (Kd.R_base ho0)) (Kd.R_base ho1)) (fun _ h_=>h_.1));have HO585:=zh (yx (Kd.R_newB ho0 (g:=gb543) (o:=.cells #[.string t541,.int .i64 77] 28 (0,0)) jQ) (zB jd));have HO588:=zh (yx ho1 (zB jd));replace BK540:=zh (cD BK540.out jP hb);replace BK543:=zh (cD BK543.out jQ hb);replace BK550:=zh (cD BK550.out jU hb);replace BK557:=zh (cD BK557.out jW hb);replace BK568:=zh (cD BK568.out jf hb);replace BK574:=zh (cD BK574.out jk hb);replace BK580:=zh (cD BK580.out js hb);replace HB:=zh (zC jd hb);(try clear hb);(try clear hb2);(try clear hk);(try clear hi);(try clear ho0);(try clear ho1);obtain ⟨hcz84_0,hcz84_1,hfz84_0,hfz84_1⟩:=cB2 BK550.out;obtain ⟨hcz85_0,hcz85_1,hfz85_0,hfz85_1⟩:=cB2 BK543.out)|(go_at_call 13;(with_reducible refine (Fp.calls kj2  _ _ t544 t547 t541 77 t590 t591 _ ?side1 ?side2 A17.out).mono ?_);(case side1=>repeat (first|exact (Kd.N_reads' HO546.out).2.2|(with_reducible refine Kd.C_alloc ?_ _)|(with_reducible refine Kd.C_drewN ?_ _)|(with_reducible refine Kd.C_drew ?_)));(case side2=>exact (Kd.N_reads' HO546.out).2.1);rintro e w86 ⟨rfl,hb⟩;replace HO538:=zh (Kd.N_below ji hb);replace HO546:=zh (Kd.N_below jr hb);replace HO553:=zh (Kd.N_below jv hb);replace HO564:=zh (Kd.N_below jAZ hb);replace HO571:=zh (Kd.N_below jAl hb);replace HO577:=zh (Kd.N_below jAt hb);replace HO585:=zh (yg jBV hb);replace HO588:=zh (yg jBW hb);replace BK540:=zh (cD BK540.out jP hb);replace BK543:=zh (cD BK543.out jQ hb);replace BK550:=zh (cD BK550.out jU hb);replace BK557:=zh (cD BK557.out jW hb);replace BK568:=zh (cD BK568.out jf hb);replace BK574:=zh (cD BK574.out jk hb);replace BK580:=zh (cD BK580.out js hb);replace HB:=zh (zC jd hb);(try clear hb);(try clear hb2);(try clear hk);(try clear hi);obtain ⟨hcz87_0,hcz87_1,hfz87_0,hfz87_1⟩:=cB2 BK550.out;obtain ⟨hcz88_0,hcz88_1,hfz88_0,hfz88_1⟩:=cB2 BK543.out)|(go_at_call 18;(with_reducible refine (Fo.calls kj2  _ _ t544 t547 t541 77 t592 t593 _ ?side1 ?side2 A18.out).mono ?_);(case side1=>repeat (first|exact (Kd.N_reads' HO546.out).2.2|(with_reducible refine Kd.C_alloc ?_ _)|(with_reducible refine Kd.C_drewN ?_ _)|(with_reducible refine Kd.C_drew ?_)));(case side2=>exact (Kd.N_reads' HO546.out).2.1);rintro e w89 ⟨rfl,hb⟩;replace HO538:=zh (Kd.N_below ji hb);replace HO546:=zh (Kd.N_below jr hb);replace HO553:=zh (Kd.N_below jv hb);replace HO564:=zh (Kd.N_below jAZ hb);replace HO571:=zh (Kd.N_below jAl hb);replace HO577:=zh (Kd.N_below jAt hb);replace HO585:=zh (yg jBV hb);replace HO588:=zh (yg jBW hb);replace BK540:=zh (cD BK540.out jP hb);replace BK543:=zh (cD BK543.out jQ hb);replace BK550:=zh (cD BK550.out jU hb);replace BK557:=zh (cD BK557.out jW hb);replace BK568:=zh (cD BK568.out jf hb);replace BK574:=zh (cD BK574.out jk hb);replace BK580:=zh (cD BK580.out js hb);replace HB:=zh (zC jd hb);(try clear hb);(try clear hb2);(try clear hk);(try clear hi)))
    (try simp only [Act.put,zi,zj,zk])
    go_cut [200] (fun v200 wc => ∃ (kq : Nat) (x200_18 : Bool),v200 = .bool x200_18∧Aside0 (F0.j1 kq t583 x200_18 t541 77=some r)∧Aside0 (kq≤kj2)∧Aside0 (Kd.R k28 28 wc w.heap.size (fun k_=>k_≠gb543) v584 t583)∧Aside0 (Kd.N k60 60 wc w.heap.size (fun k_=>some k_≠(v584 : Value).ownBlock∧some k_≠((.slice Ao31 t544.length co31) : Value).ownBlock∧some k_≠((.slice Ao39 t551.length co39) : Value).ownBlock∧some k_≠((.slice Ao52 t562.length co52) : Value).ownBlock∧some k_≠((.slice Ao62 t569.length co62) : Value).ownBlock∧some k_≠((.slice Ao72 t575.length co72) : Value).ownBlock∧k_≠gb540∧k_≠gb543∧k_≠gb550∧k_≠gb557∧k_≠gb568∧k_≠gb574∧k_≠gb580) (.slice Ao22 t536.length co22) t536)∧Aside0 (Kd.N k60 60 wc w.heap.size (fun k_=>some k_≠(v584 : Value).ownBlock∧some k_≠((.slice Ao22 t536.length co22) : Value).ownBlock∧some k_≠((.slice Ao39 t551.length co39) : Value).ownBlock∧some k_≠((.slice Ao52 t562.length co52) : Value).ownBlock∧some k_≠((.slice Ao62 t569.length co62) : Value).ownBlock∧some k_≠((.slice Ao72 t575.length co72) : Value).ownBlock∧k_≠gb540∧k_≠gb543∧k_≠gb550∧k_≠gb557∧k_≠gb568∧k_≠gb574∧k_≠gb580) (.slice Ao31 t544.length co31) t544)∧Aside0 (Kd.N k60 60 wc w.heap.size (fun k_=>some k_≠(v584 : Value).ownBlock∧some k_≠((.slice Ao22 t536.length co22) : Value).ownBlock∧some k_≠((.slice Ao31 t544.length co31) : Value).ownBlock∧some k_≠((.slice Ao52 t562.length co52) : Value).ownBlock∧some k_≠((.slice Ao62 t569.length co62) : Value).ownBlock∧some k_≠((.slice Ao72 t575.length co72) : Value).ownBlock∧k_≠gb540∧k_≠gb543∧k_≠gb550∧k_≠gb557∧k_≠gb568∧k_≠gb574∧k_≠gb580) (.slice Ao39 t551.length co39) t551)∧Aside0 (Kd.N k60 60 wc w.heap.size (fun k_=>some k_≠(v584 : Value).ownBlock∧some k_≠((.slice Ao22 t536.length co22) : Value).ownBlock∧some k_≠((.slice Ao31 t544.length co31) : Value).ownBlock∧some k_≠((.slice Ao39 t551.length co39) : Value).ownBlock∧some k_≠((.slice Ao62 t569.length co62) : Value).ownBlock∧some k_≠((.slice Ao72 t575.length co72) : Value).ownBlock∧k_≠gb540∧k_≠gb543∧k_≠gb550∧k_≠gb557∧k_≠gb568∧k_≠gb574∧k_≠gb580) (.slice Ao52 t562.length co52) t562)∧Aside0 (Kd.N k60 60 wc w.heap.size (fun k_=>some k_≠(v584 : Value).ownBlock∧some k_≠((.slice Ao22 t536.length co22) : Value).ownBlock∧some k_≠((.slice Ao31 t544.length co31) : Value).ownBlock∧some k_≠((.slice Ao39 t551.length co39) : Value).ownBlock∧some k_≠((.slice Ao52 t562.length co52) : Value).ownBlock∧some k_≠((.slice Ao72 t575.length co72) : Value).ownBlock∧k_≠gb540∧k_≠gb543∧k_≠gb550∧k_≠gb557∧k_≠gb568∧k_≠gb574∧k_≠gb580) (.slice Ao62 t569.length co62) t569)∧Aside0 (Kd.N k60 60 wc w.heap.size (fun k_=>some k_≠(v584 : Value).ownBlock∧some k_≠((.slice Ao22 t536.length co22) : Value).ownBlock∧some k_≠((.slice Ao31 t544.length co31) : Value).ownBlock∧some k_≠((.slice Ao39 t551.length co39) : Value).ownBlock∧some k_≠((.slice Ao52 t562.length co52) : Value).ownBlock∧some k_≠((.slice Ao62 t569.length co62) : Value).ownBlock∧k_≠gb540∧k_≠gb543∧k_≠gb550∧k_≠gb557∧k_≠gb568∧k_≠gb574∧k_≠gb580) (.slice Ao72 t575.length co72) t575)∧Aside0 (wc.heap[gb540]? = some (.cells #[(.slice Ao22 t536.length co22),.int .i64 t539] 25 (0,0)))∧Aside0 (wc.heap[gb543]? = some (.cells #[.string t541,.int .i64 77] 28 (0,0)))∧Aside0 (wc.heap[gb550]? = some (.cells #[(.slice Ao31 t544.length co31),.int .i64 t547] 25 (0,0)))∧Aside0 (wc.heap[gb557]? = some (.cells #[(.slice Ao39 t551.length co39),.int .i64 t554] 25 (0,0)))∧Aside0 (wc.heap[gb568]? = some (.cells #[(.slice Ao52 t562.length co52),.int .i64 t565] 25 (0,0)))∧Aside0 (wc.heap[gb574]? = some (.cells #[(.slice Ao62 t569.length co62),.int .i64 t572] 25 (0,0)))∧Aside0 (wc.heap[gb580]? = some (.cells #[(.slice Ao72 t575.length co72),.int .i64 t578] 25 (0,0)))∧Aside0 (Below w.heap.size w wc))
    case first =>
     as_aux_lemma =>
      have H:=HC19.out;clear HC19
      by_cases c90 : t549=0
      ·
       rw [if_pos c90] at H
       have c90b0 : (t549 == 0)=true:=ya.mpr c90;have c90b1 : (t549 != 0)=false:=zX.mpr c90;clear c90;(first|rw [c90b0]|(simp only [zG,zH];rw [c90b0])|skip)
       by_cases c91 : t548=t555
       ·
        rw [if_pos c91] at H
        have c91b0 : (t548 == t555)=true:=ya.mpr c91;have c91b1 : (t548 != t555)=false:=zX.mpr c91;clear c91;replace H:=zT.mp H;obtain ⟨t594,A920,H⟩:=H;have A92:=zh A920;clear A920
        by_cases c93 : t594=true
        ·
         subst c93
         rw [if_pos rfl] at H;replace H:=zT.mp H;obtain ⟨t595,A940,H⟩:=H;have A94:=zh A940;clear A940
         by_cases c95 : t595=true
         ·
          subst c95
          rw [if_pos rfl] at H
          by_cases c96 : t559=0
          ·
           rw [if_pos c96] at H
           have c96b0 : (t559 == 0)=true:=ya.mpr c96;have c96b1 : (t559 != 0)=false:=zX.mpr c96;clear c96
           by_cases c97 : t561=0
           ·
            rw [if_pos c97] at H
            have c97b0 : (t561 == 0)=true:=ya.mpr c97;have c97b1 : (t561 != 0)=false:=zX.mpr c97;clear c97
            by_cases c98 : t560=(wrap64 (t558+1))
            ·
             rw [if_pos c98] at H
             have c98b0 : (t560 == (wrap64 (t558+1)))=true:=ya.mpr c98;have c98b1 : (t560 != (wrap64 (t558+1)))=false:=zX.mpr c98;clear c98
             by_cases c99 : t567=12
             ·
              rw [if_pos c99] at H
              have c99b0 : (t567 == 12)=true:=ya.mpr c99;have c99b1 : (t567 != 12)=false:=zX.mpr c99;clear c99
              by_cases c100 : t573=0
              ·
               rw [if_pos c100] at H
               have c100b0 : (t573 == 0)=true:=ya.mpr c100;have c100b1 : (t573 != 0)=false:=zX.mpr c100;clear c100
               by_cases c101 : t579=5
               ·
                rw [if_pos c101] at H
                have c101b0 : (t579 == 5)=true:=ya.mpr c101;have c101b1 : (t579 != 5)=false:=zX.mpr c101;clear c101
                by_cases c102 : t582=0
                ·
                 rw [if_pos c102] at H
                 have c102b0 : (t582 == 0)=true:=ya.mpr c102;have c102b1 : (t582 != 0)=false:=zX.mpr c102;clear c102
                 by_cases c103 : t581=t558
                 ·
                  rw [if_pos c103] at H
                  have c103b0 : (t581 == t558)=true:=ya.mpr c103;have c103b1 : (t581 != t558)=false:=zX.mpr c103;clear c103;replace H:=zT.mp H;obtain ⟨t596,A1040,H⟩:=H;have A104:=zh A1040;clear A1040
                  by_cases c105 : t596=true
                  ·
                   subst c105
                   rw [if_pos rfl] at H
                   by_cases c106 : t589=0
                   ·
                    rw [if_pos c106] at H
                    have c106b0 : (t589 == 0)=true:=ya.mpr c106;have c106b1 : (t589 != 0)=false:=zX.mpr c106;clear c106
                    by_cases c107 : (t583.length : Int)=t560
                    ·
                     rw [if_pos c107] at H
                     have c107b0 : ((t583.length : Int) == t560)=true:=ya.mpr c107;have c107b1 : ((t583.length : Int) != t560)=false:=zX.mpr c107;clear c107
                     by_cases c108 : (t586.length : Int)=(t544.length : Int)
                     ·
                      rw [if_pos c108] at H
                      have c108b0 : ((t586.length : Int) == (t544.length : Int))=true:=ya.mpr c108;have c108b1 : ((t586.length : Int) != (t544.length : Int))=false:=zX.mpr c108;have c108b2 : (t586.length == t544.length)=true:=by first|simpa using c108|(simp at c108 ⊢;omega)
                      clear c108
                      by_cases c109 : t591=0
                      ·
                       rw [if_pos c109] at H
                       have c109b0 : (t591 == 0)=true:=ya.mpr c109;have c109b1 : (t591 != 0)=false:=zX.mpr c109;clear c109;have H':=zh H;clear H;have hnb110:=NB550_540.out;have hnc110:=NB540_550.out;have hnb111:=NB550_543.out;have hnc111:=NB543_550.out;have hnb112:=NB550_557.out;have hnc112:=NB557_550.out;have hnb113:=NB550_568.out;have hnc113:=NB568_550.out;have hnb114:=NB550_574.out;have hnc114:=NB574_550.out;have hnb115:=NB550_580.out;have hnc115:=NB580_550.out;obtain ⟨hcz116_0,hcz116_1,hfz116_0,hfz116_1⟩:=cB2 BK550.out;have hnb117:=NB557_540.out;have hnc117:=NB540_557.out;have hnb118:=NB557_543.out;have hnc118:=NB543_557.out;have hnb119:=NB557_568.out;have hnc119:=NB568_557.out;have hnb120:=NB557_574.out;have hnc120:=NB574_557.out;have hnb121:=NB557_580.out;have hnc121:=NB580_557.out;obtain ⟨hcz122_0,hcz122_1,hfz122_0,hfz122_1⟩:=cB2 BK557.out
                       go_wp2_with (first|(go_at_call 19;(with_reducible refine (Fe.calls kj2  _ _ t544 t547 _ _ t551 t554 true _ ?side1 ?side2 ?side3 ?side4 A92.out).mono ?_);(case side1=>repeat (first|exact (Kd.N_reads' HO546.out).2.2|(with_reducible refine Kd.C_alloc ?_ _)|(with_reducible refine Kd.C_drewN ?_ _)|(with_reducible refine Kd.C_drew ?_)));(case side2=>exact (Kd.N_reads' HO546.out).2.1);(case side3=>repeat (first|exact (Kd.N_reads' HO553.out).2.2|(with_reducible refine Kd.C_alloc ?_ _)|(with_reducible refine Kd.C_drewN ?_ _)|(with_reducible refine Kd.C_drew ?_)));(case side4=>exact (Kd.N_reads' HO553.out).2.1);rintro e w123 ⟨rfl,hb⟩;replace HO538:=zh (Kd.N_below ji hb);replace HO546:=zh (Kd.N_below jr hb);replace HO553:=zh (Kd.N_below jv hb);replace HO564:=zh (Kd.N_below jAZ hb);replace HO571:=zh (Kd.N_below jAl hb);replace HO577:=zh (Kd.N_below jAt hb);replace HO585:=zh (yg jBV hb);replace HO588:=zh (yg jBW hb);replace BK540:=zh (cD BK540.out jP hb);replace BK543:=zh (cD BK543.out jQ hb);replace BK550:=zh (cD BK550.out jU hb);replace BK557:=zh (cD BK557.out jW hb);replace BK568:=zh (cD BK568.out jf hb);replace BK574:=zh (cD BK574.out jk hb);replace BK580:=zh (cD BK580.out js hb);replace HB:=zh (zC jd hb);(try clear hb);(try clear hb2);(try clear hk);(try clear hi);obtain ⟨hcz124_0,hcz124_1,hfz124_0,hfz124_1⟩:=cB2 BK550.out)|(go_at_call 20;(with_reducible refine (F3.calls kj2  _ _ t544 t547 true _ ?side1 ?side2 A94.out).mono ?_);(case side1=>repeat (first|exact (Kd.N_reads' HO546.out).2.2|(with_reducible refine Kd.C_alloc ?_ _)|(with_reducible refine Kd.C_drewN ?_ _)|(with_reducible refine Kd.C_drew ?_)));(case side2=>exact (Kd.N_reads' HO546.out).2.1);rintro e w125 ⟨rfl,hb⟩;replace HO538:=zh (Kd.N_below ji hb);replace HO546:=zh (Kd.N_below jr hb);replace HO553:=zh (Kd.N_below jv hb);replace HO564:=zh (Kd.N_below jAZ hb);replace HO571:=zh (Kd.N_below jAl hb);replace HO577:=zh (Kd.N_below jAt hb);replace HO585:=zh (yg jBV hb);replace HO588:=zh (yg jBW hb);replace BK540:=zh (cD BK540.out jP hb);replace BK543:=zh (cD BK543.out jQ hb);replace BK550:=zh (cD BK550.out jU hb);replace BK557:=zh (cD BK557.out jW hb);replace BK568:=zh (cD BK568.out jf hb);replace BK574:=zh (cD BK574.out jk hb);replace BK580:=zh (cD BK580.out js hb);replace HB:=zh (zC jd hb);(try clear hb);(try clear hb2);(try clear hk);(try clear hi);have hnb126:=NB574_540.out;have hnc126:=NB540_574.out;have hnb127:=NB574_543.out;have hnc127:=NB543_574.out;have hnb128:=NB574_568.out;have hnc128:=NB568_574.out;have hnb129:=NB574_580.out;have hnc129:=NB580_574.out;obtain ⟨hcz130_0,hcz130_1,hfz130_0,hfz130_1⟩:=cB2 BK574.out)|(go_at_call 20;(with_reducible refine (F3.calls kj2  _ _ t569 t572 true _ ?side1 ?side2 A104.out).mono ?_);(case side1=>repeat (first|exact (Kd.N_reads' HO571.out).2.2|(with_reducible refine Kd.C_alloc ?_ _)|(with_reducible refine Kd.C_drewN ?_ _)|(with_reducible refine Kd.C_drew ?_)));(case side2=>exact (Kd.N_reads' HO571.out).2.1);rintro e w131 ⟨rfl,hb⟩;replace HO538:=zh (Kd.N_below ji hb);replace HO546:=zh (Kd.N_below jr hb);replace HO553:=zh (Kd.N_below jv hb);replace HO564:=zh (Kd.N_below jAZ hb);replace HO571:=zh (Kd.N_below jAl hb);replace HO577:=zh (Kd.N_below jAt hb);replace HO585:=zh (yg jBV hb);replace HO588:=zh (yg jBW hb);replace BK540:=zh (cD BK540.out jP hb);replace BK543:=zh (cD BK543.out jQ hb);replace BK550:=zh (cD BK550.out jU hb);replace BK557:=zh (cD BK557.out jW hb);replace BK568:=zh (cD BK568.out jf hb);replace BK574:=zh (cD BK574.out jk hb);replace BK580:=zh (cD BK580.out js hb);replace HB:=zh (zC jd hb);(try clear hb);(try clear hb2);(try clear hk);(try clear hi);obtain ⟨Ao132,co132,eo132⟩:=yk HO585.out;subst eo132;obtain ⟨Ao133,co133,eo133⟩:=yk HO588.out;subst eo133;obtain ⟨hcz134_0,hcz134_1,hfz134_0,hfz134_1⟩:=cB2 BK550.out))
                       go_meet
                       case rel=>exact ⟨_,((t590 != t592)),jE,H',⟨by have:=HJ2.out;first|omega|exact ye _⟩,⟨by (with_reducible repeat (first|apply zm|apply zn|apply zo));exact zM HO585.out (fun _ hk=>hk.2)⟩,⟨by (with_reducible repeat (first|apply Kd.N_alloc|apply Kd.N_drewN|apply Kd.N_drew));exact Kd.N_mono HO538.out (fun _ hk=>⟨hk.1.2,⟨hk.1.1.1.1.1.1.1.1.1.1.1.2,⟨hk.1.1.1.1.1.1.1.1.1.2,⟨hk.1.1.1.1.1.1.1.2,⟨hk.1.1.1.1.1.2,⟨hk.1.1.1.2,⟨hk.1.1.1.1.1.1.1.1.1.1.1.1.1.2,⟨hk.1.1.1.1.1.1.1.1.1.1.1.1.2,⟨hk.1.1.1.1.1.1.1.1.1.1.2,⟨hk.1.1.1.1.1.1.1.1.2,⟨hk.1.1.1.1.1.1.2,⟨hk.1.1.1.1.2,hk.1.1.2⟩⟩⟩⟩⟩⟩⟩⟩⟩⟩⟩⟩)⟩,⟨by (with_reducible repeat (first|apply Kd.N_alloc|apply Kd.N_drewN|apply Kd.N_drew));exact Kd.N_mono HO546.out (fun _ hk=>⟨hk.1.2,⟨hk.1.1.1.1.1.1.1.1.1.1.1.1,⟨hk.1.1.1.1.1.1.1.1.1.2,⟨hk.1.1.1.1.1.1.1.2,⟨hk.1.1.1.1.1.2,⟨hk.1.1.1.2,⟨hk.1.1.1.1.1.1.1.1.1.1.1.2.1,⟨hk.1.1.1.1.1.1.1.1.1.1.1.2.2,⟨hk.1.1.1.1.1.1.1.1.1.1.2,⟨hk.1.1.1.1.1.1.1.1.2,⟨hk.1.1.1.1.1.1.2,⟨hk.1.1.1.1.2,hk.1.1.2⟩⟩⟩⟩⟩⟩⟩⟩⟩⟩⟩⟩)⟩,⟨by (with_reducible repeat (first|apply Kd.N_alloc|apply Kd.N_drewN|apply Kd.N_drew));exact Kd.N_mono HO553.out (fun _ hk=>⟨hk.1.2,⟨hk.1.1.1.1.1.1.1.1.1.1,⟨hk.1.1.1.1.1.1.1.1.1.2.1,⟨hk.1.1.1.1.1.1.1.2,⟨hk.1.1.1.1.1.2,⟨hk.1.1.1.2,⟨hk.1.1.1.1.1.1.1.1.1.2.2.1,⟨hk.1.1.1.1.1.1.1.1.1.2.2.2.1,⟨hk.1.1.1.1.1.1.1.1.1.2.2.2.2,⟨hk.1.1.1.1.1.1.1.1.2,⟨hk.1.1.1.1.1.1.2,⟨hk.1.1.1.1.2,hk.1.1.2⟩⟩⟩⟩⟩⟩⟩⟩⟩⟩⟩⟩)⟩,⟨by (with_reducible repeat (first|apply Kd.N_alloc|apply Kd.N_drewN|apply Kd.N_drew));exact Kd.N_mono HO564.out (fun _ hk=>⟨hk.1.2,⟨hk.1.1.1.1.1.1.1.1,⟨hk.1.1.1.1.1.1.1.2.1,⟨hk.1.1.1.1.1.1.1.2.2.1,⟨hk.1.1.1.1.1.2,⟨hk.1.1.1.2,⟨hk.1.1.1.1.1.1.1.2.2.2.1,⟨hk.1.1.1.1.1.1.1.2.2.2.2.1,⟨hk.1.1.1.1.1.1.1.2.2.2.2.2.1,⟨hk.1.1.1.1.1.1.1.2.2.2.2.2.2,⟨hk.1.1.1.1.1.1.2,⟨hk.1.1.1.1.2,hk.1.1.2⟩⟩⟩⟩⟩⟩⟩⟩⟩⟩⟩⟩)⟩,⟨by (with_reducible repeat (first|apply Kd.N_alloc|apply Kd.N_drewN|apply Kd.N_drew));exact Kd.N_mono HO571.out (fun _ hk=>⟨hk.1.2,⟨hk.1.1.1.1.1.1,⟨hk.1.1.1.1.1.2.1,⟨hk.1.1.1.1.1.2.2.1,⟨hk.1.1.1.1.1.2.2.2.1,⟨hk.1.1.1.2,⟨hk.1.1.1.1.1.2.2.2.2.1,⟨hk.1.1.1.1.1.2.2.2.2.2.1,⟨hk.1.1.1.1.1.2.2.2.2.2.2.1,⟨hk.1.1.1.1.1.2.2.2.2.2.2.2.1,⟨hk.1.1.1.1.1.2.2.2.2.2.2.2.2,⟨hk.1.1.1.1.2,hk.1.1.2⟩⟩⟩⟩⟩⟩⟩⟩⟩⟩⟩⟩)⟩,⟨by (with_reducible repeat (first|apply Kd.N_alloc|apply Kd.N_drewN|apply Kd.N_drew));exact Kd.N_mono HO577.out (fun _ hk=>⟨hk.1.2,⟨hk.1.1.1.1,⟨hk.1.1.1.2.1,⟨hk.1.1.1.2.2.1,⟨hk.1.1.1.2.2.2.1,⟨hk.1.1.1.2.2.2.2.1,⟨hk.1.1.1.2.2.2.2.2.1,⟨hk.1.1.1.2.2.2.2.2.2.1,⟨hk.1.1.1.2.2.2.2.2.2.2.1,⟨hk.1.1.1.2.2.2.2.2.2.2.2.1,⟨hk.1.1.1.2.2.2.2.2.2.2.2.2.1,⟨hk.1.1.1.2.2.2.2.2.2.2.2.2.2,hk.1.1.2⟩⟩⟩⟩⟩⟩⟩⟩⟩⟩⟩⟩)⟩,⟨jP⟩,⟨jQ⟩,⟨jU⟩,⟨jW⟩,⟨jf⟩,⟨jk⟩,⟨js⟩,⟨jd⟩⟩
                      rw [if_neg c109] at H;exact absurd H jg
                     rw [if_neg c108] at H;exact absurd H jg
                    rw [if_neg c107] at H;exact absurd H jg
                   rw [if_neg c106] at H;exact absurd H jg
                  replace c105:=yb.mpr c105;subst c105;have H1 : (F0.j1 kj2 t583 true t541 77)=some r:=by rw [if_neg (show ¬ (false=true) by decide)] at H;exact H
                  exact absurd H1 jg
                 rw [if_neg c103] at H;exact absurd H jg
                rw [if_neg c102] at H;exact absurd H jg
               rw [if_neg c101] at H;exact absurd H jg
              rw [if_neg c100] at H;exact absurd H jg
             rw [if_neg c99] at H;exact absurd H jg
            rw [if_neg c98] at H;exact absurd H jg
           rw [if_neg c97] at H;exact absurd H jg
          rw [if_neg c96] at H;exact absurd H jg
         replace c95:=yb.mpr c95;subst c95;have H1 : (F0.j1 kj2 t583 true t541 77)=some r:=by rw [if_neg (show ¬ (false=true) by decide)] at H;exact H
         exact absurd H1 jg
        replace c93:=yb.mpr c93;subst c93;have H1 : (F0.j1 kj2 t583 true t541 77)=some r:=by rw [if_neg (show ¬ (false=true) by decide)] at H;exact H
        exact absurd H1 jg
       rw [if_neg c91] at H;exact absurd H jg
      rw [if_neg c90] at H;exact absurd H jg
    case rest =>
     as_aux_lemma =>
      clear HC19
      try clear c1 c2
      try clear p2
      try clear c3 c4
      try clear p6
      try clear c9 c10 c14 c15 c16 c17 c18 c19 c20 c21 c22 c23 c24 c25 c26 c27 c28 c29 c30 c31 c32 c33 c34 c35 c36 c37 c38 c39 c40
      try clear p64
      try clear c90 c90b0 c90b1 c91 c91b0 c91b1 c93 c95 c96 c96b0 c96b1 c97 c97b0 c97b1 c98 c98b0 c98b1 c99 c99b0 c99b1 c100 c100b0 c100b1 c101 c101b0 c101b1 c102 c102b0 c102b1 c103 c103b0 c103b1 c105 c106 c106b0 c106b1 c107 c107b0 c107b1 c108 c108b0 c108b1 c108b2 c140 c142 c143 c144 c145 c146 c151 c152 c153 c154 c160 c161 c162 c163 c164 c165 c167 c168 c169 c170 c171 c176 c177 c178 c179 c185 c186 c187 c188 c189 c190 c192 c193 c194 c195 c196 c201 c202 c203 c204 c208 c209 c210 c211 c212 c213 c215 c216 c217 c218 c219 c224 c225 c226 c227 c230 c231 c232 c233 c234 c235 c237 c238 c239 c240 c241 c246 c247 c248 c249 c252 c253 c254 c255 c256 c257 c259 c260 c261 c262 c263 c268 c269 c270 c271 c272 c273 c275 c276 c277 c278 c279 c284 c285 c286 c287 c288 c289 c291 c292 c293 c294 c295 c300 c301 c302 c303 c304 c305 c307 c308 c309 c310 c311 c316 c317 c318 c319 c320 c321 c323 c324 c325 c326 c327 c332 c333 c334 c335 c336 c337 c339 c340 c341 c342 c343 c348 c349 c350 c351 c352 c353 c355 c356 c357 c358 c359 c364 c365 c366 c367 c368 c369 c371 c372 c373 c374 c375 c380 c381 c382 c383 c384 c385 c387 c388 c389 c390 c391 c396 c397 c398 c399 c400 c401 c403 c404 c405 c406 c407
      try clear hcz141_0 hcz141_1
      try clear hcz147_0 hcz147_1
      try clear hcz149_0 hcz149_1
      try clear hcz155_0 hcz155_1
      try clear hcz159_0 hcz159_1
      try clear hcz166_0 hcz166_1
      try clear hcz172_0 hcz172_1
      try clear hcz174_0 hcz174_1
      try clear hcz180_0 hcz180_1
      try clear hcz184_0 hcz184_1
      try clear hcz191_0 hcz191_1
      try clear hcz197_0 hcz197_1
      try clear hcz199_0 hcz199_1
      try clear hcz205_0 hcz205_1
      try clear hcz214_0 hcz214_1
      try clear hcz220_0 hcz220_1
      try clear hcz222_0 hcz222_1
      try clear hcz228_0 hcz228_1
      try clear hcz236_0 hcz236_1
      try clear hcz242_0 hcz242_1
      try clear hcz244_0 hcz244_1
      try clear hcz250_0 hcz250_1
      try clear hcz258_0 hcz258_1
      try clear hcz264_0 hcz264_1
      try clear hcz266_0 hcz266_1
      try clear hcz274_0 hcz274_1
      try clear hcz280_0 hcz280_1
      try clear hcz282_0 hcz282_1
      try clear hcz290_0 hcz290_1
      try clear hcz296_0 hcz296_1
      try clear hcz298_0 hcz298_1
      try clear hcz306_0 hcz306_1
      try clear hcz312_0 hcz312_1
      try clear hcz314_0 hcz314_1
      try clear hcz322_0 hcz322_1
      try clear hcz328_0 hcz328_1
      try clear hcz330_0 hcz330_1
      try clear hcz338_0 hcz338_1
      try clear hcz344_0 hcz344_1
      try clear hcz346_0 hcz346_1
      try clear hcz354_0 hcz354_1
      try clear hcz360_0 hcz360_1
      try clear hcz362_0 hcz362_1
      try clear hcz370_0 hcz370_1
      try clear hcz376_0 hcz376_1
      try clear hcz378_0 hcz378_1
      try clear hcz386_0 hcz386_1
      try clear hcz392_0 hcz392_1
      try clear hcz394_0 hcz394_1
      try clear hcz402_0 hcz402_1
      try clear hcz408_0 hcz408_1
      try clear hfz141_0 hfz141_1
      try clear hfz147_0 hfz147_1
      try clear hfz149_0 hfz149_1
      try clear hfz155_0 hfz155_1
      try clear hfz159_0 hfz159_1
      try clear hfz166_0 hfz166_1
      try clear hfz172_0 hfz172_1
      try clear hfz174_0 hfz174_1
      try clear hfz180_0 hfz180_1
      try clear hfz184_0 hfz184_1
      try clear hfz191_0 hfz191_1
      try clear hfz197_0 hfz197_1
      try clear hfz199_0 hfz199_1
      try clear hfz205_0 hfz205_1
      try clear hfz214_0 hfz214_1
      try clear hfz220_0 hfz220_1
      try clear hfz222_0 hfz222_1
      try clear hfz228_0 hfz228_1
      try clear hfz236_0 hfz236_1
      try clear hfz242_0 hfz242_1
      try clear hfz244_0 hfz244_1
      try clear hfz250_0 hfz250_1
      try clear hfz258_0 hfz258_1
      try clear hfz264_0 hfz264_1
      try clear hfz266_0 hfz266_1
      try clear hfz274_0 hfz274_1
      try clear hfz280_0 hfz280_1
      try clear hfz282_0 hfz282_1
      try clear hfz290_0 hfz290_1
      try clear hfz296_0 hfz296_1
      try clear hfz298_0 hfz298_1
      try clear hfz306_0 hfz306_1
      try clear hfz312_0 hfz312_1
      try clear hfz314_0 hfz314_1
      try clear hfz322_0 hfz322_1
      try clear hfz328_0 hfz328_1
      try clear hfz330_0 hfz330_1
      try clear hfz338_0 hfz338_1
      try clear hfz344_0 hfz344_1
      try clear hfz346_0 hfz346_1
      try clear hfz354_0 hfz354_1
      try clear hfz360_0 hfz360_1
      try clear hfz362_0 hfz362_1
      try clear hfz370_0 hfz370_1
      try clear hfz376_0 hfz376_1
      try clear hfz378_0 hfz378_1
      try clear hfz386_0 hfz386_1
      try clear hfz392_0 hfz392_1
      try clear hfz394_0 hfz394_1
      try clear hfz402_0 hfz402_1
      try clear hfz408_0 hfz408_1
      obtain ⟨kq,x200_18,rfl,HA,HJ18,HO_26,HO_541000,HO_551000,HO_558000,HO_569000,HO_575000,HO_581000,BK540,BK543,BK550,BK557,BK568,BK574,BK580,HB⟩:=hcut
      cases kq with
      | zero=>exact absurd HA.out (by simp [F0.j1])
      | succ kj18 =>
       have H:=HA.out;clear HA;simp only [F0.j1] at H
       by_cases c410 : x200_18=true
       ·
        subst c410
        have H1 : (some false)=some r:=by rw [if_pos rfl] at H;exact H
        exact absurd H1 (by rw [hr_];decide)
       replace c410:=yb.mpr c410;subst c410;rw [if_neg (show ¬ (false=true) by decide)] at H;have H':=zh H;clear H
       go_wp2
       repeat (go_quiet (fail);try go_wp2)
       go_loopg [33,34] kj18 (fun kq v33 v34 w' => ∃ (x33_3 : Int) (x34_3 : Int),v33 = .int .i64 x33_3∧v34 = .int .i64 x34_3∧Aside0 (F0.l0 kq t583 x33_3 x34_3 t541 77=some r)∧Aside0 (kq≤kj18)∧Aside0 (Kd.R k28 28 w' w.heap.size (fun k_=>k_≠gb543) v584 t583)∧Aside0 (Kd.N k60 60 w' w.heap.size (fun k_=>some k_≠(v584 : Value).ownBlock∧some k_≠((.slice Ao31 t544.length co31) : Value).ownBlock∧some k_≠((.slice Ao39 t551.length co39) : Value).ownBlock∧some k_≠((.slice Ao52 t562.length co52) : Value).ownBlock∧some k_≠((.slice Ao62 t569.length co62) : Value).ownBlock∧some k_≠((.slice Ao72 t575.length co72) : Value).ownBlock∧k_≠gb540∧k_≠gb543∧k_≠gb550∧k_≠gb557∧k_≠gb568∧k_≠gb574∧k_≠gb580) (.slice Ao22 t536.length co22) t536)∧Aside0 (Kd.N k60 60 w' w.heap.size (fun k_=>some k_≠(v584 : Value).ownBlock∧some k_≠((.slice Ao22 t536.length co22) : Value).ownBlock∧some k_≠((.slice Ao39 t551.length co39) : Value).ownBlock∧some k_≠((.slice Ao52 t562.length co52) : Value).ownBlock∧some k_≠((.slice Ao62 t569.length co62) : Value).ownBlock∧some k_≠((.slice Ao72 t575.length co72) : Value).ownBlock∧k_≠gb540∧k_≠gb543∧k_≠gb550∧k_≠gb557∧k_≠gb568∧k_≠gb574∧k_≠gb580) (.slice Ao31 t544.length co31) t544)∧Aside0 (Kd.N k60 60 w' w.heap.size (fun k_=>some k_≠(v584 : Value).ownBlock∧some k_≠((.slice Ao22 t536.length co22) : Value).ownBlock∧some k_≠((.slice Ao31 t544.length co31) : Value).ownBlock∧some k_≠((.slice Ao52 t562.length co52) : Value).ownBlock∧some k_≠((.slice Ao62 t569.length co62) : Value).ownBlock∧some k_≠((.slice Ao72 t575.length co72) : Value).ownBlock∧k_≠gb540∧k_≠gb543∧k_≠gb550∧k_≠gb557∧k_≠gb568∧k_≠gb574∧k_≠gb580) (.slice Ao39 t551.length co39) t551)∧Aside0 (Kd.N k60 60 w' w.heap.size (fun k_=>some k_≠(v584 : Value).ownBlock∧some k_≠((.slice Ao22 t536.length co22) : Value).ownBlock∧some k_≠((.slice Ao31 t544.length co31) : Value).ownBlock∧some k_≠((.slice Ao39 t551.length co39) : Value).ownBlock∧some k_≠((.slice Ao62 t569.length co62) : Value).ownBlock∧some k_≠((.slice Ao72 t575.length co72) : Value).ownBlock∧k_≠gb540∧k_≠gb543∧k_≠gb550∧k_≠gb557∧k_≠gb568∧k_≠gb574∧k_≠gb580) (.slice Ao52 t562.length co52) t562)∧Aside0 (Kd.N k60 60 w' w.heap.size (fun k_=>some k_≠(v584 : Value).ownBlock∧some k_≠((.slice Ao22 t536.length co22) : Value).ownBlock∧some k_≠((.slice Ao31 t544.length co31) : Value).ownBlock∧some k_≠((.slice Ao39 t551.length co39) : Value).ownBlock∧some k_≠((.slice Ao52 t562.length co52) : Value).ownBlock∧some k_≠((.slice Ao72 t575.length co72) : Value).ownBlock∧k_≠gb540∧k_≠gb543∧k_≠gb550∧k_≠gb557∧k_≠gb568∧k_≠gb574∧k_≠gb580) (.slice Ao62 t569.length co62) t569)∧Aside0 (Kd.N k60 60 w' w.heap.size (fun k_=>some k_≠(v584 : Value).ownBlock∧some k_≠((.slice Ao22 t536.length co22) : Value).ownBlock∧some k_≠((.slice Ao31 t544.length co31) : Value).ownBlock∧some k_≠((.slice Ao39 t551.length co39) : Value).ownBlock∧some k_≠((.slice Ao52 t562.length co52) : Value).ownBlock∧some k_≠((.slice Ao62 t569.length co62) : Value).ownBlock∧k_≠gb540∧k_≠gb543∧k_≠gb550∧k_≠gb557∧k_≠gb568∧k_≠gb574∧k_≠gb580) (.slice Ao72 t575.length co72) t575)∧Aside0 (w'.heap[gb540]? = some (.cells #[(.slice Ao22 t536.length co22),.int .i64 t539] 25 (0,0)))∧Aside0 (w'.heap[gb543]? = some (.cells #[.string t541,.int .i64 77] 28 (0,0)))∧Aside0 (w'.heap[gb550]? = some (.cells #[(.slice Ao31 t544.length co31),.int .i64 t547] 25 (0,0)))∧Aside0 (w'.heap[gb557]? = some (.cells #[(.slice Ao39 t551.length co39),.int .i64 t554] 25 (0,0)))∧Aside0 (w'.heap[gb568]? = some (.cells #[(.slice Ao52 t562.length co52),.int .i64 t565] 25 (0,0)))∧Aside0 (w'.heap[gb574]? = some (.cells #[(.slice Ao62 t569.length co62),.int .i64 t572] 25 (0,0)))∧Aside0 (w'.heap[gb580]? = some (.cells #[(.slice Ao72 t575.length co72),.int .i64 t578] 25 (0,0)))∧Aside0 (Below w.heap.size w w'))
       case atStart=>exact ⟨(0),(0),jE,jE,H',⟨ye _⟩,⟨jAu⟩,⟨jAv⟩,⟨jAw⟩,⟨jAx⟩,⟨jAy⟩,⟨jAz⟩,⟨jA0⟩,⟨jP⟩,⟨jQ⟩,⟨jU⟩,⟨jW⟩,⟨jf⟩,⟨jk⟩,⟨js⟩,⟨jd⟩⟩
       case round =>
        as_aux_lemma =>
         clear H'
         try clear c1 c2
         try clear p2
         try clear c3 c4
         try clear p6
         try clear c9 c10 c14 c15 c16 c17 c18 c19 c20 c21 c22 c23 c24 c25 c26 c27 c28 c29 c30 c31 c32 c33 c34 c35 c36 c37 c38 c39 c40 c41
         try clear p64
         try clear c90 c90b0 c90b1 c91 c91b0 c91b1 c93 c95 c96 c96b0 c96b1 c97 c97b0 c97b1 c98 c98b0 c98b1 c99 c99b0 c99b1 c100 c100b0 c100b1 c101 c101b0 c101b1 c102 c102b0 c102b1 c103 c103b0 c103b1 c105 c106 c106b0 c106b1 c107 c107b0 c107b1 c108 c108b0 c108b1 c108b2 c140 c142 c143 c144 c145 c146 c151 c152 c153 c154 c160 c161 c162 c163 c164 c165 c167 c168 c169 c170 c171 c176 c177 c178 c179 c185 c186 c187 c188 c189 c190 c192 c193 c194 c195 c196 c201 c202 c203 c204 c208 c209 c210 c211 c212 c213 c215 c216 c217 c218 c219 c224 c225 c226 c227 c230 c231 c232 c233 c234 c235 c237 c238 c239 c240 c241 c246 c247 c248 c249 c252 c253 c254 c255 c256 c257 c259 c260 c261 c262 c263 c268 c269 c270 c271 c272 c273 c275 c276 c277 c278 c279 c284 c285 c286 c287 c288 c289 c291 c292 c293 c294 c295 c300 c301 c302 c303 c304 c305 c307 c308 c309 c310 c311 c316 c317 c318 c319 c320 c321 c323 c324 c325 c326 c327 c332 c333 c334 c335 c336 c337 c339 c340 c341 c342 c343 c348 c349 c350 c351 c352 c353 c355 c356 c357 c358 c359 c364 c365 c366 c367 c368 c369 c371 c372 c373 c374 c375 c380 c381 c382 c383 c384 c385 c387 c388 c389 c390 c391 c396 c397 c398 c399 c400 c401 c403 c404 c405 c406 c407 c410
         try clear hcz141_0 hcz141_1
         try clear hcz147_0 hcz147_1
         try clear hcz149_0 hcz149_1
         try clear hcz155_0 hcz155_1
         try clear hcz159_0 hcz159_1
         try clear hcz166_0 hcz166_1
         try clear hcz172_0 hcz172_1
         try clear hcz174_0 hcz174_1
         try clear hcz180_0 hcz180_1
         try clear hcz184_0 hcz184_1
         try clear hcz191_0 hcz191_1
         try clear hcz197_0 hcz197_1
         try clear hcz199_0 hcz199_1
         try clear hcz205_0 hcz205_1
         try clear hcz214_0 hcz214_1
         try clear hcz220_0 hcz220_1
         try clear hcz222_0 hcz222_1
         try clear hcz228_0 hcz228_1
         try clear hcz236_0 hcz236_1
         try clear hcz242_0 hcz242_1
         try clear hcz244_0 hcz244_1
         try clear hcz250_0 hcz250_1
         try clear hcz258_0 hcz258_1
         try clear hcz264_0 hcz264_1
         try clear hcz266_0 hcz266_1
         try clear hcz274_0 hcz274_1
         try clear hcz280_0 hcz280_1
         try clear hcz282_0 hcz282_1
         try clear hcz290_0 hcz290_1
         try clear hcz296_0 hcz296_1
         try clear hcz298_0 hcz298_1
         try clear hcz306_0 hcz306_1
         try clear hcz312_0 hcz312_1
         try clear hcz314_0 hcz314_1
         try clear hcz322_0 hcz322_1
         try clear hcz328_0 hcz328_1
         try clear hcz330_0 hcz330_1
         try clear hcz338_0 hcz338_1
         try clear hcz344_0 hcz344_1
         try clear hcz346_0 hcz346_1
         try clear hcz354_0 hcz354_1
         try clear hcz360_0 hcz360_1
         try clear hcz362_0 hcz362_1
         try clear hcz370_0 hcz370_1
         try clear hcz376_0 hcz376_1
         try clear hcz378_0 hcz378_1
         try clear hcz386_0 hcz386_1
         try clear hcz392_0 hcz392_1
         try clear hcz394_0 hcz394_1
         try clear hcz402_0 hcz402_1
         try clear hcz408_0 hcz408_1
         try clear hfz141_0 hfz141_1
         try clear hfz147_0 hfz147_1
         try clear hfz149_0 hfz149_1
         try clear hfz155_0 hfz155_1
         try clear hfz159_0 hfz159_1
         try clear hfz166_0 hfz166_1
         try clear hfz172_0 hfz172_1
         try clear hfz174_0 hfz174_1
         try clear hfz180_0 hfz180_1
         try clear hfz184_0 hfz184_1
         try clear hfz191_0 hfz191_1
         try clear hfz197_0 hfz197_1
         try clear hfz199_0 hfz199_1
         try clear hfz205_0 hfz205_1
         try clear hfz214_0 hfz214_1
         try clear hfz220_0 hfz220_1
         try clear hfz222_0 hfz222_1
         try clear hfz228_0 hfz228_1
         try clear hfz236_0 hfz236_1
         try clear hfz242_0 hfz242_1
         try clear hfz244_0 hfz244_1
         try clear hfz250_0 hfz250_1
         try clear hfz258_0 hfz258_1
         try clear hfz264_0 hfz264_1
         try clear hfz266_0 hfz266_1
         try clear hfz274_0 hfz274_1
         try clear hfz280_0 hfz280_1
         try clear hfz282_0 hfz282_1
         try clear hfz290_0 hfz290_1
         try clear hfz296_0 hfz296_1
         try clear hfz298_0 hfz298_1
         try clear hfz306_0 hfz306_1
         try clear hfz312_0 hfz312_1
         try clear hfz314_0 hfz314_1
         try clear hfz322_0 hfz322_1
         try clear hfz328_0 hfz328_1
         try clear hfz330_0 hfz330_1
         try clear hfz338_0 hfz338_1
         try clear hfz344_0 hfz344_1
         try clear hfz346_0 hfz346_1
         try clear hfz354_0 hfz354_1
         try clear hfz360_0 hfz360_1
         try clear hfz362_0 hfz362_1
         try clear hfz370_0 hfz370_1
         try clear hfz376_0 hfz376_1
         try clear hfz378_0 hfz378_1
         try clear hfz386_0 hfz386_1
         try clear hfz392_0 hfz392_1
         try clear hfz394_0 hfz394_1
         try clear hfz402_0 hfz402_1
         try clear hfz408_0 hfz408_1
         try clear p2
         try clear p6
         try clear p64
         obtain ⟨x33_3,x34_3,rfl,rfl,HA,HK3,HO_26,HO_541000,HO_551000,HO_558000,HO_569000,HO_575000,HO_581000,BK540,BK543,BK550,BK557,BK568,BK574,BK580,HB⟩:=hrel
         cases gk with
         | zero=>exact absurd HA.out (by simp [F0.l0])
         | succ k3 =>
          have H:=HA.out;clear HA;simp only [F0.l0] at H
          by_cases c411 : x34_3<(t583.length : Int)
          ·
           rw [if_pos c411] at H
           have c411b0 : decide (x34_3<(t583.length : Int))=true:=decide_eq_true c411;clear c411;have HC412:=zh H;clear H;obtain ⟨Ao413,co413,eo413⟩:=yk HO_26.out;subst eo413
           go_upto_region 22 with (fail)
           repeat (go_quiet (fail);go_upto_region 22 with (fail))
           go_cut [250] (fun v250 wc => ∃ (kq : Nat) (x250_411 : Bool),v250 = .bool x250_411∧Aside0 (F0.j3 kq t583 x33_3 x34_3 x250_411 t541 77=some r)∧Aside0 (kq≤k3)∧Aside0 (Kd.R k28 28 wc w.heap.size (fun k_=>k_≠gb543) (.slice Ao413 t583.length co413) t583)∧Aside0 (Kd.N k60 60 wc w.heap.size (fun k_=>some k_≠((.slice Ao413 t583.length co413) : Value).ownBlock∧some k_≠((.slice Ao31 t544.length co31) : Value).ownBlock∧some k_≠((.slice Ao39 t551.length co39) : Value).ownBlock∧some k_≠((.slice Ao52 t562.length co52) : Value).ownBlock∧some k_≠((.slice Ao62 t569.length co62) : Value).ownBlock∧some k_≠((.slice Ao72 t575.length co72) : Value).ownBlock∧k_≠gb540∧k_≠gb543∧k_≠gb550∧k_≠gb557∧k_≠gb568∧k_≠gb574∧k_≠gb580) (.slice Ao22 t536.length co22) t536)∧Aside0 (Kd.N k60 60 wc w.heap.size (fun k_=>some k_≠((.slice Ao413 t583.length co413) : Value).ownBlock∧some k_≠((.slice Ao22 t536.length co22) : Value).ownBlock∧some k_≠((.slice Ao39 t551.length co39) : Value).ownBlock∧some k_≠((.slice Ao52 t562.length co52) : Value).ownBlock∧some k_≠((.slice Ao62 t569.length co62) : Value).ownBlock∧some k_≠((.slice Ao72 t575.length co72) : Value).ownBlock∧k_≠gb540∧k_≠gb543∧k_≠gb550∧k_≠gb557∧k_≠gb568∧k_≠gb574∧k_≠gb580) (.slice Ao31 t544.length co31) t544)∧Aside0 (Kd.N k60 60 wc w.heap.size (fun k_=>some k_≠((.slice Ao413 t583.length co413) : Value).ownBlock∧some k_≠((.slice Ao22 t536.length co22) : Value).ownBlock∧some k_≠((.slice Ao31 t544.length co31) : Value).ownBlock∧some k_≠((.slice Ao52 t562.length co52) : Value).ownBlock∧some k_≠((.slice Ao62 t569.length co62) : Value).ownBlock∧some k_≠((.slice Ao72 t575.length co72) : Value).ownBlock∧k_≠gb540∧k_≠gb543∧k_≠gb550∧k_≠gb557∧k_≠gb568∧k_≠gb574∧k_≠gb580) (.slice Ao39 t551.length co39) t551)∧Aside0 (Kd.N k60 60 wc w.heap.size (fun k_=>some k_≠((.slice Ao413 t583.length co413) : Value).ownBlock∧some k_≠((.slice Ao22 t536.length co22) : Value).ownBlock∧some k_≠((.slice Ao31 t544.length co31) : Value).ownBlock∧some k_≠((.slice Ao39 t551.length co39) : Value).ownBlock∧some k_≠((.slice Ao62 t569.length co62) : Value).ownBlock∧some k_≠((.slice Ao72 t575.length co72) : Value).ownBlock∧k_≠gb540∧k_≠gb543∧k_≠gb550∧k_≠gb557∧k_≠gb568∧k_≠gb574∧k_≠gb580) (.slice Ao52 t562.length co52) t562)∧Aside0 (Kd.N k60 60 wc w.heap.size (fun k_=>some k_≠((.slice Ao413 t583.length co413) : Value).ownBlock∧some k_≠((.slice Ao22 t536.length co22) : Value).ownBlock∧some k_≠((.slice Ao31 t544.length co31) : Value).ownBlock∧some k_≠((.slice Ao39 t551.length co39) : Value).ownBlock∧some k_≠((.slice Ao52 t562.length co52) : Value).ownBlock∧some k_≠((.slice Ao72 t575.length co72) : Value).ownBlock∧k_≠gb540∧k_≠gb543∧k_≠gb550∧k_≠gb557∧k_≠gb568∧k_≠gb574∧k_≠gb580) (.slice Ao62 t569.length co62) t569)∧Aside0 (Kd.N k60 60 wc w.heap.size (fun k_=>some k_≠((.slice Ao413 t583.length co413) : Value).ownBlock∧some k_≠((.slice Ao22 t536.length co22) : Value).ownBlock∧some k_≠((.slice Ao31 t544.length co31) : Value).ownBlock∧some k_≠((.slice Ao39 t551.length co39) : Value).ownBlock∧some k_≠((.slice Ao52 t562.length co52) : Value).ownBlock∧some k_≠((.slice Ao62 t569.length co62) : Value).ownBlock∧k_≠gb540∧k_≠gb543∧k_≠gb550∧k_≠gb557∧k_≠gb568∧k_≠gb574∧k_≠gb580) (.slice Ao72 t575.length co72) t575)∧Aside0 (wc.heap[gb540]? = some (.cells #[(.slice Ao22 t536.length co22),.int .i64 t539] 25 (0,0)))∧Aside0 (wc.heap[gb543]? = some (.cells #[.string t541,.int .i64 77] 28 (0,0)))∧Aside0 (wc.heap[gb550]? = some (.cells #[(.slice Ao31 t544.length co31),.int .i64 t547] 25 (0,0)))∧Aside0 (wc.heap[gb557]? = some (.cells #[(.slice Ao39 t551.length co39),.int .i64 t554] 25 (0,0)))∧Aside0 (wc.heap[gb568]? = some (.cells #[(.slice Ao52 t562.length co52),.int .i64 t565] 25 (0,0)))∧Aside0 (wc.heap[gb574]? = some (.cells #[(.slice Ao62 t569.length co62),.int .i64 t572] 25 (0,0)))∧Aside0 (wc.heap[gb580]? = some (.cells #[(.slice Ao72 t575.length co72),.int .i64 t578] 25 (0,0)))∧Aside0 (Below w.heap.size w wc))
           case first =>
            as_aux_lemma =>
             have H:=HC412.out;clear HC412
             by_cases c414 : x34_3 > 0
             ·
              rw [if_pos c414] at H
              have c414b0 : decide (0<x34_3)=true:=decide_eq_true c414;clear c414;(first|rw [c414b0]|(simp only [zG,zH];rw [c414b0])|skip);obtain ⟨ji415,hji415⟩ : ∃ j_ : Int,(wrap64 (x34_3 - 1))=j_:=⟨_,rfl⟩;replace H : (if 0≤(ji415) then (if (ji415)<(t583.length : Int) then (if 0≤x34_3 then (if (Op.bytesLess (((rd_T28 t583 x34_3).f0).toList) (((rd_T28 t583 (ji415)).f0).toList))=true then (F0.j3 k3 t583 x33_3 x34_3 true t541 77) else (if ((rd_T28 t583 (ji415)).f0).toList=((rd_T28 t583 x34_3).f0).toList then (F0.j3 k3 t583 x33_3 x34_3 (decide (((rd_T28 t583 (ji415)).f1) ≥ ((rd_T28 t583 x34_3).f1))) t541 77) else (F0.j3 k3 t583 x33_3 x34_3 false t541 77))) else (none)) else (none)) else (none))=some r:=by first|(rw [hji415] at H;exact H)|(simp only [hji415] at H ⊢;exact H)
              have hji415w : (IntKind.i64.wrap (x34_3 - 1))=ji415:=(zG _).trans hji415
              by_cases c416 : 0≤(ji415)
              ·
               rw [if_pos c416] at H
               have c416b0 : decide (0≤(ji415))=true:=decide_eq_true c416;clear c416
               by_cases c417 : (ji415)<(t583.length : Int)
               ·
                rw [if_pos c417] at H
                have c417b0 : decide ((ji415)<(t583.length : Int))=true:=decide_eq_true c417;clear c417
                by_cases c418 : 0≤x34_3
                ·
                 rw [if_pos c418] at H
                 have c418b0 : decide (0≤x34_3)=true:=decide_eq_true c418;clear c418
                 by_cases c419 : (Op.bytesLess (((rd_T28 t583 x34_3).f0).toList) (((rd_T28 t583 (ji415)).f0).toList))=true
                 ·
                  rw [if_pos c419] at H
                  have c419b0 : (Op.bytesLess (((rd_T28 t583 x34_3).f0).toList) (((rd_T28 t583 (ji415)).f0).toList))=true:=c419;clear c419;have H':=zh H;clear H;have p597 : 0≤((ji415) : Int):=zy jC;have q597 : (ji415)<(t583.length : Int):=zy jC;obtain ⟨ad597,e597,hx597_0,hx597_1⟩:=at_T28 (yh HO_26.out).2.2 (ji415) p597 q597
                  cases e597
                  replace p597:=eq_true p597;replace q597:=eq_true q597;have p598 : 0≤(x34_3 : Int):=zy jC;have q598 : x34_3<(t583.length : Int):=zy jC;obtain ⟨ad598,e598,hx598_0,hx598_1⟩:=at_T28 (yh HO_26.out).2.2 x34_3 p598 q598;obtain rfl : ad597=ad598:=(by injection e598);replace p598:=eq_true p598;replace q598:=eq_true q598
                  go_wp2
                  repeat (go_quiet (fail);try go_wp2)
                  go_meet
                  case rel=>exact ⟨_,(true),jE,H',⟨jB3⟩,⟨jAu⟩,⟨jAv⟩,⟨jAw⟩,⟨jAx⟩,⟨jAy⟩,⟨jAz⟩,⟨jA0⟩,⟨jP⟩,⟨jQ⟩,⟨jU⟩,⟨jW⟩,⟨jf⟩,⟨jk⟩,⟨js⟩,⟨jd⟩⟩
                 rw [if_neg c419] at H;have c419b0 : (Op.bytesLess (((rd_T28 t583 x34_3).f0).toList) (((rd_T28 t583 (ji415)).f0).toList))=false:=by simpa using c419
                 clear c419
                 by_cases c420 : ((rd_T28 t583 (ji415)).f0).toList=((rd_T28 t583 x34_3).f0).toList
                 ·
                  rw [if_pos c420] at H
                  have c420b0 : (((rd_T28 t583 (ji415)).f0).toList == ((rd_T28 t583 x34_3).f0).toList)=true:=ya.mpr c420;have c420b1 : (((rd_T28 t583 (ji415)).f0).toList != ((rd_T28 t583 x34_3).f0).toList)=false:=zX.mpr c420;clear c420;have H':=zh H;clear H;have p597 : 0≤((ji415) : Int):=zy jC;have q597 : (ji415)<(t583.length : Int):=zy jC;obtain ⟨ad597,e597,hx597_0,hx597_1⟩:=at_T28 (yh HO_26.out).2.2 (ji415) p597 q597
                  cases e597
                  replace p597:=eq_true p597;replace q597:=eq_true q597;have p598 : 0≤(x34_3 : Int):=zy jC;have q598 : x34_3<(t583.length : Int):=zy jC;obtain ⟨ad598,e598,hx598_0,hx598_1⟩:=at_T28 (yh HO_26.out).2.2 x34_3 p598 q598;obtain rfl : ad597=ad598:=(by injection e598);replace p598:=eq_true p598;replace q598:=eq_true q598;have p599 : 0≤((ji415) : Int):=zy jC;have q599 : (ji415)<(t583.length : Int):=zy jC;obtain ⟨ad599,e599,hx599_0,hx599_1⟩:=at_T28 (yh HO_26.out).2.2 (ji415) p599 q599;obtain rfl : ad597=ad599:=(by injection e599);replace p599:=eq_true p599;replace q599:=eq_true q599;have p600 : 0≤(x34_3 : Int):=zy jC;have q600 : x34_3<(t583.length : Int):=zy jC;obtain ⟨ad600,e600,hx600_0,hx600_1⟩:=at_T28 (yh HO_26.out).2.2 x34_3 p600 q600;obtain rfl : ad597=ad600:=(by injection e600);replace p600:=eq_true p600;replace q600:=eq_true q600;have p601 : 0≤((ji415) : Int):=zy jC;have q601 : (ji415)<(t583.length : Int):=zy jC;obtain ⟨ad601,e601,hx601_0,hx601_1⟩:=at_T28 (yh HO_26.out).2.2 (ji415) p601 q601;obtain rfl : ad597=ad601:=(by injection e601);replace p601:=eq_true p601;replace q601:=eq_true q601;have p602 : 0≤(x34_3 : Int):=zy jC;have q602 : x34_3<(t583.length : Int):=zy jC;obtain ⟨ad602,e602,hx602_0,hx602_1⟩:=at_T28 (yh HO_26.out).2.2 x34_3 p602 q602;obtain rfl : ad597=ad602:=(by injection e602);replace p602:=eq_true p602;replace q602:=eq_true q602
                  go_wp2
                  repeat (go_quiet (fail);try go_wp2)
                  go_meet
                  case rel=>exact ⟨_,(decide (((rd_T28 t583 (ji415)).f1) ≥ ((rd_T28 t583 x34_3).f1))),(by first|rfl|(simp;done)|(simp only [← hji415] <;> (first|rfl|simp))|(simp [*];done)),H',⟨jB3⟩,⟨jAu⟩,⟨jAv⟩,⟨jAw⟩,⟨jAx⟩,⟨jAy⟩,⟨jAz⟩,⟨jA0⟩,⟨jP⟩,⟨jQ⟩,⟨jU⟩,⟨jW⟩,⟨jf⟩,⟨jk⟩,⟨js⟩,⟨jd⟩⟩
                 rw [if_neg c420] at H;have c420b0 : (((rd_T28 t583 (ji415)).f0).toList == ((rd_T28 t583 x34_3).f0).toList)=false:=zY.mpr c420;have c420b1 : (((rd_T28 t583 (ji415)).f0).toList != ((rd_T28 t583 x34_3).f0).toList)=true:=zZ.mpr c420;have H':=zh H;clear H;have p597 : 0≤((ji415) : Int):=zy jC;have q597 : (ji415)<(t583.length : Int):=zy jC;obtain ⟨ad597,e597,hx597_0,hx597_1⟩:=at_T28 (yh HO_26.out).2.2 (ji415) p597 q597
                 cases e597
                 replace p597:=eq_true p597;replace q597:=eq_true q597;have p598 : 0≤(x34_3 : Int):=zy jC;have q598 : x34_3<(t583.length : Int):=zy jC;obtain ⟨ad598,e598,hx598_0,hx598_1⟩:=at_T28 (yh HO_26.out).2.2 x34_3 p598 q598;obtain rfl : ad597=ad598:=(by injection e598);replace p598:=eq_true p598;replace q598:=eq_true q598;have p599 : 0≤((ji415) : Int):=zy jC;have q599 : (ji415)<(t583.length : Int):=zy jC;obtain ⟨ad599,e599,hx599_0,hx599_1⟩:=at_T28 (yh HO_26.out).2.2 (ji415) p599 q599;obtain rfl : ad597=ad599:=(by injection e599);replace p599:=eq_true p599;replace q599:=eq_true q599;have p600 : 0≤(x34_3 : Int):=zy jC;have q600 : x34_3<(t583.length : Int):=zy jC;obtain ⟨ad600,e600,hx600_0,hx600_1⟩:=at_T28 (yh HO_26.out).2.2 x34_3 p600 q600;obtain rfl : ad597=ad600:=(by injection e600);replace p600:=eq_true p600;replace q600:=eq_true q600
                 go_wp2
                 repeat (go_quiet (fail);try go_wp2)
                 go_meet
                 case rel=>exact ⟨_,(false),jE,H',⟨jB3⟩,⟨jAu⟩,⟨jAv⟩,⟨jAw⟩,⟨jAx⟩,⟨jAy⟩,⟨jAz⟩,⟨jA0⟩,⟨jP⟩,⟨jQ⟩,⟨jU⟩,⟨jW⟩,⟨jf⟩,⟨jk⟩,⟨js⟩,⟨jd⟩⟩
                rw [if_neg c418] at H;exact absurd H (by simp)
               rw [if_neg c417] at H;exact absurd H (by simp)
              rw [if_neg c416] at H;exact absurd H (by simp)
             rw [if_neg c414] at H;have c414b0 : decide (0<x34_3)=false:=decide_eq_false c414;clear c414;(first|rw [c414b0]|(simp only [zG,zH];rw [c414b0])|skip);have H':=zh H;clear H
             go_wp2
             repeat (go_quiet (fail);try go_wp2)
             go_meet
             case rel=>exact ⟨_,(false),jE,H',⟨jB3⟩,⟨jAu⟩,⟨jAv⟩,⟨jAw⟩,⟨jAx⟩,⟨jAy⟩,⟨jAz⟩,⟨jA0⟩,⟨jP⟩,⟨jQ⟩,⟨jU⟩,⟨jW⟩,⟨jf⟩,⟨jk⟩,⟨js⟩,⟨jd⟩⟩
           case rest =>
            as_aux_lemma =>
             clear HC412
             try clear c1 c2
             try clear p2
             try clear c3 c4
             try clear p5
             try clear q5
             try clear hx5
             try clear p6
             try clear q6
             try clear hx6
             try clear c9 c10 c14 c15 c16 c17 c18 c19 c20 c21 c22 c23 c24 c25 c26 c27 c28 c29 c30 c31 c32 c33 c34 c35 c36 c37 c38 c39 c40 c41 c42
             try clear p59
             try clear q59
             try clear hx59
             try clear p60
             try clear q60
             try clear hx60
             try clear p64
             try clear c90 c90b0 c90b1 c91 c91b0 c91b1 c93 c95 c96 c96b0 c96b1 c97 c97b0 c97b1 c98 c98b0 c98b1 c99 c99b0 c99b1 c100 c100b0 c100b1 c101 c101b0 c101b1 c102 c102b0 c102b1 c103 c103b0 c103b1 c105 c106 c106b0 c106b1 c107 c107b0 c107b1 c108 c108b0 c108b1 c108b2 c140 c142 c143 c144 c145 c146 c151 c152 c153 c154 c160 c161 c162 c163 c164 c165 c167 c168 c169 c170 c171 c176 c177 c178 c179 c185 c186 c187 c188 c189 c190 c192 c193 c194 c195 c196 c201 c202 c203 c204 c208 c209 c210 c211 c212 c213 c215 c216 c217 c218 c219 c224 c225 c226 c227 c230 c231 c232 c233 c234 c235 c237 c238 c239 c240 c241 c246 c247 c248 c249 c252 c253 c254 c255 c256 c257 c259 c260 c261 c262 c263 c268 c269 c270 c271 c272 c273 c275 c276 c277 c278 c279 c284 c285 c286 c287 c288 c289 c291 c292 c293 c294 c295 c300 c301 c302 c303 c304 c305 c307 c308 c309 c310 c311 c316 c317 c318 c319 c320 c321 c323 c324 c325 c326 c327 c332 c333 c334 c335 c336 c337 c339 c340 c341 c342 c343 c348 c349 c350 c351 c352 c353 c355 c356 c357 c358 c359 c364 c365 c366 c367 c368 c369 c371 c372 c373 c374 c375 c380 c381 c382 c383 c384 c385 c387 c388 c389 c390 c391 c396 c397 c398 c399 c400 c401 c403 c404 c405 c406 c407 c410 c411 c411b0 c414 c414b0 c416 c416b0 c417 c417b0 c418 c418b0 c419 c419b0 c420 c420b0 c420b1
             try clear hcz141_0 hcz141_1
             try clear hcz147_0 hcz147_1
             try clear hcz149_0 hcz149_1
             try clear hcz155_0 hcz155_1
             try clear hcz159_0 hcz159_1
             try clear hcz166_0 hcz166_1
             try clear hcz172_0 hcz172_1
             try clear hcz174_0 hcz174_1
             try clear hcz180_0 hcz180_1
             try clear hcz184_0 hcz184_1
             try clear hcz191_0 hcz191_1
             try clear hcz197_0 hcz197_1
             try clear hcz199_0 hcz199_1
             try clear hcz205_0 hcz205_1
             try clear hcz214_0 hcz214_1
             try clear hcz220_0 hcz220_1
             try clear hcz222_0 hcz222_1
             try clear hcz228_0 hcz228_1
             try clear hcz236_0 hcz236_1
             try clear hcz242_0 hcz242_1
             try clear hcz244_0 hcz244_1
             try clear hcz250_0 hcz250_1
             try clear hcz258_0 hcz258_1
             try clear hcz264_0 hcz264_1
             try clear hcz266_0 hcz266_1
             try clear hcz274_0 hcz274_1
             try clear hcz280_0 hcz280_1
             try clear hcz282_0 hcz282_1
             try clear hcz290_0 hcz290_1
             try clear hcz296_0 hcz296_1
             try clear hcz298_0 hcz298_1
             try clear hcz306_0 hcz306_1
             try clear hcz312_0 hcz312_1
             try clear hcz314_0 hcz314_1
             try clear hcz322_0 hcz322_1
             try clear hcz328_0 hcz328_1
             try clear hcz330_0 hcz330_1
             try clear hcz338_0 hcz338_1
             try clear hcz344_0 hcz344_1
             try clear hcz346_0 hcz346_1
             try clear hcz354_0 hcz354_1
             try clear hcz360_0 hcz360_1
             try clear hcz362_0 hcz362_1
             try clear hcz370_0 hcz370_1
             try clear hcz376_0 hcz376_1
             try clear hcz378_0 hcz378_1
             try clear hcz386_0 hcz386_1
             try clear hcz392_0 hcz392_1
             try clear hcz394_0 hcz394_1
             try clear hcz402_0 hcz402_1
             try clear hcz408_0 hcz408_1
             try clear hfz141_0 hfz141_1
             try clear hfz147_0 hfz147_1
             try clear hfz149_0 hfz149_1
             try clear hfz155_0 hfz155_1
             try clear hfz159_0 hfz159_1
             try clear hfz166_0 hfz166_1
             try clear hfz172_0 hfz172_1
             try clear hfz174_0 hfz174_1
             try clear hfz180_0 hfz180_1
             try clear hfz184_0 hfz184_1
             try clear hfz191_0 hfz191_1
             try clear hfz197_0 hfz197_1
             try clear hfz199_0 hfz199_1
             try clear hfz205_0 hfz205_1
             try clear hfz214_0 hfz214_1
             try clear hfz220_0 hfz220_1
             try clear hfz222_0 hfz222_1
             try clear hfz228_0 hfz228_1
             try clear hfz236_0 hfz236_1
             try clear hfz242_0 hfz242_1
             try clear hfz244_0 hfz244_1
             try clear hfz250_0 hfz250_1
             try clear hfz258_0 hfz258_1
             try clear hfz264_0 hfz264_1
             try clear hfz266_0 hfz266_1
             try clear hfz274_0 hfz274_1
             try clear hfz280_0 hfz280_1
             try clear hfz282_0 hfz282_1
             try clear hfz290_0 hfz290_1
             try clear hfz296_0 hfz296_1
             try clear hfz298_0 hfz298_1
             try clear hfz306_0 hfz306_1
             try clear hfz312_0 hfz312_1
             try clear hfz314_0 hfz314_1
             try clear hfz322_0 hfz322_1
             try clear hfz328_0 hfz328_1
             try clear hfz330_0 hfz330_1
             try clear hfz338_0 hfz338_1
             try clear hfz344_0 hfz344_1
             try clear hfz346_0 hfz346_1
             try clear hfz354_0 hfz354_1
             try clear hfz360_0 hfz360_1
             try clear hfz362_0 hfz362_1
             try clear hfz370_0 hfz370_1
             try clear hfz376_0 hfz376_1
             try clear hfz378_0 hfz378_1
             try clear hfz386_0 hfz386_1
             try clear hfz392_0 hfz392_1
             try clear hfz394_0 hfz394_1
             try clear hfz402_0 hfz402_1
             try clear hfz408_0 hfz408_1
             try clear hx597_0
             try clear hx597_1
             try clear hx598_0
             try clear hx598_1
             try clear hx599_0
             try clear hx599_1
             try clear hx600_0
             try clear hx600_1
             try clear hx601_0
             try clear hx601_1
             try clear hx602_0
             try clear hx602_1
             try clear p2
             try clear p597
             try clear p598
             try clear p599
             try clear p6
             try clear p600
             try clear p601
             try clear p602
             try clear p64
             try clear q597
             try clear q598
             try clear q599
             try clear q600
             try clear q601
             try clear q602
             obtain ⟨kq,x250_411,rfl,HA,HJ411,HO_26,HO_541000,HO_551000,HO_558000,HO_569000,HO_575000,HO_581000,BK540,BK543,BK550,BK557,BK568,BK574,BK580,HB⟩:=hcut
             cases kq with
             | zero=>exact absurd HA.out (by simp [F0.j3])
             | succ kj411 =>
              have H:=HA.out;clear HA;simp only [F0.j3] at H
              by_cases c421 : x250_411=true
              ·
               subst c421
               have H1 : (some false)=some r:=by rw [if_pos rfl] at H;exact H
               exact absurd H1 (by rw [hr_];decide)
              replace c421:=yb.mpr c421;subst c421;rw [if_neg (show ¬ (false=true) by decide)] at H
              by_cases c422 : 0≤x34_3
              ·
               rw [if_pos c422] at H
               have c422b0 : decide (0≤x34_3)=true:=decide_eq_true c422;clear c422
               by_cases c423 : x34_3<(t583.length : Int)
               ·
                rw [if_pos c423] at H
                have c423b0 : decide (x34_3<(t583.length : Int))=true:=decide_eq_true c423;clear c423
                by_cases c424 : ((((rd_T28 t583 x34_3).f0).toList) == t541.toList && (((rd_T28 t583 x34_3).f1) == 77))=true
                ·
                 rw [if_pos c424] at H
                 have c424b0 : ((((rd_T28 t583 x34_3).f0).toList) == t541.toList && (((rd_T28 t583 x34_3).f1) == 77))=true:=c424;(try (have c424b1 : decide ((((rd_T28 t583 x34_3).f0).toList)=t541.toList && (((rd_T28 t583 x34_3).f1) == 77))=true:=by simpa using c424));(try (have c424b2 : ((((rd_T28 t583 x34_3).f0).toList) == t541.toList && (((rd_T28 t583 x34_3).f1) == 77))=true:=by simpa using c424));clear c424;have H':=zh H;clear H;have p603 : 0≤(x34_3 : Int):=zy jC;have q603 : x34_3<(t583.length : Int):=zy jC;obtain ⟨ad603,e603,hx603_0,hx603_1⟩:=at_T28 (yh HO_26.out).2.2 x34_3 p603 q603
                 cases e603
                 replace p603:=eq_true p603;replace q603:=eq_true q603;have hnb425:=NB543_540.out;have hnc425:=NB540_543.out;have hnb426:=NB543_550.out;have hnc426:=NB550_543.out;have hnb427:=NB543_557.out;have hnc427:=NB557_543.out;have hnb428:=NB543_568.out;have hnc428:=NB568_543.out;have hnb429:=NB543_574.out;have hnc429:=NB574_543.out;have hnb430:=NB543_580.out;have hnc430:=NB580_543.out;obtain ⟨hcz431_0,hcz431_1,hfz431_0,hfz431_1⟩:=cB2 BK543.out
                 go_wp2
                 repeat (go_quiet (fail);try go_wp2)
                 go_roundg kj411
                 case measure=>have:=HJ2.out;have:=HJ18.out;have:=HK3.out;have:=HJ411.out;omega
                 case rel=>exact ⟨(wrap64 (x33_3+1)),(wrap64 (x34_3+1)),jE,jE,H',⟨jD0⟩,⟨jAu⟩,⟨jAv⟩,⟨jAw⟩,⟨jAx⟩,⟨jAy⟩,⟨jAz⟩,⟨jA0⟩,⟨jP⟩,⟨jQ⟩,⟨jU⟩,⟨jW⟩,⟨jf⟩,⟨jk⟩,⟨js⟩,⟨jd⟩⟩
                rw [if_neg c424] at H;have c424b0 : ((((rd_T28 t583 x34_3).f0).toList) == t541.toList && (((rd_T28 t583 x34_3).f1) == 77))=false:=by simpa using c424
                (try (have c424b1 : decide ((((rd_T28 t583 x34_3).f0).toList)=t541.toList && (((rd_T28 t583 x34_3).f1) == 77))=false:=by simpa using c424));(try (have c424b2 : ((((rd_T28 t583 x34_3).f0).toList) == t541.toList && (((rd_T28 t583 x34_3).f1) == 77))=false:=by simpa using c424));(try (have c424b3 : ¬ ((((rd_T28 t583 x34_3).f0).toList)=t541.toList && (((rd_T28 t583 x34_3).f1) == 77)):=by simpa using c424));clear c424;have H':=zh H;clear H;have p603 : 0≤(x34_3 : Int):=zy jC;have q603 : x34_3<(t583.length : Int):=zy jC;obtain ⟨ad603,e603,hx603_0,hx603_1⟩:=at_T28 (yh HO_26.out).2.2 x34_3 p603 q603
                cases e603
                replace p603:=eq_true p603;replace q603:=eq_true q603;have hnb432:=NB543_540.out;have hnc432:=NB540_543.out;have hnb433:=NB543_550.out;have hnc433:=NB550_543.out;have hnb434:=NB543_557.out;have hnc434:=NB557_543.out;have hnb435:=NB543_568.out;have hnc435:=NB568_543.out;have hnb436:=NB543_574.out;have hnc436:=NB574_543.out;have hnb437:=NB543_580.out;have hnc437:=NB580_543.out;obtain ⟨hcz438_0,hcz438_1,hfz438_0,hfz438_1⟩:=cB2 BK543.out
                go_wp2
                repeat (go_quiet (fail);try go_wp2)
                go_roundg kj411
                case measure=>have:=HJ2.out;have:=HJ18.out;have:=HK3.out;have:=HJ411.out;omega
                case rel=>exact ⟨(x33_3),(wrap64 (x34_3+1)),jE,jE,H',⟨jD0⟩,⟨jAu⟩,⟨jAv⟩,⟨jAw⟩,⟨jAx⟩,⟨jAy⟩,⟨jAz⟩,⟨jA0⟩,⟨jP⟩,⟨jQ⟩,⟨jU⟩,⟨jW⟩,⟨jf⟩,⟨jk⟩,⟨js⟩,⟨jd⟩⟩
               rw [if_neg c423] at H;exact absurd H (by simp)
              rw [if_neg c422] at H;exact absurd H (by simp)
          rw [if_neg c411] at H;have c411b0 : decide (x34_3<(t583.length : Int))=false:=decide_eq_false c411;clear c411;obtain rfl:=zU H;obtain ⟨Ao439,co439,eo439⟩:=yk HO_26.out;subst eo439
          go_wp2
          repeat (go_quiet (fail);try go_wp2)
          go_ret
          exact ⟨jG,jd⟩

end Go.Proofs.Ytgifonogfgpjdaa.Q
end
section
namespace Go.Proofs.YtgifonogfgpjdaaW.PrintOpen
open Go.RowKit Go.ChangeShapes Go.WideShapes Go.ChangeAt Go.Proofs.YtgifonogfgpjdaaW.PrintWords
def Opens {α : Type} (P : Program) (d : Kd α) (t : TypeId) (good : α→Prop) : Prop :=
 ∀ (H : Type) (enc : TypeId×Value→H) (w : World) (base : Nat) (spare : Nat→Bool) (held : Bool) (fuel : Nat) (cs : List Value) (x : DataW H×List MemPlace),
  DataW.trod enc P w base spare held fuel t cs=some x → ∃ a,d.K w a cs∧good a
variable {P : Program}
theorem opens_int {t : TypeId} {k : IntKind} (ht : P.underlying t=some (.int k)) : Opens P (Kd.int k) t (fun n=>(Lit.int k n).wf=true):=by
 intro H enc w base spare held fuel cs x h;obtain ⟨n,hcs,_,hw⟩:=DataW.trod_int ht h;exact ⟨n,hcs,hw⟩
theorem opens_slice {α : Type} {t e : TypeId} {d : Kd α} {g : α→Prop} (ht : P.underlying t=some (.slice e)) (hc : P.cellsOf e=d.sz) (he : Opens P d e g) :
  Opens P (Kd.slice e d) t (fun l=>l.length≤9223372036854775807 ∧ ∀ x ∈ l,g x):=by
 intro H enc w base spare held fuel cs x h;rcases Deep.open_slice ht h with ⟨rfl,_⟩|⟨a,len,cap,m,n,D,Pl,rfl,_,hl,hm,hmm,_,hx⟩
 ·
  exact ⟨[],⟨none,0,rfl,Nat.le_refl _,rfl,by simp,fun h0=>absurd h0 (by simp)⟩,by simp,by simp⟩
 have hlm : len≤m:=by rw [hmm];split <;> omega
 have hall : ∀ i : Fin len,∃ v : α×List Value,w.cells? base (a.add (i.1*P.cellsOf e)) (P.cellsOf e)=some v.2∧d.K w v.1 v.2∧g v.1:=fun i=>by
  obtain ⟨cs',h1,h2⟩:=hx i.1 (by have:=i.2;omega);obtain ⟨a',hk,hg⟩:=he H enc w base spare held n cs' _ h2;exact ⟨(a',cs'),h1,hk,hg⟩
 obtain ⟨V,hV⟩:=Classical.axiomOfChoice hall;have hmax : len≤9223372036854775807:=by unfold maxLen at hm;omega
 have hlen : (List.ofFn fun i=>(V i).1).length=len:=List.length_ofFn;refine ⟨List.ofFn fun i=>(V i).1,⟨some a,cap,by rw [hlen],by rw [hlen];exact hl,rfl,by rw [hlen];exact hmax,fun _=>⟨a,rfl,?_⟩⟩,by rw [hlen];exact hmax,?_⟩
 ·
  intro j p hj
  have hjl : j<len:=by
   have:=(List.getElem?_eq_some_iff.1 hj).1
   omega
  rw [List.getElem?_ofFn,dif_pos hjl] at hj;obtain rfl:=Option.some.inj hj;obtain ⟨h1,h2,_⟩:=hV ⟨j,hjl⟩;obtain ⟨_,hlen2,hcell⟩:=World.cells?_some h1;refine ⟨(V ⟨j,hjl⟩).2,by rw [← hc];exact hlen2,h2,fun q u hu=>?_⟩
  have hq : q<P.cellsOf e:=by
   have:=(List.getElem?_eq_some_iff.1 hu).1
   omega
  have h3:=hcell q hq;rw [Deep.add_add,hu,hc] at h3;exact h3
 intro x hx;obtain ⟨i,rfl⟩:=List.mem_ofFn.1 hx;exact (hV i).2.2
def OpensF {α : Type} (P : Program) (d : Kd α) (fs : List Field) (off : Nat) (good : α→Prop) : Prop :=
 ∀ (H : Type) (enc : TypeId×Value→H) (w : World) (base : Nat) (spare : Nat→Bool) (held : Bool) (fuel : Nat) (cs : List Value),off+d.sz≤cs.length →
  (∀ f ∈ fs,∃ x,DataW.trod enc P w base spare held fuel f.type ((cs.drop f.offset).take (P.cellsOf f.type))=some x) → ∃ a,d.K w a ((cs.drop off).take d.sz)∧good a
theorem arg_slice {α : Type} {d : Kd α} {t e : TypeId} {g : List α→Prop} {H : Type} {enc : TypeId×Value→H} {w : World} {base b0 : Nat} {spare : Nat→Bool} {held : Bool} {r : Reach} {v : Value} {dd : DataW H} {p : List MemPlace}
  (ht : P.underlying t=some (.slice e)) (h : Opens P (Kd.slice e d) t g) (hv : Value.okWide P w r b0 t v) (hd : DataW.Trod enc P w base spare held t v dd p) :
  ∃ (l : List α) (A : Option Addr) (c : Nat),v = .slice A l.length c∧l.length≤c∧Kd.C d w A l.length l∧g l:=by
 obtain ⟨a,len,cap,rfl⟩:=okWide_slice ht hv;obtain ⟨fuel,hf⟩:=hd;obtain ⟨l,⟨A,c,he,hl,hc⟩,hg⟩:=h H enc w base spare held fuel _ _ hf;simp [Value.cells] at he;obtain ⟨rfl,rfl,rfl⟩:=he;exact ⟨l,a,cap,rfl,hl,hc,hg⟩
end Go.Proofs.YtgifonogfgpjdaaW.PrintOpen
end
section
namespace Go.Proofs.Ytgifonogfgpjdaa.Q
open Go.RowKit Go.Proofs.YtgifonogfgpjdaaW.PrintWords Go.Proofs.YtgifonogfgpjdaaW.PrintLast Go.Proofs.YtgifonogfgpjdaaW.PrintMore Go.Proofs.YtgifonogfgpjdaaW.PrintOpen

end Go.Proofs.Ytgifonogfgpjdaa.Q
end
section
namespace Go.Proofs.Ytgifonogfgpjdaa.Q
def F0.Pure : Prop:=∀ (x0 : List Int) (x1 : List Int),((x0.length≤9223372036854775807 ∧ ∀ y0_ ∈ x0,(Lit.int .u8 y0_).wf=true))→((x1.length≤9223372036854775807 ∧ ∀ y0_ ∈ x1,(Lit.int .u8 y0_).wf=true)) → ∃ k,F0.f k x0 x1=some true
end Go.Proofs.Ytgifonogfgpjdaa.Q
end
section
namespace Go.Proofs.YtgifonogfgpjdaaW.Pl
open Go Go.RowKit Go.Proofs.YtgifonogfgpjdaaW.PrintWords Go.Proofs.YtgifonogfgpjdaaW.PrintMore
theorem w64 {i : Int} (h0 : -9223372036854775808≤i) (h1 : i≤9223372036854775807) : wrap64 i=i:=by unfold wrap64;omega
theorem fuel {k d : Nat} (h : d<k) : ∃ m,k=m+1∧d≤m:=⟨k - 1,by omega,by omega⟩
theorem rdOf_at {α : Type} (d : α) (xs : List α) (i : Nat) (h : i<xs.length) : rdOf d xs (i : Int)=xs[i]:=by
 unfold rdOf;simp [List.getD,h]
theorem rd_at (xs : List Int) (i : Nat) (h : i<xs.length) : rd xs (i : Int)=xs[i]:=by
 unfold rd;simp [List.getD,h]
theorem getD_at {α : Type} (d : α) (xs : List α) (i : Nat) (h : i<xs.length) : xs.getD (i : Int).toNat d=xs[i]:=by
 simp [List.getD,h]
theorem drop_at {α : Type} (xs : List α) (i : Nat) (h : i<xs.length) : xs.drop i=xs[i] :: xs.drop (i+1):=List.drop_eq_getElem_cons h
theorem ba_toList (a : ByteArray) : a.toList=a.data.toList:=ByteArray.toList_eq a
theorem ba_ext {a b : ByteArray} (h : a.toList=b.toList) : a=b:=by
 rw [ba_toList,ba_toList] at h
 cases a;cases b
 simp at h;rw [h]
def all2 {α β : Type} (e : α→β→Bool) : List α→List β→Bool
 | [],_=>true
 | _ :: _,[]=>true
 | x :: xs,y :: ys=>e x y && all2 e xs ys
def first {α : Type} (p : α→Bool) : List α→Nat→Int
 | [],_ => -1
 | x :: xs,i=>if p x=true then i else first p xs (i+1)
theorem first_any {α : Type} (p : α→Bool) : ∀ (xs : List α) (i : Nat),decide (first p xs i ≥ 0)=xs.any p
 | [],i=>rfl
 | x :: xs,i=>by
  by_cases h : p x=true
  ·
   simp [first,h]
  simp only [first,if_neg h,List.any_cons,first_any p xs (i+1)];simp [h]
def total {α : Type} (s : α→Nat) : List α→Nat
 | []=>0
 | x :: xs=>s x+total s xs
def less {α : Type} (s : α→Nat) : List α→Int→Int
 | [],l=>l
 | x :: xs,l=>if l - s x<0 then -1 else less s xs (l - s x)
def Eve {α : Type} (g : Nat→Option α) (v : α) : Prop:=∃ K,∀ k,K≤k→g k=some v
theorem Eve.one {α : Type} {v : α} : Eve (fun _=>some v) v:=⟨0,fun _ _=>rfl⟩
theorem Eve.all {α : Type} {g : Nat→Option α} {v : α} (h : ∀ k,g k=some v) : Eve g v:=⟨0,fun k _=>h k⟩
theorem Eve.of {α : Type} {g : Nat→Option α} {v : α} {n : Nat} (h : ∀ k,n<k→g k=some v) : Eve g v:=⟨n+1,fun k hk=>h k (by omega)⟩
theorem Eve.succ {α : Type} {g : Nat→Option α} {v : α} (h : Eve (fun k=>g (k+1)) v) : Eve g v:=by
 obtain ⟨K,h⟩:=h;refine ⟨K+1,fun k hk=>?_⟩;obtain ⟨k,rfl⟩ : ∃ m,k=m+1:=⟨k - 1,by omega⟩;exact h k (by omega)
theorem Eve.bind {α β : Type} {g : Nat→Option α} {f : Nat→α→Option β} {v : α} {u : β} (h : Eve g v) (h2 : Eve (fun k=>f k v) u) : Eve (fun k=>(g k).bind (f k)) u:=by
 obtain ⟨K,h⟩:=h;obtain ⟨K2,h2⟩:=h2;refine ⟨max K K2,fun k hk=>?_⟩;show (g k).bind (f k)=some u;rw [h k (by omega),Option.bind_some];exact h2 k (by omega)
theorem Eve.ite {α : Type} {c : Prop} [Decidable c] {a b : Nat→Option α} {v : α} (h1 : c→Eve a v) (h2 : ¬ c→Eve b v) : Eve (fun k=>if c then a k else b k) v:=by
 by_cases h : c
 ·
  simp only [if_pos h];exact h1 h
 simp only [if_neg h];exact h2 h
theorem Eve.get {α : Type} {g : Nat→Option α} {v : α} (h : Eve g v) : ∃ k,g k=some v:=by
 obtain ⟨K,h⟩:=h;exact ⟨K,h K (by omega)⟩
theorem Eve.eq {α : Type} {g : Nat→Option α} {v u : α} (h : Eve g v) (e : v=u) : Eve g u:=e ▸ h
theorem Eve.congr {α : Type} {g f : Nat→Option α} {v : α} (h : Eve g v) (e : ∀ k,f k=g k) : Eve f v:=by
 obtain ⟨K,h⟩:=h;exact ⟨K,fun k hk=>by rw [e,h k hk]⟩
theorem ev_loop {σ α β : Type} (xs : List α) (g : Nat→σ→Int→Option β) (R : Nat→σ→List α→β) (I : Nat→σ→Prop)
  (hend : ∀ s,I xs.length s→Eve (fun k=>g (k+1) s (xs.length : Int)) (R xs.length s []))
  (hstep : ∀ (i : Nat) (h : i<xs.length) (s : σ),I i s→(∀ s',I (i+1) s' → Eve (fun k=>g k s' ((i+1 : Nat) : Int)) (R (i+1) s' (xs.drop (i+1)))) →
   Eve (fun k=>g (k+1) s (i : Int)) (R i s (xs[i] :: xs.drop (i+1)))) :
  ∀ (d i : Nat) (s : σ),i+d=xs.length→I i s→Eve (fun k=>g k s (i : Int)) (R i s (xs.drop i)):=by
 intro d
 induction d with
 | zero =>
  intro i s hi hI;obtain rfl : i=xs.length:=by omega
  rw [List.drop_length];exact Eve.succ (hend s hI)
 | succ d ih =>
  intro i s hi hI;have hlt : i<xs.length:=by omega
  rw [drop_at xs i hlt];exact Eve.succ (hstep i hlt s hI (fun s' h' => ih (i+1) s' (by omega) h'))
theorem ev_loop0 {σ α β : Type} (xs : List α) (g : Nat→σ→Int→Option β) (R : Nat→σ→List α→β) (I : Nat→σ→Prop)
  (hend : ∀ s,I xs.length s→Eve (fun k=>g (k+1) s (xs.length : Int)) (R xs.length s []))
  (hstep : ∀ (i : Nat) (h : i<xs.length) (s : σ),I i s→(∀ s',I (i+1) s' → Eve (fun k=>g k s' ((i+1 : Nat) : Int)) (R (i+1) s' (xs.drop (i+1)))) →
   Eve (fun k=>g (k+1) s (i : Int)) (R i s (xs[i] :: xs.drop (i+1)))) (s : σ) (h0 : I 0 s) : Eve (fun k=>g k s 0) (R 0 s xs):=by
 have:=ev_loop xs g R I hend hstep xs.length 0 s (by omega) h0
 simpa using this
end Go.Proofs.YtgifonogfgpjdaaW.Pl
end
section
namespace Go.Proofs.Ytgifonogfgpjdaa.Pure
open Go.RowKit Go.Proofs.Ytgifonogfgpjdaa.Q Go.Proofs.YtgifonogfgpjdaaW.PrintWords Go.Proofs.YtgifonogfgpjdaaW.PrintLast Go.Proofs.YtgifonogfgpjdaaW.Pl
abbrev IEnt:=S28
abbrev IPag:=S60
theorem wi {i : Nat} (h : i≤9223372036854775806) : wrap64 ((i : Int)+1)=((i+1 : Nat) : Int):=w64 (by omega) (by omega)
theorem rdIE (l : List IEnt) (i : Nat) (h : i<l.length) : rd_T28 l (i : Int)=l[i]:=getD_at _ l i h
theorem rdIP (l : List IPag) (i : Nat) (h : i<l.length) : rd_T60 l (i : Int)=l[i]:=getD_at _ l i h
end Go.Proofs.Ytgifonogfgpjdaa.Pure
end
