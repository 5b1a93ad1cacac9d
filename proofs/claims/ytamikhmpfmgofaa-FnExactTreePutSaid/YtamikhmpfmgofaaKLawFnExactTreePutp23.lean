/- Texts of this claim, merged by a program of this session. -/
import Derived.Test.YtamikhmpfmgofaaKLawFnExactTreePutp22
section
namespace Go.Proofs.Ytamikhmpfmgofaa.Q
open Go.RowKit Go.Proofs.YtamikhmpfmgofaaW.PrintWords Go.Proofs.YtamikhmpfmgofaaW.PrintLast Go.Proofs.YtamikhmpfmgofaaW.PrintMore
attribute [local go_sem] max2_int min2_int max_two min_two max_three min_three max_four min_four max2_str min2_str str_geq str_gtr str_leq
set_option linter.unusedVariables false
set_option linter.unusedSimpArgs false
def F03.g (k : Nat) : List S67→Int→Option (Int×List S67)
 | [],a=>some (a,[])
 | p :: ps,a=>(Fo.f k p.f1 (wrap64 (a+1))).bind fun t=>(F03.g k ps t.1).bind fun u=>some (u.1,(⟨a,t.2⟩ : S67) :: u.2)
theorem F03.n_step {q i n : Nat} (h : q+1+i=n) : q+(i+1)=n:=by omega
theorem F03.w_next (i : Nat) (h : i≤4611686018427387904) : wrap64 ((i : Int)+1)=((i+1 : Nat) : Int):=by unfold wrap64;omega
theorem F03.t_next (L : List S67) (i : Nat) (h : i<L.length) (x : S67) (t2 r2 : List S67) (e : L.take i++(x :: t2)=r2) : (L.set i x).take (i+1)++t2=r2:=by
 rw [← e,List.take_succ_eq_append_getElem (by simpa using h),List.getElem_set_self,List.take_set_of_le (ye _),List.append_assoc]
 rfl
set_option maxHeartbeats 4000000 in
set_option maxRecDepth 100000 in
theorem F03.calls (k : Nat) (P0_ : Nat→Prop) (u9000_ : Value) (l0 : List (S67)) (a1 : Int) (r1 : Int) (r2 : List (S67)) (w0 w : World) (hB : Below w0.heap.size w0 w) (ho0 : Kd.S k67 67 w w0.heap.size P0_ u9000_ l0) (hlen : l0.length≤4611686018427387904) (h : F03.g k l0 a1=some (r1,r2)) :
  Calls Try.prog 39 #[u9000_,.int .i64 a1] w fun e w' => e = .returned (.int .i64 r1)∧Kd.S k67 67 w' w0.heap.size (fun k_=>(P0_ k_∨w.heap.size≤k_)) u9000_ r2∧Below w0.heap.size w0 w' ∧ Kept w w' (fun k_=>P0_ k_):=by
 have HO0:=zh (show Kd.S k67 67 w w0.heap.size (fun k_=>(P0_ k_∨w.heap.size≤k_)) u9000_ l0 from Kd.S_mono ho0 (fun k_ hk=>(.inl hk)));have HK:=zh (Kept.refl w (fun k_=>P0_ k_));have HB:=zh hB;have hW0:=hB.size;clear hB;obtain ⟨A,c,rfl⟩:=Kd.S_slice ho0
 go_enter Try.func39,Try.ntmps39
 go_wp2
 go_loopg [1,5] l0.length (fun kq v1 v5 w' => ∃ (i : Nat) (x : Int) (L : List S67) (t : List S67),v1 = .int .i64 x∧v5 = .int .i64 (i : Int)∧Aside0 (kq+i=l0.length)∧Aside0 (L.length=l0.length∧L.drop i=l0.drop i∧L.take i++t=r2)∧Aside0 (F03.g k (l0.drop i) x=some (r1,t))∧Aside0 (Kd.S k67 67 w' w0.heap.size (fun k_=>(P0_ k_∨w.heap.size≤k_)) (.slice A l0.length c) L)∧Aside0 (Kept w w' (fun k_=>P0_ k_))∧Aside0 (Below w0.heap.size w0 w'))
 case atStart=>exact ⟨0,a1,l0,r2,rfl,rfl,⟨jD⟩,⟨rfl,rfl,by rw [List.take_zero,List.nil_append]⟩,⟨by rw [List.drop_zero];exact h⟩,HO0,HK,HB⟩
 case round =>
  obtain ⟨i,x,L,t,rfl,rfl,HI,HL,HF,HO,HK,HB⟩:=hrel;obtain ⟨hLl,hLd,hLt⟩:=HL.out
  by_cases hil : i<l0.length
  ·
   have c3 : decide ((i : Int)<(l0.length : Int))=true:=decide_eq_true (Int.ofNat_lt.2 hil)
   obtain ⟨g,co,eo,gb,gl,cl,HGc⟩:=Kd.S_form HO.out (by rw [hLl];exact Nat.lt_of_le_of_lt (Nat.zero_le _) hil);rw [hLl] at eo;injection eo with ea _ ec;subst ea;subst ec;have hF:=HF.out;rw [List.drop_eq_getElem_cons hil] at hF;simp only [F03.g] at hF;obtain ⟨⟨m1,E1⟩,hm,hF⟩:=zT.mp hF;obtain ⟨⟨m2,t2⟩,hF2,hF⟩:=zT.mp hF;simp only [Option.some.injEq,Prod.mk.injEq] at hF;obtain ⟨rfl,rfl⟩:=hF;obtain ⟨oki,ce,hcl,hM,hcc,hfr,hoki,hH⟩:=Kd.S_elem HO.out z67 (i : Int) (Int.natCast_nonneg i) (Int.ofNat_lt.2 hil)
   have eg : L.getD (i : Int).toNat z67=l0[i]:=by
    have h9:=congrArg (·[0]?) hLd;simp only [List.getElem?_drop,Nat.add_zero] at h9;rw [Int.toNat_natCast,List.getD_eq_getElem?_getD,h9,List.getElem?_eq_getElem hil];rfl
   rw [eg] at hM;obtain ⟨ve,rfl,hRe⟩:=k67_openM hM;have hm0 : wr.cell? ⟨g,i*2,none⟩=some (.int .i64 l0[i].f0):=hcc 0 _ rfl;have hm1 : wr.cell? ⟨g,i*2+1,none⟩=some ve:=hcc 1 _ rfl;have hn0 : wr.frozen? ⟨g,i*2,none⟩=false:=hfr 0;have hi0 : (0≤(i : Int))=True:=eq_true (Int.natCast_nonneg i);have hilt : ((i : Int)<(l0.length : Int))=True:=eq_true (Int.ofNat_lt.2 hil);have hwi:=F03.w_next i (Nat.le_trans (Nat.le_of_lt hil) hlen);obtain ⟨kq,rfl⟩ : ∃ q,gk=q+1:=⟨gk - 1,jAI⟩;have hkj:=HI.out
   obtain ⟨hH1,hG1⟩ : Kd.H k67 67 (wr.setCell ⟨g,i*2,none⟩ (.int .i64 x)) w0.heap.size (fun k_=>(P0_ k_∨w.heap.size≤k_)) (.slice (some ⟨g,0,none⟩) l0.length c) L (i : Int) oki [.int .i64 x,ve]∧wr.grownBy (wr.setCell ⟨g,i*2,none⟩ (.int .i64 x)) (some g) :=
    Kd.H_seg hH (Int.natCast_nonneg i) (Int.ofNat_lt.2 hil) (seg:=[.int .i64 x]) (j:=0) (show 0+1≤2 from by decide) (by simp [Value.oneCell'])
   have hR1:=Kd.R_grown hRe hG1 (fun k hk he=>(hoki k hk).2 (by injection he))
   have hcv : (wr.setCell ⟨g,i*2,none⟩ (.int .i64 x)).cell? ⟨g,i*2+1,none⟩=some ve:=by
    rw [World.cell?_setCell_other _ _ _ _ (by simp)];exact hm1
   have HH1:=zh (Kd.H_widen hH1);have HB1:=zh (pw_below_grown HB.out (some g) (Nat.le_trans gb (Nat.le_of_lt gl)) hG1 (fun k hk=>by injection hk with hk;subst hk;exact gb));have hPg : P0_ g∨w.heap.size≤g:=(Kd.S_R HO.out).1 g rfl;have HK1:=zh (yz hG1 HK.out (fun k hk=>by injection hk with hk;subst hk;exact hPg));have HE:=zh (show L.length=l0.length from hLl);have HD:=zh (show L.drop (i+1)=l0.drop (i+1) by have:=congrArg List.tail hLd;simpa [List.tail_drop] using this);have HT:=zh (F03.t_next L i (show i<L.length from hLl ▸ hil) (⟨x,E1⟩ : S67) t2 r2 hLt);have HOK:=zh hoki;clear hH hH1 hG1 hRe hcc hcl hM HB HK hLd hLl hLt hfr eg
   go_wp2_with fail
   go_at_call 16
   refine (Fo.calls k oki ve _ (wrap64 (x+1)) m1 E1 w0 _ HB1.out hR1 hm).mono ?_;rintro e w2 ⟨rfl,hR2,hB2,hK2⟩;have HK2:=zh (HK1.out.then_ hK2 (fun k hk=>(HOK.out k hk).1))
   have HS2:=zh (Kd.H_back (Kd.H_kept HH1.out hK2 (fun k _ hn hk=>hn (.inl hk))) (x':=(⟨x,E1⟩ : S67)) (k67_mkM _ _ _ ⟨x,E1⟩ hR2) (fun k hk=>by
    rcases hk with hk|hk
    ·
     exact .inl hk
    refine .inr ⟨.inr (Nat.le_trans HK1.out.1 hk),hk⟩))
   have HB2:=zh hB2;clear hR1 hR2 hK2 hB2 HH1
   go_wp2_with fail
   go_roundg kq
   case measure=>exact Nat.lt_succ_self _
   case rel =>
    refine ⟨i+1,m1,L.set i ⟨x,E1⟩,t2,rfl,by first|rfl|rw [hwi],⟨F03.n_step hkj⟩,⟨by rw [List.length_set];exact HE.out,by rw [List.drop_set_of_lt (Nat.lt_succ_self i)];exact HD.out,HT.out⟩,⟨hF2⟩,HS2,HK2,HB2⟩
  have c3 : decide ((i : Int)<(l0.length : Int))=false:=decide_eq_false (fun h9=>hil (Int.ofNat_lt.1 h9));have hF:=HF.out;rw [List.drop_of_length_le (Nat.le_of_not_lt hil)] at hF;simp only [F03.g,Option.some.injEq,Prod.mk.injEq] at hF;obtain ⟨rfl,rfl⟩:=hF;have hLr : L=r2:=by rw [← hLt,List.append_nil,List.take_of_length_le (Nat.le_trans (Nat.le_of_eq hLl) (Nat.le_of_not_lt hil))]
  subst hLr;clear hLt hLd
  go_wp2_with fail
  go_ret
  exact ⟨rfl,HO.out,HB.out,HK.out⟩
theorem laws_markTree.marks (k : Nat) (P0_ : Nat→Prop) (u9000_ : Value) (l0 : List (S67)) (n : Int) (a1 : Int) (r1 : Int) (r2 : List (S67)) (w0 w : World) (hB : Below w0.heap.size w0 w) (ho0 : Kd.S k67 67 w w0.heap.size P0_ u9000_ l0) (hlen : l0.length≤4611686018427387904) (h : F03.g k l0 a1=some (r1,r2)) :
  Calls Try.prog 15 #[.agg #[u9000_,.int .i64 n],.int .i64 a1] w fun e w' => e = .returned (.int .i64 r1)∧Kd.S k67 67 w' w0.heap.size (fun k_=>(P0_ k_∨w.heap.size≤k_)) u9000_ r2∧Below w0.heap.size w0 w' ∧ Kept w w' (fun k_=>P0_ k_):=by
 have hu35:=Try.underlying35;obtain ⟨A,c,rfl⟩:=Kd.S_slice ho0;have hS:=Kd.S_mono (ok':=fun k_=>P0_ k_∧k_<w.heap.size) (Kd.S_bound ho0) (fun k_ hk=>⟨hk.1,hk.2.2.1⟩)
 go_enter Try.func15,Try.ntmps15
 go_wp2_with fail
 go_at_call 39
 refine (F03.calls k (fun k_=>P0_ k_∧k_<w.heap.size) _ l0 a1 r1 r2 w0 _ (za hB _) (Kd.S_alloc hS _) hlen h).mono ?_;rintro e w1 ⟨rfl,hS1,hB1,hK1⟩;have hS1' : Kd.S k67 67 w1 w0.heap.size (fun k_=>(P0_ k_∨w.heap.size≤k_)) (.slice A l0.length c) r2:=Kd.S_mono hS1 (fun k_ hk=>hk.elim (fun h2 => .inl h2.1) (fun h2 => .inr (Nat.le_trans (Nat.le_of_lt (by simp)) h2)));have hKw : Kept w w1 (fun k_=>P0_ k_):=((Kept.refl w _).alloc _).then_ hK1 (fun k_ hk => .inl hk.1)
 go_wp2_with fail
 go_ret
 exact ⟨rfl,hS1',hB1,hKw⟩

def F04.f (a0 : Int) (a1 : Int) (a2 : Int) : Option (Bool):=if a1≤a0 then (some (decide (a0≤a2))) else (some false)
set_option maxHeartbeats 8000000 in
set_option maxRecDepth 100000 in
theorem F04.calls (a0 : Int) (a1 : Int) (a2 : Int) (r : Bool) (w : World) (h : F04.f a0 a1 a2=some r) :
  Calls Try.prog 51 #[.int .i64 a0,.int .i64 a1,.int .i64 a2] w fun e w' => e = .returned (.bool r)∧Drawn0 w w':=by
 have H : (if a1≤a0 then (some (decide (a0≤a2))) else (some false))=some r:=h;clear h
 by_cases c4 : a1≤a0
 ·
  rw [if_pos c4] at H
  have c4b0 : decide (a1≤a0)=true:=decide_eq_true c4;clear c4;obtain rfl:=zU H
  go_enter Try.func51,Try.ntmps51
  go_wp2
  go_ret
  exact ⟨jE,jJ⟩
 rw [if_neg c4] at H;have c4b0 : decide (a1≤a0)=false:=decide_eq_false c4;clear c4;obtain rfl:=zU H
 go_enter Try.func51,Try.ntmps51
 go_wp2
 go_ret
 exact ⟨jE,jJ⟩


def F0c.f (a0_0 : ByteArray) (a0_1 : Int) : Option (Bool):=if (a0_0.size : Int)≤2000 then ((F04.f a0_1 0 9999).bind fun t112=>(some t112)) else (some false)
set_option maxHeartbeats 8000000 in
set_option maxRecDepth 100000 in
theorem F0c.calls (a0_0 : ByteArray) (a0_1 : Int) (r : Bool) (w : World) (h : F0c.f a0_0 a0_1=some r) :
  Calls Try.prog 41 #[.agg #[.string a0_0,.int .i64 a0_1]] w fun e w' => e = .returned (.bool r)∧Below w.heap.size w w':=by
 have hu51:=Try.underlying51;have HB:=zh (Below.refl w.heap.size w);have H : (if (a0_0.size : Int)≤2000 then ((F04.f a0_1 0 9999).bind fun t112=>(some t112)) else (some false))=some r:=h;clear h
 by_cases c2 : (a0_0.size : Int)≤2000
 ·
  rw [if_pos c2] at H
  have c2b0 : decide ((a0_0.size : Int)≤2000)=true:=decide_eq_true c2;have c2b1 : decide (a0_0.size≤2000)=true:=decide_eq_true jD;clear c2;replace H:=zT.mp H;obtain ⟨t112,A30,H⟩:=H;have A3:=zh A30;clear A30;obtain rfl:=zU H
  go_enter Try.func41,Try.ntmps41
  go_wp2_with (first|((with_reducible refine zK (N:=1) rfl ?_);refine zI ?hg (N:=1) ?hd (cs:=#[.string a0_0,.int .i64 a0_1]) (t:=51) ?hr ?_;(case hd=>rfl);(case hg=>rfl);(case hr=>go_simp <;> rfl);intro gb111 hg w4 hbox hb;have BK111:=zh (hbox);have hH_:=cH jF hb hg;have GW111:=zh hH_.1;have GE111:=GW111;replace HB:=zh hH_.2;clear hb hbox hg hH_;obtain ⟨hcz5_0,hcz5_1,hfz5_0,hfz5_1⟩:=cB2 BK111.out)|(go_at_call 51;(with_reducible refine (F04.calls  a0_1 0 9999 t112 _ A3.out).mono ?_);rintro e w' ⟨rfl,⟨nd,rfl⟩⟩))
  go_ret
  exact ⟨jH,jBY⟩
 rw [if_neg c2] at H;have c2b0 : decide ((a0_0.size : Int)≤2000)=false:=decide_eq_false c2;have c2b1 : decide (a0_0.size≤2000)=false:=decide_eq_false jD;clear c2;obtain rfl:=zU H
 go_enter Try.func41,Try.ntmps41
 go_wp2_with (first|((with_reducible refine zK (N:=1) rfl ?_);refine zI ?hg (N:=1) ?hd (cs:=#[.string a0_0,.int .i64 a0_1]) (t:=51) ?hr ?_;(case hd=>rfl);(case hg=>rfl);(case hr=>go_simp <;> rfl);intro gb111 hg w6 hbox hb;have BK111:=zh (hbox);have hH_:=cH jF hb hg;have GW111:=zh hH_.1;have GE111:=GW111;replace HB:=zh hH_.2;clear hb hbox hg hH_;obtain ⟨hcz7_0,hcz7_1,hfz7_0,hfz7_1⟩:=cB2 BK111.out))
 go_ret
 exact ⟨jH,jBY⟩


def F0d.f (a0_0 : ByteArray) (a0_1 : Int) (a1_0 : ByteArray) (a1_1 : Int) : Option (Bool):=if (Op.bytesLess a0_0.toList a1_0.toList)=true then (some true) else (if a0_0.toList=a1_0.toList then (some (decide (a0_1<a1_1))) else (some false))
set_option maxHeartbeats 8000000 in
set_option maxRecDepth 100000 in
theorem F0d.calls (a0_0 : ByteArray) (a0_1 : Int) (a1_0 : ByteArray) (a1_1 : Int) (r : Bool) (w : World) (h : F0d.f a0_0 a0_1 a1_0 a1_1=some r) :
  Calls Try.prog 52 #[.agg #[.string a0_0,.int .i64 a0_1],.agg #[.string a1_0,.int .i64 a1_1]] w fun e w' => e = .returned (.bool r)∧Below w.heap.size w w':=by
 have hu51:=Try.underlying51;have HB:=zh (Below.refl w.heap.size w);have H : (if (Op.bytesLess a0_0.toList a1_0.toList)=true then (some true) else (if a0_0.toList=a1_0.toList then (some (decide (a0_1<a1_1))) else (some false)))=some r:=h;clear h
 by_cases c3 : (Op.bytesLess a0_0.toList a1_0.toList)=true
 ·
  rw [if_pos c3] at H
  have c3b0 : (Op.bytesLess a0_0.toList a1_0.toList)=true:=c3;clear c3;obtain rfl:=zU H
  go_enter Try.func52,Try.ntmps52
  go_wp2_with (first|((with_reducible refine zK (N:=2) rfl ?_);refine zI ?hg (N:=2) ?hd (cs:=#[.string a0_0,.int .i64 a0_1]) (t:=51) ?hr ?_;(case hd=>rfl);(case hg=>rfl);(case hr=>go_simp <;> rfl);intro gb113 hg w4 hbox hb;have BK113:=zh (hbox);have hH_:=cH jF hb hg;have GW113:=zh hH_.1;have GE113:=GW113;replace HB:=zh hH_.2;clear hb hbox hg hH_)|((with_reducible refine zK (N:=3) rfl ?_);refine zI ?hg (N:=3) ?hd (cs:=#[.string a1_0,.int .i64 a1_1]) (t:=51) ?hr ?_;(case hd=>rfl);(case hg=>rfl);(case hr=>go_simp <;> rfl);intro gb114 hg w5 hbox hb;have BK114:=zh (hbox);have hH_:=cH jA6 hb hg;have GW114:=zh hH_.1;have GE114:=GW114;replace HB:=zh hH_.2;have NB113_114:=zh ((jA7 : gb113≠gb114));have NB114_113:=zh NB113_114.out.symm;replace BK113:=zh (cD BK113.out jAW hb);clear hb hbox hg hH_;have hnb6:=NB113_114.out;have hnc6:=NB114_113.out;obtain ⟨hcz7_0,hcz7_1,hfz7_0,hfz7_1⟩:=cB2 BK113.out;obtain ⟨hcz8_0,hcz8_1,hfz8_0,hfz8_1⟩:=cB2 BK114.out))
  go_ret
  exact ⟨jH,jA8⟩
 rw [if_neg c3] at H;have c3b0 : (Op.bytesLess a0_0.toList a1_0.toList)=false:=by simpa using c3
 clear c3
 by_cases c9 : a0_0.toList=a1_0.toList
 ·
  rw [if_pos c9] at H
  have c9b0 : (a0_0.toList == a1_0.toList)=true:=ya.mpr c9;have c9b1 : (a0_0.toList != a1_0.toList)=false:=zX.mpr c9;clear c9;obtain rfl:=zU H
  go_enter Try.func52,Try.ntmps52
  go_wp2_with (first|((with_reducible refine zK (N:=2) rfl ?_);refine zI ?hg (N:=2) ?hd (cs:=#[.string a0_0,.int .i64 a0_1]) (t:=51) ?hr ?_;(case hd=>rfl);(case hg=>rfl);(case hr=>go_simp <;> rfl);intro gb113 hg w10 hbox hb;have BK113:=zh (hbox);have hH_:=cH jF hb hg;have GW113:=zh hH_.1;have GE113:=GW113;replace HB:=zh hH_.2;clear hb hbox hg hH_)|((with_reducible refine zK (N:=3) rfl ?_);refine zI ?hg (N:=3) ?hd (cs:=#[.string a1_0,.int .i64 a1_1]) (t:=51) ?hr ?_;(case hd=>rfl);(case hg=>rfl);(case hr=>go_simp <;> rfl);intro gb114 hg w11 hbox hb;have BK114:=zh (hbox);have hH_:=cH jA6 hb hg;have GW114:=zh hH_.1;have GE114:=GW114;replace HB:=zh hH_.2;have NB113_114:=zh ((jA7 : gb113≠gb114));have NB114_113:=zh NB113_114.out.symm;replace BK113:=zh (cD BK113.out jAW hb);clear hb hbox hg hH_;have hnb12:=NB113_114.out;have hnc12:=NB114_113.out;obtain ⟨hcz13_0,hcz13_1,hfz13_0,hfz13_1⟩:=cB2 BK113.out;obtain ⟨hcz14_0,hcz14_1,hfz14_0,hfz14_1⟩:=cB2 BK114.out))
  go_ret
  exact ⟨jH,jA8⟩
 rw [if_neg c9] at H;have c9b0 : (a0_0.toList == a1_0.toList)=false:=zY.mpr c9;have c9b1 : (a0_0.toList != a1_0.toList)=true:=zZ.mpr c9;obtain rfl:=zU H
 go_enter Try.func52,Try.ntmps52
 go_wp2_with (first|((with_reducible refine zK (N:=2) rfl ?_);refine zI ?hg (N:=2) ?hd (cs:=#[.string a0_0,.int .i64 a0_1]) (t:=51) ?hr ?_;(case hd=>rfl);(case hg=>rfl);(case hr=>go_simp <;> rfl);intro gb113 hg w15 hbox hb;have BK113:=zh (hbox);have hH_:=cH jF hb hg;have GW113:=zh hH_.1;have GE113:=GW113;replace HB:=zh hH_.2;clear hb hbox hg hH_)|((with_reducible refine zK (N:=3) rfl ?_);refine zI ?hg (N:=3) ?hd (cs:=#[.string a1_0,.int .i64 a1_1]) (t:=51) ?hr ?_;(case hd=>rfl);(case hg=>rfl);(case hr=>go_simp <;> rfl);intro gb114 hg w16 hbox hb;have BK114:=zh (hbox);have hH_:=cH jA6 hb hg;have GW114:=zh hH_.1;have GE114:=GW114;replace HB:=zh hH_.2;have NB113_114:=zh ((jA7 : gb113≠gb114));have NB114_113:=zh NB113_114.out.symm;replace BK113:=zh (cD BK113.out jAW hb);clear hb hbox hg hH_;have hnb17:=NB113_114.out;have hnc17:=NB114_113.out;obtain ⟨hcz18_0,hcz18_1,hfz18_0,hfz18_1⟩:=cB2 BK113.out;obtain ⟨hcz19_0,hcz19_1,hfz19_0,hfz19_1⟩:=cB2 BK114.out))
 go_ret
 exact ⟨jH,jA8⟩

end Go.Proofs.Ytamikhmpfmgofaa.Q
end
section
namespace Go.Proofs.Ytamikhmpfmgofaa.Q
open Go.RowKit Go.Proofs.YtamikhmpfmgofaaW.PrintWords Go.Proofs.YtamikhmpfmgofaaW.PrintLast Go.Proofs.YtamikhmpfmgofaaW.PrintMore
attribute [local go_sem] max2_int min2_int max_two min_two max_three min_three max_four min_four max2_str min2_str str_geq str_gtr str_leq   -- for this text's walks alone
set_option linter.unusedVariables false
set_option linter.unusedSimpArgs false

mutual
def F0.j0 : Nat→Bool→List (S67)→Int→Option (Bool)
 | 0,_,_,_=>none
 | k+1,x18,x116000,x116001=>if x18=true then (some false) else (F0.l0 k 0 x116000 x116001 (⟨#[]⟩ : ByteArray) (-1))
def F0.l0 : Nat→Int→List (S67)→Int→ByteArray→Int→Option (Bool)
 | 0,_,_,_,_,_=>none
 | k+1,x4,x116000,x116001,x119000,x119001=>if x4<(x116000.length : Int) then (if 0≤x4 then ((F04.f ((rd_T67 x116000 x4).f0) 1 (wrap64 (x116001 - 1))).bind fun t121=>(if t121=true then (if (((rd_T67 x116000 x4).f1).length : Int) > 4 then (F0.j2 k x4 true x116000 x116001 x119000 x119001 ((rd_T67 x116000 x4).f0) ((rd_T67 x116000 x4).f1)) else (if (((rd_T67 x116000 x4).f1).length : Int)=0 then (F0.j2 k x4 (decide ((x116000.length : Int) > 1)) x116000 x116001 x119000 x119001 ((rd_T67 x116000 x4).f0) ((rd_T67 x116000 x4).f1)) else (F0.j2 k x4 false x116000 x116001 x119000 x119001 ((rd_T67 x116000 x4).f0) ((rd_T67 x116000 x4).f1)))) else (F0.j2 k x4 true x116000 x116001 x119000 x119001 ((rd_T67 x116000 x4).f0) ((rd_T67 x116000 x4).f1)))) else (none)) else (some true)
def F0.j2 : Nat→Int→Bool→List (S67)→Int→ByteArray→Int→Int→List (S51)→Option (Bool)
 | 0,_,_,_,_,_,_,_,_=>none
 | k+1,x4,x56,x116000,x116001,x119000,x119001,x121000,x121001=>if x56=true then (some false) else (F0.l1 k x4 0 x116000 x116001 x119000 x119001 x121000 x121001)
def F0.l1 : Nat→Int→Int→List (S67)→Int→ByteArray→Int→Int→List (S51)→Option (Bool)
 | 0,_,_,_,_,_,_,_,_=>none
 | k+1,x4,x6,x116000,x116001,x119000,x119001,x121000,x121001=>if x6<x4 then (if 0≤x6 then (if x6<(x116000.length : Int) then (if ((rd_T67 x116000 x6).f0)=x121000 then (some false) else (F0.l1 k x4 (wrap64 (x6+1)) x116000 x116001 x119000 x119001 x121000 x121001)) else (none)) else (none)) else (F0.l2 k x4 0 x116000 x116001 x119000 x119001 x121000 x121001)
def F0.l2 : Nat→Int→Int→List (S67)→Int→ByteArray→Int→Int→List (S51)→Option (Bool)
 | 0,_,_,_,_,_,_,_,_=>none
 | k+1,x4,x7,x116000,x116001,x119000,x119001,x121000,x121001=>if x7<(x121001.length : Int) then (if 0≤x7 then ((F0c.f ((rd_T51 x121001 x7).f0) ((rd_T51 x121001 x7).f1)).bind fun t124=>(if t124=true then ((F0d.f x119000 x119001 ((rd_T51 x121001 x7).f0) ((rd_T51 x121001 x7).f1)).bind fun t126=>(if t126=true then (F0.l2 k x4 (wrap64 (x7+1)) x116000 x116001 ((rd_T51 x121001 x7).f0) ((rd_T51 x121001 x7).f1) x121000 x121001) else (some false))) else (some false))) else (none)) else (F0.l0 k (wrap64 (x4+1)) x116000 x116001 x119000 x119001)
end
def F0.f (k : Nat) (l0_0 : List (S67)) (a0_1 : Int) : Option (Bool):=(F04.f (l0_0.length : Int) 1 60).bind fun t116=>(if t116=true then ((F04.f a0_1 2 100000).bind fun t117=>(F0.j0 k (!t117) l0_0 a0_1)) else (F0.j0 k true l0_0 a0_1))
theorem F0.mono_l : ∀ k,(∀ y0 y1 y2,LeO (F0.j0 k y0 y1 y2) (F0.j0 (k+1) y0 y1 y2))∧(∀ y0 y1 y2 y3 y4,LeO (F0.l0 k y0 y1 y2 y3 y4) (F0.l0 (k+1) y0 y1 y2 y3 y4))∧(∀ y0 y1 y2 y3 y4 y5 y6 y7,LeO (F0.j2 k y0 y1 y2 y3 y4 y5 y6 y7) (F0.j2 (k+1) y0 y1 y2 y3 y4 y5 y6 y7))∧(∀ y0 y1 y2 y3 y4 y5 y6 y7,LeO (F0.l1 k y0 y1 y2 y3 y4 y5 y6 y7) (F0.l1 (k+1) y0 y1 y2 y3 y4 y5 y6 y7))∧(∀ y0 y1 y2 y3 y4 y5 y6 y7,LeO (F0.l2 k y0 y1 y2 y3 y4 y5 y6 y7) (F0.l2 (k+1) y0 y1 y2 y3 y4 y5 y6 y7))
 | 0=>⟨fun _ _ _ r h=>by simp [F0.j0] at h,fun _ _ _ _ _ r h=>by simp [F0.l0] at h,fun _ _ _ _ _ _ _ _ r h=>by simp [F0.j2] at h,fun _ _ _ _ _ _ _ _ r h=>by simp [F0.l1] at h,fun _ _ _ _ _ _ _ _ r h=>by simp [F0.l2] at h⟩
 | k+1=>by
  obtain ⟨ih0,ih1,ih2,ih3,ih4⟩:=F0.mono_l k;refine ⟨?_,?_,?_,?_,?_⟩
  ·
   intro y0 y1 y2
   unfold F0.j0
   repeat' first|(with_reducible first|exact ih0 _ _ _|exact ih1 _ _ _ _ _|exact ih2 _ _ _ _ _ _ _ _|exact ih3 _ _ _ _ _ _ _ _|exact ih4 _ _ _ _ _ _ _ _|exact zQ _|exact zN _|refine zP ?_ ?_|refine zO ?_ (fun _=>?_))|refine zP ?_ ?_|refine zO ?_ (fun _=>?_)
  ·
   intro y0 y1 y2 y3 y4
   unfold F0.l0
   repeat' first|(with_reducible first|exact ih0 _ _ _|exact ih1 _ _ _ _ _|exact ih2 _ _ _ _ _ _ _ _|exact ih3 _ _ _ _ _ _ _ _|exact ih4 _ _ _ _ _ _ _ _|exact zQ _|exact zN _|refine zP ?_ ?_|refine zO ?_ (fun _=>?_))|refine zP ?_ ?_|refine zO ?_ (fun _=>?_)
  ·
   intro y0 y1 y2 y3 y4 y5 y6 y7
   unfold F0.j2
   repeat' first|(with_reducible first|exact ih0 _ _ _|exact ih1 _ _ _ _ _|exact ih2 _ _ _ _ _ _ _ _|exact ih3 _ _ _ _ _ _ _ _|exact ih4 _ _ _ _ _ _ _ _|exact zQ _|exact zN _|refine zP ?_ ?_|refine zO ?_ (fun _=>?_))|refine zP ?_ ?_|refine zO ?_ (fun _=>?_)
  ·
   intro y0 y1 y2 y3 y4 y5 y6 y7
   unfold F0.l1
   repeat' first|(with_reducible first|exact ih0 _ _ _|exact ih1 _ _ _ _ _|exact ih2 _ _ _ _ _ _ _ _|exact ih3 _ _ _ _ _ _ _ _|exact ih4 _ _ _ _ _ _ _ _|exact zQ _|exact zN _|refine zP ?_ ?_|refine zO ?_ (fun _=>?_))|refine zP ?_ ?_|refine zO ?_ (fun _=>?_)
  intro y0 y1 y2 y3 y4 y5 y6 y7;unfold F0.l2
  repeat' first|(with_reducible first|exact ih0 _ _ _|exact ih1 _ _ _ _ _|exact ih2 _ _ _ _ _ _ _ _|exact ih3 _ _ _ _ _ _ _ _|exact ih4 _ _ _ _ _ _ _ _|exact zQ _|exact zN _|refine zP ?_ ?_|refine zO ?_ (fun _=>?_))|refine zP ?_ ?_|refine zO ?_ (fun _=>?_)
theorem F0.mono : ∀ a0 a1 k,LeO (F0.f k a0 a1) (F0.f (k+1) a0 a1):=by
 intro a0 a1 k;obtain ⟨ih0,ih1,ih2,ih3,ih4⟩:=F0.mono_l k;unfold F0.f
 repeat' first|(with_reducible first|exact ih0 _ _ _|exact ih1 _ _ _ _ _|exact ih2 _ _ _ _ _ _ _ _|exact ih3 _ _ _ _ _ _ _ _|exact ih4 _ _ _ _ _ _ _ _|exact zQ _|exact zN _|refine zP ?_ ?_|refine zO ?_ (fun _=>?_))|refine zP ?_ ?_|refine zO ?_ (fun _=>?_)
def F0.T13 : Bool×List (List Nat×List Nat):=(true,[([],[]),([0],[0]),([],[]),([1,2],[1,2]),([3],[3]),([4],[4]),([],[]),([6],[6]),([5,7],[5,7])])
def F0.B13 : List Nat:=[0,1,0,7,15,31,0,64,255]
theorem F0.tab13 : rtab .any (opsOf Try.f28 13)=F0.T13:=by kernel_rfl
theorem F0.bits13 : waitsOk F0.T13.2 F0.B13=true:=by kernel_rfl
def F0.T18 : Bool×List (List Nat×List Nat):=(true,[([],[]),([0],[0]),([],[]),([1,2],[1,2]),([3],[3]),([4],[4]),([5],[5]),([6,5],[6]),([7],[7]),([7],[7]),([9,7],[7,9]),([7],[7]),([10,11,7],[7,10,11]),([12,7],[7,12]),([8,13,7,7],[7,8,13]),([14,7],[7,14]),([7,15],[7,15])])
def F0.B18 : List Nat:=[0,1,0,7,15,31,63,127,255,255,767,255,3839,7935,16383,32767,65535]
theorem F0.tab18 : rtab .any (opsOf Try.f28 18)=F0.T18:=by kernel_rfl
theorem F0.bits18 : waitsOk F0.T18.2 F0.B18=true:=by kernel_rfl
set_option maxHeartbeats 8000000 in
set_option maxRecDepth 100000 in
theorem F0.calls (k : Nat) (A0_0 : Option Addr) (c0_0 : Nat) (l0_0 : List (S67)) (a0_1 : Int) (r : Bool) (w : World) (hr0_0 : Kd.C k67 w A0_0 l0_0.length l0_0) (hc0_0 : l0_0.length≤c0_0) (h : F0.f k l0_0 a0_1=some r) :
  Calls Try.prog 28 #[.agg #[.slice A0_0 l0_0.length c0_0,.int .i64 a0_1]] w fun e w' => e = .returned (.bool r)∧Below w.heap.size w w':=by
 have hu35:=Try.underlying35;have hu51:=Try.underlying51;have hu67:=Try.underlying67;have HR0_0:=zh hr0_0;have HC0_0:=zh hc0_0;clear hr0_0 hc0_0;have HB:=zh (Below.refl w.heap.size w);have H : ((F04.f (l0_0.length : Int) 1 60).bind fun t116=>(if t116=true then ((F04.f a0_1 2 100000).bind fun t117=>(F0.j0 k (!t117) l0_0 a0_1)) else (F0.j0 k true l0_0 a0_1)))=some r:=h;clear h;have HC2:=zh H;clear H
 go_enter Try.func28,Try.ntmps28
 go_upto_region 1 with (first|((with_reducible refine zK (N:=1) rfl ?_);(try (refine yy (by rfl) ?_;dsimp only));refine zI ?hg (N:=1) ?hd (cs:=#[.slice A0_0 l0_0.length c0_0,.int .i64 a0_1]) (t:=35) ?hr ?_;(case hd=>rfl);(case hg=>rfl);(case hr=>go_simp <;> rfl);intro gb115 hg w3 hbox hb;have BK115:=zh (hbox);have hH_:=cH jF hb hg;have GW115:=zh hH_.1;have GE115:=GW115;replace HB:=zh hH_.2;clear hb hbox hg hH_))
 (try simp only [Act.put,zi,zj,zk])
 go_cut [18] (fun v18 wc => ∃ (kq : Nat) (x18_1 : Bool),v18 = .bool x18_1∧Aside0 (F0.j0 kq x18_1 l0_0 a0_1=some r)∧Aside0 (kq≤k)∧Aside0 (wc.heap[gb115]? = some (.cells #[(.slice A0_0 l0_0.length c0_0),.int .i64 a0_1] 35 (0,0)))∧Aside0 (Below w.heap.size w wc))
 case first =>
  have H:=HC2.out;clear HC2;replace H:=zT.mp H;obtain ⟨t116,A40,H⟩:=H;have A4:=zh A40;clear A40
  by_cases c5 : t116=true
  ·
   subst c5
   rw [if_pos rfl] at H;replace H:=zT.mp H;obtain ⟨t117,A60,H⟩:=H;have A6:=zh A60;clear A60;have H':=zh H;clear H;obtain ⟨hcz7_0,hcz7_1,hfz7_0,hfz7_1⟩:=cB2 BK115.out
   go_wp2_with (first|((with_reducible refine zJ (f:=51) rfl ?_);refine yj (some 11) rfl rfl Try.func51 jA rfl #[.int .i64 (l0_0.length : Int),.int .i64 1,.int .i64 60] rfl jG ?_;(with_reducible refine (F04.calls  (l0_0.length : Int) 1 60 true _ A4.out).mono ?_);rintro e w' ⟨rfl,⟨nd,rfl⟩⟩;refine ⟨_,rfl,?_⟩)|(go_at_call 51;(with_reducible refine (F04.calls  a0_1 2 100000 t117 _ A6.out).mono ?_);rintro e w' ⟨rfl,⟨nd,rfl⟩⟩))
   go_meet
   case rel=>exact ⟨_,(!t117),jE,H',⟨jw⟩,⟨jP⟩,⟨jAX⟩⟩
  replace c5:=yb.mpr c5;subst c5;rw [if_neg (show ¬ (false=true) by decide)] at H;have H':=zh H;clear H;obtain ⟨hcz8_0,hcz8_1,hfz8_0,hfz8_1⟩:=cB2 BK115.out
  go_wp2_with (first|((with_reducible refine zJ (f:=51) rfl ?_);refine yj (some 11) rfl rfl Try.func51 jA rfl #[.int .i64 (l0_0.length : Int),.int .i64 1,.int .i64 60] rfl jG ?_;(with_reducible refine (F04.calls  (l0_0.length : Int) 1 60 false _ A4.out).mono ?_);rintro e w' ⟨rfl,⟨nd,rfl⟩⟩;refine ⟨_,rfl,?_⟩))
  go_meet
  case rel=>exact ⟨_,(true),jE,H',⟨jw⟩,⟨jP⟩,⟨jAX⟩⟩
 case rest =>
  clear HC2
  try clear c2
  try clear p2
  try clear c5
  try clear hcz7_0 hcz7_1
  try clear hcz8_0 hcz8_1
  try clear hfz7_0 hfz7_1
  try clear hfz8_0 hfz8_1
  obtain ⟨kq,x18_1,rfl,HA,HJ1,BK115,HB⟩:=hcut
  cases kq with
  | zero=>exact absurd HA.out (by simp [F0.j0])
  | succ kj1 =>
   have H:=HA.out;clear HA;simp only [F0.j0] at H
   by_cases c9 : x18_1=true
   ·
    subst c9
    rw [if_pos rfl] at H;obtain rfl:=zU H
    go_wp2
    go_ret
    exact ⟨jH,jAX⟩
   replace c9:=yb.mpr c9;subst c9;rw [if_neg (show ¬ (false=true) by decide)] at H;have H':=zh H;clear H
   go_wp2_with (first|((with_reducible refine zK (N:=3) rfl ?_);(try (refine yy (by rfl) ?_;dsimp only));refine zI ?hg (N:=3) ?hd (cs:=#[.string (⟨#[]⟩ : ByteArray),.int .i64 0]) (t:=51) ?hr ?_;(case hd=>rfl);(case hg=>rfl);(case hr=>go_simp <;> rfl);intro gb118 hg w10 hbox hb;have BK118:=zh (hbox);have hH_:=cH jAX hb hg;have GW118:=zh hH_.1;have GE118:=GW118;replace HB:=zh hH_.2;have NB115_118:=zh ((by rw [hg];exact yc (yi (g:=gb115) (o:=.cells #[.slice A0_0 l0_0.length c0_0,.int .i64 a0_1] 35 (0,0)) jP) : gb115≠gb118));have NB118_115:=zh NB115_118.out.symm;replace BK115:=zh (cD BK115.out jP hb);clear hb hbox hg hH_;have hnb11:=NB118_115.out;have hnc11:=NB115_118.out;obtain ⟨hcz12_0,hcz12_1,hfz12_0,hfz12_1⟩:=cB2 BK118.out))
   go_loopg [4] kj1 (fun kq v4 w' => ∃ (x4_2 : Int) (x119000_2 : ByteArray) (x119001_2 : Int),v4 = .int .i64 x4_2∧Aside0 (F0.l0 kq x4_2 l0_0 a0_1 x119000_2 x119001_2=some r)∧Aside0 (kq≤kj1)∧Aside0 (w'.heap[gb115]? = some (.cells #[(.slice A0_0 l0_0.length c0_0),.int .i64 a0_1] 35 (0,0)))∧Aside0 (w'.heap[gb118]? = some (.cells #[.string x119000_2,.int .i64 x119001_2] 51 (0,0)))∧Aside0 (Below w.heap.size w w'))
   case atStart=>exact ⟨(0),((⟨#[]⟩ : ByteArray)),((-1)),jE,H',⟨ye _⟩,⟨jBZ⟩,⟨by (with_reducible repeat first|apply ze|apply zf|apply zg);refine zL (cs:=#[.string (⟨#[]⟩ : ByteArray),.int .i64 0]) ?_ 1 _ rfl;(with_reducible repeat first|apply ze|apply zf|apply zg);refine zL (cs:=#[.string (⟨#[]⟩ : ByteArray),.int .i64 0]) ?_ 0 _ rfl;(with_reducible repeat first|apply ze|apply zf|apply zg);exact BK118.out⟩,⟨jA9⟩⟩
   case round =>
    clear H'
    try clear c1 c2
    try clear p2
    try clear c5 c9 c11
    try clear hcz12_0 hcz12_1
    try clear hcz7_0 hcz7_1
    try clear hcz8_0 hcz8_1
    try clear hfz12_0 hfz12_1
    try clear hfz7_0 hfz7_1
    try clear hfz8_0 hfz8_1
    try clear p2
    obtain ⟨x4_2,x119000_2,x119001_2,rfl,HA,HK2,BK115,BK118,HB⟩:=hrel
    cases gk with
    | zero=>exact absurd HA.out (by simp [F0.l0])
    | succ k2 =>
     have H:=HA.out;clear HA;simp only [F0.l0] at H
     by_cases c13 : x4_2<(l0_0.length : Int)
     ·
      rw [if_pos c13] at H
      have c13b0 : decide (x4_2<(l0_0.length : Int))=true:=decide_eq_true c13;clear c13
      by_cases c14 : 0≤x4_2
      ·
       rw [if_pos c14] at H
       have c14b0 : decide (0≤x4_2)=true:=decide_eq_true c14;clear c14;have HC15:=zh H;clear H;have hnb16:=NB115_118.out;have hnc16:=NB118_115.out;obtain ⟨hcz17_0,hcz17_1,hfz17_0,hfz17_1⟩:=cB2 BK115.out;have p119 : 0≤(x4_2 : Int):=zy jC;have q119 : x4_2<(l0_0.length : Int):=zy jC;obtain ⟨ad119,A119_1,c119_1,e119,hx119_0,hx119_1,hl119_1,hi119_1⟩:=at_T67 HR0_0.out x4_2 p119 q119
       cases e119
       replace hx119_0:=(HB.out.cell (zl w _ hx119_0)).trans hx119_0;replace hx119_1:=(HB.out.cell (zl w _ hx119_1)).trans hx119_1;have HR119_1:=zh hi119_1;have HC119_1:=zh hl119_1;clear hi119_1 hl119_1;replace p119:=eq_true p119;replace q119:=eq_true q119
       go_upto_region 8 with (first|((with_reducible refine zK (N:=5) rfl ?_);(try (refine yy (by rfl) ?_;dsimp only));refine zI ?hg (N:=5) ?hd (cs:=#[.int .i64 0,.slice none 0 0]) (t:=67) ?hr ?_;(case hd=>rfl);(case hg=>rfl);(case hr=>go_simp <;> rfl);intro gb120 hg w18 hbox hb;have BK120:=zh (hbox);have hH_:=cH jA9 hb hg;have GW120:=zh hH_.1;have GE120:=GW120;replace HB:=zh hH_.2;have NB115_120:=zh ((by rw [hg];exact yc (yi (g:=gb115) (o:=.cells #[.slice (some ad119) l0_0.length c0_0,.int .i64 a0_1] 35 (0,0)) jP) : gb115≠gb120));have NB120_115:=zh NB115_120.out.symm;replace BK115:=zh (cD BK115.out jP hb);have NB118_120:=zh ((by rw [hg];exact yc (yi (g:=gb118) (o:=.cells #[.string x119000_2,.int .i64 x119001_2] 51 (0,0)) jU) : gb118≠gb120));have NB120_118:=zh NB118_120.out.symm;replace BK118:=zh (cD BK118.out jU hb);clear hb hbox hg hH_;have hnb19:=NB120_115.out;have hnc19:=NB115_120.out;have hnb20:=NB120_118.out;have hnc20:=NB118_120.out;obtain ⟨hcz21_0,hcz21_1,hfz21_0,hfz21_1⟩:=cB2 BK120.out))
       (try simp only [Act.put,zi,zj,zk])
       go_cut [56] (fun v56 wc => ∃ (kq : Nat) (x56_14 : Bool),v56 = .bool x56_14∧Aside0 (F0.j2 kq x4_2 x56_14 l0_0 a0_1 x119000_2 x119001_2 ((rd_T67 l0_0 x4_2).f0) ((rd_T67 l0_0 x4_2).f1)=some r)∧Aside0 (kq≤k2)∧Aside0 (wc.heap[gb115]? = some (.cells #[(.slice (some ad119) l0_0.length c0_0),.int .i64 a0_1] 35 (0,0)))∧Aside0 (wc.heap[gb118]? = some (.cells #[.string x119000_2,.int .i64 x119001_2] 51 (0,0)))∧Aside0 (wc.heap[gb120]? = some (.cells #[.int .i64 ((rd_T67 l0_0 x4_2).f0),(.slice A119_1 ((rd_T67 l0_0 x4_2).f1).length c119_1)] 67 (0,0)))∧Aside0 (Below w.heap.size w wc))
       case first =>
        have H:=HC15.out;clear HC15;replace H:=zT.mp H;obtain ⟨t121,A220,H⟩:=H;have A22:=zh A220;clear A220
        by_cases c23 : t121=true
        ·
         subst c23
         rw [if_pos rfl] at H
         by_cases c24 : (((rd_T67 l0_0 x4_2).f1).length : Int) > 4
         ·
          rw [if_pos c24] at H
          have c24b0 : decide (4<(((rd_T67 l0_0 x4_2).f1).length : Int))=true:=decide_eq_true c24;have c24b1 : decide (4<((rd_T67 l0_0 x4_2).f1).length)=true:=decide_eq_true jD;clear c24;(first|rw [c24b0]|(simp only [zG,zH];rw [c24b0])|skip);have H':=zh H;clear H;have hnb25:=NB120_115.out;have hnc25:=NB115_120.out;have hnb26:=NB120_118.out;have hnc26:=NB118_120.out;obtain ⟨hcz27_0,hcz27_1,hfz27_0,hfz27_1⟩:=cB2 BK120.out;have hnb28:=NB115_118.out;have hnc28:=NB118_115.out;obtain ⟨hcz29_0,hcz29_1,hfz29_0,hfz29_1⟩:=cB2 BK115.out
          go_wp2_with (first|((with_reducible refine zJ (f:=51) rfl ?_);refine yj (some 37) rfl rfl Try.func51 jA rfl #[.int .i64 ((rd_T67 l0_0 x4_2).f0),.int .i64 1,.int .i64 (wrap64 (a0_1 - 1))] rfl jG ?_;(with_reducible refine (F04.calls  ((rd_T67 l0_0 x4_2).f0) 1 (wrap64 (a0_1 - 1)) true _ A22.out).mono ?_);rintro e w' ⟨rfl,⟨nd,rfl⟩⟩;refine ⟨_,rfl,?_⟩))
          go_meet
          case rel=>exact ⟨_,(true),jE,H',⟨jAY⟩,⟨jAZ⟩,⟨jAb⟩,⟨jAc⟩,⟨jO⟩⟩
         rw [if_neg c24] at H;have c24b0 : decide (4<(((rd_T67 l0_0 x4_2).f1).length : Int))=false:=decide_eq_false c24;have c24b1 : decide (4<((rd_T67 l0_0 x4_2).f1).length)=false:=decide_eq_false jD;clear c24;(first|rw [c24b0]|(simp only [zG,zH];rw [c24b0])|skip)
         by_cases c30 : (((rd_T67 l0_0 x4_2).f1).length : Int)=0
         ·
          rw [if_pos c30] at H
          have c30b0 : ((((rd_T67 l0_0 x4_2).f1).length : Int) == 0)=true:=ya.mpr c30;have c30b1 : ((((rd_T67 l0_0 x4_2).f1).length : Int) != 0)=false:=zX.mpr c30;clear c30;have H':=zh H;clear H;have hnb31:=NB120_115.out;have hnc31:=NB115_120.out;have hnb32:=NB120_118.out;have hnc32:=NB118_120.out;obtain ⟨hcz33_0,hcz33_1,hfz33_0,hfz33_1⟩:=cB2 BK120.out;have hnb34:=NB115_118.out;have hnc34:=NB118_115.out;obtain ⟨hcz35_0,hcz35_1,hfz35_0,hfz35_1⟩:=cB2 BK115.out
          go_wp2_with (first|((with_reducible refine zJ (f:=51) rfl ?_);refine yj (some 37) rfl rfl Try.func51 jA rfl #[.int .i64 ((rd_T67 l0_0 x4_2).f0),.int .i64 1,.int .i64 (wrap64 (a0_1 - 1))] rfl jG ?_;(with_reducible refine (F04.calls  ((rd_T67 l0_0 x4_2).f0) 1 (wrap64 (a0_1 - 1)) true _ A22.out).mono ?_);rintro e w' ⟨rfl,⟨nd,rfl⟩⟩;refine ⟨_,rfl,?_⟩))
          go_meet
          case rel=>exact ⟨_,(decide ((l0_0.length : Int) > 1)),jE,H',⟨jAY⟩,⟨jAZ⟩,⟨jAb⟩,⟨jAc⟩,⟨jO⟩⟩
         rw [if_neg c30] at H;have c30b0 : ((((rd_T67 l0_0 x4_2).f1).length : Int) == 0)=false:=zY.mpr c30;have c30b1 : ((((rd_T67 l0_0 x4_2).f1).length : Int) != 0)=true:=zZ.mpr c30;have c30b2 : ¬ (((rd_T67 l0_0 x4_2).f1)=[]):=fun h_=>c30 (by rw [h_];rfl);have H':=zh H;clear H;have hnb36:=NB120_115.out;have hnc36:=NB115_120.out;have hnb37:=NB120_118.out;have hnc37:=NB118_120.out;obtain ⟨hcz38_0,hcz38_1,hfz38_0,hfz38_1⟩:=cB2 BK120.out;have hnb39:=NB115_118.out;have hnc39:=NB118_115.out;obtain ⟨hcz40_0,hcz40_1,hfz40_0,hfz40_1⟩:=cB2 BK115.out
         go_wp2_with (first|((with_reducible refine zJ (f:=51) rfl ?_);refine yj (some 37) rfl rfl Try.func51 jA rfl #[.int .i64 ((rd_T67 l0_0 x4_2).f0),.int .i64 1,.int .i64 (wrap64 (a0_1 - 1))] rfl jG ?_;(with_reducible refine (F04.calls  ((rd_T67 l0_0 x4_2).f0) 1 (wrap64 (a0_1 - 1)) true _ A22.out).mono ?_);rintro e w' ⟨rfl,⟨nd,rfl⟩⟩;refine ⟨_,rfl,?_⟩))
         go_meet
         case rel=>exact ⟨_,(false),jE,H',⟨jAY⟩,⟨jAZ⟩,⟨jAb⟩,⟨jAc⟩,⟨jO⟩⟩
        replace c23:=yb.mpr c23;subst c23;rw [if_neg (show ¬ (false=true) by decide)] at H;have H':=zh H;clear H;have hnb41:=NB120_115.out;have hnc41:=NB115_120.out;have hnb42:=NB120_118.out;have hnc42:=NB118_120.out;obtain ⟨hcz43_0,hcz43_1,hfz43_0,hfz43_1⟩:=cB2 BK120.out;have hnb44:=NB115_118.out;have hnc44:=NB118_115.out;obtain ⟨hcz45_0,hcz45_1,hfz45_0,hfz45_1⟩:=cB2 BK115.out
        go_wp2_with (first|((with_reducible refine zJ (f:=51) rfl ?_);refine yj (some 37) rfl rfl Try.func51 jA rfl #[.int .i64 ((rd_T67 l0_0 x4_2).f0),.int .i64 1,.int .i64 (wrap64 (a0_1 - 1))] rfl jG ?_;(with_reducible refine (F04.calls  ((rd_T67 l0_0 x4_2).f0) 1 (wrap64 (a0_1 - 1)) false _ A22.out).mono ?_);rintro e w' ⟨rfl,⟨nd,rfl⟩⟩;refine ⟨_,rfl,?_⟩))
        go_meet
        case rel=>exact ⟨_,(true),jE,H',⟨jAY⟩,⟨jAZ⟩,⟨jAb⟩,⟨jAc⟩,⟨jO⟩⟩
       case rest =>
        clear HC15
        try clear c1
        try clear p1
        try clear q1
        try clear hx1
        try clear c2
        try clear p2
        try clear c3 c4 c5
        try clear p6
        try clear c9 c11
        try clear p11
        try clear q11
        try clear hx11
        try clear c13 c13b0 c14 c14b0 c16 c19 c20 c23 c24 c24b0 c24b1 c25 c26 c28 c30 c30b0 c30b1 c30b2 c31 c32 c34 c36 c37 c39 c41 c42 c44
        try clear hcz12_0 hcz12_1
        try clear hcz17_0 hcz17_1
        try clear hcz21_0 hcz21_1
        try clear hcz27_0 hcz27_1
        try clear hcz29_0 hcz29_1
        try clear hcz33_0 hcz33_1
        try clear hcz35_0 hcz35_1
        try clear hcz38_0 hcz38_1
        try clear hcz40_0 hcz40_1
        try clear hcz43_0 hcz43_1
        try clear hcz45_0 hcz45_1
        try clear hcz7_0 hcz7_1
        try clear hcz8_0 hcz8_1
        try clear hfz12_0 hfz12_1
        try clear hfz17_0 hfz17_1
        try clear hfz21_0 hfz21_1
        try clear hfz27_0 hfz27_1
        try clear hfz29_0 hfz29_1
        try clear hfz33_0 hfz33_1
        try clear hfz35_0 hfz35_1
        try clear hfz38_0 hfz38_1
        try clear hfz40_0 hfz40_1
        try clear hfz43_0 hfz43_1
        try clear hfz45_0 hfz45_1
        try clear hfz7_0 hfz7_1
        try clear hfz8_0 hfz8_1
        try clear hx119_0
        try clear hx119_1
        try clear p119
        try clear p2
        try clear q119
        obtain ⟨kq,x56_14,rfl,HA,HJ14,BK115,BK118,BK120,HB⟩:=hcut
        cases kq with
        | zero=>exact absurd HA.out (by simp [F0.j2])
        | succ kj14 =>
         have H:=HA.out;clear HA;simp only [F0.j2] at H
         by_cases c46 : x56_14=true
         ·
          subst c46
          rw [if_pos rfl] at H;obtain rfl:=zU H
          go_wp2
          go_ret
          exact ⟨jH,jO⟩
         replace c46:=yb.mpr c46;subst c46;rw [if_neg (show ¬ (false=true) by decide)] at H;have H':=zh H;clear H
         go_wp2
         go_loopg [6] kj14 (fun kq v6 w' => ∃ (x6_4 : Int),v6 = .int .i64 x6_4∧Aside0 (F0.l1 kq x4_2 x6_4 l0_0 a0_1 x119000_2 x119001_2 ((rd_T67 l0_0 x4_2).f0) ((rd_T67 l0_0 x4_2).f1)=some r)∧Aside0 (kq≤kj14)∧Aside0 (w'.heap[gb115]? = some (.cells #[(.slice (some ad119) l0_0.length c0_0),.int .i64 a0_1] 35 (0,0)))∧Aside0 (w'.heap[gb118]? = some (.cells #[.string x119000_2,.int .i64 x119001_2] 51 (0,0)))∧Aside0 (w'.heap[gb120]? = some (.cells #[.int .i64 ((rd_T67 l0_0 x4_2).f0),(.slice A119_1 ((rd_T67 l0_0 x4_2).f1).length c119_1)] 67 (0,0)))∧Aside0 (Below w.heap.size w w'))
         case atStart=>exact ⟨(0),jE,H',⟨ye _⟩,⟨jP⟩,⟨jU⟩,⟨ji⟩,⟨jO⟩⟩
         case round =>
          clear H'
          try clear c1
          try clear p1
          try clear q1
          try clear hx1
          try clear c2
          try clear p2
          try clear c3 c4 c5
          try clear p6
          try clear c9 c11
          try clear p11
          try clear q11
          try clear hx11
          try clear c13 c13b0 c14 c14b0 c16 c19 c20 c23 c24 c24b0 c24b1 c25 c26 c28 c30 c30b0 c30b1 c30b2 c31 c32 c34 c36 c37 c39 c41 c42 c44 c46
          try clear hcz12_0 hcz12_1
          try clear hcz17_0 hcz17_1
          try clear hcz21_0 hcz21_1
          try clear hcz27_0 hcz27_1
          try clear hcz29_0 hcz29_1
          try clear hcz33_0 hcz33_1
          try clear hcz35_0 hcz35_1
          try clear hcz38_0 hcz38_1
          try clear hcz40_0 hcz40_1
          try clear hcz43_0 hcz43_1
          try clear hcz45_0 hcz45_1
          try clear hcz7_0 hcz7_1
          try clear hcz8_0 hcz8_1
          try clear hfz12_0 hfz12_1
          try clear hfz17_0 hfz17_1
          try clear hfz21_0 hfz21_1
          try clear hfz27_0 hfz27_1
          try clear hfz29_0 hfz29_1
          try clear hfz33_0 hfz33_1
          try clear hfz35_0 hfz35_1
          try clear hfz38_0 hfz38_1
          try clear hfz40_0 hfz40_1
          try clear hfz43_0 hfz43_1
          try clear hfz45_0 hfz45_1
          try clear hfz7_0 hfz7_1
          try clear hfz8_0 hfz8_1
          try clear hx119_0
          try clear hx119_1
          try clear p1
          try clear p11
          try clear p119
          try clear p2
          try clear p6
          try clear q1
          try clear q11
          try clear q119
          obtain ⟨x6_4,rfl,HA,HK4,BK115,BK118,BK120,HB⟩:=hrel
          cases gk with
          | zero=>exact absurd HA.out (by simp [F0.l1])
          | succ k4 =>
           have H:=HA.out;clear HA;simp only [F0.l1] at H
           by_cases c47 : x6_4<x4_2
           ·
            rw [if_pos c47] at H
            have c47b0 : decide (x6_4<x4_2)=true:=decide_eq_true c47;clear c47
            by_cases c48 : 0≤x6_4
            ·
             rw [if_pos c48] at H
             have c48b0 : decide (0≤x6_4)=true:=decide_eq_true c48;clear c48
             by_cases c49 : x6_4<(l0_0.length : Int)
             ·
              rw [if_pos c49] at H
              have c49b0 : decide (x6_4<(l0_0.length : Int))=true:=decide_eq_true c49;clear c49
              by_cases c50 : ((rd_T67 l0_0 x6_4).f0)=((rd_T67 l0_0 x4_2).f0)
              ·
               rw [if_pos c50] at H
               have c50b0 : (((rd_T67 l0_0 x6_4).f0) == ((rd_T67 l0_0 x4_2).f0))=true:=ya.mpr c50;have c50b1 : (((rd_T67 l0_0 x6_4).f0) != ((rd_T67 l0_0 x4_2).f0))=false:=zX.mpr c50;clear c50;obtain rfl:=zU H
               try go_wp2
               replace BK115:=zh (zf BK115.out);replace BK118:=zh (zf BK118.out);replace BK120:=zh (zf BK120.out);replace HB:=zh (zc HB.out);have p122 : 0≤(x6_4 : Int):=zy jC;have q122 : x6_4<(l0_0.length : Int):=zy jC;obtain ⟨ad122,A122_1,c122_1,e122,hx122_0,hx122_1,hl122_1,hi122_1⟩:=at_T67 HR0_0.out x6_4 p122 q122;have hw122_1:=hx122_1;have hw122_0:=hx122_0;obtain rfl : ad119=ad122:=(by injection e122);replace hx122_0:=(HB.out.cell (zl w _ hx122_0)).trans hx122_0;replace hx122_1:=(HB.out.cell (zl w _ hx122_1)).trans hx122_1;have HR122_1:=zh hi122_1;have HC122_1:=zh hl122_1;clear hi122_1 hl122_1;replace p122:=eq_true p122;replace q122:=eq_true q122;refine start_ (n:=9) (S:=fun w' => w'.cell? ⟨gb115,0,none⟩=some (.slice (some ad119) l0_0.length c0_0)∧w'.cell? ⟨gb115,1,none⟩=some (.int .i64 a0_1)∧w'.cell? ⟨gb120,0,none⟩=some (.int .i64 ((rd_T67 l0_0 x4_2).f0))∧w'.cell? ⟨gb120,1,none⟩=some (.slice A119_1 ((rd_T67 l0_0 x4_2).f1).length c119_1)∧w'.cell? (ad119.add ((x6_4).toNat*2))=some (.int .i64 ((rd_T67 l0_0 x6_4).f0))∧w'.cell? ⟨(ad119.add ((x6_4).toNat*2)).block,(ad119.add ((x6_4).toNat*2)).off+1,none⟩=some (.slice A122_1 ((rd_T67 l0_0 x6_4).f1).length c122_1)) (ds:=[]) (bm_ 0 9) jA rfl rfl ⟨(zz BK115.out 0).trans rfl,(zz BK115.out 1).trans rfl,(zz BK120.out 0).trans rfl,(zz BK120.out 1).trans rfl,((HB.out.cell (zl w _ hw122_0)).trans hw122_0),((HB.out.cell (zl w _ hw122_1)).trans hw122_1)⟩ (fun hHeld=>?_);refine with_tabW F0.tab13 F0.bits13 (fun HT_ HW_=>?_);generalize wr.drew=w51 at BK115 BK118 BK120 HB HR122_1 hx122_0 hx122_1 hHeld ⊢;refine pure_ (i:=0) (N:=some 62) (v:=?_) (a':=?_) (bm_ 1 9) rfl rfl (any_of HT_.out jA) (fun _ _ _ h=>h) (Or.inl ⟨by rfl,?_⟩) ?_ ?_;rotate_left;exact jb;rotate_left;exact jc
               refine pure_ (i:=2) (N:=some 64) (v:=?_) (a':=?_) #[true,false,true,false,false,false,false,false,false] rfl rfl (any_of HT_.out jA) (fun _ _ _ h=>h) (Or.inl ⟨by rfl,?_⟩) ?_ ?_;rotate_left;exact jb;rotate_left;exact jc
               refine pure_ (i:=6) (N:=some 68) (v:=?_) (a':=?_) #[true,false,true,false,false,false,true,false,false] rfl rfl (any_of HT_.out jA) (fun _ _ _ h=>h) (Or.inl ⟨by rfl,?_⟩) ?_ ?_;rotate_left;exact jb;rotate_left;exact jc
               refine take_ (i:=1) (N:=some 63) (v:=?_) (a':=?_) #[true,true,true,false,false,false,true,false,false] rfl rfl (yo HT_.out HW_.out jA) (fun _ _ _ h=>h) (Or.inl ⟨by rfl,?_⟩) hHeld ?_ ?_;rotate_left
               ·
                rintro w' ⟨s0,s1,s2,s3,s4,s5⟩
                go_simp
                with_reducible rfl
               rotate_left
               exact jc
               refine pure_ (i:=3) (N:=some 65) (v:=?_) (a':=?_) #[true,true,true,true,false,false,true,false,false] rfl rfl (any_of HT_.out jA) (fun _ _ _ h=>h) (Or.inl ⟨by rfl,?_⟩) ?_ ?_;rotate_left;exact jb;rotate_left;exact jc
               refine pure_ (i:=4) (N:=some 66) (v:=?_) (a':=?_) #[true,true,true,true,true,false,true,false,false] rfl rfl (any_of HT_.out jA) (fun _ _ _ h=>h) (Or.inl ⟨by rfl,?_⟩) ?_ ?_;rotate_left;exact jb;rotate_left;exact jc
               refine take_ (i:=5) (N:=some 67) (v:=?_) (a':=?_) (bm_ 7 9) rfl rfl (yo HT_.out HW_.out jA) (fun _ _ _ h=>h) (Or.inl ⟨by rfl,?_⟩) hHeld ?_ ?_;rotate_left
               ·
                rintro w' ⟨s0,s1,s2,s3,s4,s5⟩
                go_simp
                with_reducible rfl
               rotate_left
               exact jc
               refine take_ (i:=7) (N:=some 69) (v:=?_) (a':=?_) (bm_ 8 9) rfl rfl (yo HT_.out HW_.out jA) (fun _ _ _ h=>h) (Or.inl ⟨by rfl,?_⟩) hHeld ?_ ?_;rotate_left
               ·
                rintro w' ⟨s0,s1,s2,s3,s4,s5⟩
                go_simp
                with_reducible rfl
               rotate_left
               exact jc
               refine pure_ (i:=8) (N:=some 70) (v:=?_) (a':=?_) (bm_ 9 9) rfl rfl (any_of HT_.out jA) (fun _ _ _ h=>h) (Or.inl ⟨by rfl,?_⟩) ?_ ?_;rotate_left;exact jb;rotate_left;exact jc
               refine done_ (done_of HT_.out jA) ?_
               try go_wp2
               go_ret
               exact ⟨jH,jO⟩
              rw [if_neg c50] at H;have c50b0 : (((rd_T67 l0_0 x6_4).f0) == ((rd_T67 l0_0 x4_2).f0))=false:=zY.mpr c50;have c50b1 : (((rd_T67 l0_0 x6_4).f0) != ((rd_T67 l0_0 x4_2).f0))=true:=zZ.mpr c50;have H':=zh H;clear H
              try go_wp2
              replace BK115:=zh (zf BK115.out);replace BK118:=zh (zf BK118.out);replace BK120:=zh (zf BK120.out);replace HB:=zh (zc HB.out);have p122 : 0≤(x6_4 : Int):=zy jC;have q122 : x6_4<(l0_0.length : Int):=zy jC;obtain ⟨ad122,A122_1,c122_1,e122,hx122_0,hx122_1,hl122_1,hi122_1⟩:=at_T67 HR0_0.out x6_4 p122 q122;have hw122_1:=hx122_1;have hw122_0:=hx122_0;obtain rfl : ad119=ad122:=(by injection e122);replace hx122_0:=(HB.out.cell (zl w _ hx122_0)).trans hx122_0;replace hx122_1:=(HB.out.cell (zl w _ hx122_1)).trans hx122_1;have HR122_1:=zh hi122_1;have HC122_1:=zh hl122_1;clear hi122_1 hl122_1;replace p122:=eq_true p122;replace q122:=eq_true q122;refine start_ (n:=9) (S:=fun w' => w'.cell? ⟨gb115,0,none⟩=some (.slice (some ad119) l0_0.length c0_0)∧w'.cell? ⟨gb115,1,none⟩=some (.int .i64 a0_1)∧w'.cell? ⟨gb120,0,none⟩=some (.int .i64 ((rd_T67 l0_0 x4_2).f0))∧w'.cell? ⟨gb120,1,none⟩=some (.slice A119_1 ((rd_T67 l0_0 x4_2).f1).length c119_1)∧w'.cell? (ad119.add ((x6_4).toNat*2))=some (.int .i64 ((rd_T67 l0_0 x6_4).f0))∧w'.cell? ⟨(ad119.add ((x6_4).toNat*2)).block,(ad119.add ((x6_4).toNat*2)).off+1,none⟩=some (.slice A122_1 ((rd_T67 l0_0 x6_4).f1).length c122_1)) (ds:=[]) (bm_ 0 9) jA rfl rfl ⟨(zz BK115.out 0).trans rfl,(zz BK115.out 1).trans rfl,(zz BK120.out 0).trans rfl,(zz BK120.out 1).trans rfl,((HB.out.cell (zl w _ hw122_0)).trans hw122_0),((HB.out.cell (zl w _ hw122_1)).trans hw122_1)⟩ (fun hHeld=>?_);refine with_tabW F0.tab13 F0.bits13 (fun HT_ HW_=>?_);generalize wr.drew=w52 at BK115 BK118 BK120 HB HR122_1 hx122_0 hx122_1 hHeld ⊢;refine pure_ (i:=0) (N:=some 62) (v:=?_) (a':=?_) (bm_ 1 9) rfl rfl (any_of HT_.out jA) (fun _ _ _ h=>h) (Or.inl ⟨by rfl,?_⟩) ?_ ?_;rotate_left;exact jb;rotate_left;exact jc
              refine pure_ (i:=2) (N:=some 64) (v:=?_) (a':=?_) #[true,false,true,false,false,false,false,false,false] rfl rfl (any_of HT_.out jA) (fun _ _ _ h=>h) (Or.inl ⟨by rfl,?_⟩) ?_ ?_;rotate_left;exact jb;rotate_left;exact jc
              refine pure_ (i:=6) (N:=some 68) (v:=?_) (a':=?_) #[true,false,true,false,false,false,true,false,false] rfl rfl (any_of HT_.out jA) (fun _ _ _ h=>h) (Or.inl ⟨by rfl,?_⟩) ?_ ?_;rotate_left;exact jb;rotate_left;exact jc
              refine take_ (i:=1) (N:=some 63) (v:=?_) (a':=?_) #[true,true,true,false,false,false,true,false,false] rfl rfl (yo HT_.out HW_.out jA) (fun _ _ _ h=>h) (Or.inl ⟨by rfl,?_⟩) hHeld ?_ ?_;rotate_left
              ·
               rintro w' ⟨s0,s1,s2,s3,s4,s5⟩
               go_simp
               with_reducible rfl
              rotate_left
              exact jc
              refine pure_ (i:=3) (N:=some 65) (v:=?_) (a':=?_) #[true,true,true,true,false,false,true,false,false] rfl rfl (any_of HT_.out jA) (fun _ _ _ h=>h) (Or.inl ⟨by rfl,?_⟩) ?_ ?_;rotate_left;exact jb;rotate_left;exact jc
              refine pure_ (i:=4) (N:=some 66) (v:=?_) (a':=?_) #[true,true,true,true,true,false,true,false,false] rfl rfl (any_of HT_.out jA) (fun _ _ _ h=>h) (Or.inl ⟨by rfl,?_⟩) ?_ ?_;rotate_left;exact jb;rotate_left;exact jc
              refine take_ (i:=5) (N:=some 67) (v:=?_) (a':=?_) (bm_ 7 9) rfl rfl (yo HT_.out HW_.out jA) (fun _ _ _ h=>h) (Or.inl ⟨by rfl,?_⟩) hHeld ?_ ?_;rotate_left
              ·
               rintro w' ⟨s0,s1,s2,s3,s4,s5⟩
               go_simp
               with_reducible rfl
              rotate_left
              exact jc
              refine take_ (i:=7) (N:=some 69) (v:=?_) (a':=?_) (bm_ 8 9) rfl rfl (yo HT_.out HW_.out jA) (fun _ _ _ h=>h) (Or.inl ⟨by rfl,?_⟩) hHeld ?_ ?_;rotate_left
              ·
               rintro w' ⟨s0,s1,s2,s3,s4,s5⟩
               go_simp
               with_reducible rfl
              rotate_left
              exact jc
              refine pure_ (i:=8) (N:=some 70) (v:=?_) (a':=?_) (bm_ 9 9) rfl rfl (any_of HT_.out jA) (fun _ _ _ h=>h) (Or.inl ⟨by rfl,?_⟩) ?_ ?_;rotate_left;exact jb;rotate_left;exact jc
              refine done_ (done_of HT_.out jA) ?_
              try go_wp2
              go_roundg k4
              case measure=>have:=HJ1.out;have:=HK2.out;have:=HJ14.out;have:=HK4.out;omega
              case rel=>exact ⟨(wrap64 (x6_4+1)),jE,H',⟨by have:=HJ1.out;have:=HK2.out;have:=HJ14.out;have:=HK4.out;omega⟩,⟨jP⟩,⟨jU⟩,⟨ji⟩,⟨jO⟩⟩
             rw [if_neg c49] at H;exact absurd H (by simp)
            rw [if_neg c48] at H;exact absurd H (by simp)
           rw [if_neg c47] at H;have c47b0 : decide (x6_4<x4_2)=false:=decide_eq_false c47;clear c47;have H':=zh H;clear H
           go_wp2
           go_loopg [7] k4 (fun kq v7 w' => ∃ (x7_5 : Int) (x119000_5 : ByteArray) (x119001_5 : Int),v7 = .int .i64 x7_5∧Aside0 (F0.l2 kq x4_2 x7_5 l0_0 a0_1 x119000_5 x119001_5 ((rd_T67 l0_0 x4_2).f0) ((rd_T67 l0_0 x4_2).f1)=some r)∧Aside0 (kq≤k4)∧Aside0 (w'.heap[gb115]? = some (.cells #[(.slice (some ad119) l0_0.length c0_0),.int .i64 a0_1] 35 (0,0)))∧Aside0 (w'.heap[gb118]? = some (.cells #[.string x119000_5,.int .i64 x119001_5] 51 (0,0)))∧Aside0 (w'.heap[gb120]? = some (.cells #[.int .i64 ((rd_T67 l0_0 x4_2).f0),(.slice A119_1 ((rd_T67 l0_0 x4_2).f1).length c119_1)] 67 (0,0)))∧Aside0 (Below w.heap.size w w'))
           case atStart=>exact ⟨(0),(x119000_2),(x119001_2),jE,H',⟨ye _⟩,⟨jP⟩,⟨jU⟩,⟨ji⟩,⟨jO⟩⟩
           case round =>
            clear H'
            try clear c1
            try clear p1
            try clear q1
            try clear hx1
            try clear c2
            try clear p2
            try clear c3 c4 c5
            try clear p6
            try clear c9 c11
            try clear p11
            try clear q11
            try clear hx11
            try clear c12
            try clear p12
            try clear q12
            try clear hx12
            try clear c13 c13b0 c14 c14b0 c16 c19 c20 c23 c24 c24b0 c24b1 c25 c26 c28 c30 c30b0 c30b1 c30b2 c31 c32 c34 c36 c37 c39 c41 c42 c44 c46 c47 c47b0 c48 c48b0 c49 c49b0 c50 c50b0 c50b1 c51
            try clear hcz12_0 hcz12_1
            try clear hcz17_0 hcz17_1
            try clear hcz21_0 hcz21_1
            try clear hcz27_0 hcz27_1
            try clear hcz29_0 hcz29_1
            try clear hcz33_0 hcz33_1
            try clear hcz35_0 hcz35_1
            try clear hcz38_0 hcz38_1
            try clear hcz40_0 hcz40_1
            try clear hcz43_0 hcz43_1
            try clear hcz45_0 hcz45_1
            try clear hcz7_0 hcz7_1
            try clear hcz8_0 hcz8_1
            try clear hfz12_0 hfz12_1
            try clear hfz17_0 hfz17_1
            try clear hfz21_0 hfz21_1
            try clear hfz27_0 hfz27_1
            try clear hfz29_0 hfz29_1
            try clear hfz33_0 hfz33_1
            try clear hfz35_0 hfz35_1
            try clear hfz38_0 hfz38_1
            try clear hfz40_0 hfz40_1
            try clear hfz43_0 hfz43_1
            try clear hfz45_0 hfz45_1
            try clear hfz7_0 hfz7_1
            try clear hfz8_0 hfz8_1
            try clear hx119_0
            try clear hx119_1
            try clear hx122_0
            try clear hx122_1
            try clear p1
            try clear p11
            try clear p119
            try clear p122
            try clear p2
            try clear p6
            try clear q1
            try clear q11
            try clear q119
            try clear q122
            obtain ⟨x7_5,x119000_5,x119001_5,rfl,HA,HK5,BK115,BK118,BK120,HB⟩:=hrel
            cases gk with
            | zero=>exact absurd HA.out (by simp [F0.l2])
            | succ k5 =>
             have H:=HA.out;clear HA;simp only [F0.l2] at H
             by_cases c53 : x7_5<(((rd_T67 l0_0 x4_2).f1).length : Int)
             ·
              rw [if_pos c53] at H
              have c53b0 : decide (x7_5<(((rd_T67 l0_0 x4_2).f1).length : Int))=true:=decide_eq_true c53;clear c53
              by_cases c54 : 0≤x7_5
              ·
               rw [if_pos c54] at H
               have c54b0 : decide (0≤x7_5)=true:=decide_eq_true c54;clear c54;replace H:=zT.mp H;obtain ⟨t124,A550,H⟩:=H;have A55:=zh A550;clear A550
               by_cases c56 : t124=true
               ·
                subst c56
                rw [if_pos rfl] at H;replace H:=zT.mp H;obtain ⟨t126,A570,H⟩:=H;have A57:=zh A570;clear A570
                by_cases c58 : t126=true
                ·
                 subst c58
                 rw [if_pos rfl] at H;have H':=zh H;clear H;have hnb59:=NB120_115.out;have hnc59:=NB115_120.out;have hnb60:=NB120_118.out;have hnc60:=NB118_120.out;obtain ⟨hcz61_0,hcz61_1,hfz61_0,hfz61_1⟩:=cB2 BK120.out
                 try go_wp2
                 replace BK115:=zh (zf BK115.out);replace BK118:=zh (zf BK118.out);replace BK120:=zh (zf BK120.out);replace HB:=zh (zc HB.out);have p123 : 0≤(x7_5 : Int):=zy jC;have q123 : x7_5<(((rd_T67 l0_0 x4_2).f1).length : Int):=zy jC;obtain ⟨ad123,e123,hx123_0,hx123_1⟩:=at_T51 HR119_1.out x7_5 p123 q123;have hw123_1:=hx123_1;have hw123_0:=hx123_0
                 cases e123
                 replace hx123_0:=(HB.out.cell (zl w _ hx123_0)).trans hx123_0;replace hx123_1:=(HB.out.cell (zl w _ hx123_1)).trans hx123_1;replace p123:=eq_true p123;replace q123:=eq_true q123;have p125 : 0≤(x7_5 : Int):=zy jC;have q125 : x7_5<(((rd_T67 l0_0 x4_2).f1).length : Int):=zy jC;obtain ⟨ad125,e125,hx125_0,hx125_1⟩:=at_T51 HR119_1.out x7_5 p125 q125;have hw125_1:=hx125_1;have hw125_0:=hx125_0;obtain rfl : ad123=ad125:=(by injection e125);replace hx125_0:=(HB.out.cell (zl w _ hx125_0)).trans hx125_0;replace hx125_1:=(HB.out.cell (zl w _ hx125_1)).trans hx125_1;replace p125:=eq_true p125;replace q125:=eq_true q125;refine start_ (n:=17) (S:=fun w' => w'.cell? ⟨gb120,0,none⟩=some (.int .i64 ((rd_T67 l0_0 x4_2).f0))∧w'.cell? ⟨gb120,1,none⟩=some (.slice (some ad123) ((rd_T67 l0_0 x4_2).f1).length c119_1)∧w'.cell? ⟨gb118,0,none⟩=some (.string x119000_5)∧w'.cell? ⟨gb118,1,none⟩=some (.int .i64 x119001_5)∧w'.cell? (ad123.add ((x7_5).toNat*2))=some (.string ((rd_T51 ((rd_T67 l0_0 x4_2).f1) x7_5).f0))∧w'.cell? ⟨(ad123.add ((x7_5).toNat*2)).block,(ad123.add ((x7_5).toNat*2)).off+1,none⟩=some (.int .i64 ((rd_T51 ((rd_T67 l0_0 x4_2).f1) x7_5).f1))∧w'.cell? (ad123.add ((x7_5).toNat*2))=some (.string ((rd_T51 ((rd_T67 l0_0 x4_2).f1) x7_5).f0))∧w'.cell? ⟨(ad123.add ((x7_5).toNat*2)).block,(ad123.add ((x7_5).toNat*2)).off+1,none⟩=some (.int .i64 ((rd_T51 ((rd_T67 l0_0 x4_2).f1) x7_5).f1))) (ds:=[]) (bm_ 0 17) jA rfl rfl ⟨(zz BK120.out 0).trans rfl,(zz BK120.out 1).trans rfl,(zz BK118.out 0).trans rfl,(zz BK118.out 1).trans rfl,((HB.out.cell (zl w _ hw123_0)).trans hw123_0),((HB.out.cell (zl w _ hw123_1)).trans hw123_1),((HB.out.cell (zl w _ hw125_0)).trans hw125_0),((HB.out.cell (zl w _ hw125_1)).trans hw125_1)⟩ (fun hHeld=>?_);refine with_tabW F0.tab18 F0.bits18 (fun HT_ HW_=>?_);generalize wr.drew=w62 at BK115 BK118 BK120 HB hx123_0 hx123_1 hx125_0 hx125_1 hHeld ⊢;refine pure_ (i:=0) (N:=some 78) (v:=?_) (a':=?_) (bm_ 1 17) rfl rfl (any_of HT_.out jA) (fun _ _ _ h=>h) (Or.inl ⟨by rfl,?_⟩) ?_ ?_;rotate_left;exact jb;rotate_left;exact jc
                 refine pure_ (i:=2) (N:=some 80) (v:=?_) (a':=?_) #[true,false,true,false,false,false,false,false,false,false,false,false,false,false,false,false,false] rfl rfl (any_of HT_.out jA) (fun _ _ _ h=>h) (Or.inl ⟨by rfl,?_⟩) ?_ ?_;rotate_left;exact jb;rotate_left;exact jc
                 refine take_ (i:=1) (N:=some 79) (v:=?_) (a':=?_) (bm_ 3 17) rfl rfl (yo HT_.out HW_.out jA) (fun _ _ _ h=>h) (Or.inl ⟨by rfl,?_⟩) hHeld ?_ ?_;rotate_left
                 ·
                  rintro w' ⟨s0,s1,s2,s3,s4,s5,s6,s7⟩
                  go_simp
                  with_reducible rfl
                 rotate_left
                 exact jc
                 refine pure_ (i:=3) (N:=some 81) (v:=?_) (a':=?_) (bm_ 4 17) rfl rfl (any_of HT_.out jA) (fun _ _ _ h=>h) (Or.inl ⟨by rfl,?_⟩) ?_ ?_;rotate_left;exact jb;rotate_left;exact jc
                 refine take_ (i:=4) (N:=some 82) (v:=?_) (a':=?_) (bm_ 5 17) rfl rfl (yo HT_.out HW_.out jA) (fun _ _ _ h=>h) (Or.inl ⟨by rfl,?_⟩) hHeld ?_ ?_;rotate_left
                 ·
                  rintro w' ⟨s0,s1,s2,s3,s4,s5,s6,s7⟩
                  go_simp
                  with_reducible rfl
                 rotate_left
                 exact jc
                 refine one_ (i:=5) (N:=some 83) (bm_ 6 17) rfl rfl (one_of HT_.out jA) jB (fun K hK=>?_);refine goes_ Try.func41 jA rfl #[.agg #[.string ((rd_T51 ((rd_T67 l0_0 x4_2).f1) x7_5).f0),.int .i64 ((rd_T51 ((rd_T67 l0_0 x4_2).f1) x7_5).f1)]] (by rfl) rfl rfl jG ?_
                 with_reducible refine (F0c.calls  ((rd_T51 ((rd_T67 l0_0 x4_2).f1) x7_5).f0) ((rd_T51 ((rd_T67 l0_0 x4_2).f1) x7_5).f1) true _ A55.out).mono ?_
                 rintro e w63 ⟨rfl,hb⟩;refine ⟨_,rfl,?_⟩;replace BK115:=zh (cD BK115.out jP hb);replace BK118:=zh (cD BK118.out jU hb);replace BK120:=zh (cD BK120.out ji hb);replace HB:=zh (zC jO hb);(try clear hb);(try clear hb2);(try clear hk);(try clear hi);refine hK.out _ _ ⟨(zz BK120.out 0).trans rfl,(zz BK120.out 1).trans rfl,(zz BK118.out 0).trans rfl,(zz BK118.out 1).trans rfl,((HB.out.cell (zl w _ hw123_0)).trans hw123_0),((HB.out.cell (zl w _ hw123_1)).trans hw123_1),((HB.out.cell (zl w _ hw125_0)).trans hw125_0),((HB.out.cell (zl w _ hw125_1)).trans hw125_1)⟩ (fun hHeld=>?_);clear hK K;refine norm_ (a':=?_) ?_ ?_;rotate_left
                 ·
                  show Act.put _ (some 83) _=_
                  simp only [Act.put,zi,zj,zk,zG,zH]
                  rfl
                 refine pure_ (i:=6) (N:=some 84) (v:=?_) (a':=?_) (bm_ 7 17) rfl rfl (any_of HT_.out jA) (fun _ _ _ h=>h) (Or.inl ⟨by rfl,?_⟩) ?_ ?_;rotate_left;exact jb;rotate_left;exact jc
                 refine pure_ (i:=7) (N:=some 85) (v:=?_) (a':=?_) (bm_ 8 17) rfl rfl (any_of HT_.out jA) (fun _ _ _ h=>h) (Or.inl ⟨by rfl,?_⟩) ?_ ?_;rotate_left;exact jb;rotate_left;exact jc
                 refine pure_ (i:=9) (N:=some 87) (v:=?_) (a':=?_) #[true,true,true,true,true,true,true,true,false,true,false,false,false,false,false,false,false] rfl rfl (any_of HT_.out jA) (fun _ _ _ h=>h) (Or.inl ⟨by rfl,?_⟩) ?_ ?_;rotate_left;exact jb;rotate_left;exact jc
                 refine pure_ (i:=11) (N:=some 89) (v:=?_) (a':=?_) #[true,true,true,true,true,true,true,true,false,true,false,true,false,false,false,false,false] rfl rfl (any_of HT_.out jA) (fun _ _ _ h=>h) (Or.inl ⟨by rfl,?_⟩) ?_ ?_;rotate_left;exact jb;rotate_left;exact jc
                 refine take_ (i:=8) (N:=some 86) (v:=?_) (a':=?_) #[true,true,true,true,true,true,true,true,true,true,false,true,false,false,false,false,false] rfl rfl (yo HT_.out HW_.out jA) (fun _ _ _ h=>h) (Or.inl ⟨by rfl,?_⟩) hHeld ?_ ?_;rotate_left
                 ·
                  rintro w' ⟨s0,s1,s2,s3,s4,s5,s6,s7⟩
                  go_simp
                  with_reducible rfl
                 rotate_left
                 exact jc
                 refine take_ (i:=10) (N:=some 88) (v:=?_) (a':=?_) (bm_ 12 17) rfl rfl (yo HT_.out HW_.out jA) (fun _ _ _ h=>h) (Or.inl ⟨by rfl,?_⟩) hHeld ?_ ?_;rotate_left
                 ·
                  rintro w' ⟨s0,s1,s2,s3,s4,s5,s6,s7⟩
                  go_simp
                  with_reducible rfl
                 rotate_left
                 exact jc
                 refine pure_ (i:=12) (N:=some 90) (v:=?_) (a':=?_) (bm_ 13 17) rfl rfl (any_of HT_.out jA) (fun _ _ _ h=>h) (Or.inl ⟨by rfl,?_⟩) ?_ ?_;rotate_left;exact jb;rotate_left;exact jc
                 refine take_ (i:=13) (N:=some 91) (v:=?_) (a':=?_) (bm_ 14 17) rfl rfl (yo HT_.out HW_.out jA) (fun _ _ _ h=>h) (Or.inl ⟨by rfl,?_⟩) hHeld ?_ ?_;rotate_left
                 ·
                  rintro w' ⟨s0,s1,s2,s3,s4,s5,s6,s7⟩
                  go_simp
                  with_reducible rfl
                 rotate_left
                 exact jc
                 refine one_ (i:=14) (N:=some 92) (bm_ 15 17) rfl rfl (one_of HT_.out jA) jB (fun K hK=>?_);refine goes_ Try.func52 jA rfl #[.agg #[.string x119000_5,.int .i64 x119001_5],.agg #[.string ((rd_T51 ((rd_T67 l0_0 x4_2).f1) x7_5).f0),.int .i64 ((rd_T51 ((rd_T67 l0_0 x4_2).f1) x7_5).f1)]] (by rfl) rfl rfl jG ?_
                 with_reducible refine (F0d.calls  x119000_5 x119001_5 ((rd_T51 ((rd_T67 l0_0 x4_2).f1) x7_5).f0) ((rd_T51 ((rd_T67 l0_0 x4_2).f1) x7_5).f1) true _ A57.out).mono ?_
                 rintro e w64 ⟨rfl,hb⟩;refine ⟨_,rfl,?_⟩;replace BK115:=zh (cD BK115.out jP hb);replace BK118:=zh (cD BK118.out jU hb);replace BK120:=zh (cD BK120.out ji hb);replace HB:=zh (zC jO hb);(try clear hb);(try clear hb2);(try clear hk);(try clear hi);refine hK.out _ _ ⟨(zz BK120.out 0).trans rfl,(zz BK120.out 1).trans rfl,(zz BK118.out 0).trans rfl,(zz BK118.out 1).trans rfl,((HB.out.cell (zl w _ hw123_0)).trans hw123_0),((HB.out.cell (zl w _ hw123_1)).trans hw123_1),((HB.out.cell (zl w _ hw125_0)).trans hw125_0),((HB.out.cell (zl w _ hw125_1)).trans hw125_1)⟩ (fun hHeld=>?_);clear hK K;refine norm_ (a':=?_) ?_ ?_;rotate_left
                 ·
                  show Act.put _ (some 92) _=_
                  simp only [Act.put,zi,zj,zk,zG,zH]
                  rfl
                 refine pure_ (i:=15) (N:=some 93) (v:=?_) (a':=?_) (bm_ 16 17) rfl rfl (any_of HT_.out jA) (fun _ _ _ h=>h) (Or.inl ⟨by rfl,?_⟩) ?_ ?_;rotate_left;exact jb;rotate_left;exact jc
                 refine pure_ (i:=16) (N:=some 94) (v:=?_) (a':=?_) (bm_ 17 17) rfl rfl (any_of HT_.out jA) (fun _ _ _ h=>h) (Or.inl ⟨by rfl,?_⟩) ?_ ?_;rotate_left;exact jb;rotate_left;exact jc
                 refine done_ (done_of HT_.out jA) ?_;obtain ⟨hcz65_0,hcz65_1,hfz65_0,hfz65_1⟩:=cB2 BK120.out;have p127 : 0≤(x7_5 : Int):=zy jC;have q127 : x7_5<(((rd_T67 l0_0 x4_2).f1).length : Int):=zy jC;obtain ⟨ad127,e127,hx127_0,hx127_1⟩:=at_T51 HR119_1.out x7_5 p127 q127;obtain rfl : ad123=ad127:=(by injection e127);replace hx127_0:=(HB.out.cell (zl w _ hx127_0)).trans hx127_0;replace hx127_1:=(HB.out.cell (zl w _ hx127_1)).trans hx127_1;replace p127:=eq_true p127;replace q127:=eq_true q127;have hnb66:=NB118_115.out;have hnc66:=NB115_118.out;obtain ⟨hcz67_0,hcz67_1,hfz67_0,hfz67_1⟩:=cB2 BK118.out
                 try go_wp2
                 go_roundg k5
                 case measure=>have:=HJ1.out;have:=HK2.out;have:=HJ14.out;have:=HK4.out;have:=HK5.out;omega
                 case rel=>exact ⟨(wrap64 (x7_5+1)),((rd_T51 ((rd_T67 l0_0 x4_2).f1) x7_5).f0),((rd_T51 ((rd_T67 l0_0 x4_2).f1) x7_5).f1),jE,H',⟨jBb⟩,⟨jBZ⟩,⟨by (with_reducible repeat first|apply ze|apply zf|apply zg);refine zL (cs:=#[.string ((rd_T51 ((rd_T67 l0_0 x4_2).f1) x7_5).f0),.int .i64 x119001_5]) ?_ 1 _ rfl;(with_reducible repeat first|apply ze|apply zf|apply zg);refine zL (cs:=#[.string x119000_5,.int .i64 x119001_5]) ?_ 0 _ rfl;(with_reducible repeat first|apply ze|apply zf|apply zg);exact BK118.out⟩,⟨by (with_reducible repeat first|apply ze|apply zf|apply zg);refine cS2 ?_ NB120_118.out;(with_reducible repeat first|apply ze|apply zf|apply zg);exact BK120.out⟩,⟨jO⟩⟩
                replace c58:=yb.mpr c58;subst c58;rw [if_neg (show ¬ (false=true) by decide)] at H;obtain rfl:=zU H;have hnb68:=NB120_115.out;have hnc68:=NB115_120.out;have hnb69:=NB120_118.out;have hnc69:=NB118_120.out;obtain ⟨hcz70_0,hcz70_1,hfz70_0,hfz70_1⟩:=cB2 BK120.out
                try go_wp2
                replace BK115:=zh (zf BK115.out);replace BK118:=zh (zf BK118.out);replace BK120:=zh (zf BK120.out);replace HB:=zh (zc HB.out);have p123 : 0≤(x7_5 : Int):=zy jC;have q123 : x7_5<(((rd_T67 l0_0 x4_2).f1).length : Int):=zy jC;obtain ⟨ad123,e123,hx123_0,hx123_1⟩:=at_T51 HR119_1.out x7_5 p123 q123;have hw123_1:=hx123_1;have hw123_0:=hx123_0
                cases e123
                replace hx123_0:=(HB.out.cell (zl w _ hx123_0)).trans hx123_0;replace hx123_1:=(HB.out.cell (zl w _ hx123_1)).trans hx123_1;replace p123:=eq_true p123;replace q123:=eq_true q123;have p125 : 0≤(x7_5 : Int):=zy jC;have q125 : x7_5<(((rd_T67 l0_0 x4_2).f1).length : Int):=zy jC;obtain ⟨ad125,e125,hx125_0,hx125_1⟩:=at_T51 HR119_1.out x7_5 p125 q125;have hw125_1:=hx125_1;have hw125_0:=hx125_0;obtain rfl : ad123=ad125:=(by injection e125);replace hx125_0:=(HB.out.cell (zl w _ hx125_0)).trans hx125_0;replace hx125_1:=(HB.out.cell (zl w _ hx125_1)).trans hx125_1;replace p125:=eq_true p125;replace q125:=eq_true q125;refine start_ (n:=17) (S:=fun w' => w'.cell? ⟨gb120,0,none⟩=some (.int .i64 ((rd_T67 l0_0 x4_2).f0))∧w'.cell? ⟨gb120,1,none⟩=some (.slice (some ad123) ((rd_T67 l0_0 x4_2).f1).length c119_1)∧w'.cell? ⟨gb118,0,none⟩=some (.string x119000_5)∧w'.cell? ⟨gb118,1,none⟩=some (.int .i64 x119001_5)∧w'.cell? (ad123.add ((x7_5).toNat*2))=some (.string ((rd_T51 ((rd_T67 l0_0 x4_2).f1) x7_5).f0))∧w'.cell? ⟨(ad123.add ((x7_5).toNat*2)).block,(ad123.add ((x7_5).toNat*2)).off+1,none⟩=some (.int .i64 ((rd_T51 ((rd_T67 l0_0 x4_2).f1) x7_5).f1))∧w'.cell? (ad123.add ((x7_5).toNat*2))=some (.string ((rd_T51 ((rd_T67 l0_0 x4_2).f1) x7_5).f0))∧w'.cell? ⟨(ad123.add ((x7_5).toNat*2)).block,(ad123.add ((x7_5).toNat*2)).off+1,none⟩=some (.int .i64 ((rd_T51 ((rd_T67 l0_0 x4_2).f1) x7_5).f1))) (ds:=[]) (bm_ 0 17) jA rfl rfl ⟨(zz BK120.out 0).trans rfl,(zz BK120.out 1).trans rfl,(zz BK118.out 0).trans rfl,(zz BK118.out 1).trans rfl,((HB.out.cell (zl w _ hw123_0)).trans hw123_0),((HB.out.cell (zl w _ hw123_1)).trans hw123_1),((HB.out.cell (zl w _ hw125_0)).trans hw125_0),((HB.out.cell (zl w _ hw125_1)).trans hw125_1)⟩ (fun hHeld=>?_);refine with_tabW F0.tab18 F0.bits18 (fun HT_ HW_=>?_);generalize wr.drew=w71 at BK115 BK118 BK120 HB hx123_0 hx123_1 hx125_0 hx125_1 hHeld ⊢;refine pure_ (i:=0) (N:=some 78) (v:=?_) (a':=?_) (bm_ 1 17) rfl rfl (any_of HT_.out jA) (fun _ _ _ h=>h) (Or.inl ⟨by rfl,?_⟩) ?_ ?_;rotate_left;exact jb;rotate_left;exact jc
                refine pure_ (i:=2) (N:=some 80) (v:=?_) (a':=?_) #[true,false,true,false,false,false,false,false,false,false,false,false,false,false,false,false,false] rfl rfl (any_of HT_.out jA) (fun _ _ _ h=>h) (Or.inl ⟨by rfl,?_⟩) ?_ ?_;rotate_left;exact jb;rotate_left;exact jc
                refine take_ (i:=1) (N:=some 79) (v:=?_) (a':=?_) (bm_ 3 17) rfl rfl (yo HT_.out HW_.out jA) (fun _ _ _ h=>h) (Or.inl ⟨by rfl,?_⟩) hHeld ?_ ?_;rotate_left
                ·
                 rintro w' ⟨s0,s1,s2,s3,s4,s5,s6,s7⟩
                 go_simp
                 with_reducible rfl
                rotate_left
                exact jc
                refine pure_ (i:=3) (N:=some 81) (v:=?_) (a':=?_) (bm_ 4 17) rfl rfl (any_of HT_.out jA) (fun _ _ _ h=>h) (Or.inl ⟨by rfl,?_⟩) ?_ ?_;rotate_left;exact jb;rotate_left;exact jc
                refine take_ (i:=4) (N:=some 82) (v:=?_) (a':=?_) (bm_ 5 17) rfl rfl (yo HT_.out HW_.out jA) (fun _ _ _ h=>h) (Or.inl ⟨by rfl,?_⟩) hHeld ?_ ?_;rotate_left
                ·
                 rintro w' ⟨s0,s1,s2,s3,s4,s5,s6,s7⟩
                 go_simp
                 with_reducible rfl
                rotate_left
                exact jc
                refine one_ (i:=5) (N:=some 83) (bm_ 6 17) rfl rfl (one_of HT_.out jA) jB (fun K hK=>?_);refine goes_ Try.func41 jA rfl #[.agg #[.string ((rd_T51 ((rd_T67 l0_0 x4_2).f1) x7_5).f0),.int .i64 ((rd_T51 ((rd_T67 l0_0 x4_2).f1) x7_5).f1)]] (by rfl) rfl rfl jG ?_
                with_reducible refine (F0c.calls  ((rd_T51 ((rd_T67 l0_0 x4_2).f1) x7_5).f0) ((rd_T51 ((rd_T67 l0_0 x4_2).f1) x7_5).f1) true _ A55.out).mono ?_
                rintro e w72 ⟨rfl,hb⟩;refine ⟨_,rfl,?_⟩;replace BK115:=zh (cD BK115.out jP hb);replace BK118:=zh (cD BK118.out jU hb);replace BK120:=zh (cD BK120.out ji hb);replace HB:=zh (zC jO hb);(try clear hb);(try clear hb2);(try clear hk);(try clear hi);refine hK.out _ _ ⟨(zz BK120.out 0).trans rfl,(zz BK120.out 1).trans rfl,(zz BK118.out 0).trans rfl,(zz BK118.out 1).trans rfl,((HB.out.cell (zl w _ hw123_0)).trans hw123_0),((HB.out.cell (zl w _ hw123_1)).trans hw123_1),((HB.out.cell (zl w _ hw125_0)).trans hw125_0),((HB.out.cell (zl w _ hw125_1)).trans hw125_1)⟩ (fun hHeld=>?_);clear hK K;refine norm_ (a':=?_) ?_ ?_;rotate_left
                ·
                 show Act.put _ (some 83) _=_
                 simp only [Act.put,zi,zj,zk,zG,zH]
                 rfl
                refine pure_ (i:=6) (N:=some 84) (v:=?_) (a':=?_) (bm_ 7 17) rfl rfl (any_of HT_.out jA) (fun _ _ _ h=>h) (Or.inl ⟨by rfl,?_⟩) ?_ ?_;rotate_left;exact jb;rotate_left;exact jc
                refine pure_ (i:=7) (N:=some 85) (v:=?_) (a':=?_) (bm_ 8 17) rfl rfl (any_of HT_.out jA) (fun _ _ _ h=>h) (Or.inl ⟨by rfl,?_⟩) ?_ ?_;rotate_left;exact jb;rotate_left;exact jc
                refine pure_ (i:=9) (N:=some 87) (v:=?_) (a':=?_) #[true,true,true,true,true,true,true,true,false,true,false,false,false,false,false,false,false] rfl rfl (any_of HT_.out jA) (fun _ _ _ h=>h) (Or.inl ⟨by rfl,?_⟩) ?_ ?_;rotate_left;exact jb;rotate_left;exact jc
                refine pure_ (i:=11) (N:=some 89) (v:=?_) (a':=?_) #[true,true,true,true,true,true,true,true,false,true,false,true,false,false,false,false,false] rfl rfl (any_of HT_.out jA) (fun _ _ _ h=>h) (Or.inl ⟨by rfl,?_⟩) ?_ ?_;rotate_left;exact jb;rotate_left;exact jc
                refine take_ (i:=8) (N:=some 86) (v:=?_) (a':=?_) #[true,true,true,true,true,true,true,true,true,true,false,true,false,false,false,false,false] rfl rfl (yo HT_.out HW_.out jA) (fun _ _ _ h=>h) (Or.inl ⟨by rfl,?_⟩) hHeld ?_ ?_;rotate_left
                ·
                 rintro w' ⟨s0,s1,s2,s3,s4,s5,s6,s7⟩
                 go_simp
                 with_reducible rfl
                rotate_left
                exact jc
                refine take_ (i:=10) (N:=some 88) (v:=?_) (a':=?_) (bm_ 12 17) rfl rfl (yo HT_.out HW_.out jA) (fun _ _ _ h=>h) (Or.inl ⟨by rfl,?_⟩) hHeld ?_ ?_;rotate_left
                ·
                 rintro w' ⟨s0,s1,s2,s3,s4,s5,s6,s7⟩
                 go_simp
                 with_reducible rfl
                rotate_left
                exact jc
                refine pure_ (i:=12) (N:=some 90) (v:=?_) (a':=?_) (bm_ 13 17) rfl rfl (any_of HT_.out jA) (fun _ _ _ h=>h) (Or.inl ⟨by rfl,?_⟩) ?_ ?_;rotate_left;exact jb;rotate_left;exact jc
                refine take_ (i:=13) (N:=some 91) (v:=?_) (a':=?_) (bm_ 14 17) rfl rfl (yo HT_.out HW_.out jA) (fun _ _ _ h=>h) (Or.inl ⟨by rfl,?_⟩) hHeld ?_ ?_;rotate_left
                ·
                 rintro w' ⟨s0,s1,s2,s3,s4,s5,s6,s7⟩
                 go_simp
                 with_reducible rfl
                rotate_left
                exact jc
                refine one_ (i:=14) (N:=some 92) (bm_ 15 17) rfl rfl (one_of HT_.out jA) jB (fun K hK=>?_);refine goes_ Try.func52 jA rfl #[.agg #[.string x119000_5,.int .i64 x119001_5],.agg #[.string ((rd_T51 ((rd_T67 l0_0 x4_2).f1) x7_5).f0),.int .i64 ((rd_T51 ((rd_T67 l0_0 x4_2).f1) x7_5).f1)]] (by rfl) rfl rfl jG ?_
                with_reducible refine (F0d.calls  x119000_5 x119001_5 ((rd_T51 ((rd_T67 l0_0 x4_2).f1) x7_5).f0) ((rd_T51 ((rd_T67 l0_0 x4_2).f1) x7_5).f1) false _ A57.out).mono ?_
                rintro e w73 ⟨rfl,hb⟩;refine ⟨_,rfl,?_⟩;replace BK115:=zh (cD BK115.out jP hb);replace BK118:=zh (cD BK118.out jU hb);replace BK120:=zh (cD BK120.out ji hb);replace HB:=zh (zC jO hb);(try clear hb);(try clear hb2);(try clear hk);(try clear hi);refine hK.out _ _ ⟨(zz BK120.out 0).trans rfl,(zz BK120.out 1).trans rfl,(zz BK118.out 0).trans rfl,(zz BK118.out 1).trans rfl,((HB.out.cell (zl w _ hw123_0)).trans hw123_0),((HB.out.cell (zl w _ hw123_1)).trans hw123_1),((HB.out.cell (zl w _ hw125_0)).trans hw125_0),((HB.out.cell (zl w _ hw125_1)).trans hw125_1)⟩ (fun hHeld=>?_);clear hK K;refine norm_ (a':=?_) ?_ ?_;rotate_left
                ·
                 show Act.put _ (some 92) _=_
                 simp only [Act.put,zi,zj,zk,zG,zH]
                 rfl
                refine pure_ (i:=15) (N:=some 93) (v:=?_) (a':=?_) (bm_ 16 17) rfl rfl (any_of HT_.out jA) (fun _ _ _ h=>h) (Or.inl ⟨by rfl,?_⟩) ?_ ?_;rotate_left;exact jb;rotate_left;exact jc
                refine pure_ (i:=16) (N:=some 94) (v:=?_) (a':=?_) (bm_ 17 17) rfl rfl (any_of HT_.out jA) (fun _ _ _ h=>h) (Or.inl ⟨by rfl,?_⟩) ?_ ?_;rotate_left;exact jb;rotate_left;exact jc
                refine done_ (done_of HT_.out jA) ?_
                try go_wp2
                go_ret
                exact ⟨jH,jO⟩
               replace c56:=yb.mpr c56;subst c56;rw [if_neg (show ¬ (false=true) by decide)] at H;obtain rfl:=zU H;have hnb74:=NB120_115.out;have hnc74:=NB115_120.out;have hnb75:=NB120_118.out;have hnc75:=NB118_120.out;obtain ⟨hcz76_0,hcz76_1,hfz76_0,hfz76_1⟩:=cB2 BK120.out
               try go_wp2
               replace BK115:=zh (zf BK115.out);replace BK118:=zh (zf BK118.out);replace BK120:=zh (zf BK120.out);replace HB:=zh (zc HB.out);have p123 : 0≤(x7_5 : Int):=zy jC;have q123 : x7_5<(((rd_T67 l0_0 x4_2).f1).length : Int):=zy jC;obtain ⟨ad123,e123,hx123_0,hx123_1⟩:=at_T51 HR119_1.out x7_5 p123 q123;have hw123_1:=hx123_1;have hw123_0:=hx123_0
               cases e123
               replace hx123_0:=(HB.out.cell (zl w _ hx123_0)).trans hx123_0;replace hx123_1:=(HB.out.cell (zl w _ hx123_1)).trans hx123_1;replace p123:=eq_true p123;replace q123:=eq_true q123;refine start_ (n:=17) (S:=fun w' => w'.cell? ⟨gb120,0,none⟩=some (.int .i64 ((rd_T67 l0_0 x4_2).f0))∧w'.cell? ⟨gb120,1,none⟩=some (.slice (some ad123) ((rd_T67 l0_0 x4_2).f1).length c119_1)∧w'.cell? (ad123.add ((x7_5).toNat*2))=some (.string ((rd_T51 ((rd_T67 l0_0 x4_2).f1) x7_5).f0))∧w'.cell? ⟨(ad123.add ((x7_5).toNat*2)).block,(ad123.add ((x7_5).toNat*2)).off+1,none⟩=some (.int .i64 ((rd_T51 ((rd_T67 l0_0 x4_2).f1) x7_5).f1))) (ds:=[]) (bm_ 0 17) jA rfl rfl ⟨(zz BK120.out 0).trans rfl,(zz BK120.out 1).trans rfl,((HB.out.cell (zl w _ hw123_0)).trans hw123_0),((HB.out.cell (zl w _ hw123_1)).trans hw123_1)⟩ (fun hHeld=>?_);refine with_tabW F0.tab18 F0.bits18 (fun HT_ HW_=>?_);generalize wr.drew=w77 at BK115 BK118 BK120 HB hx123_0 hx123_1 hHeld ⊢;refine pure_ (i:=0) (N:=some 78) (v:=?_) (a':=?_) (bm_ 1 17) rfl rfl (any_of HT_.out jA) (fun _ _ _ h=>h) (Or.inl ⟨by rfl,?_⟩) ?_ ?_;rotate_left;exact jb;rotate_left;exact jc
               refine pure_ (i:=2) (N:=some 80) (v:=?_) (a':=?_) #[true,false,true,false,false,false,false,false,false,false,false,false,false,false,false,false,false] rfl rfl (any_of HT_.out jA) (fun _ _ _ h=>h) (Or.inl ⟨by rfl,?_⟩) ?_ ?_;rotate_left;exact jb;rotate_left;exact jc
               refine take_ (i:=1) (N:=some 79) (v:=?_) (a':=?_) (bm_ 3 17) rfl rfl (yo HT_.out HW_.out jA) (fun _ _ _ h=>h) (Or.inl ⟨by rfl,?_⟩) hHeld ?_ ?_;rotate_left
               ·
                rintro w' ⟨s0,s1,s2,s3⟩
                go_simp
                with_reducible rfl
               rotate_left
               exact jc
               refine pure_ (i:=3) (N:=some 81) (v:=?_) (a':=?_) (bm_ 4 17) rfl rfl (any_of HT_.out jA) (fun _ _ _ h=>h) (Or.inl ⟨by rfl,?_⟩) ?_ ?_;rotate_left;exact jb;rotate_left;exact jc
               refine take_ (i:=4) (N:=some 82) (v:=?_) (a':=?_) (bm_ 5 17) rfl rfl (yo HT_.out HW_.out jA) (fun _ _ _ h=>h) (Or.inl ⟨by rfl,?_⟩) hHeld ?_ ?_;rotate_left
               ·
                rintro w' ⟨s0,s1,s2,s3⟩
                go_simp
                with_reducible rfl
               rotate_left
               exact jc
               refine one_ (i:=5) (N:=some 83) (bm_ 6 17) rfl rfl (one_of HT_.out jA) jB (fun K hK=>?_);refine goes_ Try.func41 jA rfl #[.agg #[.string ((rd_T51 ((rd_T67 l0_0 x4_2).f1) x7_5).f0),.int .i64 ((rd_T51 ((rd_T67 l0_0 x4_2).f1) x7_5).f1)]] (by rfl) rfl rfl jG ?_
               with_reducible refine (F0c.calls  ((rd_T51 ((rd_T67 l0_0 x4_2).f1) x7_5).f0) ((rd_T51 ((rd_T67 l0_0 x4_2).f1) x7_5).f1) false _ A55.out).mono ?_
               rintro e w78 ⟨rfl,hb⟩;refine ⟨_,rfl,?_⟩;replace BK115:=zh (cD BK115.out jP hb);replace BK118:=zh (cD BK118.out jU hb);replace BK120:=zh (cD BK120.out ji hb);replace HB:=zh (zC jO hb);(try clear hb);(try clear hb2);(try clear hk);(try clear hi);refine hK.out _ _ ⟨(zz BK120.out 0).trans rfl,(zz BK120.out 1).trans rfl,((HB.out.cell (zl w _ hw123_0)).trans hw123_0),((HB.out.cell (zl w _ hw123_1)).trans hw123_1)⟩ (fun hHeld=>?_);clear hK K;refine norm_ (a':=?_) ?_ ?_;rotate_left
               ·
                show Act.put _ (some 83) _=_
                simp only [Act.put,zi,zj,zk,zG,zH]
                rfl
               refine pure_ (i:=6) (N:=some 84) (v:=?_) (a':=?_) (bm_ 7 17) rfl rfl (any_of HT_.out jA) (fun _ _ _ h=>h) (Or.inl ⟨by rfl,?_⟩) ?_ ?_;rotate_left;exact jb;rotate_left;exact jc
               refine pure_ (i:=7) (N:=some 85) (v:=?_) (a':=?_) (bm_ 8 17) rfl rfl (any_of HT_.out jA) (fun _ _ _ h=>h) (Or.inl ⟨by rfl,?_⟩) ?_ ?_;rotate_left;exact jb;rotate_left;exact jc
               refine pure_ (i:=8) (N:=some 86) (v:=undef) (a':=?_) (bm_ 9 17) rfl rfl (any_of HT_.out jA) (fun _ _ _ h=>h) (Or.inr ⟨by rfl,rfl⟩) ?_ ?_;rotate_left
               exact jc
               refine pure_ (i:=9) (N:=some 87) (v:=undef) (a':=?_) (bm_ 10 17) rfl rfl (any_of HT_.out jA) (fun _ _ _ h=>h) (Or.inr ⟨by rfl,rfl⟩) ?_ ?_;rotate_left
               exact jc
               refine pure_ (i:=10) (N:=some 88) (v:=undef) (a':=?_) (bm_ 11 17) rfl rfl (any_of HT_.out jA) (fun _ _ _ h=>h) (Or.inr ⟨by rfl,rfl⟩) ?_ ?_;rotate_left
               exact jc
               refine pure_ (i:=11) (N:=some 89) (v:=undef) (a':=?_) (bm_ 12 17) rfl rfl (any_of HT_.out jA) (fun _ _ _ h=>h) (Or.inr ⟨by rfl,rfl⟩) ?_ ?_;rotate_left
               exact jc
               refine pure_ (i:=12) (N:=some 90) (v:=undef) (a':=?_) (bm_ 13 17) rfl rfl (any_of HT_.out jA) (fun _ _ _ h=>h) (Or.inr ⟨by rfl,rfl⟩) ?_ ?_;rotate_left
               exact jc
               refine pure_ (i:=13) (N:=some 91) (v:=undef) (a':=?_) (bm_ 14 17) rfl rfl (any_of HT_.out jA) (fun _ _ _ h=>h) (Or.inr ⟨by rfl,rfl⟩) ?_ ?_;rotate_left
               exact jc
               refine pure_ (i:=14) (N:=some 92) (v:=undef) (a':=?_) (bm_ 15 17) rfl rfl (any_of HT_.out jA) (fun _ _ _ h=>h) (Or.inr ⟨by rfl,rfl⟩) ?_ ?_;rotate_left
               exact jc
               refine pure_ (i:=15) (N:=some 93) (v:=undef) (a':=?_) (bm_ 16 17) rfl rfl (any_of HT_.out jA) (fun _ _ _ h=>h) (Or.inr ⟨by rfl,rfl⟩) ?_ ?_;rotate_left
               exact jc
               refine pure_ (i:=16) (N:=some 94) (v:=?_) (a':=?_) (bm_ 17 17) rfl rfl (any_of HT_.out jA) (fun _ _ _ h=>h) (Or.inl ⟨by rfl,?_⟩) ?_ ?_;rotate_left;exact jb;rotate_left;exact jc
               refine done_ (done_of HT_.out jA) ?_
               try go_wp2
               go_ret
               exact ⟨jH,jO⟩
              rw [if_neg c54] at H;exact absurd H (by simp)
             rw [if_neg c53] at H;have c53b0 : decide (x7_5<(((rd_T67 l0_0 x4_2).f1).length : Int))=false:=decide_eq_false c53;clear c53;have H':=zh H;clear H;have hnb79:=NB120_115.out;have hnc79:=NB115_120.out;have hnb80:=NB120_118.out;have hnc80:=NB118_120.out;obtain ⟨hcz81_0,hcz81_1,hfz81_0,hfz81_1⟩:=cB2 BK120.out
             go_wp2
             go_roundg k5
             case measure=>have:=HJ1.out;have:=HK2.out;have:=HJ14.out;have:=HK4.out;have:=HK5.out;omega
             case rel=>exact ⟨(wrap64 (x4_2+1)),(x119000_5),(x119001_5),jE,H',⟨jBb⟩,⟨jP⟩,⟨jU⟩,⟨jO⟩⟩
      rw [if_neg c14] at H;exact absurd H (by simp)
     rw [if_neg c13] at H;have c13b0 : decide (x4_2<(l0_0.length : Int))=false:=decide_eq_false c13;clear c13;obtain rfl:=zU H;have hnb82:=NB115_118.out;have hnc82:=NB118_115.out;obtain ⟨hcz83_0,hcz83_1,hfz83_0,hfz83_1⟩:=cB2 BK115.out
     go_wp2
     go_ret
     exact ⟨jH,jA9⟩

end Go.Proofs.Ytamikhmpfmgofaa.Q
end
section
namespace Go.Proofs.Ytamikhmpfmgofaa.Q
open Go.RowKit Go.Proofs.YtamikhmpfmgofaaW.PrintWords Go.Proofs.YtamikhmpfmgofaaW.PrintLast Go.Proofs.YtamikhmpfmgofaaW.PrintMore
attribute [local go_sem] max2_int min2_int max_two min_two max_three min_three max_four min_four max2_str min2_str str_geq str_gtr str_leq
set_option linter.unusedVariables false
set_option linter.unusedSimpArgs false

def F3.l0 : Nat→List (S67)→Int→List (S67)→Int→Option ((List (S67))×Int)
 | 0,_,_,_,_=>none
 | k+1,x3,x4,x388000,x388001=>if x4<(x388000.length : Int) then (if 0≤x4 then ((some (([] : List (S51)) : List (S51))).bind fun y393=>(if y393.length+((rd_T67 x388000 x4).f1).length<5864062014805 then (if x3.length<4398046511104 then (F3.l0 k (x3 ++ [(⟨(rd_T67 x388000 x4).f0,(y393++((rd_T67 x388000 x4).f1))⟩ : S67)]) (wrap64 (x4+1)) x388000 x388001) else (none)) else (none))) else (none)) else (some (x3,x388001))
def F3.f (k : Nat) (l0_0 : List (S67)) (a0_1 : Int) : Option ((List (S67))×Int):=F3.l0 k (([] : List (S67))) 0 l0_0 a0_1
theorem F3.mono_l : ∀ k,(∀ y0 y1 y2 y3,LeO (F3.l0 k y0 y1 y2 y3) (F3.l0 (k+1) y0 y1 y2 y3))
 | 0=>fun _ _ _ _ r h=>by simp [F3.l0] at h
 | k+1=>by
  have ih0:=F3.mono_l k;intro y0 y1 y2 y3;unfold F3.l0
  repeat' first|(with_reducible first|exact ih0 _ _ _ _|exact zQ _|exact zN _|refine zP ?_ ?_|refine zO ?_ (fun _=>?_))|refine zP ?_ ?_|refine zO ?_ (fun _=>?_)
theorem F3.mono : ∀ a0 a1 k,LeO (F3.f k a0 a1) (F3.f (k+1) a0 a1):=by
 intro a0 a1 k;have ih0:=F3.mono_l k;unfold F3.f
 repeat' first|(with_reducible first|exact ih0 _ _ _ _|exact zQ _|exact zN _|refine zP ?_ ?_|refine zO ?_ (fun _=>?_))|refine zP ?_ ?_|refine zO ?_ (fun _=>?_)
def F3.T5 : Bool×List (List Nat×List Nat):=(true,[([],[]),([],[]),([1],[1]),([],[]),([2,3],[2,3]),([4],[4]),([5],[5]),([],[]),([],[]),([8],[8]),([],[]),([9,10],[9,10]),([11],[11]),([12],[12]),([7,13],[7,13]),([6,14],[6,14]),([15],[15]),([0,16,14],[0,16]),([17,17,0,1,2,3,4,5,6,7,8,9,10,11,12,13,14,15,16,17],[0,17])])
def F3.B5 : List Nat:=[0,0,2,0,14,30,62,0,0,256,0,1792,3840,7936,16256,32766,65534,131071,262143]
theorem F3.tab5 : rtab .any (opsOf Try.f43 5)=F3.T5:=by kernel_rfl
theorem F3.bits5 : waitsOk F3.T5.2 F3.B5=true:=by kernel_rfl
set_option maxHeartbeats 8000000 in
set_option maxRecDepth 100000 in
theorem F3.calls (k : Nat) (A0_0 : Option Addr) (c0_0 : Nat) (l0_0 : List (S67)) (a0_1 : Int) (r1 : List (S67)) (r2 : Int) (w : World) (hr0_0 : Kd.C k67 w A0_0 l0_0.length l0_0) (hc0_0 : l0_0.length≤c0_0) (h : F3.f k l0_0 a0_1=some (r1,r2)) :
  Calls Try.prog 43 #[.agg #[.slice A0_0 l0_0.length c0_0,.int .i64 a0_1]] w fun e w' => ∃ v0_ : Value,e = .returned (.agg #[v0_,.int .i64 r2])∧Kd.S k67 67 w' w.heap.size (fun _=>True) v0_ r1∧Below w.heap.size w w':=by
 have hu35:=Try.underlying35;have hu67:=Try.underlying67;have HR0_0:=zh hr0_0;have HC0_0:=zh hc0_0;clear hr0_0 hc0_0;have HB:=zh (Below.refl w.heap.size w);have H : (F3.l0 k (([] : List (S67))) 0 l0_0 a0_1)=some (r1,r2):=h;clear h;obtain ⟨y389,hy389⟩ : ∃ y_ : List (S67),y_=(([] : List (S67))):=⟨_,rfl⟩;replace H : (F3.l0 k y389 0 l0_0 a0_1)=some (r1,r2):=by first|(rw [hy389];with_reducible exact H)|(have H2_:=(Option.bind_some _ _).symm.trans H;rw [hy389];with_reducible exact H2_)|(have H2_:=(Option.bind_some _ _).symm.trans H;with_reducible exact H2_)|with_reducible exact H|(rw [hy389];exact H)|exact H
 have Ny389:=zh hy389;clear hy389;have H':=zh H;clear H
 go_enter Try.func43,Try.ntmps43
 go_wp2_with (first|((with_reducible refine zK (N:=1) rfl ?_);refine zI ?hg (N:=1) ?hd (cs:=#[.slice A0_0 l0_0.length c0_0,.int .i64 a0_1]) (t:=35) ?hr ?_;(case hd=>rfl);(case hg=>rfl);(case hr=>go_simp <;> rfl);intro gb387 hg w2 hbox hb;have BK387:=zh (hbox);have hH_:=cH jF hb hg;have GW387:=zh hH_.1;have GE387:=GW387;replace HB:=zh hH_.2;clear hb hbox hg hH_)|((with_reducible refine zK (N:=2) rfl ?_);refine zI ?hg (N:=2) ?hd (cs:=#[.slice none 0 0,.int .i64 0]) (t:=35) ?hr ?_;(case hd=>rfl);(case hg=>rfl);(case hr=>go_simp <;> rfl);intro gb388 hg w3 hbox hb;have BK388:=zh (hbox);have hH_:=cH (by repeat (with_reducible first|exact HB.out|apply za|apply zb|apply zc|refine zd ?_ GE387.out)) hb hg;have GW388:=zh hH_.1;have GE388:=GW388;replace HB:=zh hH_.2;have NB387_388:=zh ((by rw [hg];exact yc (yi (g:=gb387) (o:=.cells #[.slice A0_0 l0_0.length c0_0,.int .i64 a0_1] 35 (0,0)) jk) : gb387≠gb388));have NB388_387:=zh NB387_388.out.symm;replace BK387:=zh (cD BK387.out jk hb);clear hb hbox hg hH_)|((with_reducible refine zK (N:=5) rfl ?_);refine Kd.S_lit k67 _ 67 ?hg (N:=5) ?hd (xs:=([] : List (S67))) (inner:=[]) (ok:=fun _=>True) (okp:=fun _=>True) ?hr ?hp (fun _ hk=>hk) trivial (Below.refl _ _) (ye _) (by simp) ?_;(case hd=>rfl);(case hg=>rfl);(case hr=>go_simp <;> rfl);(case hp=>exact (Reps.none _ _));intro v390 w4 ho5 hb hg_ hnew_;clear hg_ hnew_;(first|rw [← Ny389.out] at ho5|(simp only [Int.reduceToNat] at ho5;rw [← Ny389.out] at ho5));have HO391:=zh (Kd.S_lower ho5 (zB jV));replace BK387:=zh (cD BK387.out jk hb);replace BK388:=zh (cD BK388.out jx hb);replace HB:=zh (zC jV hb);clear hb ho5))
 go_loopg [3,4] k (fun kq v3 v4 w' => ∃ (x3_1 : List (S67)) (x4_1 : Int),v4 = .int .i64 x4_1∧Aside0 (F3.l0 kq x3_1 x4_1 l0_0 a0_1=some (r1,r2))∧Aside0 (kq≤k)∧Aside0 (Kd.S k67 67 w' w.heap.size (fun _=>True) v3 x3_1)∧Aside0 (w'.heap[gb387]? = some (.cells #[(.slice A0_0 l0_0.length c0_0),.int .i64 a0_1] 35 (0,0)))∧Aside0 (w'.heap[gb388]? = some (.cells #[(.slice none 0 0),.int .i64 0] 35 (0,0)))∧Aside0 (Below w.heap.size w w'))
 case atStart=>exact ⟨(y389),(0),jE,H',⟨ye _⟩,⟨by (with_reducible repeat (first|apply Kd.S_alloc|apply Kd.S_drewN|apply Kd.S_drew));exact HO391.out⟩,⟨jk⟩,⟨jx⟩,⟨jV⟩⟩
 case round =>
  clear H'
  try clear p2
  try clear c4
  obtain ⟨x3_1,x4_1,rfl,HA,HK1,HO_3,BK387,BK388,HB⟩:=hrel
  cases gk with
  | zero=>exact absurd HA.out (by simp [F3.l0])
  | succ k1 =>
   have H:=HA.out;clear HA;simp only [F3.l0] at H
   by_cases c6 : x4_1<(l0_0.length : Int)
   ·
    rw [if_pos c6] at H
    have c6b0 : decide (x4_1<(l0_0.length : Int))=true:=decide_eq_true c6;clear c6
    by_cases c7 : 0≤x4_1
    ·
     rw [if_pos c7] at H
     have c7b0 : decide (0≤x4_1)=true:=decide_eq_true c7;clear c7;obtain ⟨y393,hy393⟩ : ∃ y_ : List (S51),y_=(([] : List (S51))):=⟨_,rfl⟩;replace H : (if y393.length+((rd_T67 l0_0 x4_1).f1).length<5864062014805 then (if x3_1.length<4398046511104 then (F3.l0 k1 (x3_1 ++ [(⟨(rd_T67 l0_0 x4_1).f0,(y393++((rd_T67 l0_0 x4_1).f1))⟩ : S67)]) (wrap64 (x4_1+1)) l0_0 a0_1) else (none)) else (none))=some (r1,r2):=by first|(rw [hy393];with_reducible exact H)|(have H2_:=(Option.bind_some _ _).symm.trans H;rw [hy393];with_reducible exact H2_)|(have H2_:=(Option.bind_some _ _).symm.trans H;with_reducible exact H2_)|with_reducible exact H|(rw [hy393];exact H)|exact H
     have Ny393:=zh hy393;clear hy393
     by_cases c8 : y393.length+((rd_T67 l0_0 x4_1).f1).length<5864062014805
     ·
      rw [if_pos c8] at H
      have LMc8:=zh c8;clear c8;obtain ⟨y397,hy397⟩ : ∃ y_ : List (S51),y_=(y393++((rd_T67 l0_0 x4_1).f1)):=⟨_,rfl⟩;replace H : (if x3_1.length<4398046511104 then (F3.l0 k1 (x3_1 ++ [(⟨(rd_T67 l0_0 x4_1).f0,y397⟩ : S67)]) (wrap64 (x4_1+1)) l0_0 a0_1) else (none))=some (r1,r2):=by first|(rw [hy397];with_reducible exact H)|(have H2_:=(Option.bind_some _ _).symm.trans H;rw [hy397];with_reducible exact H2_)|(have H2_:=(Option.bind_some _ _).symm.trans H;with_reducible exact H2_)|with_reducible exact H|(rw [hy397];exact H)|exact H
      have Ny397:=zh hy397;clear hy397
      by_cases c9 : x3_1.length<4398046511104
      ·
       rw [if_pos c9] at H
       have LMc9:=zh c9;clear c9;obtain ⟨y400,hy400⟩ : ∃ y_ : List (S67),y_=(x3_1 ++ [(⟨(rd_T67 l0_0 x4_1).f0,y397⟩ : S67)]):=⟨_,rfl⟩;replace H : (F3.l0 k1 y400 (wrap64 (x4_1+1)) l0_0 a0_1)=some (r1,r2):=by first|(rw [hy400];with_reducible exact H)|(have H2_:=(Option.bind_some _ _).symm.trans H;rw [hy400];with_reducible exact H2_)|(have H2_:=(Option.bind_some _ _).symm.trans H;with_reducible exact H2_)|with_reducible exact H|(rw [hy400];exact H)|exact H
       have Ny400:=zh hy400;clear hy400;have H':=zh H;clear H;have hnb10:=NB387_388.out;have hnc10:=NB388_387.out;obtain ⟨hcz11_0,hcz11_1,hfz11_0,hfz11_1⟩:=cB2 BK387.out
       try go_wp2
       replace HO_3:=zh (Kd.S_drew HO_3.out);replace BK387:=zh (zf BK387.out);replace BK388:=zh (zf BK388.out);replace HB:=zh (zc HB.out);have p392 : 0≤(x4_1 : Int):=zy jC;have q392 : x4_1<(l0_0.length : Int):=zy jC;obtain ⟨ad392,A392_1,c392_1,e392,hx392_0,hx392_1,hl392_1,hi392_1⟩:=at_T67 HR0_0.out x4_1 p392 q392;have hw392_1:=hx392_1;have hw392_0:=hx392_0
       cases e392
       replace hx392_0:=(HB.out.cell (zl w _ hx392_0)).trans hx392_0;replace hx392_1:=(HB.out.cell (zl w _ hx392_1)).trans hx392_1;have HR392_1:=zh hi392_1;have HC392_1:=zh hl392_1;clear hi392_1 hl392_1;replace p392:=eq_true p392;replace q392:=eq_true q392;have p396 : 0≤(x4_1 : Int):=zy jC;have q396 : x4_1<(l0_0.length : Int):=zy jC;obtain ⟨ad396,A396_1,c396_1,e396,hx396_0,hx396_1,hl396_1,hi396_1⟩:=at_T67 HR0_0.out x4_1 p396 q396;have hw396_1:=hx396_1;have hw396_0:=hx396_0;obtain rfl : ad392=ad396:=(by injection e396);replace hx396_0:=(HB.out.cell (zl w _ hx396_0)).trans hx396_0;replace hx396_1:=(HB.out.cell (zl w _ hx396_1)).trans hx396_1;have HR396_1:=zh hi396_1;have HC396_1:=zh hl396_1;clear hi396_1 hl396_1;replace p396:=eq_true p396;replace q396:=eq_true q396;have ea_:=zU (hx392_1.symm.trans hx396_1);injection ea_ with ea_ en_ ec_;subst ea_;subst ec_;clear en_;refine start_ (n:=19) (S:=fun w' => w'.cell? ⟨gb387,0,none⟩=some (.slice (some ad392) l0_0.length c0_0)∧w'.cell? ⟨gb387,1,none⟩=some (.int .i64 a0_1)∧w'.cell? (ad392.add ((x4_1).toNat*2))=some (.int .i64 ((rd_T67 l0_0 x4_1).f0))∧w'.cell? ⟨(ad392.add ((x4_1).toNat*2)).block,(ad392.add ((x4_1).toNat*2)).off+1,none⟩=some (.slice A392_1 ((rd_T67 l0_0 x4_1).f1).length c392_1)∧w'.cell? (ad392.add ((x4_1).toNat*2))=some (.int .i64 ((rd_T67 l0_0 x4_1).f0))∧w'.cell? ⟨(ad392.add ((x4_1).toNat*2)).block,(ad392.add ((x4_1).toNat*2)).off+1,none⟩=some (.slice A392_1 ((rd_T67 l0_0 x4_1).f1).length c392_1)) (ds:=[]) (bm_ 0 19) jA rfl rfl ⟨(zz BK387.out 0).trans rfl,(zz BK387.out 1).trans rfl,((HB.out.cell (zl w _ hw392_0)).trans hw392_0),((HB.out.cell (zl w _ hw392_1)).trans hw392_1),((HB.out.cell (zl w _ hw396_0)).trans hw396_0),((HB.out.cell (zl w _ hw396_1)).trans hw396_1)⟩ (fun hHeld=>?_);refine with_tabW F3.tab5 F3.bits5 (fun HT_ HW_=>?_);generalize wr.drew=w12 at HO_3 BK387 BK388 HB HR392_1 HR396_1 hx392_0 hx392_1 hx396_0 hx396_1 hHeld ⊢;refine pure_ (i:=0) (N:=some 13) (v:=?_) (a':=?_) (bm_ 1 19) rfl rfl (any_of HT_.out jA) (fun _ _ _ h=>h) (Or.inl ⟨by rfl,?_⟩) ?_ ?_;rotate_left;exact jb;rotate_left;exact jc
       refine pure_ (i:=1) (N:=some 14) (v:=?_) (a':=?_) (bm_ 2 19) rfl rfl (any_of HT_.out jA) (fun _ _ _ h=>h) (Or.inl ⟨by rfl,?_⟩) ?_ ?_;rotate_left;exact jb;rotate_left;exact jc
       refine pure_ (i:=3) (N:=some 16) (v:=?_) (a':=?_) #[true,true,false,true,false,false,false,false,false,false,false,false,false,false,false,false,false,false,false] rfl rfl (any_of HT_.out jA) (fun _ _ _ h=>h) (Or.inl ⟨by rfl,?_⟩) ?_ ?_;rotate_left;exact jb;rotate_left;exact jc
       refine pure_ (i:=8) (N:=some 21) (v:=?_) (a':=?_) #[true,true,false,true,false,false,false,false,true,false,false,false,false,false,false,false,false,false,false] rfl rfl (any_of HT_.out jA) (fun _ _ _ h=>h) (Or.inl ⟨by rfl,?_⟩) ?_ ?_;rotate_left;exact jb;rotate_left;exact jc
       refine pure_ (i:=10) (N:=some 23) (v:=?_) (a':=?_) #[true,true,false,true,false,false,false,false,true,false,true,false,false,false,false,false,false,false,false] rfl rfl (any_of HT_.out jA) (fun _ _ _ h=>h) (Or.inl ⟨by rfl,?_⟩) ?_ ?_;rotate_left;exact jb;rotate_left;exact jc
       refine take_ (i:=2) (N:=some 15) (v:=?_) (a':=?_) #[true,true,true,true,false,false,false,false,true,false,true,false,false,false,false,false,false,false,false] rfl rfl (yo HT_.out HW_.out jA) (fun _ _ _ h=>h) (Or.inl ⟨by rfl,?_⟩) hHeld ?_ ?_;rotate_left
       ·
        rintro w' ⟨s0,s1,s2,s3,s4,s5⟩
        go_simp
        with_reducible rfl
       rotate_left
       exact jc
       refine pure_ (i:=4) (N:=some 17) (v:=?_) (a':=?_) #[true,true,true,true,true,false,false,false,true,false,true,false,false,false,false,false,false,false,false] rfl rfl (any_of HT_.out jA) (fun _ _ _ h=>h) (Or.inl ⟨by rfl,?_⟩) ?_ ?_;rotate_left;exact jb;rotate_left;exact jc
       refine pure_ (i:=5) (N:=some 18) (v:=?_) (a':=?_) #[true,true,true,true,true,true,false,false,true,false,true,false,false,false,false,false,false,false,false] rfl rfl (any_of HT_.out jA) (fun _ _ _ h=>h) (Or.inl ⟨by rfl,?_⟩) ?_ ?_;rotate_left;exact jb;rotate_left;exact jc
       refine take_ (i:=6) (N:=some 19) (v:=?_) (a':=?_) #[true,true,true,true,true,true,true,false,true,false,true,false,false,false,false,false,false,false,false] rfl rfl (yo HT_.out HW_.out jA) (fun _ _ _ h=>h) (Or.inl ⟨by rfl,?_⟩) hHeld ?_ ?_;rotate_left
       ·
        rintro w' ⟨s0,s1,s2,s3,s4,s5⟩
        go_simp
        with_reducible rfl
       rotate_left
       exact jc
       refine take_ (i:=9) (N:=some 22) (v:=?_) (a':=?_) #[true,true,true,true,true,true,true,false,true,true,true,false,false,false,false,false,false,false,false] rfl rfl (yo HT_.out HW_.out jA) (fun _ _ _ h=>h) (Or.inl ⟨by rfl,?_⟩) hHeld ?_ ?_;rotate_left
       ·
        rintro w' ⟨s0,s1,s2,s3,s4,s5⟩
        go_simp
        with_reducible rfl
       rotate_left
       exact jc
       refine pure_ (i:=11) (N:=some 24) (v:=?_) (a':=?_) #[true,true,true,true,true,true,true,false,true,true,true,true,false,false,false,false,false,false,false] rfl rfl (any_of HT_.out jA) (fun _ _ _ h=>h) (Or.inl ⟨by rfl,?_⟩) ?_ ?_;rotate_left;exact jb;rotate_left;exact jc
       refine pure_ (i:=12) (N:=some 25) (v:=?_) (a':=?_) #[true,true,true,true,true,true,true,false,true,true,true,true,true,false,false,false,false,false,false] rfl rfl (any_of HT_.out jA) (fun _ _ _ h=>h) (Or.inl ⟨by rfl,?_⟩) ?_ ?_;rotate_left;exact jb;rotate_left;exact jc
       refine take_ (i:=13) (N:=some 26) (v:=?_) (a':=?_) #[true,true,true,true,true,true,true,false,true,true,true,true,true,true,false,false,false,false,false] rfl rfl (yo HT_.out HW_.out jA) (fun _ _ _ h=>h) (Or.inl ⟨by rfl,?_⟩) hHeld ?_ ?_;rotate_left
       ·
        rintro w' ⟨s0,s1,s2,s3,s4,s5⟩
        go_simp
        with_reducible rfl
       rotate_left
       exact jc
       refine one_ (i:=7) (N:=some 20) (bm_ 14 19) rfl rfl (one_of HT_.out jA) jB (fun K hK=>?_);refine Kd.R_lit_step k51 _ 51 ?hg (N:=20) ?hd (xs:=([] : List (S51))) (inner:=[]) (ok:=fun _=>True) (okp:=fun _=>True) ?hr ?hp (fun _ hk=>hk) trivial (Below.refl _ _) (ye _) (by simp) ?_;(case hd=>rfl);(case hg=>rfl);(case hr=>go_simp <;> rfl);(case hp=>exact (Reps.none _ _));intro v394 w13 ho14 hb hg_ hnew_;clear hg_ hnew_;(first|rw [← Ny393.out] at ho14|(simp only [Int.reduceToNat] at ho14;rw [← Ny393.out] at ho14));replace HO_3:=zh (Kd.S_elder' jAG (Kd.R_base ho14) hb);have HO395:=zh (yx ho14 (zB jV));replace BK387:=zh (cD BK387.out jk hb);replace BK388:=zh (cD BK388.out jx hb);replace HB:=zh (zC jV hb);clear hb ho14;refine hK.out _ _ ⟨(zz BK387.out 0).trans rfl,(zz BK387.out 1).trans rfl,((HB.out.cell (zl w _ hw392_0)).trans hw392_0),((HB.out.cell (zl w _ hw392_1)).trans hw392_1),((HB.out.cell (zl w _ hw396_0)).trans hw396_0),((HB.out.cell (zl w _ hw396_1)).trans hw396_1)⟩ (fun hHeld=>?_);clear hK K;refine norm_ (a':=?_) ?_ ?_;rotate_left
       ·
        show Act.put _ (some 20) _=_
        simp only [Act.put,zi,zj,zk,zG,zH]
        rfl
       refine one_ (i:=14) (N:=some 27) (bm_ 15 19) rfl rfl (one_of HT_.out jA) jB (fun K hK=>?_);refine Kd.R_append_rows_step k51 (w0:=w) w.heap.size (by rfl) (.tmp 20) (.tmp 26) 29 51 (.agg #[(.string ⟨#[]⟩),(.int .i64 0)]) 24 rfl Try.underlying29 info51 rfl jB jD v394 y393 ((rd_T67 l0_0 x4_1).f1) _ _ _ (fun _=>True) (fun _=>False) rfl rfl ?aO ?aR (fun _ _ h=>h) (fun _ h=>h.elim) ?aF ?aB ?aS ?aL ?_;(case aR=>repeat (first|exact (Kd.C_below HR396_1.out HB.out)|(with_reducible refine Kd.C_alloc ?_ _)|(with_reducible refine Kd.C_drewN ?_ _)|(with_reducible refine Kd.C_drew ?_)))
       (case aB=>exact jV)
       (case aF=>exact (fun _ _=>trivial))
       (case aO=>exact (by (with_reducible repeat (first|apply zm|apply zn|apply zo));exact HO395.out))
       (case aS=>exact (zB jV))
       (case aL=>have:=LMc8.out;omega)
       intro v398 w15 ho hb hg hat;rw [← Ny397.out] at ho;replace HO_3:=zh (Kd.S_after (ok:=(fun _=>True)) jAG hg hat);replace BK387:=zh (yv (g:=gb387) (o:=.cells #[.slice (some ad392) l0_0.length c0_0,.int .i64 a0_1] 35 (0,0)) jk hg (Kd.R_ne HO395.out BK387.out jB));replace BK388:=zh (yv (g:=gb388) (o:=.cells #[.slice none 0 0,.int .i64 0] 35 (0,0)) jx hg (Kd.R_ne HO395.out BK388.out jB));replace HB:=zh (hb);have HO399:=zh (ho);clear HO395 ho hb hg hat;obtain ⟨Ao16,co16,eo16⟩:=yk HO399.out;(first|subst eo16|(injection eo16 with f1_ f2_ f3_;have f4_:=f1_.symm;have f5_:=f3_.symm;clear f1_ f2_ f3_;subst f4_;subst f5_));refine hK.out _ _ ⟨(zz BK387.out 0).trans rfl,(zz BK387.out 1).trans rfl,((HB.out.cell (zl w _ hw392_0)).trans hw392_0),((HB.out.cell (zl w _ hw392_1)).trans hw392_1),((HB.out.cell (zl w _ hw396_0)).trans hw396_0),((HB.out.cell (zl w _ hw396_1)).trans hw396_1)⟩ (fun hHeld=>?_);clear hK K;refine norm_ (a':=?_) ?_ ?_;rotate_left
       ·
        show Act.put _ (some 27) _=_
        simp only [Act.put,zi,zj,zk,zG,zH]
        rfl
       refine pure_ (i:=15) (N:=some 28) (v:=?_) (a':=?_) (bm_ 16 19) rfl rfl (any_of HT_.out jA) (fun _ _ _ h=>h) (Or.inl ⟨by rfl,?_⟩) ?_ ?_;rotate_left;exact jb;rotate_left;exact jc
       refine one_ (i:=16) (N:=some 29) (bm_ 17 19) rfl rfl (one_of HT_.out jA) jB (fun K hK=>?_);refine value_ (w1:=?_) (v:=?_) (by rfl) rfl ?_ ?_;rotate_left 2
       ·
        go_simp
        constructor
        ·
         rfl
        rfl
       refine hK.out _ _ ⟨(zz (zg BK387.out _) 0).trans rfl,(zz (zg BK387.out _) 1).trans rfl,(World.cell?_alloc_lt _ _ _ (zl _ _ (((HB.out.cell (zl w _ hw392_0)).trans hw392_0)))).trans (((HB.out.cell (zl w _ hw392_0)).trans hw392_0)),(World.cell?_alloc_lt _ _ _ (zl _ _ (((HB.out.cell (zl w _ hw392_1)).trans hw392_1)))).trans (((HB.out.cell (zl w _ hw392_1)).trans hw392_1)),(World.cell?_alloc_lt _ _ _ (zl _ _ (((HB.out.cell (zl w _ hw396_0)).trans hw396_0)))).trans (((HB.out.cell (zl w _ hw396_0)).trans hw396_0)),(World.cell?_alloc_lt _ _ _ (zl _ _ (((HB.out.cell (zl w _ hw396_1)).trans hw396_1)))).trans (((HB.out.cell (zl w _ hw396_1)).trans hw396_1))⟩ (fun hHeld=>?_);clear hK K;refine norm_ (a':=?_) ?_ ?_;rotate_left
       ·
        show Act.put _ (some 29) _=_
        simp only [Act.put,zi,zj,zk,zG,zH]
        rfl
       refine one_ (i:=17) (N:=some 30) (bm_ 18 19) rfl rfl (one_of HT_.out jA) jB (fun K hK=>?_);refine Kd.S_append_step k67 (w0:=w) w.heap.size (by rfl) (.tmp 13) (.tmp 29) 33 67 (.agg #[(.int .i64 0),(.slice none 0 0)]) 32 rfl Try.underlying33 info67 rfl jB jD u3 x3_1 (⟨(rd_T67 l0_0 x4_1).f0,y397⟩ : S67) [.int .i64 ((rd_T67 l0_0 x4_1).f0),.slice Ao16 y397.length co16] (fun _=>True) (fun k_=>some k_=(.slice Ao16 y397.length co16 : Value).ownBlock) rfl rfl ?aP (fun k_ hk_=>((zM (ok':=fun k_=>((fun _=>True)) k_∧some k_≠(u3 : Value).ownBlock) (Kd.R_apart' (HO399.out) (Kd.S_typed HO_3.out) jB) (fun k_ hk=>⟨trivial,hk.2⟩))).1 k_ hk_.symm) ?aF ?aO ?aB ?aS ?aL ?_;(case aP=>exact k67_mkM _ _ _ (⟨(rd_T67 l0_0 x4_1).f0,y397⟩ : S67) (zM (Kd.R_tight rfl (zM (ok':=fun k_=>((fun _=>True)) k_∧some k_≠(u3 : Value).ownBlock) (Kd.R_apart' (HO399.out) (Kd.S_typed HO_3.out) jB) (fun k_ hk=>⟨trivial,hk.2⟩))) (fun _ h_=>h_)))
       (case aB=>exact jV)
       (case aF=>exact (fun _ _=>trivial))
       (case aO=>exact (by (with_reducible repeat (first|apply Kd.S_alloc|apply Kd.S_drewN|apply Kd.S_drew));exact Kd.S_mono HO_3.out (fun k_ hk=>⟨trivial,fun e_=>hk.2 e_⟩)))
       (case aS=>exact (zB jV))
       (case aL=>have:=LMc9.out;omega)
       intro v401 w17 ho hb hg hat;rw [← Ny400.out] at ho;replace BK387:=zh (yv (g:=gb387) (o:=.cells #[.slice (some ad392) l0_0.length c0_0,.int .i64 a0_1] 35 (0,0)) jk hg (Kd.S_ne HO_3.out BK387.out jB));replace BK388:=zh (yv (g:=gb388) (o:=.cells #[.slice none 0 0,.int .i64 0] 35 (0,0)) jx hg (Kd.S_ne HO_3.out BK388.out jB));replace HB:=zh (hb);have HO402:=zh (ho);clear HO_3 HO399 ho hb hg hat;refine hK.out _ _ ⟨(zz BK387.out 0).trans rfl,(zz BK387.out 1).trans rfl,((HB.out.cell (zl w _ hw392_0)).trans hw392_0),((HB.out.cell (zl w _ hw392_1)).trans hw392_1),((HB.out.cell (zl w _ hw396_0)).trans hw396_0),((HB.out.cell (zl w _ hw396_1)).trans hw396_1)⟩ (fun hHeld=>?_);clear hK K;refine norm_ (a':=?_) ?_ ?_;rotate_left
       ·
        show Act.put _ (some 30) _=_
        simp only [Act.put,zi,zj,zk,zG,zH]
        rfl
       refine pure_ (i:=18) (N:=some 3) (v:=?_) (a':=?_) (bm_ 19 19) rfl rfl (any_of HT_.out jA) (fun _ _ _ h=>h) (Or.inl ⟨by rfl,?_⟩) ?_ ?_;rotate_left;exact jb;rotate_left;exact jc
       refine done_ (done_of HT_.out jA) ?_
       try go_wp2
       go_roundg k1
       case measure=>have:=HK1.out;omega
       case rel=>exact ⟨(y400),(wrap64 (x4_1+1)),jE,H',⟨jL⟩,⟨by (with_reducible repeat (first|apply Kd.S_alloc|apply Kd.S_drewN|apply Kd.S_drew));exact HO402.out⟩,⟨jk⟩,⟨jx⟩,⟨jV⟩⟩
      rw [if_neg c9] at H;exact absurd H (by simp)
     rw [if_neg c8] at H;exact absurd H (by simp)
    rw [if_neg c7] at H;exact absurd H (by simp)
   rw [if_neg c6] at H;have c6b0 : decide (x4_1<(l0_0.length : Int))=false:=decide_eq_false c6;clear c6;simp only [Option.some.injEq,Prod.mk.injEq] at H;obtain ⟨rfl,rfl⟩:=H;have hnb18:=NB387_388.out;have hnc18:=NB388_387.out;obtain ⟨hcz19_0,hcz19_1,hfz19_0,hfz19_1⟩:=cB2 BK387.out;obtain ⟨Ao20,co20,eo20⟩:=Kd.S_slice HO_3.out;subst eo20;obtain ⟨hcz21_0,hcz21_1,hfz21_0,hfz21_1⟩:=cB2 BK388.out
   go_wp2
   refine bodyPost_ret (results_cell_row rfl _ _ gb388 35 #[.slice Ao20 x3_1.length co20,.int .i64 a0_1] (0,0) _ rfl (by (with_reducible repeat first|apply ze|apply zf|apply zg);refine zL (cs:=#[.slice Ao20 x3_1.length co20,.int .i64 0]) ?_ 1 _ rfl;(with_reducible repeat first|apply ze|apply zf|apply zg);refine zL (cs:=#[.slice none 0 0,.int .i64 0]) ?_ 0 _ rfl;(with_reducible repeat first|apply ze|apply zf|apply zg);refine zS ?_ NB388_387.out _;(with_reducible repeat first|apply ze|apply zf|apply zg);exact BK388.out) Try.underlying35 rfl jA) rfl ?_;exact ⟨_,jH,by (with_reducible repeat (first|apply Kd.S_alloc|apply Kd.S_drewN|apply Kd.S_drew));exact Kd.S_mono (Kd.S_far (p:=⟨gb388,1,none⟩) (Kd.S_far (p:=⟨gb388,0,none⟩) (Kd.S_far (p:=⟨gb387,0,none⟩) (Kd.S_types (Kd.S_types HO_3.out BK387.out jB) BK388.out jB) (fun _ hk=>hk.1.2) (.slice Ao20 x3_1.length co20)) (fun _ hk=>hk.2) (.slice Ao20 x3_1.length co20)) (fun _ hk=>hk.2) (.int .i64 a0_1)) (fun _ hk=>trivial),jV⟩


def F8.l0 : Nat→Int→Int→List (S67)→Int→ByteArray→Int→Option (Int)
 | 0,_,_,_,_,_,_=>none
 | k+1,x5,x6,x129000,x129001,x130000,x130001=>if x6<(x129000.length : Int) then (if 0≤x6 then (if (((rd_T67 x129000 x6).f1).length : Int) > 0 then (if 0<(((rd_T67 x129000 x6).f1).length : Int) then ((F0d.f x130000 x130001 ((rd_T51 ((rd_T67 x129000 x6).f1) 0).f0) ((rd_T51 ((rd_T67 x129000 x6).f1) 0).f1)).bind fun t133=>(if t133=true then (F8.l0 k x5 (wrap64 (x6+1)) x129000 x129001 x130000 x130001) else (F8.l0 k x6 (wrap64 (x6+1)) x129000 x129001 x130000 x130001))) else (none)) else (F8.l0 k x5 (wrap64 (x6+1)) x129000 x129001 x130000 x130001)) else (none)) else (some x5)
def F8.f (k : Nat) (l0_0 : List (S67)) (a0_1 : Int) (a1_0 : ByteArray) (a1_1 : Int) : Option (Int):=F8.l0 k 0 1 l0_0 a0_1 a1_0 a1_1
theorem F8.mono_l : ∀ k,(∀ y0 y1 y2 y3 y4 y5,LeO (F8.l0 k y0 y1 y2 y3 y4 y5) (F8.l0 (k+1) y0 y1 y2 y3 y4 y5))
 | 0=>fun _ _ _ _ _ _ r h=>by simp [F8.l0] at h
 | k+1=>by
  have ih0:=F8.mono_l k;intro y0 y1 y2 y3 y4 y5;unfold F8.l0
  repeat' first|(with_reducible first|exact ih0 _ _ _ _ _ _|exact zQ _|exact zN _|refine zP ?_ ?_|refine zO ?_ (fun _=>?_))|refine zP ?_ ?_|refine zO ?_ (fun _=>?_)
theorem F8.mono : ∀ a0 a1 a2 a3 k,LeO (F8.f k a0 a1 a2 a3) (F8.f (k+1) a0 a1 a2 a3):=by
 intro a0 a1 a2 a3 k;have ih0:=F8.mono_l k;unfold F8.f
 repeat' first|(with_reducible first|exact ih0 _ _ _ _ _ _|exact zQ _|exact zN _|refine zP ?_ ?_|refine zO ?_ (fun _=>?_))|refine zP ?_ ?_|refine zO ?_ (fun _=>?_)
def F8.T5 : Bool×List (List Nat×List Nat):=(true,[([],[]),([0],[0]),([],[]),([1,2],[1,2]),([3],[3]),([4],[4]),([5],[5]),([6],[6]),([7],[7]),([8],[8]),([8],[8]),([10,8],[8,10]),([8],[8]),([11,12,8],[8,11,12]),([13,8],[8,13]),([14,8],[8,14]),([15,8],[8,15]),([16,8],[8,16]),([9,17,8,8],[8,9,17]),([18,8],[8,18]),([8,19],[8,19])])
def F8.B5 : List Nat:=[0,1,0,7,15,31,63,127,255,511,511,1535,511,7679,15871,32255,65023,130559,262143,524287,1048575]
theorem F8.tab5 : rtab .any (opsOf Try.f53 5)=F8.T5:=by kernel_rfl
theorem F8.bits5 : waitsOk F8.T5.2 F8.B5=true:=by kernel_rfl
set_option maxHeartbeats 8000000 in
set_option maxRecDepth 100000 in
theorem F8.calls (k : Nat) (A0_0 : Option Addr) (c0_0 : Nat) (l0_0 : List (S67)) (a0_1 : Int) (a1_0 : ByteArray) (a1_1 : Int) (r : Int) (w : World) (hr0_0 : Kd.C k67 w A0_0 l0_0.length l0_0) (hc0_0 : l0_0.length≤c0_0) (h : F8.f k l0_0 a0_1 a1_0 a1_1=some r) :
  Calls Try.prog 53 #[.agg #[.slice A0_0 l0_0.length c0_0,.int .i64 a0_1],.agg #[.string a1_0,.int .i64 a1_1]] w fun e w' => e = .returned (.int .i64 r)∧Below w.heap.size w w':=by
 have hu35:=Try.underlying35;have hu51:=Try.underlying51;have HR0_0:=zh hr0_0;have HC0_0:=zh hc0_0;clear hr0_0 hc0_0;have HB:=zh (Below.refl w.heap.size w);have H : (F8.l0 k 0 1 l0_0 a0_1 a1_0 a1_1)=some r:=h;clear h;have H':=zh H;clear H
 go_enter Try.func53,Try.ntmps53
 go_wp2_with (first|((with_reducible refine zK (N:=2) rfl ?_);refine zI ?hg (N:=2) ?hd (cs:=#[.slice A0_0 l0_0.length c0_0,.int .i64 a0_1]) (t:=35) ?hr ?_;(case hd=>rfl);(case hg=>rfl);(case hr=>go_simp <;> rfl);intro gb128 hg w3 hbox hb;have BK128:=zh (hbox);have hH_:=cH jF hb hg;have GW128:=zh hH_.1;have GE128:=GW128;replace HB:=zh hH_.2;clear hb hbox hg hH_)|((with_reducible refine zK (N:=3) rfl ?_);refine zI ?hg (N:=3) ?hd (cs:=#[.string a1_0,.int .i64 a1_1]) (t:=51) ?hr ?_;(case hd=>rfl);(case hg=>rfl);(case hr=>go_simp <;> rfl);intro gb129 hg w4 hbox hb;have BK129:=zh (hbox);have hH_:=cH (by repeat (with_reducible first|exact HB.out|apply za|apply zb|apply zc|refine zd ?_ GE128.out)) hb hg;have GW129:=zh hH_.1;have GE129:=GW129;replace HB:=zh hH_.2;have NB128_129:=zh ((by rw [hg];exact yc (yi (g:=gb128) (o:=.cells #[.slice A0_0 l0_0.length c0_0,.int .i64 a0_1] 35 (0,0)) jl) : gb128≠gb129));have NB129_128:=zh NB128_129.out.symm;replace BK128:=zh (cD BK128.out jl hb);clear hb hbox hg hH_))
 go_loopg [5,6] k (fun kq v5 v6 w' => ∃ (x5_1 : Int) (x6_1 : Int),v5 = .int .i64 x5_1∧v6 = .int .i64 x6_1∧Aside0 (F8.l0 kq x5_1 x6_1 l0_0 a0_1 a1_0 a1_1=some r)∧Aside0 (kq≤k)∧Aside0 (w'.heap[gb128]? = some (.cells #[(.slice A0_0 l0_0.length c0_0),.int .i64 a0_1] 35 (0,0)))∧Aside0 (w'.heap[gb129]? = some (.cells #[.string a1_0,.int .i64 a1_1] 51 (0,0)))∧Aside0 (Below w.heap.size w w'))
 case atStart=>exact ⟨(0),(1),jE,jE,H',⟨ye _⟩,⟨jl⟩,⟨jy⟩,⟨js⟩⟩
 case round =>
  clear H'
  try clear p2
  obtain ⟨x5_1,x6_1,rfl,rfl,HA,HK1,BK128,BK129,HB⟩:=hrel
  cases gk with
  | zero=>exact absurd HA.out (by simp [F8.l0])
  | succ k1 =>
   have H:=HA.out;clear HA;simp only [F8.l0] at H
   by_cases c5 : x6_1<(l0_0.length : Int)
   ·
    rw [if_pos c5] at H
    have c5b0 : decide (x6_1<(l0_0.length : Int))=true:=decide_eq_true c5;clear c5
    by_cases c6 : 0≤x6_1
    ·
     rw [if_pos c6] at H
     have c6b0 : decide (0≤x6_1)=true:=decide_eq_true c6;clear c6
     by_cases c7 : (((rd_T67 l0_0 x6_1).f1).length : Int) > 0
     ·
      rw [if_pos c7] at H
      have c7b0 : decide (0<(((rd_T67 l0_0 x6_1).f1).length : Int))=true:=decide_eq_true c7;have c7b1 : decide (0<((rd_T67 l0_0 x6_1).f1).length)=true:=decide_eq_true jD;clear c7
      by_cases c8 : 0<(((rd_T67 l0_0 x6_1).f1).length : Int)
      ·
       rw [if_pos c8] at H
       have c8b0 : decide (0<(((rd_T67 l0_0 x6_1).f1).length : Int))=true:=decide_eq_true c8;have c8b1 : decide (0<((rd_T67 l0_0 x6_1).f1).length)=true:=decide_eq_true jD;clear c8;replace H:=zT.mp H;obtain ⟨t133,A90,H⟩:=H;have A9:=zh A90;clear A90
       by_cases c10 : t133=true
       ·
        subst c10
        rw [if_pos rfl] at H;have H':=zh H;clear H;have hnb11:=NB128_129.out;have hnc11:=NB129_128.out;obtain ⟨hcz12_0,hcz12_1,hfz12_0,hfz12_1⟩:=cB2 BK128.out
        try go_wp2
        replace BK128:=zh (zf BK128.out);replace BK129:=zh (zf BK129.out);replace HB:=zh (zc HB.out);have p130 : 0≤(x6_1 : Int):=zy jC;have q130 : x6_1<(l0_0.length : Int):=zy jC;obtain ⟨ad130,A130_1,c130_1,e130,hx130_0,hx130_1,hl130_1,hi130_1⟩:=at_T67 HR0_0.out x6_1 p130 q130;have hw130_1:=hx130_1;have hw130_0:=hx130_0
        cases e130
        replace hx130_0:=(HB.out.cell (zl w _ hx130_0)).trans hx130_0;replace hx130_1:=(HB.out.cell (zl w _ hx130_1)).trans hx130_1;have HR130_1:=zh hi130_1;have HC130_1:=zh hl130_1;clear hi130_1 hl130_1;replace p130:=eq_true p130;replace q130:=eq_true q130;have p131 : 0≤(x6_1 : Int):=zy jC;have q131 : x6_1<(l0_0.length : Int):=zy jC;obtain ⟨ad131,A131_1,c131_1,e131,hx131_0,hx131_1,hl131_1,hi131_1⟩:=at_T67 HR0_0.out x6_1 p131 q131;have hw131_1:=hx131_1;have hw131_0:=hx131_0;obtain rfl : ad130=ad131:=(by injection e131);replace hx131_0:=(HB.out.cell (zl w _ hx131_0)).trans hx131_0;replace hx131_1:=(HB.out.cell (zl w _ hx131_1)).trans hx131_1;have HR131_1:=zh hi131_1;have HC131_1:=zh hl131_1;clear hi131_1 hl131_1;replace p131:=eq_true p131;replace q131:=eq_true q131;have ea_:=zU (hx130_1.symm.trans hx131_1);injection ea_ with ea_ en_ ec_;subst ea_;subst ec_;clear en_;have p132 : 0≤(0 : Int):=jD;have q132 : 0<(((rd_T67 l0_0 x6_1).f1).length : Int):=zy jC;obtain ⟨ad132,e132,hx132_0,hx132_1⟩:=at_T51 HR131_1.out 0 p132 q132;have hw132_1:=hx132_1;(try rw [show ((0 : Int)).toNat=0 from rfl] at hw132_1);(try rw [show 0*2=0 from rfl] at hw132_1);(try rw [Addr.add_zero'] at hw132_1);have hw132_0:=hx132_0;(try rw [show ((0 : Int)).toNat=0 from rfl] at hw132_0);(try rw [show 0*2=0 from rfl] at hw132_0);(try rw [Addr.add_zero'] at hw132_0)
        cases e132
        have qi132 : (0<((rd_T67 l0_0 x6_1).f1).length)=True:=eq_true jD;(try rw [show ((0 : Int)).toNat=0 from rfl] at hx132_0);(try rw [show 0*2=0 from rfl] at hx132_0);(try rw [Addr.add_zero'] at hx132_0);(try rw [show ((0 : Int)).toNat=0 from rfl] at hx132_1);(try rw [show 0*2=0 from rfl] at hx132_1);(try rw [Addr.add_zero'] at hx132_1);replace hx132_0:=(HB.out.cell (zl w _ hx132_0)).trans hx132_0;replace hx132_1:=(HB.out.cell (zl w _ hx132_1)).trans hx132_1;replace p132:=eq_true p132;replace q132:=eq_true q132;refine start_ (n:=21) (S:=fun w' => w'.cell? ⟨gb128,0,none⟩=some (.slice (some ad130) l0_0.length c0_0)∧w'.cell? ⟨gb128,1,none⟩=some (.int .i64 a0_1)∧w'.cell? ⟨gb129,0,none⟩=some (.string a1_0)∧w'.cell? ⟨gb129,1,none⟩=some (.int .i64 a1_1)∧w'.cell? (ad130.add ((x6_1).toNat*2))=some (.int .i64 ((rd_T67 l0_0 x6_1).f0))∧w'.cell? ⟨(ad130.add ((x6_1).toNat*2)).block,(ad130.add ((x6_1).toNat*2)).off+1,none⟩=some (.slice (some ad132) ((rd_T67 l0_0 x6_1).f1).length c130_1)∧w'.cell? (ad130.add ((x6_1).toNat*2))=some (.int .i64 ((rd_T67 l0_0 x6_1).f0))∧w'.cell? ⟨(ad130.add ((x6_1).toNat*2)).block,(ad130.add ((x6_1).toNat*2)).off+1,none⟩=some (.slice (some ad132) ((rd_T67 l0_0 x6_1).f1).length c130_1)∧w'.cell? ad132=some (.string ((rd_T51 ((rd_T67 l0_0 x6_1).f1) 0).f0))∧w'.cell? ⟨ad132.block,ad132.off+1,none⟩=some (.int .i64 ((rd_T51 ((rd_T67 l0_0 x6_1).f1) 0).f1))) (ds:=[]) (bm_ 0 21) jA rfl rfl ⟨(zz BK128.out 0).trans rfl,(zz BK128.out 1).trans rfl,(zz BK129.out 0).trans rfl,(zz BK129.out 1).trans rfl,((HB.out.cell (zl w _ hw130_0)).trans hw130_0),((HB.out.cell (zl w _ hw130_1)).trans hw130_1),((HB.out.cell (zl w _ hw131_0)).trans hw131_0),((HB.out.cell (zl w _ hw131_1)).trans hw131_1),((HB.out.cell (zl w _ hw132_0)).trans hw132_0),((HB.out.cell (zl w _ hw132_1)).trans hw132_1)⟩ (fun hHeld=>?_);refine with_tabW F8.tab5 F8.bits5 (fun HT_ HW_=>?_);generalize wr.drew=w13 at BK128 BK129 HB HR130_1 HR131_1 hx130_0 hx130_1 hx131_0 hx131_1 hx132_0 hx132_1 hHeld ⊢;refine pure_ (i:=0) (N:=some 14) (v:=?_) (a':=?_) (bm_ 1 21) rfl rfl (any_of HT_.out jA) (fun _ _ _ h=>h) (Or.inl ⟨by rfl,?_⟩) ?_ ?_;rotate_left;exact jb;rotate_left;exact jc
        refine pure_ (i:=2) (N:=some 16) (v:=?_) (a':=?_) #[true,false,true,false,false,false,false,false,false,false,false,false,false,false,false,false,false,false,false,false,false] rfl rfl (any_of HT_.out jA) (fun _ _ _ h=>h) (Or.inl ⟨by rfl,?_⟩) ?_ ?_;rotate_left;exact jb;rotate_left;exact jc
        refine take_ (i:=1) (N:=some 15) (v:=?_) (a':=?_) (bm_ 3 21) rfl rfl (yo HT_.out HW_.out jA) (fun _ _ _ h=>h) (Or.inl ⟨by rfl,?_⟩) hHeld ?_ ?_;rotate_left
        ·
         rintro w' ⟨s0,s1,s2,s3,s4,s5,s6,s7,s8,s9⟩
         go_simp
         with_reducible rfl
        rotate_left
        exact jc
        refine pure_ (i:=3) (N:=some 17) (v:=?_) (a':=?_) (bm_ 4 21) rfl rfl (any_of HT_.out jA) (fun _ _ _ h=>h) (Or.inl ⟨by rfl,?_⟩) ?_ ?_;rotate_left;exact jb;rotate_left;exact jc
        refine pure_ (i:=4) (N:=some 18) (v:=?_) (a':=?_) (bm_ 5 21) rfl rfl (any_of HT_.out jA) (fun _ _ _ h=>h) (Or.inl ⟨by rfl,?_⟩) ?_ ?_;rotate_left;exact jb;rotate_left;exact jc
        refine take_ (i:=5) (N:=some 19) (v:=?_) (a':=?_) (bm_ 6 21) rfl rfl (yo HT_.out HW_.out jA) (fun _ _ _ h=>h) (Or.inl ⟨by rfl,?_⟩) hHeld ?_ ?_;rotate_left
        ·
         rintro w' ⟨s0,s1,s2,s3,s4,s5,s6,s7,s8,s9⟩
         go_simp
         with_reducible rfl
        rotate_left
        exact jc
        refine pure_ (i:=6) (N:=some 20) (v:=?_) (a':=?_) (bm_ 7 21) rfl rfl (any_of HT_.out jA) (fun _ _ _ h=>h) (Or.inl ⟨by rfl,?_⟩) ?_ ?_;rotate_left;exact jb;rotate_left;exact jc
        refine pure_ (i:=7) (N:=some 21) (v:=?_) (a':=?_) (bm_ 8 21) rfl rfl (any_of HT_.out jA) (fun _ _ _ h=>h) (Or.inl ⟨by rfl,?_⟩) ?_ ?_;rotate_left;exact jb;rotate_left;exact jc
        refine pure_ (i:=8) (N:=some 22) (v:=?_) (a':=?_) (bm_ 9 21) rfl rfl (any_of HT_.out jA) (fun _ _ _ h=>h) (Or.inl ⟨by rfl,?_⟩) ?_ ?_;rotate_left;exact jb;rotate_left;exact jc
        refine pure_ (i:=10) (N:=some 24) (v:=?_) (a':=?_) #[true,true,true,true,true,true,true,true,true,false,true,false,false,false,false,false,false,false,false,false,false] rfl rfl (any_of HT_.out jA) (fun _ _ _ h=>h) (Or.inl ⟨by rfl,?_⟩) ?_ ?_;rotate_left;exact jb;rotate_left;exact jc
        refine pure_ (i:=12) (N:=some 26) (v:=?_) (a':=?_) #[true,true,true,true,true,true,true,true,true,false,true,false,true,false,false,false,false,false,false,false,false] rfl rfl (any_of HT_.out jA) (fun _ _ _ h=>h) (Or.inl ⟨by rfl,?_⟩) ?_ ?_;rotate_left;exact jb;rotate_left;exact jc
        refine take_ (i:=9) (N:=some 23) (v:=?_) (a':=?_) #[true,true,true,true,true,true,true,true,true,true,true,false,true,false,false,false,false,false,false,false,false] rfl rfl (yo HT_.out HW_.out jA) (fun _ _ _ h=>h) (Or.inl ⟨by rfl,?_⟩) hHeld ?_ ?_;rotate_left
        ·
         rintro w' ⟨s0,s1,s2,s3,s4,s5,s6,s7,s8,s9⟩
         go_simp
         with_reducible rfl
        rotate_left
        exact jc
        refine take_ (i:=11) (N:=some 25) (v:=?_) (a':=?_) (bm_ 13 21) rfl rfl (yo HT_.out HW_.out jA) (fun _ _ _ h=>h) (Or.inl ⟨by rfl,?_⟩) hHeld ?_ ?_;rotate_left
        ·
         rintro w' ⟨s0,s1,s2,s3,s4,s5,s6,s7,s8,s9⟩
         go_simp
         with_reducible rfl
        rotate_left
        exact jc
        refine pure_ (i:=13) (N:=some 27) (v:=?_) (a':=?_) (bm_ 14 21) rfl rfl (any_of HT_.out jA) (fun _ _ _ h=>h) (Or.inl ⟨by rfl,?_⟩) ?_ ?_;rotate_left;exact jb;rotate_left;exact jc
        refine pure_ (i:=14) (N:=some 28) (v:=?_) (a':=?_) (bm_ 15 21) rfl rfl (any_of HT_.out jA) (fun _ _ _ h=>h) (Or.inl ⟨by rfl,?_⟩) ?_ ?_;rotate_left;exact jb;rotate_left;exact jc
        refine take_ (i:=15) (N:=some 29) (v:=?_) (a':=?_) (bm_ 16 21) rfl rfl (yo HT_.out HW_.out jA) (fun _ _ _ h=>h) (Or.inl ⟨by rfl,?_⟩) hHeld ?_ ?_;rotate_left
        ·
         rintro w' ⟨s0,s1,s2,s3,s4,s5,s6,s7,s8,s9⟩
         go_simp
         with_reducible rfl
        rotate_left
        exact jc
        refine pure_ (i:=16) (N:=some 30) (v:=?_) (a':=?_) (bm_ 17 21) rfl rfl (any_of HT_.out jA) (fun _ _ _ h=>h) (Or.inl ⟨by rfl,?_⟩) ?_ ?_;rotate_left;exact jb;rotate_left;exact jc
        refine take_ (i:=17) (N:=some 31) (v:=?_) (a':=?_) (bm_ 18 21) rfl rfl (yo HT_.out HW_.out jA) (fun _ _ _ h=>h) (Or.inl ⟨by rfl,?_⟩) hHeld ?_ ?_;rotate_left
        ·
         rintro w' ⟨s0,s1,s2,s3,s4,s5,s6,s7,s8,s9⟩
         go_simp
         with_reducible rfl
        rotate_left
        exact jc
        refine one_ (i:=18) (N:=some 32) (bm_ 19 21) rfl rfl (one_of HT_.out jA) jB (fun K hK=>?_);refine goes_ Try.func52 jA rfl #[.agg #[.string a1_0,.int .i64 a1_1],.agg #[.string ((rd_T51 ((rd_T67 l0_0 x6_1).f1) 0).f0),.int .i64 ((rd_T51 ((rd_T67 l0_0 x6_1).f1) 0).f1)]] (by rfl) rfl rfl jG ?_
        with_reducible refine (F0d.calls  a1_0 a1_1 ((rd_T51 ((rd_T67 l0_0 x6_1).f1) 0).f0) ((rd_T51 ((rd_T67 l0_0 x6_1).f1) 0).f1) true _ A9.out).mono ?_
        rintro e w14 ⟨rfl,hb⟩;refine ⟨_,rfl,?_⟩;replace BK128:=zh (cD BK128.out jl hb);replace BK129:=zh (cD BK129.out jy hb);replace HB:=zh (zC js hb);(try clear hb);(try clear hb2);(try clear hk);(try clear hi);refine hK.out _ _ ⟨(zz BK128.out 0).trans rfl,(zz BK128.out 1).trans rfl,(zz BK129.out 0).trans rfl,(zz BK129.out 1).trans rfl,((HB.out.cell (zl w _ hw130_0)).trans hw130_0),((HB.out.cell (zl w _ hw130_1)).trans hw130_1),((HB.out.cell (zl w _ hw131_0)).trans hw131_0),((HB.out.cell (zl w _ hw131_1)).trans hw131_1),((HB.out.cell (zl w _ hw132_0)).trans hw132_0),((HB.out.cell (zl w _ hw132_1)).trans hw132_1)⟩ (fun hHeld=>?_);clear hK K;refine norm_ (a':=?_) ?_ ?_;rotate_left
        ·
         show Act.put _ (some 32) _=_
         simp only [Act.put,zi,zj,zk,zG,zH]
         rfl
        refine pure_ (i:=19) (N:=some 33) (v:=?_) (a':=?_) (bm_ 20 21) rfl rfl (any_of HT_.out jA) (fun _ _ _ h=>h) (Or.inl ⟨by rfl,?_⟩) ?_ ?_;rotate_left;exact jb;rotate_left;exact jc
        refine pure_ (i:=20) (N:=some 34) (v:=?_) (a':=?_) (bm_ 21 21) rfl rfl (any_of HT_.out jA) (fun _ _ _ h=>h) (Or.inl ⟨by rfl,?_⟩) ?_ ?_;rotate_left;exact jb;rotate_left;exact jc
        refine done_ (done_of HT_.out jA) ?_
        try go_wp2
        go_roundg k1
        case measure=>have:=HK1.out;omega
        case rel=>exact ⟨(x5_1),(wrap64 (x6_1+1)),jE,jE,H',⟨jL⟩,⟨jl⟩,⟨jy⟩,⟨js⟩⟩
       replace c10:=yb.mpr c10;subst c10;rw [if_neg (show ¬ (false=true) by decide)] at H;have H':=zh H;clear H;have hnb15:=NB128_129.out;have hnc15:=NB129_128.out;obtain ⟨hcz16_0,hcz16_1,hfz16_0,hfz16_1⟩:=cB2 BK128.out
       try go_wp2
       replace BK128:=zh (zf BK128.out);replace BK129:=zh (zf BK129.out);replace HB:=zh (zc HB.out);have p130 : 0≤(x6_1 : Int):=zy jC;have q130 : x6_1<(l0_0.length : Int):=zy jC;obtain ⟨ad130,A130_1,c130_1,e130,hx130_0,hx130_1,hl130_1,hi130_1⟩:=at_T67 HR0_0.out x6_1 p130 q130;have hw130_1:=hx130_1;have hw130_0:=hx130_0
       cases e130
       replace hx130_0:=(HB.out.cell (zl w _ hx130_0)).trans hx130_0;replace hx130_1:=(HB.out.cell (zl w _ hx130_1)).trans hx130_1;have HR130_1:=zh hi130_1;have HC130_1:=zh hl130_1;clear hi130_1 hl130_1;replace p130:=eq_true p130;replace q130:=eq_true q130;have p131 : 0≤(x6_1 : Int):=zy jC;have q131 : x6_1<(l0_0.length : Int):=zy jC;obtain ⟨ad131,A131_1,c131_1,e131,hx131_0,hx131_1,hl131_1,hi131_1⟩:=at_T67 HR0_0.out x6_1 p131 q131;have hw131_1:=hx131_1;have hw131_0:=hx131_0;obtain rfl : ad130=ad131:=(by injection e131);replace hx131_0:=(HB.out.cell (zl w _ hx131_0)).trans hx131_0;replace hx131_1:=(HB.out.cell (zl w _ hx131_1)).trans hx131_1;have HR131_1:=zh hi131_1;have HC131_1:=zh hl131_1;clear hi131_1 hl131_1;replace p131:=eq_true p131;replace q131:=eq_true q131;have ea_:=zU (hx130_1.symm.trans hx131_1);injection ea_ with ea_ en_ ec_;subst ea_;subst ec_;clear en_;have p132 : 0≤(0 : Int):=jD;have q132 : 0<(((rd_T67 l0_0 x6_1).f1).length : Int):=zy jC;obtain ⟨ad132,e132,hx132_0,hx132_1⟩:=at_T51 HR131_1.out 0 p132 q132;have hw132_1:=hx132_1;(try rw [show ((0 : Int)).toNat=0 from rfl] at hw132_1);(try rw [show 0*2=0 from rfl] at hw132_1);(try rw [Addr.add_zero'] at hw132_1);have hw132_0:=hx132_0;(try rw [show ((0 : Int)).toNat=0 from rfl] at hw132_0);(try rw [show 0*2=0 from rfl] at hw132_0);(try rw [Addr.add_zero'] at hw132_0)
       cases e132
       have qi132 : (0<((rd_T67 l0_0 x6_1).f1).length)=True:=eq_true jD;(try rw [show ((0 : Int)).toNat=0 from rfl] at hx132_0);(try rw [show 0*2=0 from rfl] at hx132_0);(try rw [Addr.add_zero'] at hx132_0);(try rw [show ((0 : Int)).toNat=0 from rfl] at hx132_1);(try rw [show 0*2=0 from rfl] at hx132_1);(try rw [Addr.add_zero'] at hx132_1);replace hx132_0:=(HB.out.cell (zl w _ hx132_0)).trans hx132_0;replace hx132_1:=(HB.out.cell (zl w _ hx132_1)).trans hx132_1;replace p132:=eq_true p132;replace q132:=eq_true q132;refine start_ (n:=21) (S:=fun w' => w'.cell? ⟨gb128,0,none⟩=some (.slice (some ad130) l0_0.length c0_0)∧w'.cell? ⟨gb128,1,none⟩=some (.int .i64 a0_1)∧w'.cell? ⟨gb129,0,none⟩=some (.string a1_0)∧w'.cell? ⟨gb129,1,none⟩=some (.int .i64 a1_1)∧w'.cell? (ad130.add ((x6_1).toNat*2))=some (.int .i64 ((rd_T67 l0_0 x6_1).f0))∧w'.cell? ⟨(ad130.add ((x6_1).toNat*2)).block,(ad130.add ((x6_1).toNat*2)).off+1,none⟩=some (.slice (some ad132) ((rd_T67 l0_0 x6_1).f1).length c130_1)∧w'.cell? (ad130.add ((x6_1).toNat*2))=some (.int .i64 ((rd_T67 l0_0 x6_1).f0))∧w'.cell? ⟨(ad130.add ((x6_1).toNat*2)).block,(ad130.add ((x6_1).toNat*2)).off+1,none⟩=some (.slice (some ad132) ((rd_T67 l0_0 x6_1).f1).length c130_1)∧w'.cell? ad132=some (.string ((rd_T51 ((rd_T67 l0_0 x6_1).f1) 0).f0))∧w'.cell? ⟨ad132.block,ad132.off+1,none⟩=some (.int .i64 ((rd_T51 ((rd_T67 l0_0 x6_1).f1) 0).f1))) (ds:=[]) (bm_ 0 21) jA rfl rfl ⟨(zz BK128.out 0).trans rfl,(zz BK128.out 1).trans rfl,(zz BK129.out 0).trans rfl,(zz BK129.out 1).trans rfl,((HB.out.cell (zl w _ hw130_0)).trans hw130_0),((HB.out.cell (zl w _ hw130_1)).trans hw130_1),((HB.out.cell (zl w _ hw131_0)).trans hw131_0),((HB.out.cell (zl w _ hw131_1)).trans hw131_1),((HB.out.cell (zl w _ hw132_0)).trans hw132_0),((HB.out.cell (zl w _ hw132_1)).trans hw132_1)⟩ (fun hHeld=>?_);refine with_tabW F8.tab5 F8.bits5 (fun HT_ HW_=>?_);generalize wr.drew=w17 at BK128 BK129 HB HR130_1 HR131_1 hx130_0 hx130_1 hx131_0 hx131_1 hx132_0 hx132_1 hHeld ⊢;refine pure_ (i:=0) (N:=some 14) (v:=?_) (a':=?_) (bm_ 1 21) rfl rfl (any_of HT_.out jA) (fun _ _ _ h=>h) (Or.inl ⟨by rfl,?_⟩) ?_ ?_;rotate_left;exact jb;rotate_left;exact jc
       refine pure_ (i:=2) (N:=some 16) (v:=?_) (a':=?_) #[true,false,true,false,false,false,false,false,false,false,false,false,false,false,false,false,false,false,false,false,false] rfl rfl (any_of HT_.out jA) (fun _ _ _ h=>h) (Or.inl ⟨by rfl,?_⟩) ?_ ?_;rotate_left;exact jb;rotate_left;exact jc
       refine take_ (i:=1) (N:=some 15) (v:=?_) (a':=?_) (bm_ 3 21) rfl rfl (yo HT_.out HW_.out jA) (fun _ _ _ h=>h) (Or.inl ⟨by rfl,?_⟩) hHeld ?_ ?_;rotate_left
       ·
        rintro w' ⟨s0,s1,s2,s3,s4,s5,s6,s7,s8,s9⟩
        go_simp
        with_reducible rfl
       rotate_left
       exact jc
       refine pure_ (i:=3) (N:=some 17) (v:=?_) (a':=?_) (bm_ 4 21) rfl rfl (any_of HT_.out jA) (fun _ _ _ h=>h) (Or.inl ⟨by rfl,?_⟩) ?_ ?_;rotate_left;exact jb;rotate_left;exact jc
       refine pure_ (i:=4) (N:=some 18) (v:=?_) (a':=?_) (bm_ 5 21) rfl rfl (any_of HT_.out jA) (fun _ _ _ h=>h) (Or.inl ⟨by rfl,?_⟩) ?_ ?_;rotate_left;exact jb;rotate_left;exact jc
       refine take_ (i:=5) (N:=some 19) (v:=?_) (a':=?_) (bm_ 6 21) rfl rfl (yo HT_.out HW_.out jA) (fun _ _ _ h=>h) (Or.inl ⟨by rfl,?_⟩) hHeld ?_ ?_;rotate_left
       ·
        rintro w' ⟨s0,s1,s2,s3,s4,s5,s6,s7,s8,s9⟩
        go_simp
        with_reducible rfl
       rotate_left
       exact jc
       refine pure_ (i:=6) (N:=some 20) (v:=?_) (a':=?_) (bm_ 7 21) rfl rfl (any_of HT_.out jA) (fun _ _ _ h=>h) (Or.inl ⟨by rfl,?_⟩) ?_ ?_;rotate_left;exact jb;rotate_left;exact jc
       refine pure_ (i:=7) (N:=some 21) (v:=?_) (a':=?_) (bm_ 8 21) rfl rfl (any_of HT_.out jA) (fun _ _ _ h=>h) (Or.inl ⟨by rfl,?_⟩) ?_ ?_;rotate_left;exact jb;rotate_left;exact jc
       refine pure_ (i:=8) (N:=some 22) (v:=?_) (a':=?_) (bm_ 9 21) rfl rfl (any_of HT_.out jA) (fun _ _ _ h=>h) (Or.inl ⟨by rfl,?_⟩) ?_ ?_;rotate_left;exact jb;rotate_left;exact jc
       refine pure_ (i:=10) (N:=some 24) (v:=?_) (a':=?_) #[true,true,true,true,true,true,true,true,true,false,true,false,false,false,false,false,false,false,false,false,false] rfl rfl (any_of HT_.out jA) (fun _ _ _ h=>h) (Or.inl ⟨by rfl,?_⟩) ?_ ?_;rotate_left;exact jb;rotate_left;exact jc
       refine pure_ (i:=12) (N:=some 26) (v:=?_) (a':=?_) #[true,true,true,true,true,true,true,true,true,false,true,false,true,false,false,false,false,false,false,false,false] rfl rfl (any_of HT_.out jA) (fun _ _ _ h=>h) (Or.inl ⟨by rfl,?_⟩) ?_ ?_;rotate_left;exact jb;rotate_left;exact jc
       refine take_ (i:=9) (N:=some 23) (v:=?_) (a':=?_) #[true,true,true,true,true,true,true,true,true,true,true,false,true,false,false,false,false,false,false,false,false] rfl rfl (yo HT_.out HW_.out jA) (fun _ _ _ h=>h) (Or.inl ⟨by rfl,?_⟩) hHeld ?_ ?_;rotate_left
       ·
        rintro w' ⟨s0,s1,s2,s3,s4,s5,s6,s7,s8,s9⟩
        go_simp
        with_reducible rfl
       rotate_left
       exact jc
       refine take_ (i:=11) (N:=some 25) (v:=?_) (a':=?_) (bm_ 13 21) rfl rfl (yo HT_.out HW_.out jA) (fun _ _ _ h=>h) (Or.inl ⟨by rfl,?_⟩) hHeld ?_ ?_;rotate_left
       ·
        rintro w' ⟨s0,s1,s2,s3,s4,s5,s6,s7,s8,s9⟩
        go_simp
        with_reducible rfl
       rotate_left
       exact jc
       refine pure_ (i:=13) (N:=some 27) (v:=?_) (a':=?_) (bm_ 14 21) rfl rfl (any_of HT_.out jA) (fun _ _ _ h=>h) (Or.inl ⟨by rfl,?_⟩) ?_ ?_;rotate_left;exact jb;rotate_left;exact jc
       refine pure_ (i:=14) (N:=some 28) (v:=?_) (a':=?_) (bm_ 15 21) rfl rfl (any_of HT_.out jA) (fun _ _ _ h=>h) (Or.inl ⟨by rfl,?_⟩) ?_ ?_;rotate_left;exact jb;rotate_left;exact jc
       refine take_ (i:=15) (N:=some 29) (v:=?_) (a':=?_) (bm_ 16 21) rfl rfl (yo HT_.out HW_.out jA) (fun _ _ _ h=>h) (Or.inl ⟨by rfl,?_⟩) hHeld ?_ ?_;rotate_left
       ·
        rintro w' ⟨s0,s1,s2,s3,s4,s5,s6,s7,s8,s9⟩
        go_simp
        with_reducible rfl
       rotate_left
       exact jc
       refine pure_ (i:=16) (N:=some 30) (v:=?_) (a':=?_) (bm_ 17 21) rfl rfl (any_of HT_.out jA) (fun _ _ _ h=>h) (Or.inl ⟨by rfl,?_⟩) ?_ ?_;rotate_left;exact jb;rotate_left;exact jc
       refine take_ (i:=17) (N:=some 31) (v:=?_) (a':=?_) (bm_ 18 21) rfl rfl (yo HT_.out HW_.out jA) (fun _ _ _ h=>h) (Or.inl ⟨by rfl,?_⟩) hHeld ?_ ?_;rotate_left
       ·
        rintro w' ⟨s0,s1,s2,s3,s4,s5,s6,s7,s8,s9⟩
        go_simp
        with_reducible rfl
       rotate_left
       exact jc
       refine one_ (i:=18) (N:=some 32) (bm_ 19 21) rfl rfl (one_of HT_.out jA) jB (fun K hK=>?_);refine goes_ Try.func52 jA rfl #[.agg #[.string a1_0,.int .i64 a1_1],.agg #[.string ((rd_T51 ((rd_T67 l0_0 x6_1).f1) 0).f0),.int .i64 ((rd_T51 ((rd_T67 l0_0 x6_1).f1) 0).f1)]] (by rfl) rfl rfl jG ?_
       with_reducible refine (F0d.calls  a1_0 a1_1 ((rd_T51 ((rd_T67 l0_0 x6_1).f1) 0).f0) ((rd_T51 ((rd_T67 l0_0 x6_1).f1) 0).f1) false _ A9.out).mono ?_
       rintro e w18 ⟨rfl,hb⟩;refine ⟨_,rfl,?_⟩;replace BK128:=zh (cD BK128.out jl hb);replace BK129:=zh (cD BK129.out jy hb);replace HB:=zh (zC js hb);(try clear hb);(try clear hb2);(try clear hk);(try clear hi);refine hK.out _ _ ⟨(zz BK128.out 0).trans rfl,(zz BK128.out 1).trans rfl,(zz BK129.out 0).trans rfl,(zz BK129.out 1).trans rfl,((HB.out.cell (zl w _ hw130_0)).trans hw130_0),((HB.out.cell (zl w _ hw130_1)).trans hw130_1),((HB.out.cell (zl w _ hw131_0)).trans hw131_0),((HB.out.cell (zl w _ hw131_1)).trans hw131_1),((HB.out.cell (zl w _ hw132_0)).trans hw132_0),((HB.out.cell (zl w _ hw132_1)).trans hw132_1)⟩ (fun hHeld=>?_);clear hK K;refine norm_ (a':=?_) ?_ ?_;rotate_left
       ·
        show Act.put _ (some 32) _=_
        simp only [Act.put,zi,zj,zk,zG,zH]
        rfl
       refine pure_ (i:=19) (N:=some 33) (v:=?_) (a':=?_) (bm_ 20 21) rfl rfl (any_of HT_.out jA) (fun _ _ _ h=>h) (Or.inl ⟨by rfl,?_⟩) ?_ ?_;rotate_left;exact jb;rotate_left;exact jc
       refine pure_ (i:=20) (N:=some 34) (v:=?_) (a':=?_) (bm_ 21 21) rfl rfl (any_of HT_.out jA) (fun _ _ _ h=>h) (Or.inl ⟨by rfl,?_⟩) ?_ ?_;rotate_left;exact jb;rotate_left;exact jc
       refine done_ (done_of HT_.out jA) ?_
       try go_wp2
       go_roundg k1
       case measure=>have:=HK1.out;omega
       case rel=>exact ⟨(x6_1),(wrap64 (x6_1+1)),jE,jE,H',⟨jL⟩,⟨jl⟩,⟨jy⟩,⟨js⟩⟩
      rw [if_neg c8] at H;exact absurd H (by simp)
     rw [if_neg c7] at H;have c7b0 : decide (0<(((rd_T67 l0_0 x6_1).f1).length : Int))=false:=decide_eq_false c7;have c7b1 : decide (0<((rd_T67 l0_0 x6_1).f1).length)=false:=decide_eq_false jD;clear c7;have H':=zh H;clear H;have hnb19:=NB128_129.out;have hnc19:=NB129_128.out;obtain ⟨hcz20_0,hcz20_1,hfz20_0,hfz20_1⟩:=cB2 BK128.out
     try go_wp2
     replace BK128:=zh (zf BK128.out);replace BK129:=zh (zf BK129.out);replace HB:=zh (zc HB.out);have p130 : 0≤(x6_1 : Int):=zy jC;have q130 : x6_1<(l0_0.length : Int):=zy jC;obtain ⟨ad130,A130_1,c130_1,e130,hx130_0,hx130_1,hl130_1,hi130_1⟩:=at_T67 HR0_0.out x6_1 p130 q130;have hw130_1:=hx130_1;have hw130_0:=hx130_0
     cases e130
     replace hx130_0:=(HB.out.cell (zl w _ hx130_0)).trans hx130_0;replace hx130_1:=(HB.out.cell (zl w _ hx130_1)).trans hx130_1;have HR130_1:=zh hi130_1;have HC130_1:=zh hl130_1;clear hi130_1 hl130_1;replace p130:=eq_true p130;replace q130:=eq_true q130;refine start_ (n:=21) (S:=fun w' => w'.cell? ⟨gb128,0,none⟩=some (.slice (some ad130) l0_0.length c0_0)∧w'.cell? ⟨gb128,1,none⟩=some (.int .i64 a0_1)∧w'.cell? (ad130.add ((x6_1).toNat*2))=some (.int .i64 ((rd_T67 l0_0 x6_1).f0))∧w'.cell? ⟨(ad130.add ((x6_1).toNat*2)).block,(ad130.add ((x6_1).toNat*2)).off+1,none⟩=some (.slice A130_1 ((rd_T67 l0_0 x6_1).f1).length c130_1)) (ds:=[]) (bm_ 0 21) jA rfl rfl ⟨(zz BK128.out 0).trans rfl,(zz BK128.out 1).trans rfl,((HB.out.cell (zl w _ hw130_0)).trans hw130_0),((HB.out.cell (zl w _ hw130_1)).trans hw130_1)⟩ (fun hHeld=>?_);refine with_tabW F8.tab5 F8.bits5 (fun HT_ HW_=>?_);generalize wr.drew=w21 at BK128 BK129 HB HR130_1 hx130_0 hx130_1 hHeld ⊢;refine pure_ (i:=0) (N:=some 14) (v:=?_) (a':=?_) (bm_ 1 21) rfl rfl (any_of HT_.out jA) (fun _ _ _ h=>h) (Or.inl ⟨by rfl,?_⟩) ?_ ?_;rotate_left;exact jb;rotate_left;exact jc
     refine pure_ (i:=2) (N:=some 16) (v:=?_) (a':=?_) #[true,false,true,false,false,false,false,false,false,false,false,false,false,false,false,false,false,false,false,false,false] rfl rfl (any_of HT_.out jA) (fun _ _ _ h=>h) (Or.inl ⟨by rfl,?_⟩) ?_ ?_;rotate_left;exact jb;rotate_left;exact jc
     refine take_ (i:=1) (N:=some 15) (v:=?_) (a':=?_) (bm_ 3 21) rfl rfl (yo HT_.out HW_.out jA) (fun _ _ _ h=>h) (Or.inl ⟨by rfl,?_⟩) hHeld ?_ ?_;rotate_left
     ·
      rintro w' ⟨s0,s1,s2,s3⟩
      go_simp
      with_reducible rfl
     rotate_left
     exact jc
     refine pure_ (i:=3) (N:=some 17) (v:=?_) (a':=?_) (bm_ 4 21) rfl rfl (any_of HT_.out jA) (fun _ _ _ h=>h) (Or.inl ⟨by rfl,?_⟩) ?_ ?_;rotate_left;exact jb;rotate_left;exact jc
     refine pure_ (i:=4) (N:=some 18) (v:=?_) (a':=?_) (bm_ 5 21) rfl rfl (any_of HT_.out jA) (fun _ _ _ h=>h) (Or.inl ⟨by rfl,?_⟩) ?_ ?_;rotate_left;exact jb;rotate_left;exact jc
     refine take_ (i:=5) (N:=some 19) (v:=?_) (a':=?_) (bm_ 6 21) rfl rfl (yo HT_.out HW_.out jA) (fun _ _ _ h=>h) (Or.inl ⟨by rfl,?_⟩) hHeld ?_ ?_;rotate_left
     ·
      rintro w' ⟨s0,s1,s2,s3⟩
      go_simp
      with_reducible rfl
     rotate_left
     exact jc
     refine pure_ (i:=6) (N:=some 20) (v:=?_) (a':=?_) (bm_ 7 21) rfl rfl (any_of HT_.out jA) (fun _ _ _ h=>h) (Or.inl ⟨by rfl,?_⟩) ?_ ?_;rotate_left;exact jb;rotate_left;exact jc
     refine pure_ (i:=7) (N:=some 21) (v:=?_) (a':=?_) (bm_ 8 21) rfl rfl (any_of HT_.out jA) (fun _ _ _ h=>h) (Or.inl ⟨by rfl,?_⟩) ?_ ?_;rotate_left;exact jb;rotate_left;exact jc
     refine pure_ (i:=8) (N:=some 22) (v:=?_) (a':=?_) (bm_ 9 21) rfl rfl (any_of HT_.out jA) (fun _ _ _ h=>h) (Or.inl ⟨by rfl,?_⟩) ?_ ?_;rotate_left;exact jb;rotate_left;exact jc
     refine pure_ (i:=9) (N:=some 23) (v:=undef) (a':=?_) (bm_ 10 21) rfl rfl (any_of HT_.out jA) (fun _ _ _ h=>h) (Or.inr ⟨by rfl,rfl⟩) ?_ ?_;rotate_left
     exact jc
     refine pure_ (i:=10) (N:=some 24) (v:=undef) (a':=?_) (bm_ 11 21) rfl rfl (any_of HT_.out jA) (fun _ _ _ h=>h) (Or.inr ⟨by rfl,rfl⟩) ?_ ?_;rotate_left
     exact jc
     refine pure_ (i:=11) (N:=some 25) (v:=undef) (a':=?_) (bm_ 12 21) rfl rfl (any_of HT_.out jA) (fun _ _ _ h=>h) (Or.inr ⟨by rfl,rfl⟩) ?_ ?_;rotate_left
     exact jc
     refine pure_ (i:=12) (N:=some 26) (v:=undef) (a':=?_) (bm_ 13 21) rfl rfl (any_of HT_.out jA) (fun _ _ _ h=>h) (Or.inr ⟨by rfl,rfl⟩) ?_ ?_;rotate_left
     exact jc
     refine pure_ (i:=13) (N:=some 27) (v:=undef) (a':=?_) (bm_ 14 21) rfl rfl (any_of HT_.out jA) (fun _ _ _ h=>h) (Or.inr ⟨by rfl,rfl⟩) ?_ ?_;rotate_left
     exact jc
     refine pure_ (i:=14) (N:=some 28) (v:=undef) (a':=?_) (bm_ 15 21) rfl rfl (any_of HT_.out jA) (fun _ _ _ h=>h) (Or.inr ⟨by rfl,rfl⟩) ?_ ?_;rotate_left
     exact jc
     refine pure_ (i:=15) (N:=some 29) (v:=undef) (a':=?_) (bm_ 16 21) rfl rfl (any_of HT_.out jA) (fun _ _ _ h=>h) (Or.inr ⟨by rfl,rfl⟩) ?_ ?_;rotate_left
     exact jc
     refine pure_ (i:=16) (N:=some 30) (v:=undef) (a':=?_) (bm_ 17 21) rfl rfl (any_of HT_.out jA) (fun _ _ _ h=>h) (Or.inr ⟨by rfl,rfl⟩) ?_ ?_;rotate_left
     exact jc
     refine pure_ (i:=17) (N:=some 31) (v:=undef) (a':=?_) (bm_ 18 21) rfl rfl (any_of HT_.out jA) (fun _ _ _ h=>h) (Or.inr ⟨by rfl,rfl⟩) ?_ ?_;rotate_left
     exact jc
     refine pure_ (i:=18) (N:=some 32) (v:=undef) (a':=?_) (bm_ 19 21) rfl rfl (any_of HT_.out jA) (fun _ _ _ h=>h) (Or.inr ⟨by rfl,rfl⟩) ?_ ?_;rotate_left
     exact jc
     refine pure_ (i:=19) (N:=some 33) (v:=undef) (a':=?_) (bm_ 20 21) rfl rfl (any_of HT_.out jA) (fun _ _ _ h=>h) (Or.inr ⟨by rfl,rfl⟩) ?_ ?_;rotate_left
     exact jc
     refine pure_ (i:=20) (N:=some 34) (v:=?_) (a':=?_) (bm_ 21 21) rfl rfl (any_of HT_.out jA) (fun _ _ _ h=>h) (Or.inl ⟨by rfl,?_⟩) ?_ ?_;rotate_left;exact jb;rotate_left;exact jc
     refine done_ (done_of HT_.out jA) ?_
     try go_wp2
     go_roundg k1
     case measure=>have:=HK1.out;omega
     case rel=>exact ⟨(x5_1),(wrap64 (x6_1+1)),jE,jE,H',⟨jL⟩,⟨jl⟩,⟨jy⟩,⟨js⟩⟩
    rw [if_neg c6] at H;exact absurd H (by simp)
   rw [if_neg c5] at H;have c5b0 : decide (x6_1<(l0_0.length : Int))=false:=decide_eq_false c5;clear c5;obtain rfl:=zU H;have hnb22:=NB128_129.out;have hnc22:=NB129_128.out;obtain ⟨hcz23_0,hcz23_1,hfz23_0,hfz23_1⟩:=cB2 BK128.out
   go_wp2
   go_ret
   exact ⟨jH,js⟩


theorem eqA51 (d : Nat) (w : World) (x0 y0 : ByteArray) (x1 y1 : Int) :
  (Op.equalIn (d+2) 51 (.agg #[.string x0,.int .i64 x1]) (.agg #[.string y0,.int .i64 y1])).run Try.prog w = .ok (x0.toList == y0.toList && (x1 == y1)) w:=by
 refine eqA_of Try.underlying51 jA ?_;refine eqf_cons (by rfl) (by go_simp;rfl) (by go_simp;rfl) (by go_simp) ?_;exact eqf_last (by rfl) (by go_simp;rfl) (by go_simp;rfl) (by go_simp)
end Go.Proofs.Ytamikhmpfmgofaa.Q
end
