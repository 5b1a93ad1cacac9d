/- Texts of this claim, merged by a program of this session. -/
import Derived.Test.YtamikhmpfmgofaaKLawFnExactTreeDropp22
section
namespace Go.Proofs.Ytamikhmpfmgofaa.Q
open Go.RowKit Go.Proofs.YtamikhmpfmgofaaW.PrintWords Go.Proofs.YtamikhmpfmgofaaW.PrintLast Go.Proofs.YtamikhmpfmgofaaW.PrintMore
attribute [local go_sem] max2_int min2_int max_two min_two max_three min_three max_four min_four max2_str min2_str str_geq str_gtr str_leq
set_option linter.unusedVariables false
set_option linter.unusedSimpArgs false

def Fk.l0 : Nat→List (S51)→List (S67)→Int→Int→Option ((List (S51)))
 | 0,_,_,_,_=>none
 | k+1,x3,x8,x9,x10=>if x10<x9 then (if 0≤x10 then (if x10<(x8.length : Int) then (if x3.length+((rd_T67 x8 x10).f1).length<5864062014805 then (Fk.l0 k (x3++((rd_T67 x8 x10).f1)) x8 x9 (wrap64 (x10+1))) else (none)) else (none)) else (none)) else (some x3)
def Fk.f (k : Nat) (l0_0 : List (S67)) (a0_1 : Int) : Option ((List (S51))):=Fk.l0 k (([] : List (S51))) l0_0 (l0_0.length : Int) 0
theorem Fk.mono_l : ∀ k,(∀ y0 y1 y2 y3,LeO (Fk.l0 k y0 y1 y2 y3) (Fk.l0 (k+1) y0 y1 y2 y3))
 | 0=>fun _ _ _ _ r h=>by simp [Fk.l0] at h
 | k+1=>by
  have ih0:=Fk.mono_l k;intro y0 y1 y2 y3;unfold Fk.l0
  repeat' first|(with_reducible first|exact ih0 _ _ _ _|exact zQ _|exact zN _|refine zP ?_ ?_|refine zO ?_ (fun _=>?_))|refine zP ?_ ?_|refine zO ?_ (fun _=>?_)
theorem Fk.mono : ∀ a0 a1 k,LeO (Fk.f k a0 a1) (Fk.f (k+1) a0 a1):=by
 intro a0 a1 k;have ih0:=Fk.mono_l k;unfold Fk.f
 repeat' first|(with_reducible first|exact ih0 _ _ _ _|exact zQ _|exact zN _|refine zP ?_ ?_|refine zO ?_ (fun _=>?_))|refine zP ?_ ?_|refine zO ?_ (fun _=>?_)
set_option maxHeartbeats 8000000 in
set_option maxRecDepth 100000 in
theorem Fk.calls (k : Nat) (A0_0 : Option Addr) (c0_0 : Nat) (l0_0 : List (S67)) (a0_1 : Int) (r : List (S51)) (w : World) (hr0_0 : Kd.C k67 w A0_0 l0_0.length l0_0) (hc0_0 : l0_0.length≤c0_0) (h : Fk.f k l0_0 a0_1=some r) :
  Calls Try.prog 33 #[.agg #[.slice A0_0 l0_0.length c0_0,.int .i64 a0_1]] w fun e w' => ∃ v0_ : Value,e = .returned (v0_)∧Kd.R k51 51 w' w.heap.size (fun _=>True) v0_ r∧Below w.heap.size w w':=by
 have hu35:=Try.underlying35;have hu67:=Try.underlying67;have HR0_0:=zh hr0_0;have HC0_0:=zh hc0_0;clear hr0_0 hc0_0;have HB:=zh (Below.refl w.heap.size w);have H : (Fk.l0 k (([] : List (S51))) l0_0 (l0_0.length : Int) 0)=some r:=h;clear h;obtain ⟨y206,hy206⟩ : ∃ y_ : List (S51),y_=(([] : List (S51))):=⟨_,rfl⟩;replace H : (Fk.l0 k y206 l0_0 (l0_0.length : Int) 0)=some r:=by first|(rw [hy206];with_reducible exact H)|(have H2_:=(Option.bind_some _ _).symm.trans H;rw [hy206];with_reducible exact H2_)|(have H2_:=(Option.bind_some _ _).symm.trans H;with_reducible exact H2_)|with_reducible exact H|(rw [hy206];exact H)|exact H
 have Ny206:=zh hy206;clear hy206;have H':=zh H;clear H
 go_enter Try.func33,Try.ntmps33
 go_wp2_with (first|((with_reducible refine zK (N:=1) rfl ?_);refine zI ?hg (N:=1) ?hd (cs:=#[.slice A0_0 l0_0.length c0_0,.int .i64 a0_1]) (t:=35) ?hr ?_;(case hd=>rfl);(case hg=>rfl);(case hr=>go_simp <;> rfl);intro gb205 hg w2 hbox hb;have BK205:=zh (hbox);have hH_:=cH jE hb hg;have GW205:=zh hH_.1;have GE205:=GW205;replace HB:=zh hH_.2;clear hb hbox hg hH_)|((with_reducible refine zK (N:=6) rfl ?_);refine Kd.R_lit k51 _ 51 ?hg (N:=6) ?hd (xs:=([] : List (S51))) (inner:=[]) (ok:=fun _=>True) (okp:=fun _=>True) ?hr ?hp (fun _ hk=>hk) trivial (Below.refl _ _) (ye _) (by simp) ?_;(case hd=>rfl);(case hg=>rfl);(case hr=>go_simp <;> rfl);(case hp=>exact (Reps.none _ _));intro v207 w3 ho4 hb hg_ hnew_;clear hg_ hnew_;(first|rw [← Ny206.out] at ho4|(simp only [Int.reduceToNat] at ho4;rw [← Ny206.out] at ho4));have HO208:=zh (yx ho4 (zB jAD));replace BK205:=zh (cD BK205.out jAE hb);replace HB:=zh (zC jAD hb);clear hb ho4;obtain ⟨hcz5_0,hcz5_1,hfz5_0,hfz5_1⟩:=cB2 BK205.out))
 go_loopg [3,10] k (fun kq v3 v10 w' => ∃ (x3_1 : List (S51)) (x10_1 : Int),v10 = .int .i64 x10_1∧Aside0 (Fk.l0 kq x3_1 l0_0 (l0_0.length : Int) x10_1=some r)∧Aside0 (kq≤k)∧Aside0 (Kd.R k51 51 w' w.heap.size (fun _=>True) v3 x3_1)∧Aside0 (w'.heap[gb205]? = some (.cells #[(.slice A0_0 l0_0.length c0_0),.int .i64 a0_1] 35 (0,0)))∧Aside0 (Below w.heap.size w w'))
 case atStart=>exact ⟨(y206),(0),jD,H',⟨ye _⟩,⟨by (with_reducible repeat (first|apply zm|apply zn|apply zo));exact HO208.out⟩,⟨jAE⟩,⟨jAD⟩⟩
 case round =>
  clear H'
  try clear p2
  try clear c3
  try clear hcz5_0 hcz5_1 hfz5_0 hfz5_1
  obtain ⟨x3_1,x10_1,rfl,HA,HK1,HO_3,BK205,HB⟩:=hrel
  cases gk with
  | zero=>exact absurd HA.out (by simp [Fk.l0])
  | succ k1 =>
   have H:=HA.out;clear HA;simp only [Fk.l0] at H
   by_cases c6 : x10_1<(l0_0.length : Int)
   ·
    rw [if_pos c6] at H
    have c6b0 : decide (x10_1<(l0_0.length : Int))=true:=decide_eq_true c6;clear c6
    by_cases c7 : 0≤x10_1
    ·
     rw [if_pos c7] at H
     have c7b0 : decide (0≤x10_1)=true:=decide_eq_true c7;clear c7
     by_cases c8 : x10_1<(l0_0.length : Int)
     ·
      rw [if_pos c8] at H
      have c8b0 : decide (x10_1<(l0_0.length : Int))=true:=decide_eq_true c8;clear c8
      by_cases c9 : x3_1.length+((rd_T67 l0_0 x10_1).f1).length<5864062014805
      ·
       rw [if_pos c9] at H
       have LMc9:=zh c9;clear c9;obtain ⟨y211,hy211⟩ : ∃ y_ : List (S51),y_=(x3_1++((rd_T67 l0_0 x10_1).f1)):=⟨_,rfl⟩;replace H : (Fk.l0 k1 y211 l0_0 (l0_0.length : Int) (wrap64 (x10_1+1)))=some r:=by first|(rw [hy211];with_reducible exact H)|(have H2_:=(Option.bind_some _ _).symm.trans H;rw [hy211];with_reducible exact H2_)|(have H2_:=(Option.bind_some _ _).symm.trans H;with_reducible exact H2_)|with_reducible exact H|(rw [hy211];exact H)|exact H
       have Ny211:=zh hy211;clear hy211;have H':=zh H;clear H;have p209 : 0≤(x10_1 : Int):=zy jB;have q209 : x10_1<(l0_0.length : Int):=zy jB;obtain ⟨ad209,A209_1,c209_1,e209,hx209_0,hx209_1,hl209_1,hi209_1⟩:=at_T67 HR0_0.out x10_1 p209 q209
       cases e209
       replace hx209_0:=(HB.out.cell (zl w _ hx209_0)).trans hx209_0;replace hx209_1:=(HB.out.cell (zl w _ hx209_1)).trans hx209_1;have HR209_1:=zh hi209_1;have HC209_1:=zh hl209_1;clear hi209_1 hl209_1;replace p209:=eq_true p209;replace q209:=eq_true q209
       go_wp2_with (first|((with_reducible refine zK (N:=5) rfl ?_);refine zI ?hg (N:=5) ?hd (cs:=#[.int .i64 0,.slice none 0 0]) (t:=67) ?hr ?_;(case hd=>rfl);(case hg=>rfl);(case hr=>go_simp <;> rfl);intro gb210 hg w10 hbox hb;replace HO_3:=zh (yg jQ hb);have BK210:=zh (hbox);have hH_:=cH jAD hb hg;have GW210:=zh hH_.1;have GE210:=GW210;replace HB:=zh hH_.2;have NB205_210:=zh ((by rw [hg];exact yc (yi (g:=gb205) (o:=.cells #[.slice (some ad209) l0_0.length c0_0,.int .i64 a0_1] 35 (0,0)) jAE) : gb205≠gb210));have NB210_205:=zh NB205_210.out.symm;replace BK205:=zh (cD BK205.out jAE hb);clear hb hbox hg hH_;have hnb11:=NB210_205.out;have hnc11:=NB205_210.out;obtain ⟨hcz12_0,hcz12_1,hfz12_0,hfz12_1⟩:=cB2 BK210.out)|((with_reducible refine yA (b:=.append) (xs:=#[.tmp 14,.tmp 16]) rfl ?_);at_builtin;refine Kd.R_append_rows k51 (w0:=w) w.heap.size rfl (.tmp 14) (.tmp 16) 29 51 (.agg #[(.string ⟨#[]⟩),(.int .i64 0)]) 24 rfl Try.underlying29 info51 rfl jC jH u3 x3_1 ((rd_T67 l0_0 x10_1).f1) _ _ _ (fun _=>True) (fun _=>False) rfl rfl ?aO ?aR (fun _ _ h=>h) (fun _ h=>h.elim) ?aF ?aB ?aS ?aL ?_;(case aR=>exact Kd.C_below HR209_1.out jAU);(case aB=>exact jAU);(case aF=>exact (fun _ _=>trivial));(case aO=>exact (by (with_reducible repeat (first|apply zm|apply zn|apply zo));exact zM (zE (p:=⟨gb210,1,none⟩) (zE (p:=⟨gb210,0,none⟩) (yf HO_3.out BK210.out jC) (fun _ hk=>hk.2) (.int .i64 ((rd_T67 l0_0 x10_1).f0))) (fun _ hk=>hk.2) (.slice A209_1 ((rd_T67 l0_0 x10_1).f1).length c209_1)) (fun _ hk=>trivial)));(case aS=>exact (zB jAU));(case aL=>have:=LMc9.out;omega);intro v212 w13 ho hb hg hat;rw [← Ny211.out] at ho;replace BK205:=zh (yv (g:=gb205) (o:=.cells #[.slice (some ad209) l0_0.length c0_0,.int .i64 a0_1] 35 (0,0)) (by (with_reducible repeat first|apply ze|apply zf|apply zg);refine cS2 ?_ NB205_210.out;(with_reducible repeat first|apply ze|apply zf|apply zg);exact BK205.out) hg (Kd.R_ne HO_3.out BK205.out jC));replace BK210:=zh (yv (g:=gb210) (o:=.cells #[.int .i64 ((rd_T67 l0_0 x10_1).f0),.slice A209_1 ((rd_T67 l0_0 x10_1).f1).length c209_1] 67 (0,0)) (by (with_reducible repeat first|apply ze|apply zf|apply zg);refine zL (cs:=#[.int .i64 ((rd_T67 l0_0 x10_1).f0),.slice none 0 0]) ?_ 1 _ rfl;(with_reducible repeat first|apply ze|apply zf|apply zg);refine zL (cs:=#[.int .i64 0,.slice none 0 0]) ?_ 0 _ rfl;(with_reducible repeat first|apply ze|apply zf|apply zg);exact BK210.out) hg (Kd.R_ne HO_3.out BK210.out jC));replace HB:=zh (hb);have HO213:=zh (ho);clear HO_3 ho hb hg hat))
       go_roundg k1
       case measure=>have:=HK1.out;omega
       case rel=>exact ⟨(y211),(wrap64 (x10_1+1)),jD,H',⟨jK⟩,⟨by (with_reducible repeat (first|apply zm|apply zn|apply zo));exact HO213.out⟩,⟨jAE⟩,⟨jAU⟩⟩
      rw [if_neg c9] at H;exact absurd H (by simp)
     rw [if_neg c8] at H;exact absurd H (by simp)
    rw [if_neg c7] at H;exact absurd H (by simp)
   rw [if_neg c6] at H;have c6b0 : decide (x10_1<(l0_0.length : Int))=false:=decide_eq_false c6;clear c6;obtain rfl:=zU H
   go_wp2
   go_ret
   exact ⟨_,jG,jQ,jAD⟩


def Fy.f (a0 : Int) (a1 : Int) (a2 : Int) : Option (Bool):=if a1≤a0 then (some (decide (a0≤a2))) else (some false)
set_option maxHeartbeats 8000000 in
set_option maxRecDepth 100000 in
theorem Fy.calls (a0 : Int) (a1 : Int) (a2 : Int) (r : Bool) (w : World) (h : Fy.f a0 a1 a2=some r) :
  Calls Try.prog 56 #[.int .i64 a0,.int .i64 a1,.int .i64 a2] w fun e w' => e = .returned (.bool r)∧Drawn0 w w':=by
 have H : (if a1≤a0 then (some (decide (a0≤a2))) else (some false))=some r:=h;clear h
 by_cases c4 : a1≤a0
 ·
  rw [if_pos c4] at H
  have c4b0 : decide (a1≤a0)=true:=decide_eq_true c4;clear c4;obtain rfl:=zU H
  go_enter Try.func56,Try.ntmps56
  go_wp2
  go_ret
  exact ⟨jD,jI⟩
 rw [if_neg c4] at H;have c4b0 : decide (a1≤a0)=false:=decide_eq_false c4;clear c4;obtain rfl:=zU H
 go_enter Try.func56,Try.ntmps56
 go_wp2
 go_ret
 exact ⟨jD,jI⟩


def F0d.f (a0_0 : ByteArray) (a0_1 : Int) : Option (Bool):=if (a0_0.size : Int)≤2000 then ((Fy.f a0_1 0 9999).bind fun t215=>(some t215)) else (some false)
set_option maxHeartbeats 8000000 in
set_option maxRecDepth 100000 in
theorem F0d.calls (a0_0 : ByteArray) (a0_1 : Int) (r : Bool) (w : World) (h : F0d.f a0_0 a0_1=some r) :
  Calls Try.prog 44 #[.agg #[.string a0_0,.int .i64 a0_1]] w fun e w' => e = .returned (.bool r)∧Below w.heap.size w w':=by
 have hu51:=Try.underlying51;have HB:=zh (Below.refl w.heap.size w);have H : (if (a0_0.size : Int)≤2000 then ((Fy.f a0_1 0 9999).bind fun t215=>(some t215)) else (some false))=some r:=h;clear h
 by_cases c2 : (a0_0.size : Int)≤2000
 ·
  rw [if_pos c2] at H
  have c2b0 : decide ((a0_0.size : Int)≤2000)=true:=decide_eq_true c2;have c2b1 : decide (a0_0.size≤2000)=true:=decide_eq_true jH;clear c2;replace H:=zT.mp H;obtain ⟨t215,A30,H⟩:=H;have A3:=zh A30;clear A30;obtain rfl:=zU H
  go_enter Try.func44,Try.ntmps44
  go_wp2_with (first|((with_reducible refine zK (N:=1) rfl ?_);refine zI ?hg (N:=1) ?hd (cs:=#[.string a0_0,.int .i64 a0_1]) (t:=51) ?hr ?_;(case hd=>rfl);(case hg=>rfl);(case hr=>go_simp <;> rfl);intro gb214 hg w4 hbox hb;have BK214:=zh (hbox);have hH_:=cH jE hb hg;have GW214:=zh hH_.1;have GE214:=GW214;replace HB:=zh hH_.2;clear hb hbox hg hH_;obtain ⟨hcz5_0,hcz5_1,hfz5_0,hfz5_1⟩:=cB2 BK214.out)|(go_at_call 56;(with_reducible refine (Fy.calls  a0_1 0 9999 t215 _ A3.out).mono ?_);rintro e w' ⟨rfl,⟨nd,rfl⟩⟩))
  go_ret
  exact ⟨jG,jBQ⟩
 rw [if_neg c2] at H;have c2b0 : decide ((a0_0.size : Int)≤2000)=false:=decide_eq_false c2;have c2b1 : decide (a0_0.size≤2000)=false:=decide_eq_false jH;clear c2;obtain rfl:=zU H
 go_enter Try.func44,Try.ntmps44
 go_wp2_with (first|((with_reducible refine zK (N:=1) rfl ?_);refine zI ?hg (N:=1) ?hd (cs:=#[.string a0_0,.int .i64 a0_1]) (t:=51) ?hr ?_;(case hd=>rfl);(case hg=>rfl);(case hr=>go_simp <;> rfl);intro gb214 hg w6 hbox hb;have BK214:=zh (hbox);have hH_:=cH jE hb hg;have GW214:=zh hH_.1;have GE214:=GW214;replace HB:=zh hH_.2;clear hb hbox hg hH_;obtain ⟨hcz7_0,hcz7_1,hfz7_0,hfz7_1⟩:=cB2 BK214.out))
 go_ret
 exact ⟨jG,jBQ⟩


def Fs.l0 : Nat→List Int→Int→Int→Int→Option (Int)
 | 0,_,_,_,_=>none
 | k+1,x0,x1,x7,x8=>if x8<x7 then (if 0≤x8 then (if x8<(x0.length : Int) then (if x1=(rd x0 x8) then (some x8) else (Fs.l0 k x0 x1 x7 (wrap64 (x8+1)))) else (none)) else (none)) else (some (-1))
def Fs.f (k : Nat) (l0 : List Int) (a1 : Int) : Option (Int):=Fs.l0 k l0 a1 (l0.length : Int) 0
theorem Fs.mono_l : ∀ k,(∀ y0 y1 y2 y3,LeO (Fs.l0 k y0 y1 y2 y3) (Fs.l0 (k+1) y0 y1 y2 y3))
 | 0=>fun _ _ _ _ r h=>by simp [Fs.l0] at h
 | k+1=>by
  have ih0:=Fs.mono_l k;intro y0 y1 y2 y3;unfold Fs.l0
  repeat' first|(with_reducible first|exact ih0 _ _ _ _|exact zQ _|exact zN _|refine zP ?_ ?_|refine zO ?_ (fun _=>?_))|refine zP ?_ ?_|refine zO ?_ (fun _=>?_)
theorem Fs.mono : ∀ a0 a1 k,LeO (Fs.f k a0 a1) (Fs.f (k+1) a0 a1):=by
 intro a0 a1 k;have ih0:=Fs.mono_l k;unfold Fs.f
 repeat' first|(with_reducible first|exact ih0 _ _ _ _|exact zQ _|exact zN _|refine zP ?_ ?_|refine zO ?_ (fun _=>?_))|refine zP ?_ ?_|refine zO ?_ (fun _=>?_)
set_option maxHeartbeats 8000000 in
set_option maxRecDepth 100000 in
theorem Fs.calls (k : Nat) (A0 : Option Addr) (c0 : Nat) (l0 : List Int) (a1 : Int) (r : Int) (w : World) (hr0 : Kd.C (Kd.int .i64) w A0 l0.length l0) (hc0 : l0.length≤c0) (h : Fs.f k l0 a1=some r) :
  Calls Try.prog 69 #[.slice A0 l0.length c0,.int .i64 a1] w fun e w' => e = .returned (.int .i64 r)∧Drawn0 w w':=by
 have HR0:=zh hr0;have HC0:=zh hc0;clear hr0 hc0;have H : (Fs.l0 k l0 a1 (l0.length : Int) 0)=some r:=h;clear h;have H':=zh H;clear H
 go_enter Try.func69,Try.ntmps69
 go_wp2
 go_loopg [8] k (fun kq v8 w' => ∃ (x8_1 : Int),v8 = .int .i64 x8_1∧Aside0 (Fs.l0 kq l0 a1 (l0.length : Int) x8_1=some r)∧Aside0 (kq≤k)∧Drawn0 w w')
 case atStart=>exact ⟨(0),jD,H',⟨ye _⟩,jI⟩
 case round =>
  clear H'
  try clear p2
  obtain ⟨x8_1,rfl,HA,HK1,⟨m1,rfl⟩⟩:=hrel
  cases gk with
  | zero=>exact absurd HA.out (by simp [Fs.l0])
  | succ k1 =>
   have H:=HA.out;clear HA;simp only [Fs.l0] at H
   by_cases c3 : x8_1<(l0.length : Int)
   ·
    rw [if_pos c3] at H
    have c3b0 : decide (x8_1<(l0.length : Int))=true:=decide_eq_true c3;clear c3
    by_cases c4 : 0≤x8_1
    ·
     rw [if_pos c4] at H
     have c4b0 : decide (0≤x8_1)=true:=decide_eq_true c4;clear c4
     by_cases c5 : x8_1<(l0.length : Int)
     ·
      rw [if_pos c5] at H
      have c5b0 : decide (x8_1<(l0.length : Int))=true:=decide_eq_true c5;clear c5
      by_cases c6 : a1=(rd l0 x8_1)
      ·
       rw [if_pos c6] at H
       have c6b0 : (a1 == (rd l0 x8_1))=true:=ya.mpr c6;have c6b1 : (a1 != (rd l0 x8_1))=false:=zX.mpr c6;clear c6;obtain rfl:=zU H;have p216 : 0≤(x8_1 : Int):=zy jB;have q216 : x8_1<(l0.length : Int):=zy jB;obtain ⟨ad216,e216,hx216_0⟩:=Kd.at_int HR0.out x8_1 p216 q216
       cases e216
       replace p216:=eq_true p216;replace q216:=eq_true q216
       go_wp2
       go_ret
       exact ⟨jD,jI⟩
      rw [if_neg c6] at H;have c6b0 : (a1 == (rd l0 x8_1))=false:=zY.mpr c6;have c6b1 : (a1 != (rd l0 x8_1))=true:=zZ.mpr c6;have H':=zh H;clear H;have p216 : 0≤(x8_1 : Int):=zy jB;have q216 : x8_1<(l0.length : Int):=zy jB;obtain ⟨ad216,e216,hx216_0⟩:=Kd.at_int HR0.out x8_1 p216 q216
      cases e216
      replace p216:=eq_true p216;replace q216:=eq_true q216
      go_wp2
      go_roundg k1
      case measure=>have:=HK1.out;omega
      case rel=>exact ⟨(wrap64 (x8_1+1)),jD,H',⟨jK⟩,jI⟩
     rw [if_neg c5] at H;exact absurd H (by simp)
    rw [if_neg c4] at H;exact absurd H (by simp)
   rw [if_neg c3] at H;have c3b0 : decide (x8_1<(l0.length : Int))=false:=decide_eq_false c3;clear c3;obtain rfl:=zU H
   go_wp2
   go_ret
   exact ⟨jD,jI⟩


def F03.f (k : Nat) (l0 : List Int) (a1 : Int) : Option (Bool):=(Fs.f k l0 a1).bind fun t217=>(some (decide (t217 ≥ 0)))
theorem F03.mono : ∀ a0 a1 k,LeO (F03.f k a0 a1) (F03.f (k+1) a0 a1):=by
 intro a0 a1 k;unfold F03.f
 repeat' first|(with_reducible first|exact Fs.mono _ _ _|exact zQ _|exact zN _|refine zP ?_ ?_|refine zO ?_ (fun _=>?_))|refine zP ?_ ?_|refine zO ?_ (fun _=>?_)
set_option maxHeartbeats 8000000 in
set_option maxRecDepth 100000 in
theorem F03.calls (k : Nat) (A0 : Option Addr) (c0 : Nat) (l0 : List Int) (a1 : Int) (r : Bool) (w : World) (hr0 : Kd.C (Kd.int .i64) w A0 l0.length l0) (hc0 : l0.length≤c0) (h : F03.f k l0 a1=some r) :
  Calls Try.prog 57 #[.slice A0 l0.length c0,.int .i64 a1] w fun e w' => e = .returned (.bool r)∧Drawn0 w w':=by
 have HR0:=zh hr0;have HC0:=zh hc0;clear hr0 hc0;have H : ((Fs.f k l0 a1).bind fun t217=>(some (decide (t217 ≥ 0))))=some r:=h;clear h;replace H:=zT.mp H;obtain ⟨t217,A30,H⟩:=H;have A3:=zh A30;clear A30;obtain rfl:=zU H
 go_enter Try.func57,Try.ntmps57
 go_wp2_with (first|((with_reducible refine zJ (f:=69) rfl ?_);refine yj (some 7) rfl rfl Try.func69 jA rfl #[.slice A0 l0.length c0,.int .i64 a1] rfl jF ?_;(with_reducible refine (Fs.calls k  _ _ l0 a1 t217 _ ?side1 ?side2 A3.out).mono ?_);(case side1=>repeat (first|exact HR0.out|(with_reducible refine Kd.C_alloc ?_ _)|(with_reducible refine Kd.C_drewN ?_ _)|(with_reducible refine Kd.C_drew ?_)));(case side2=>exact HC0.out);rintro e w' ⟨rfl,⟨nd,rfl⟩⟩;refine ⟨_,rfl,?_⟩))
 go_ret
 exact ⟨jD,jI⟩


def Fq.l0 : Nat→Int→List Int→Int→Int→Option (Int)
 | 0,_,_,_,_=>none
 | k+1,x3,x6,x7,x8=>if x8<x7 then (if 0≤x8 then (if x8<(x6.length : Int) then (if (rd x6 x8)=x3 then (Fq.l0 k x3 x6 x7 (wrap64 (x8+1))) else (some (rd x6 x8))) else (none)) else (none)) else (some x3)
def Fq.f (k : Nat) (l0 : List Int) : Option (Int):=Fq.l0 k 0 l0 (l0.length : Int) 0
theorem Fq.mono_l : ∀ k,(∀ y0 y1 y2 y3,LeO (Fq.l0 k y0 y1 y2 y3) (Fq.l0 (k+1) y0 y1 y2 y3))
 | 0=>fun _ _ _ _ r h=>by simp [Fq.l0] at h
 | k+1=>by
  have ih0:=Fq.mono_l k;intro y0 y1 y2 y3;unfold Fq.l0
  repeat' first|(with_reducible first|exact ih0 _ _ _ _|exact zQ _|exact zN _|refine zP ?_ ?_|refine zO ?_ (fun _=>?_))|refine zP ?_ ?_|refine zO ?_ (fun _=>?_)
theorem Fq.mono : ∀ a0 k,LeO (Fq.f k a0) (Fq.f (k+1) a0):=by
 intro a0 k;have ih0:=Fq.mono_l k;unfold Fq.f
 repeat' first|(with_reducible first|exact ih0 _ _ _ _|exact zQ _|exact zN _|refine zP ?_ ?_|refine zO ?_ (fun _=>?_))|refine zP ?_ ?_|refine zO ?_ (fun _=>?_)
set_option maxHeartbeats 8000000 in
set_option maxRecDepth 100000 in
theorem Fq.calls (k : Nat) (A0 : Option Addr) (c0 : Nat) (l0 : List Int) (r : Int) (w : World) (hr0 : Kd.C (Kd.int .i64) w A0 l0.length l0) (hc0 : l0.length≤c0) (h : Fq.f k l0=some r) :
  Calls Try.prog 70 #[.slice A0 l0.length c0] w fun e w' => e = .returned (.int .i64 r)∧Drawn0 w w':=by
 have HR0:=zh hr0;have HC0:=zh hc0;clear hr0 hc0;have H : (Fq.l0 k 0 l0 (l0.length : Int) 0)=some r:=h;clear h;have H':=zh H;clear H
 go_enter Try.func70,Try.ntmps70
 go_wp2
 go_loopg [8] k (fun kq v8 w' => ∃ (x8_1 : Int),v8 = .int .i64 x8_1∧Aside0 (Fq.l0 kq 0 l0 (l0.length : Int) x8_1=some r)∧Aside0 (kq≤k)∧Drawn0 w w')
 case atStart=>exact ⟨(0),jD,H',⟨ye _⟩,jI⟩
 case round =>
  clear H';obtain ⟨x8_1,rfl,HA,HK1,⟨m1,rfl⟩⟩:=hrel
  cases gk with
  | zero=>exact absurd HA.out (by simp [Fq.l0])
  | succ k1 =>
   have H:=HA.out;clear HA;simp only [Fq.l0] at H
   by_cases c2 : x8_1<(l0.length : Int)
   ·
    rw [if_pos c2] at H
    have c2b0 : decide (x8_1<(l0.length : Int))=true:=decide_eq_true c2;clear c2
    by_cases c3 : 0≤x8_1
    ·
     rw [if_pos c3] at H
     have c3b0 : decide (0≤x8_1)=true:=decide_eq_true c3;clear c3
     by_cases c4 : x8_1<(l0.length : Int)
     ·
      rw [if_pos c4] at H
      have c4b0 : decide (x8_1<(l0.length : Int))=true:=decide_eq_true c4;clear c4
      by_cases c5 : (rd l0 x8_1)=0
      ·
       rw [if_pos c5] at H
       have c5b0 : ((rd l0 x8_1) == 0)=true:=ya.mpr c5;have c5b1 : ((rd l0 x8_1) != 0)=false:=zX.mpr c5;clear c5;have H':=zh H;clear H;have p218 : 0≤(x8_1 : Int):=zy jB;have q218 : x8_1<(l0.length : Int):=zy jB;obtain ⟨ad218,e218,hx218_0⟩:=Kd.at_int HR0.out x8_1 p218 q218
       cases e218
       replace p218:=eq_true p218;replace q218:=eq_true q218
       go_wp2
       go_roundg k1
       case measure=>have:=HK1.out;omega
       case rel=>exact ⟨(wrap64 (x8_1+1)),jD,H',⟨jK⟩,jI⟩
      rw [if_neg c5] at H;have c5b0 : ((rd l0 x8_1) == 0)=false:=zY.mpr c5;have c5b1 : ((rd l0 x8_1) != 0)=true:=zZ.mpr c5;obtain rfl:=zU H;have p218 : 0≤(x8_1 : Int):=zy jB;have q218 : x8_1<(l0.length : Int):=zy jB;obtain ⟨ad218,e218,hx218_0⟩:=Kd.at_int HR0.out x8_1 p218 q218
      cases e218
      replace p218:=eq_true p218;replace q218:=eq_true q218
      go_wp2
      go_ret
      exact ⟨jD,jI⟩
     rw [if_neg c4] at H;exact absurd H (by simp)
    rw [if_neg c3] at H;exact absurd H (by simp)
   rw [if_neg c2] at H;have c2b0 : decide (x8_1<(l0.length : Int))=false:=decide_eq_false c2;clear c2;obtain rfl:=zU H
   go_wp2
   go_ret
   exact ⟨jD,jI⟩


def strings_Compare.f (a0 : ByteArray) (a1 : ByteArray) : Option (Int):=some (Lib.compareBytes a0.data.toList a1.data.toList)
set_option maxHeartbeats 1000000 in
set_option maxRecDepth 100000 in
theorem strings_Compare.inner (a b : ByteArray) (w : World) :
  Calls Try.prog 78 #[.string a,.string b] w fun e w' => e = .returned (.int .i64 (Lib.compareBytes a.data.toList b.data.toList))∧w' = w:=by
 go_enter Try.func78,Try.ntmps78
 go_wp2
 rw [run_callFunc_extern Try.func82 jA jA jA (e:=Extern.BytealgCompare.compare) jA,Lib.run_compareString];simp only [Result.andThen];rw [Oper.upon_value]
 go_wp2
 go_ret
 exact ⟨rfl,rfl⟩
set_option maxHeartbeats 1000000 in
theorem strings_Compare.calls (a0 : ByteArray) (a1 : ByteArray) (r : Int) (w : World) (h : strings_Compare.f a0 a1=some r) :
  Calls Try.prog 71 #[.string a0,.string a1] w fun e w' => e = .returned (.int .i64 r)∧Drawn0 w w':=by
 have h' : (some (Lib.compareBytes a0.data.toList a1.data.toList))=some r:=h;obtain rfl:=zU h';clear h h'
 go_enter Try.func71,Try.ntmps71
 go_wp2_with (go_at_call 78;refine (strings_Compare.inner _ _ _).mono ?_;rintro e w' ⟨rfl,rfl⟩)
 go_ret
 exact ⟨rfl,yp _⟩


def F01.f (a0 : Int) : Option (Bool):=some (a0 != a0)
set_option maxHeartbeats 8000000 in
set_option maxRecDepth 100000 in
theorem F01.calls (a0 : Int) (r : Bool) (w : World) (h : F01.f a0=some r) :
  Calls Try.prog 79 #[.int .i64 a0] w fun e w' => e = .returned (.bool r)∧Drawn0 w w':=by
 have H : (some (a0 != a0))=some r:=h;clear h;obtain rfl:=zU H
 go_enter Try.func79,Try.ntmps79
 go_wp2
 go_ret
 exact ⟨jD,jI⟩


def F0f.f (a0 : Int) (a1 : Int) : Option (Int):=(F01.f a0).bind fun t219=>((F01.f a1).bind fun t220=>(if t219=true then (if t220=true then (some 0) else (some (-1))) else (if t220=true then (some 1) else (if a0<a1 then (some (-1)) else (if a0 > a1 then (some 1) else (some 0))))))
set_option maxHeartbeats 8000000 in
set_option maxRecDepth 100000 in
theorem F0f.calls (a0 : Int) (a1 : Int) (r : Int) (w : World) (h : F0f.f a0 a1=some r) :
  Calls Try.prog 72 #[.int .i64 a0,.int .i64 a1] w fun e w' => e = .returned (.int .i64 r)∧Drawn0 w w':=by
 have H : ((F01.f a0).bind fun t219=>((F01.f a1).bind fun t220=>(if t219=true then (if t220=true then (some 0) else (some (-1))) else (if t220=true then (some 1) else (if a0<a1 then (some (-1)) else (if a0 > a1 then (some 1) else (some 0)))))))=some r:=h;clear h;replace H:=zT.mp H;obtain ⟨t219,A30,H⟩:=H;have A3:=zh A30;clear A30;replace H:=zT.mp H;obtain ⟨t220,A40,H⟩:=H;have A4:=zh A40;clear A40
 by_cases c5 : t219=true
 ·
  subst c5
  rw [if_pos rfl] at H
  by_cases c6 : t220=true
  ·
   subst c6
   rw [if_pos rfl] at H;obtain rfl:=zU H
   go_enter Try.func72,Try.ntmps72
   go_wp2_with (first|((with_reducible refine zJ (f:=79) rfl ?_);refine yj (some 8) rfl rfl Try.func79 jA rfl #[.int .i64 a0] rfl jF ?_;(with_reducible refine (F01.calls  a0 true _ A3.out).mono ?_);rintro e w' ⟨rfl,⟨nd,rfl⟩⟩;refine ⟨_,rfl,?_⟩)|((with_reducible refine zJ (f:=79) rfl ?_);refine yj (some 10) rfl rfl Try.func79 jA rfl #[.int .i64 a1] rfl jF ?_;(with_reducible refine (F01.calls  a1 true _ A4.out).mono ?_);rintro e w' ⟨rfl,⟨nd,rfl⟩⟩;refine ⟨_,rfl,?_⟩))
   go_ret
   exact ⟨jD,jI⟩
  replace c6:=yb.mpr c6;subst c6;rw [if_neg (show ¬ (false=true) by decide)] at H;obtain rfl:=zU H
  go_enter Try.func72,Try.ntmps72
  go_wp2_with (first|((with_reducible refine zJ (f:=79) rfl ?_);refine yj (some 8) rfl rfl Try.func79 jA rfl #[.int .i64 a0] rfl jF ?_;(with_reducible refine (F01.calls  a0 true _ A3.out).mono ?_);rintro e w' ⟨rfl,⟨nd,rfl⟩⟩;refine ⟨_,rfl,?_⟩)|((with_reducible refine zJ (f:=79) rfl ?_);refine yj (some 10) rfl rfl Try.func79 jA rfl #[.int .i64 a1] rfl jF ?_;(with_reducible refine (F01.calls  a1 false _ A4.out).mono ?_);rintro e w' ⟨rfl,⟨nd,rfl⟩⟩;refine ⟨_,rfl,?_⟩))
  go_ret
  exact ⟨jD,jI⟩
 replace c5:=yb.mpr c5;subst c5;rw [if_neg (show ¬ (false=true) by decide)] at H
 by_cases c7 : t220=true
 ·
  subst c7
  rw [if_pos rfl] at H;obtain rfl:=zU H
  go_enter Try.func72,Try.ntmps72
  go_wp2_with (first|((with_reducible refine zJ (f:=79) rfl ?_);refine yj (some 8) rfl rfl Try.func79 jA rfl #[.int .i64 a0] rfl jF ?_;(with_reducible refine (F01.calls  a0 false _ A3.out).mono ?_);rintro e w' ⟨rfl,⟨nd,rfl⟩⟩;refine ⟨_,rfl,?_⟩)|((with_reducible refine zJ (f:=79) rfl ?_);refine yj (some 10) rfl rfl Try.func79 jA rfl #[.int .i64 a1] rfl jF ?_;(with_reducible refine (F01.calls  a1 true _ A4.out).mono ?_);rintro e w' ⟨rfl,⟨nd,rfl⟩⟩;refine ⟨_,rfl,?_⟩))
  go_ret
  exact ⟨jD,jI⟩
 replace c7:=yb.mpr c7;subst c7;rw [if_neg (show ¬ (false=true) by decide)] at H
 by_cases c8 : a0<a1
 ·
  rw [if_pos c8] at H
  have c8b0 : decide (a0<a1)=true:=decide_eq_true c8;clear c8;obtain rfl:=zU H
  go_enter Try.func72,Try.ntmps72
  go_wp2_with (first|((with_reducible refine zJ (f:=79) rfl ?_);refine yj (some 8) rfl rfl Try.func79 jA rfl #[.int .i64 a0] rfl jF ?_;(with_reducible refine (F01.calls  a0 false _ A3.out).mono ?_);rintro e w' ⟨rfl,⟨nd,rfl⟩⟩;refine ⟨_,rfl,?_⟩)|((with_reducible refine zJ (f:=79) rfl ?_);refine yj (some 10) rfl rfl Try.func79 jA rfl #[.int .i64 a1] rfl jF ?_;(with_reducible refine (F01.calls  a1 false _ A4.out).mono ?_);rintro e w' ⟨rfl,⟨nd,rfl⟩⟩;refine ⟨_,rfl,?_⟩))
  go_ret
  exact ⟨jD,jI⟩
 rw [if_neg c8] at H;have c8b0 : decide (a0<a1)=false:=decide_eq_false c8;clear c8
 by_cases c9 : a0 > a1
 ·
  rw [if_pos c9] at H
  have c9b0 : decide (a1<a0)=true:=decide_eq_true c9;clear c9;obtain rfl:=zU H
  go_enter Try.func72,Try.ntmps72
  go_wp2_with (first|((with_reducible refine zJ (f:=79) rfl ?_);refine yj (some 8) rfl rfl Try.func79 jA rfl #[.int .i64 a0] rfl jF ?_;(with_reducible refine (F01.calls  a0 false _ A3.out).mono ?_);rintro e w' ⟨rfl,⟨nd,rfl⟩⟩;refine ⟨_,rfl,?_⟩)|((with_reducible refine zJ (f:=79) rfl ?_);refine yj (some 10) rfl rfl Try.func79 jA rfl #[.int .i64 a1] rfl jF ?_;(with_reducible refine (F01.calls  a1 false _ A4.out).mono ?_);rintro e w' ⟨rfl,⟨nd,rfl⟩⟩;refine ⟨_,rfl,?_⟩))
  go_ret
  exact ⟨jD,jI⟩
 rw [if_neg c9] at H;have c9b0 : decide (a1<a0)=false:=decide_eq_false c9;clear c9;obtain rfl:=zU H
 go_enter Try.func72,Try.ntmps72
 go_wp2_with (first|((with_reducible refine zJ (f:=79) rfl ?_);refine yj (some 8) rfl rfl Try.func79 jA rfl #[.int .i64 a0] rfl jF ?_;(with_reducible refine (F01.calls  a0 false _ A3.out).mono ?_);rintro e w' ⟨rfl,⟨nd,rfl⟩⟩;refine ⟨_,rfl,?_⟩)|((with_reducible refine zJ (f:=79) rfl ?_);refine yj (some 10) rfl rfl Try.func79 jA rfl #[.int .i64 a1] rfl jF ?_;(with_reducible refine (F01.calls  a1 false _ A4.out).mono ?_);rintro e w' ⟨rfl,⟨nd,rfl⟩⟩;refine ⟨_,rfl,?_⟩))
 go_ret
 exact ⟨jD,jI⟩


def Fg.f (k : Nat) (a0_0 : ByteArray) (a0_1 : Int) (a1_0 : ByteArray) (a1_1 : Int) : Option (Int):=(strings_Compare.f a0_0 a1_0).bind fun t223=>((F0f.f a0_1 a1_1).bind fun t224=>((Fq.f k (([t223,t224] : List Int))).bind fun t228=>(some t228)))
theorem Fg.mono : ∀ a0 a1 a2 a3 k,LeO (Fg.f k a0 a1 a2 a3) (Fg.f (k+1) a0 a1 a2 a3):=by
 intro a0 a1 a2 a3 k;unfold Fg.f
 repeat' first|(with_reducible first|exact Fq.mono _ _|exact zQ _|exact zN _|refine zP ?_ ?_|refine zO ?_ (fun _=>?_))|refine zP ?_ ?_|refine zO ?_ (fun _=>?_)
def Fg.T1 : Bool×List (List Nat×List Nat):=(true,[([],[]),([0],[0]),([],[]),([2],[2]),([1,3],[1,3]),([],[]),([5],[5]),([],[]),([7],[7]),([6,8,4],[6,8]),([4,9],[4,9]),([10,9],[10]),([11,11,0,1,2,3,4,5,6,7,8,9,10,11],[11])])
def Fg.B1 : List Nat:=[0,1,0,4,15,0,32,0,128,511,1023,2047,4095]
theorem Fg.tab1 : rtab .any (opsOf Try.f58 1)=Fg.T1:=by kernel_rfl
theorem Fg.bits1 : waitsOk Fg.T1.2 Fg.B1=true:=by kernel_rfl
set_option maxHeartbeats 8000000 in
set_option maxRecDepth 100000 in
theorem Fg.calls (k : Nat) (a0_0 : ByteArray) (a0_1 : Int) (a1_0 : ByteArray) (a1_1 : Int) (r : Int) (w : World) (h : Fg.f k a0_0 a0_1 a1_0 a1_1=some r) :
  Calls Try.prog 58 #[.agg #[.string a0_0,.int .i64 a0_1],.agg #[.string a1_0,.int .i64 a1_1]] w fun e w' => e = .returned (.int .i64 r)∧Below w.heap.size w w':=by
 have hu51:=Try.underlying51;have HB:=zh (Below.refl w.heap.size w);have H : ((strings_Compare.f a0_0 a1_0).bind fun t223=>((F0f.f a0_1 a1_1).bind fun t224=>((Fq.f k (([t223,t224] : List Int))).bind fun t228=>(some t228))))=some r:=h;clear h;replace H:=zT.mp H;obtain ⟨t223,A30,H⟩:=H;have A3:=zh A30;clear A30;replace H:=zT.mp H;obtain ⟨t224,A40,H⟩:=H;have A4:=zh A40;clear A40;obtain ⟨y225,hy225⟩ : ∃ y_ : List Int,y_=(([t223,t224] : List Int)):=⟨_,rfl⟩;replace H : ((Fq.f k y225).bind fun t228=>(some t228))=some r:=by first|(rw [hy225];with_reducible exact H)|(have H2_:=(Option.bind_some _ _).symm.trans H;rw [hy225];with_reducible exact H2_)|(have H2_:=(Option.bind_some _ _).symm.trans H;with_reducible exact H2_)|with_reducible exact H|(rw [hy225];exact H)|exact H
 have Ny225:=zh hy225;clear hy225;replace H:=zT.mp H;obtain ⟨t228,A50,H⟩:=H;have A5:=zh A50;clear A50;obtain rfl:=zU H
 go_enter Try.func58,Try.ntmps58
 try go_wp2_with (first|((with_reducible refine zK (N:=2) rfl ?_);refine zI ?hg (N:=2) ?hd (cs:=#[.string a0_0,.int .i64 a0_1]) (t:=51) ?hr ?_;(case hd=>rfl);(case hg=>rfl);(case hr=>go_simp <;> rfl);intro gb221 hg w6 hbox hb;have BK221:=zh (hbox);have hH_:=cH jE hb hg;have GW221:=zh hH_.1;have GE221:=GW221;replace HB:=zh hH_.2;clear hb hbox hg hH_)|((with_reducible refine zK (N:=3) rfl ?_);refine zI ?hg (N:=3) ?hd (cs:=#[.string a1_0,.int .i64 a1_1]) (t:=51) ?hr ?_;(case hd=>rfl);(case hg=>rfl);(case hr=>go_simp <;> rfl);intro gb222 hg w7 hbox hb;have BK222:=zh (hbox);have hH_:=cH (by repeat (with_reducible first|exact HB.out|apply za|apply zb|apply zc|refine zd ?_ GE221.out)) hb hg;have GW222:=zh hH_.1;have GE222:=GW222;replace HB:=zh hH_.2;have NB221_222:=zh ((by rw [hg];exact yc (yi (g:=gb221) (o:=.cells #[.string a0_0,.int .i64 a0_1] 51 (0,0)) jAy) : gb221≠gb222));have NB222_221:=zh NB221_222.out.symm;replace BK221:=zh (cD BK221.out jAy hb);clear hb hbox hg hH_))
 replace BK221:=zh (zf BK221.out);replace BK222:=zh (zf BK222.out);replace HB:=zh (zc HB.out);refine start_ (n:=13) (S:=fun w' => w'.cell? ⟨gb221,0,none⟩=some (.string a0_0)∧w'.cell? ⟨gb221,1,none⟩=some (.int .i64 a0_1)∧w'.cell? ⟨gb222,0,none⟩=some (.string a1_0)∧w'.cell? ⟨gb222,1,none⟩=some (.int .i64 a1_1)) (ds:=[]) (bm_ 0 13) jA rfl rfl ⟨(zz BK221.out 0).trans rfl,(zz BK221.out 1).trans rfl,(zz BK222.out 0).trans rfl,(zz BK222.out 1).trans rfl⟩ (fun hHeld=>?_);refine with_tabW Fg.tab1 Fg.bits1 (fun HT_ HW_=>?_);generalize w7.drew=w8 at BK221 BK222 HB hHeld ⊢;refine pure_ (i:=0) (N:=some 5) (v:=?_) (a':=?_) (bm_ 1 13) rfl rfl (any_of HT_.out jA) (fun _ _ _ h=>h) (Or.inl ⟨by rfl,?_⟩) ?_ ?_;rotate_left;exact jb;rotate_left;exact jc
 refine pure_ (i:=2) (N:=some 7) (v:=?_) (a':=?_) #[true,false,true,false,false,false,false,false,false,false,false,false,false] rfl rfl (any_of HT_.out jA) (fun _ _ _ h=>h) (Or.inl ⟨by rfl,?_⟩) ?_ ?_;rotate_left;exact jb;rotate_left;exact jc
 refine pure_ (i:=5) (N:=some 10) (v:=?_) (a':=?_) #[true,false,true,false,false,true,false,false,false,false,false,false,false] rfl rfl (any_of HT_.out jA) (fun _ _ _ h=>h) (Or.inl ⟨by rfl,?_⟩) ?_ ?_;rotate_left;exact jb;rotate_left;exact jc
 refine pure_ (i:=7) (N:=some 12) (v:=?_) (a':=?_) #[true,false,true,false,false,true,false,true,false,false,false,false,false] rfl rfl (any_of HT_.out jA) (fun _ _ _ h=>h) (Or.inl ⟨by rfl,?_⟩) ?_ ?_;rotate_left;exact jb;rotate_left;exact jc
 refine take_ (i:=1) (N:=some 6) (v:=?_) (a':=?_) #[true,true,true,false,false,true,false,true,false,false,false,false,false] rfl rfl (yo HT_.out HW_.out jA) (fun _ _ _ h=>h) (Or.inl ⟨by rfl,?_⟩) hHeld ?_ ?_;rotate_left
 ·
  rintro w' ⟨s0,s1,s2,s3⟩
  go_simp
  with_reducible rfl
 rotate_left
 exact jc
 refine take_ (i:=3) (N:=some 8) (v:=?_) (a':=?_) #[true,true,true,true,false,true,false,true,false,false,false,false,false] rfl rfl (yo HT_.out HW_.out jA) (fun _ _ _ h=>h) (Or.inl ⟨by rfl,?_⟩) hHeld ?_ ?_;rotate_left
 ·
  rintro w' ⟨s0,s1,s2,s3⟩
  go_simp
  with_reducible rfl
 rotate_left
 exact jc
 refine take_ (i:=6) (N:=some 11) (v:=?_) (a':=?_) #[true,true,true,true,false,true,true,true,false,false,false,false,false] rfl rfl (yo HT_.out HW_.out jA) (fun _ _ _ h=>h) (Or.inl ⟨by rfl,?_⟩) hHeld ?_ ?_;rotate_left
 ·
  rintro w' ⟨s0,s1,s2,s3⟩
  go_simp
  with_reducible rfl
 rotate_left
 exact jc
 refine take_ (i:=8) (N:=some 13) (v:=?_) (a':=?_) #[true,true,true,true,false,true,true,true,true,false,false,false,false] rfl rfl (yo HT_.out HW_.out jA) (fun _ _ _ h=>h) (Or.inl ⟨by rfl,?_⟩) hHeld ?_ ?_;rotate_left
 ·
  rintro w' ⟨s0,s1,s2,s3⟩
  go_simp
  with_reducible rfl
 rotate_left
 exact jc
 refine one_ (i:=4) (N:=some 9) (bm_ 9 13) rfl rfl (one_of HT_.out jA) jC (fun K hK=>?_);refine goes_ Try.func71 jA rfl #[.string a0_0,.string a1_0] (by rfl) rfl rfl jF ?_
 with_reducible refine (strings_Compare.calls  a0_0 a1_0 t223 _ A3.out).mono ?_
 rintro e w' ⟨rfl,⟨nd,rfl⟩⟩;refine ⟨_,rfl,?_⟩;refine hK.out _ _ ⟨(zz BK221.out 0).trans rfl,(zz BK221.out 1).trans rfl,(zz BK222.out 0).trans rfl,(zz BK222.out 1).trans rfl⟩ (fun hHeld=>?_);clear hK K;refine norm_ (a':=?_) ?_ ?_;rotate_left
 ·
  show Act.put _ (some 9) _=_
  simp only [Act.put,zi,zj,zk,zG,zH]
  rfl
 refine one_ (i:=9) (N:=some 14) (bm_ 10 13) rfl rfl (one_of HT_.out jA) jC (fun K hK=>?_);refine goes_ Try.func72 jA rfl #[.int .i64 a0_1,.int .i64 a1_1] (by rfl) rfl rfl jF ?_
 with_reducible refine (F0f.calls  a0_1 a1_1 t224 _ A4.out).mono ?_
 rintro e w' ⟨rfl,⟨nd,rfl⟩⟩;refine ⟨_,rfl,?_⟩;refine hK.out _ _ ⟨(zz BK221.out 0).trans rfl,(zz BK221.out 1).trans rfl,(zz BK222.out 0).trans rfl,(zz BK222.out 1).trans rfl⟩ (fun hHeld=>?_);clear hK K;refine norm_ (a':=?_) ?_ ?_;rotate_left
 ·
  show Act.put _ (some 14) _=_
  simp only [Act.put,zi,zj,zk,zG,zH]
  rfl
 refine one_ (i:=10) (N:=some 15) (bm_ 11 13) rfl rfl (one_of HT_.out jA) jC (fun K hK=>?_);refine Kd.R_lit_step (Kd.int .i64) _ 3 ?hg (N:=15) ?hd (xs:=([t223,t224] : List Int)) (inner:=[.int .i64 t223,.int .i64 t224]) (ok:=fun _=>True) (okp:=fun _=>True) ?hr ?hp (fun _ hk=>hk) trivial (Below.refl _ _) (ye _) (by simp) ?_;(case hd=>rfl);(case hg=>rfl);(case hr=>go_simp <;> rfl);(case hp=>exact (Reps.one (show Kd.M (Kd.int .i64) _ _ _ t223 [.int .i64 t223] from rfl) (Reps.one (show Kd.M (Kd.int .i64) _ _ _ t224 [.int .i64 t224] from rfl) (Reps.none _ _))));intro v226 w9 ho10 hb hg_ hnew_;clear hg_ hnew_;(first|rw [← Ny225.out] at ho10|(simp only [Int.reduceToNat] at ho10;rw [← Ny225.out] at ho10));have HO227:=zh (yx ho10 (zB jAz));replace BK221:=zh (cD BK221.out jAy hb);replace BK222:=zh (cD BK222.out (by (with_reducible repeat first|apply ze|apply zf|apply zg);exact BK222.out) hb);replace HB:=zh (zC jAz hb);clear hb ho10;obtain ⟨Ao11,co11,eo11⟩:=yk HO227.out;(first|subst eo11|(injection eo11 with f1_ f2_ f3_;have f4_:=f1_.symm;have f5_:=f3_.symm;clear f1_ f2_ f3_;subst f4_;subst f5_));refine hK.out _ _ ⟨(zz BK221.out 0).trans rfl,(zz BK221.out 1).trans rfl,(zz BK222.out 0).trans rfl,(zz BK222.out 1).trans rfl⟩ (fun hHeld=>?_);clear hK K;refine norm_ (a':=?_) ?_ ?_;rotate_left
 ·
  show Act.put _ (some 15) _=_
  simp only [Act.put,zi,zj,zk,zG,zH]
  rfl
 refine one_ (i:=11) (N:=some 16) (bm_ 12 13) rfl rfl (one_of HT_.out jA) jC (fun K hK=>?_);refine goes_ Try.func70 jA rfl #[.slice Ao11 y225.length co11] (by rfl) rfl rfl jF ?_
 with_reducible refine (Fq.calls k  _ _ y225 t228 _ ?side1 ?side2 A5.out).mono ?_
 (case side1=>repeat (first|exact (yh HO227.out).2.2|(with_reducible refine Kd.C_alloc ?_ _)|(with_reducible refine Kd.C_drewN ?_ _)|(with_reducible refine Kd.C_drew ?_)))
 (case side2=>exact (yh HO227.out).2.1)
 rintro e w' ⟨rfl,⟨nd,rfl⟩⟩;refine ⟨_,rfl,?_⟩;refine hK.out _ _ ⟨(zz BK221.out 0).trans rfl,(zz BK221.out 1).trans rfl,(zz BK222.out 0).trans rfl,(zz BK222.out 1).trans rfl⟩ (fun hHeld=>?_);clear hK K;refine norm_ (a':=?_) ?_ ?_;rotate_left
 ·
  show Act.put _ (some 16) _=_
  simp only [Act.put,zi,zj,zk,zG,zH]
  rfl
 refine pure_ (i:=12) (N:=some 4) (v:=?_) (a':=?_) (bm_ 13 13) rfl rfl (any_of HT_.out jA) (fun _ _ _ h=>h) (Or.inl ⟨by rfl,?_⟩) ?_ ?_;rotate_left;exact jb;rotate_left;exact jc
 refine done_ (done_of HT_.out jA) ?_
 try go_wp2
 go_ret
 exact ⟨jG,jAz⟩

end Go.Proofs.Ytamikhmpfmgofaa.Q
end
section
namespace Go.Proofs.Ytamikhmpfmgofaa.Q
open Go.RowKit Go.Proofs.YtamikhmpfmgofaaW.PrintWords Go.Proofs.YtamikhmpfmgofaaW.PrintLast Go.Proofs.YtamikhmpfmgofaaW.PrintMore
attribute [local go_sem] max2_int min2_int max_two min_two max_three min_three max_four min_four max2_str min2_str str_geq str_gtr str_leq   -- for this text's walks alone
set_option linter.unusedVariables false
set_option linter.unusedSimpArgs false

mutual
def F1.j0 : Nat→Bool→List (S67)→Int→Option (Bool)
 | 0,_,_,_=>none
 | k+1,x19,x230000,x230001=>if x19=true then (some false) else (F1.l0 k (([] : List Int)) x230000 (x230000.length : Int) 0 x230000 x230001)
def F1.l0 : Nat→List Int→List (S67)→Int→Int→List (S67)→Int→Option (Bool)
 | 0,_,_,_,_,_,_=>none
 | k+1,x3,x22,x23,x24,x230000,x230001=>if x24<x23 then (if 0≤x24 then (if x24<(x22.length : Int) then ((Fy.f ((rd_T67 x22 x24).f0) 1 (wrap64 (x230001 - 1))).bind fun t237=>(if t237=true then ((F03.f k x3 ((rd_T67 x22 x24).f0)).bind fun t238=>(if t238=true then (some false) else (if (((rd_T67 x22 x24).f1).length : Int) > 4 then (some false) else (if (((rd_T67 x22 x24).f1).length : Int)=0 then (if (x230000.length : Int) > 1 then (some false) else (if x3.length<17592186044416 then (F1.l0 k (x3 ++ [(rd_T67 x22 x24).f0]) x22 x23 (wrap64 (x24+1)) x230000 x230001) else (none))) else (if x3.length<17592186044416 then (F1.l0 k (x3 ++ [(rd_T67 x22 x24).f0]) x22 x23 (wrap64 (x24+1)) x230000 x230001) else (none)))))) else (some false))) else (none)) else (none)) else ((Fk.f k x230000 x230001).bind fun t245=>(F1.l1 k t245 t245 (t245.length : Int) 0))
def F1.l1 : Nat→List (S51)→List (S51)→Int→Int→Option (Bool)
 | 0,_,_,_,_=>none
 | k+1,x6,x67,x68,x69=>if x69<x68 then (if 0≤x69 then (if x69<(x67.length : Int) then ((F0d.f ((rd_T51 x67 x69).f0) ((rd_T51 x67 x69).f1)).bind fun t250=>(if t250=true then (if x69 > 0 then (if 0≤(wrap64 (x69 - 1)) then (if (wrap64 (x69 - 1))<(x6.length : Int) then ((Fg.f k ((rd_T51 x6 (wrap64 (x69 - 1))).f0) ((rd_T51 x6 (wrap64 (x69 - 1))).f1) ((rd_T51 x67 x69).f0) ((rd_T51 x67 x69).f1)).bind fun t252=>(if t252 ≥ 0 then (some false) else (F1.l1 k x6 x67 x68 (wrap64 (x69+1))))) else (none)) else (none)) else (F1.l1 k x6 x67 x68 (wrap64 (x69+1)))) else (some false))) else (none)) else (none)) else (some true)
end
def F1.f (k : Nat) (l0_0 : List (S67)) (a0_1 : Int) : Option (Bool):=(Fy.f (l0_0.length : Int) 1 60).bind fun t230=>(if t230=true then ((Fy.f a0_1 2 100000).bind fun t231=>(F1.j0 k (!t231) l0_0 a0_1)) else (F1.j0 k true l0_0 a0_1))
theorem F1.mono_l : ∀ k,(∀ y0 y1 y2,LeO (F1.j0 k y0 y1 y2) (F1.j0 (k+1) y0 y1 y2))∧(∀ y0 y1 y2 y3 y4 y5,LeO (F1.l0 k y0 y1 y2 y3 y4 y5) (F1.l0 (k+1) y0 y1 y2 y3 y4 y5))∧(∀ y0 y1 y2 y3,LeO (F1.l1 k y0 y1 y2 y3) (F1.l1 (k+1) y0 y1 y2 y3))
 | 0=>⟨fun _ _ _ r h=>by simp [F1.j0] at h,fun _ _ _ _ _ _ r h=>by simp [F1.l0] at h,fun _ _ _ _ r h=>by simp [F1.l1] at h⟩
 | k+1=>by
  obtain ⟨ih0,ih1,ih2⟩:=F1.mono_l k;refine ⟨?_,?_,?_⟩
  ·
   intro y0 y1 y2
   unfold F1.j0
   repeat' first|(with_reducible first|exact ih0 _ _ _|exact ih1 _ _ _ _ _ _|exact ih2 _ _ _ _|exact Fk.mono _ _ _|exact F03.mono _ _ _|exact Fg.mono _ _ _ _ _|exact zQ _|exact zN _|refine zP ?_ ?_|refine zO ?_ (fun _=>?_))|refine zP ?_ ?_|refine zO ?_ (fun _=>?_)
  ·
   intro y0 y1 y2 y3 y4 y5
   unfold F1.l0
   repeat' first|(with_reducible first|exact ih0 _ _ _|exact ih1 _ _ _ _ _ _|exact ih2 _ _ _ _|exact Fk.mono _ _ _|exact F03.mono _ _ _|exact Fg.mono _ _ _ _ _|exact zQ _|exact zN _|refine zP ?_ ?_|refine zO ?_ (fun _=>?_))|refine zP ?_ ?_|refine zO ?_ (fun _=>?_)
  intro y0 y1 y2 y3;unfold F1.l1
  repeat' first|(with_reducible first|exact ih0 _ _ _|exact ih1 _ _ _ _ _ _|exact ih2 _ _ _ _|exact Fk.mono _ _ _|exact F03.mono _ _ _|exact Fg.mono _ _ _ _ _|exact zQ _|exact zN _|refine zP ?_ ?_|refine zO ?_ (fun _=>?_))|refine zP ?_ ?_|refine zO ?_ (fun _=>?_)
theorem F1.mono : ∀ a0 a1 k,LeO (F1.f k a0 a1) (F1.f (k+1) a0 a1):=by
 intro a0 a1 k;obtain ⟨ih0,ih1,ih2⟩:=F1.mono_l k;unfold F1.f
 repeat' first|(with_reducible first|exact ih0 _ _ _|exact ih1 _ _ _ _ _ _|exact ih2 _ _ _ _|exact Fk.mono _ _ _|exact F03.mono _ _ _|exact Fg.mono _ _ _ _ _|exact zQ _|exact zN _|refine zP ?_ ?_|refine zO ?_ (fun _=>?_))|refine zP ?_ ?_|refine zO ?_ (fun _=>?_)
def F1.T15 : Bool×List (List Nat×List Nat):=(true,[([],[]),([0],[0]),([1],[1]),([2,1],[2]),([3],[3]),([4,3],[3,4]),([5,3,3],[3,5]),([6],[6]),([6],[6]),([8,6],[6,8]),([7,9,6],[6,7,9]),([10,6],[6,10]),([6],[6]),([11,12,6,6],[6,11,12]),([13,6],[6,13]),([6,14,3],[3,6,14]),([3,15],[3,15])])
def F1.B15 : List Nat:=[0,1,3,7,15,31,63,127,127,383,1023,2047,127,8191,16383,32767,65535]
theorem F1.tab15 : rtab .any (opsOf Try.f31 15)=F1.T15:=by kernel_rfl
theorem F1.bits15 : waitsOk F1.T15.2 F1.B15=true:=by kernel_rfl
set_option maxHeartbeats 8000000 in
set_option maxRecDepth 100000 in
theorem F1.calls (k : Nat) (A0_0 : Option Addr) (c0_0 : Nat) (l0_0 : List (S67)) (a0_1 : Int) (r : Bool) (w : World) (hr0_0 : Kd.C k67 w A0_0 l0_0.length l0_0) (hc0_0 : l0_0.length≤c0_0) (h : F1.f k l0_0 a0_1=some r) :
  Calls Try.prog 31 #[.agg #[.slice A0_0 l0_0.length c0_0,.int .i64 a0_1]] w fun e w' => e = .returned (.bool r)∧Below w.heap.size w w':=by
 have hu35:=Try.underlying35;have hu67:=Try.underlying67;have hu51:=Try.underlying51;have HR0_0:=zh hr0_0;have HC0_0:=zh hc0_0;clear hr0_0 hc0_0;have HB:=zh (Below.refl w.heap.size w);have H : ((Fy.f (l0_0.length : Int) 1 60).bind fun t230=>(if t230=true then ((Fy.f a0_1 2 100000).bind fun t231=>(F1.j0 k (!t231) l0_0 a0_1)) else (F1.j0 k true l0_0 a0_1)))=some r:=h;clear h;have HC2:=zh H;clear H
 go_enter Try.func31,Try.ntmps31
 go_upto_region 1 with (first|((with_reducible refine zK (N:=1) rfl ?_);(try (refine yy (by rfl) ?_;dsimp only));refine zI ?hg (N:=1) ?hd (cs:=#[.slice A0_0 l0_0.length c0_0,.int .i64 a0_1]) (t:=35) ?hr ?_;(case hd=>rfl);(case hg=>rfl);(case hr=>go_simp <;> rfl);intro gb229 hg w3 hbox hb;have BK229:=zh (hbox);have hH_:=cH jE hb hg;have GW229:=zh hH_.1;have GE229:=GW229;replace HB:=zh hH_.2;clear hb hbox hg hH_))
 (try simp only [Act.put,zi,zj,zk])
 go_cut [19] (fun v19 wc => ∃ (kq : Nat) (x19_1 : Bool),v19 = .bool x19_1∧Aside0 (F1.j0 kq x19_1 l0_0 a0_1=some r)∧Aside0 (kq≤k)∧Aside0 (wc.heap[gb229]? = some (.cells #[(.slice A0_0 l0_0.length c0_0),.int .i64 a0_1] 35 (0,0)))∧Aside0 (Below w.heap.size w wc))
 case first =>
  have H:=HC2.out;clear HC2;replace H:=zT.mp H;obtain ⟨t230,A40,H⟩:=H;have A4:=zh A40;clear A40
  by_cases c5 : t230=true
  ·
   subst c5
   rw [if_pos rfl] at H;replace H:=zT.mp H;obtain ⟨t231,A60,H⟩:=H;have A6:=zh A60;clear A60;have H':=zh H;clear H;obtain ⟨hcz7_0,hcz7_1,hfz7_0,hfz7_1⟩:=cB2 BK229.out
   go_wp2_with (first|((with_reducible refine zJ (f:=56) rfl ?_);refine yj (some 12) rfl rfl Try.func56 jA rfl #[.int .i64 (l0_0.length : Int),.int .i64 1,.int .i64 60] rfl jF ?_;(with_reducible refine (Fy.calls  (l0_0.length : Int) 1 60 true _ A4.out).mono ?_);rintro e w' ⟨rfl,⟨nd,rfl⟩⟩;refine ⟨_,rfl,?_⟩)|(go_at_call 56;(with_reducible refine (Fy.calls  a0_1 2 100000 t231 _ A6.out).mono ?_);rintro e w' ⟨rfl,⟨nd,rfl⟩⟩))
   go_meet
   case rel=>exact ⟨_,(!t231),jD,H',⟨ju⟩,⟨jJ⟩,⟨jM⟩⟩
  replace c5:=yb.mpr c5;subst c5;rw [if_neg (show ¬ (false=true) by decide)] at H;have H':=zh H;clear H;obtain ⟨hcz8_0,hcz8_1,hfz8_0,hfz8_1⟩:=cB2 BK229.out
  go_wp2_with (first|((with_reducible refine zJ (f:=56) rfl ?_);refine yj (some 12) rfl rfl Try.func56 jA rfl #[.int .i64 (l0_0.length : Int),.int .i64 1,.int .i64 60] rfl jF ?_;(with_reducible refine (Fy.calls  (l0_0.length : Int) 1 60 false _ A4.out).mono ?_);rintro e w' ⟨rfl,⟨nd,rfl⟩⟩;refine ⟨_,rfl,?_⟩))
  go_meet
  case rel=>exact ⟨_,(true),jD,H',⟨ju⟩,⟨jJ⟩,⟨jM⟩⟩
 case rest =>
  clear HC2
  try clear p2
  try clear c3 c5
  try clear hcz7_0 hcz7_1
  try clear hcz8_0 hcz8_1
  try clear hfz7_0 hfz7_1
  try clear hfz8_0 hfz8_1
  obtain ⟨kq,x19_1,rfl,HA,HJ1,BK229,HB⟩:=hcut
  cases kq with
  | zero=>exact absurd HA.out (by simp [F1.j0])
  | succ kj1 =>
   have H:=HA.out;clear HA;simp only [F1.j0] at H
   by_cases c9 : x19_1=true
   ·
    subst c9
    rw [if_pos rfl] at H;obtain rfl:=zU H
    go_wp2
    go_ret
    exact ⟨jG,jM⟩
   replace c9:=yb.mpr c9;subst c9;rw [if_neg (show ¬ (false=true) by decide)] at H;obtain ⟨y232,hy232⟩ : ∃ y_ : List Int,y_=(([] : List Int)):=⟨_,rfl⟩;replace H : (F1.l0 kj1 y232 l0_0 (l0_0.length : Int) 0 l0_0 a0_1)=some r:=by first|(rw [hy232];with_reducible exact H)|(have H2_:=(Option.bind_some _ _).symm.trans H;rw [hy232];with_reducible exact H2_)|(have H2_:=(Option.bind_some _ _).symm.trans H;with_reducible exact H2_)|with_reducible exact H|(rw [hy232];exact H)|exact H
   have Ny232:=zh hy232;clear hy232;have H':=zh H;clear H
   go_wp2_with (first|((with_reducible refine zK (N:=20) rfl ?_);(try (refine yy (by rfl) ?_;dsimp only));refine Kd.R_lit (Kd.int .i64) _ 3 ?hg (N:=20) ?hd (xs:=([] : List Int)) (inner:=[]) (ok:=fun _=>True) (okp:=fun _=>True) ?hr ?hp (fun _ hk=>hk) trivial (Below.refl _ _) (ye _) (by simp) ?_;(case hd=>rfl);(case hg=>rfl);(case hr=>go_simp <;> rfl);(case hp=>exact (Reps.none _ _));intro v233 w10 ho11 hb hg_ hnew_;clear hg_ hnew_;(first|rw [← Ny232.out] at ho11|(simp only [Int.reduceToNat] at ho11;rw [← Ny232.out] at ho11));have HO234:=zh (yx ho11 (zB jM));replace BK229:=zh (cD BK229.out jJ hb);replace HB:=zh (zC jM hb);clear hb ho11;obtain ⟨hcz12_0,hcz12_1,hfz12_0,hfz12_1⟩:=cB2 BK229.out))
   go_loopg [3,24] kj1 (fun kq v3 v24 w' => ∃ (x3_2 : List Int) (x24_2 : Int),v24 = .int .i64 x24_2∧Aside0 (F1.l0 kq x3_2 l0_0 (l0_0.length : Int) x24_2 l0_0 a0_1=some r)∧Aside0 (kq≤kj1)∧Aside0 (Kd.R (Kd.int .i64) 3 w' w.heap.size (fun _=>True) v3 x3_2)∧Aside0 (w'.heap[gb229]? = some (.cells #[(.slice A0_0 l0_0.length c0_0),.int .i64 a0_1] 35 (0,0)))∧Aside0 (Below w.heap.size w w'))
   case atStart=>exact ⟨(y232),(0),jD,H',⟨ye _⟩,⟨by (with_reducible repeat (first|apply zm|apply zn|apply zo));exact HO234.out⟩,⟨jJ⟩,⟨jM⟩⟩
   case round =>
    clear H'
    try clear p2
    try clear c3 c5 c9
    try clear hcz12_0 hcz12_1
    try clear hcz7_0 hcz7_1
    try clear hcz8_0 hcz8_1
    try clear hfz12_0 hfz12_1
    try clear hfz7_0 hfz7_1
    try clear hfz8_0 hfz8_1
    try clear p2
    obtain ⟨x3_2,x24_2,rfl,HA,HK2,HO_3,BK229,HB⟩:=hrel
    cases gk with
    | zero=>exact absurd HA.out (by simp [F1.l0])
    | succ k2 =>
     have H:=HA.out;clear HA;simp only [F1.l0] at H
     by_cases c13 : x24_2<(l0_0.length : Int)
     ·
      rw [if_pos c13] at H
      have c13b0 : decide (x24_2<(l0_0.length : Int))=true:=decide_eq_true c13;clear c13
      by_cases c14 : 0≤x24_2
      ·
       rw [if_pos c14] at H
       have c14b0 : decide (0≤x24_2)=true:=decide_eq_true c14;clear c14
       by_cases c15 : x24_2<(l0_0.length : Int)
       ·
        rw [if_pos c15] at H
        have c15b0 : decide (x24_2<(l0_0.length : Int))=true:=decide_eq_true c15;clear c15;replace H:=zT.mp H;obtain ⟨t237,A160,H⟩:=H;have A16:=zh A160;clear A160
        by_cases c17 : t237=true
        ·
         subst c17
         rw [if_pos rfl] at H;replace H:=zT.mp H;obtain ⟨t238,A180,H⟩:=H;have A18:=zh A180;clear A180
         by_cases c19 : t238=true
         ·
          subst c19
          rw [if_pos rfl] at H;obtain rfl:=zU H;have p235 : 0≤(x24_2 : Int):=zy jB;have q235 : x24_2<(l0_0.length : Int):=zy jB;obtain ⟨ad235,A235_1,c235_1,e235,hx235_0,hx235_1,hl235_1,hi235_1⟩:=at_T67 HR0_0.out x24_2 p235 q235
          cases e235
          replace hx235_0:=(HB.out.cell (zl w _ hx235_0)).trans hx235_0;replace hx235_1:=(HB.out.cell (zl w _ hx235_1)).trans hx235_1;have HR235_1:=zh hi235_1;have HC235_1:=zh hl235_1;clear hi235_1 hl235_1;replace p235:=eq_true p235;replace q235:=eq_true q235
          go_wp2_with (first|((with_reducible refine zK (N:=5) rfl ?_);(try (refine yy (by rfl) ?_;dsimp only));refine zI ?hg (N:=5) ?hd (cs:=#[.int .i64 0,.slice none 0 0]) (t:=67) ?hr ?_;(case hd=>rfl);(case hg=>rfl);(case hr=>go_simp <;> rfl);intro gb236 hg w20 hbox hb;replace HO_3:=zh (yg jQ hb);have BK236:=zh (hbox);have hH_:=cH jM hb hg;have GW236:=zh hH_.1;have GE236:=GW236;replace HB:=zh hH_.2;have NB229_236:=zh ((jx : gb229≠gb236));have NB236_229:=zh NB229_236.out.symm;replace BK229:=zh (cD BK229.out jJ hb);clear hb hbox hg hH_;have hnb21:=NB236_229.out;have hnc21:=NB229_236.out;obtain ⟨hcz22_0,hcz22_1,hfz22_0,hfz22_1⟩:=cB2 BK236.out;obtain ⟨hcz23_0,hcz23_1,hfz23_0,hfz23_1⟩:=cB2 BK229.out)|((with_reducible refine zJ (f:=56) rfl ?_);refine yj (some 33) rfl rfl Try.func56 jA rfl #[.int .i64 ((rd_T67 l0_0 x24_2).f0),.int .i64 1,.int .i64 (wrap64 (a0_1 - 1))] rfl jF ?_;(with_reducible refine (Fy.calls  ((rd_T67 l0_0 x24_2).f0) 1 (wrap64 (a0_1 - 1)) true _ A16.out).mono ?_);rintro e w' ⟨rfl,⟨nd,rfl⟩⟩;refine ⟨_,rfl,?_⟩;obtain ⟨Ao24,co24,eo24⟩:=yk HO_3.out;subst eo24)|(go_at_call 57;(with_reducible refine (F03.calls k2  _ _ x3_2 ((rd_T67 l0_0 x24_2).f0) true _ ?side1 ?side2 A18.out).mono ?_);(case side1=>refine (yh (e:=3) (base:=w.heap.size) (ok:=fun k_=>True) (n:=x3_2.length) (c:=co24) ?_).2.2;exact jAF);(case side2=>exact (yh HO_3.out).2.1);rintro e w' ⟨rfl,⟨nd,rfl⟩⟩))
          go_ret
          exact ⟨jG,jZ⟩
         replace c19:=yb.mpr c19;subst c19;rw [if_neg (show ¬ (false=true) by decide)] at H
         by_cases c25 : (((rd_T67 l0_0 x24_2).f1).length : Int) > 4
         ·
          rw [if_pos c25] at H
          have c25b0 : decide (4<(((rd_T67 l0_0 x24_2).f1).length : Int))=true:=decide_eq_true c25;have c25b1 : decide (4<((rd_T67 l0_0 x24_2).f1).length)=true:=decide_eq_true jH;clear c25;obtain rfl:=zU H;have p235 : 0≤(x24_2 : Int):=zy jB;have q235 : x24_2<(l0_0.length : Int):=zy jB;obtain ⟨ad235,A235_1,c235_1,e235,hx235_0,hx235_1,hl235_1,hi235_1⟩:=at_T67 HR0_0.out x24_2 p235 q235
          cases e235
          replace hx235_0:=(HB.out.cell (zl w _ hx235_0)).trans hx235_0;replace hx235_1:=(HB.out.cell (zl w _ hx235_1)).trans hx235_1;have HR235_1:=zh hi235_1;have HC235_1:=zh hl235_1;clear hi235_1 hl235_1;replace p235:=eq_true p235;replace q235:=eq_true q235
          go_wp2_with (first|((with_reducible refine zK (N:=5) rfl ?_);(try (refine yy (by rfl) ?_;dsimp only));refine zI ?hg (N:=5) ?hd (cs:=#[.int .i64 0,.slice none 0 0]) (t:=67) ?hr ?_;(case hd=>rfl);(case hg=>rfl);(case hr=>go_simp <;> rfl);intro gb236 hg w26 hbox hb;replace HO_3:=zh (yg jQ hb);have BK236:=zh (hbox);have hH_:=cH jM hb hg;have GW236:=zh hH_.1;have GE236:=GW236;replace HB:=zh hH_.2;have NB229_236:=zh ((jx : gb229≠gb236));have NB236_229:=zh NB229_236.out.symm;replace BK229:=zh (cD BK229.out jJ hb);clear hb hbox hg hH_;have hnb27:=NB236_229.out;have hnc27:=NB229_236.out;obtain ⟨hcz28_0,hcz28_1,hfz28_0,hfz28_1⟩:=cB2 BK236.out;obtain ⟨hcz29_0,hcz29_1,hfz29_0,hfz29_1⟩:=cB2 BK229.out)|((with_reducible refine zJ (f:=56) rfl ?_);refine yj (some 33) rfl rfl Try.func56 jA rfl #[.int .i64 ((rd_T67 l0_0 x24_2).f0),.int .i64 1,.int .i64 (wrap64 (a0_1 - 1))] rfl jF ?_;(with_reducible refine (Fy.calls  ((rd_T67 l0_0 x24_2).f0) 1 (wrap64 (a0_1 - 1)) true _ A16.out).mono ?_);rintro e w' ⟨rfl,⟨nd,rfl⟩⟩;refine ⟨_,rfl,?_⟩;obtain ⟨Ao30,co30,eo30⟩:=yk HO_3.out;subst eo30)|(go_at_call 57;(with_reducible refine (F03.calls k2  _ _ x3_2 ((rd_T67 l0_0 x24_2).f0) false _ ?side1 ?side2 A18.out).mono ?_);(case side1=>refine (yh (e:=3) (base:=w.heap.size) (ok:=fun k_=>True) (n:=x3_2.length) (c:=co30) ?_).2.2;exact jAF);(case side2=>exact (yh HO_3.out).2.1);rintro e w' ⟨rfl,⟨nd,rfl⟩⟩))
          go_ret
          exact ⟨jG,jZ⟩
         rw [if_neg c25] at H;have c25b0 : decide (4<(((rd_T67 l0_0 x24_2).f1).length : Int))=false:=decide_eq_false c25;have c25b1 : decide (4<((rd_T67 l0_0 x24_2).f1).length)=false:=decide_eq_false jH;clear c25
         by_cases c31 : (((rd_T67 l0_0 x24_2).f1).length : Int)=0
         ·
          rw [if_pos c31] at H
          have c31b0 : ((((rd_T67 l0_0 x24_2).f1).length : Int) == 0)=true:=ya.mpr c31;have c31b1 : ((((rd_T67 l0_0 x24_2).f1).length : Int) != 0)=false:=zX.mpr c31;clear c31
          by_cases c32 : (l0_0.length : Int) > 1
          ·
           rw [if_pos c32] at H
           have c32b0 : decide (1<(l0_0.length : Int))=true:=decide_eq_true c32;have c32b1 : decide (1<l0_0.length)=true:=decide_eq_true jH;clear c32;obtain rfl:=zU H;have p235 : 0≤(x24_2 : Int):=zy jB;have q235 : x24_2<(l0_0.length : Int):=zy jB;obtain ⟨ad235,A235_1,c235_1,e235,hx235_0,hx235_1,hl235_1,hi235_1⟩:=at_T67 HR0_0.out x24_2 p235 q235
           cases e235
           replace hx235_0:=(HB.out.cell (zl w _ hx235_0)).trans hx235_0;replace hx235_1:=(HB.out.cell (zl w _ hx235_1)).trans hx235_1;have HR235_1:=zh hi235_1;have HC235_1:=zh hl235_1;clear hi235_1 hl235_1;replace p235:=eq_true p235;replace q235:=eq_true q235
           go_wp2_with (first|((with_reducible refine zK (N:=5) rfl ?_);(try (refine yy (by rfl) ?_;dsimp only));refine zI ?hg (N:=5) ?hd (cs:=#[.int .i64 0,.slice none 0 0]) (t:=67) ?hr ?_;(case hd=>rfl);(case hg=>rfl);(case hr=>go_simp <;> rfl);intro gb236 hg w33 hbox hb;replace HO_3:=zh (yg jQ hb);have BK236:=zh (hbox);have hH_:=cH jM hb hg;have GW236:=zh hH_.1;have GE236:=GW236;replace HB:=zh hH_.2;have NB229_236:=zh ((jx : gb229≠gb236));have NB236_229:=zh NB229_236.out.symm;replace BK229:=zh (cD BK229.out jJ hb);clear hb hbox hg hH_;have hnb34:=NB236_229.out;have hnc34:=NB229_236.out;obtain ⟨hcz35_0,hcz35_1,hfz35_0,hfz35_1⟩:=cB2 BK236.out;obtain ⟨hcz36_0,hcz36_1,hfz36_0,hfz36_1⟩:=cB2 BK229.out)|((with_reducible refine zJ (f:=56) rfl ?_);refine yj (some 33) rfl rfl Try.func56 jA rfl #[.int .i64 ((rd_T67 l0_0 x24_2).f0),.int .i64 1,.int .i64 (wrap64 (a0_1 - 1))] rfl jF ?_;(with_reducible refine (Fy.calls  ((rd_T67 l0_0 x24_2).f0) 1 (wrap64 (a0_1 - 1)) true _ A16.out).mono ?_);rintro e w' ⟨rfl,⟨nd,rfl⟩⟩;refine ⟨_,rfl,?_⟩;obtain ⟨Ao37,co37,eo37⟩:=yk HO_3.out;subst eo37)|(go_at_call 57;(with_reducible refine (F03.calls k2  _ _ x3_2 ((rd_T67 l0_0 x24_2).f0) false _ ?side1 ?side2 A18.out).mono ?_);(case side1=>refine (yh (e:=3) (base:=w.heap.size) (ok:=fun k_=>True) (n:=x3_2.length) (c:=co37) ?_).2.2;exact jAF);(case side2=>exact (yh HO_3.out).2.1);rintro e w' ⟨rfl,⟨nd,rfl⟩⟩))
           go_ret
           exact ⟨jG,jZ⟩
          rw [if_neg c32] at H;have c32b0 : decide (1<(l0_0.length : Int))=false:=decide_eq_false c32;have c32b1 : decide (1<l0_0.length)=false:=decide_eq_false jH;clear c32
          by_cases c38 : x3_2.length<17592186044416
          ·
           rw [if_pos c38] at H
           have LMc38:=zh c38;clear c38;obtain ⟨y239,hy239⟩ : ∃ y_ : List Int,y_=(x3_2 ++ [(rd_T67 l0_0 x24_2).f0]):=⟨_,rfl⟩;replace H : (F1.l0 k2 y239 l0_0 (l0_0.length : Int) (wrap64 (x24_2+1)) l0_0 a0_1)=some r:=by first|(rw [hy239];with_reducible exact H)|(have H2_:=(Option.bind_some _ _).symm.trans H;rw [hy239];with_reducible exact H2_)|(have H2_:=(Option.bind_some _ _).symm.trans H;with_reducible exact H2_)|with_reducible exact H|(rw [hy239];exact H)|exact H
           have Ny239:=zh hy239;clear hy239;have H':=zh H;clear H;have p235 : 0≤(x24_2 : Int):=zy jB;have q235 : x24_2<(l0_0.length : Int):=zy jB;obtain ⟨ad235,A235_1,c235_1,e235,hx235_0,hx235_1,hl235_1,hi235_1⟩:=at_T67 HR0_0.out x24_2 p235 q235
           cases e235
           replace hx235_0:=(HB.out.cell (zl w _ hx235_0)).trans hx235_0;replace hx235_1:=(HB.out.cell (zl w _ hx235_1)).trans hx235_1;have HR235_1:=zh hi235_1;have HC235_1:=zh hl235_1;clear hi235_1 hl235_1;replace p235:=eq_true p235;replace q235:=eq_true q235
           go_wp2_with (first|((with_reducible refine zK (N:=5) rfl ?_);(try (refine yy (by rfl) ?_;dsimp only));refine zI ?hg (N:=5) ?hd (cs:=#[.int .i64 0,.slice none 0 0]) (t:=67) ?hr ?_;(case hd=>rfl);(case hg=>rfl);(case hr=>go_simp <;> rfl);intro gb236 hg w39 hbox hb;replace HO_3:=zh (yg jQ hb);have BK236:=zh (hbox);have hH_:=cH jM hb hg;have GW236:=zh hH_.1;have GE236:=GW236;replace HB:=zh hH_.2;have NB229_236:=zh ((jx : gb229≠gb236));have NB236_229:=zh NB229_236.out.symm;replace BK229:=zh (cD BK229.out jJ hb);clear hb hbox hg hH_;have hnb40:=NB236_229.out;have hnc40:=NB229_236.out;obtain ⟨hcz41_0,hcz41_1,hfz41_0,hfz41_1⟩:=cB2 BK236.out;obtain ⟨hcz42_0,hcz42_1,hfz42_0,hfz42_1⟩:=cB2 BK229.out)|((with_reducible refine zJ (f:=56) rfl ?_);refine yj (some 33) rfl rfl Try.func56 jA rfl #[.int .i64 ((rd_T67 l0_0 x24_2).f0),.int .i64 1,.int .i64 (wrap64 (a0_1 - 1))] rfl jF ?_;(with_reducible refine (Fy.calls  ((rd_T67 l0_0 x24_2).f0) 1 (wrap64 (a0_1 - 1)) true _ A16.out).mono ?_);rintro e w' ⟨rfl,⟨nd,rfl⟩⟩;refine ⟨_,rfl,?_⟩;obtain ⟨Ao43,co43,eo43⟩:=yk HO_3.out;subst eo43)|(go_at_call 57;(with_reducible refine (F03.calls k2  _ _ x3_2 ((rd_T67 l0_0 x24_2).f0) false _ ?side1 ?side2 A18.out).mono ?_);(case side1=>refine (yh (e:=3) (base:=w.heap.size) (ok:=fun k_=>True) (n:=x3_2.length) (c:=co43) ?_).2.2;exact jAF);(case side2=>exact (yh HO_3.out).2.1);rintro e w' ⟨rfl,⟨nd,rfl⟩⟩)|((with_reducible refine yA (b:=.append) (xs:=#[.tmp 59,.tmp 62]) rfl ?_);(try (refine yy (by rfl) ?_;dsimp only));at_builtin;refine Kd.R_append (Kd.int .i64) (w0:=w) w.heap.size rfl (.tmp 59) (.tmp 62) 30 3 (.int .i64 0) 8 rfl Try.underlying30 info3 rfl jC jH (.slice Ao43 x3_2.length co43) x3_2 ((rd_T67 l0_0 x24_2).f0) [.int .i64 ((rd_T67 l0_0 x24_2).f0)] (fun _=>True) (fun _=>False) rfl (by go_simp <;> rfl) ?aP (fun _ hk=>hk.elim) ?aF ?aO ?aB ?aS ?aL ?_;(case aP=>exact rfl);(case aB=>exact jZ);(case aF=>exact (fun _ _=>trivial));(case aO=>exact jBR);(case aS=>exact (zB jZ));(case aL=>have:=LMc38.out;omega);intro v240 w44 ho hb hg hat;rw [← Ny239.out] at ho;replace BK229:=zh (yv (g:=gb229) (o:=.cells #[.slice (some ad235) l0_0.length c0_0,.int .i64 a0_1] 35 (0,0)) jBS hg (Kd.R_ne HO_3.out BK229.out jC));replace BK236:=zh (yv (g:=gb236) (o:=.cells #[.int .i64 ((rd_T67 l0_0 x24_2).f0),.slice A235_1 ((rd_T67 l0_0 x24_2).f1).length c235_1] 67 (0,0)) jBT hg (Kd.R_ne HO_3.out BK236.out jC));replace HB:=zh (hb);have HO241:=zh (ho);clear HO_3 ho hb hg hat))
           go_roundg k2
           case measure=>have:=HJ1.out;have:=HK2.out;omega
           case rel=>exact ⟨(y239),(wrap64 (x24_2+1)),jD,H',⟨by have:=HJ1.out;have:=HK2.out;omega⟩,⟨by (with_reducible repeat (first|apply zm|apply zn|apply zo));exact HO241.out⟩,⟨jJ⟩,⟨jZ⟩⟩
          rw [if_neg c38] at H;exact absurd H (by simp)
         rw [if_neg c31] at H;have c31b0 : ((((rd_T67 l0_0 x24_2).f1).length : Int) == 0)=false:=zY.mpr c31;have c31b1 : ((((rd_T67 l0_0 x24_2).f1).length : Int) != 0)=true:=zZ.mpr c31;have c31b2 : ¬ (((rd_T67 l0_0 x24_2).f1)=[]):=fun h_=>c31 (by rw [h_];rfl)
         by_cases c45 : x3_2.length<17592186044416
         ·
          rw [if_pos c45] at H
          have LMc45:=zh c45;clear c45;obtain ⟨y242,hy242⟩ : ∃ y_ : List Int,y_=(x3_2 ++ [(rd_T67 l0_0 x24_2).f0]):=⟨_,rfl⟩;replace H : (F1.l0 k2 y242 l0_0 (l0_0.length : Int) (wrap64 (x24_2+1)) l0_0 a0_1)=some r:=by first|(rw [hy242];with_reducible exact H)|(have H2_:=(Option.bind_some _ _).symm.trans H;rw [hy242];with_reducible exact H2_)|(have H2_:=(Option.bind_some _ _).symm.trans H;with_reducible exact H2_)|with_reducible exact H|(rw [hy242];exact H)|exact H
          have Ny242:=zh hy242;clear hy242;have H':=zh H;clear H;have p235 : 0≤(x24_2 : Int):=zy jB;have q235 : x24_2<(l0_0.length : Int):=zy jB;obtain ⟨ad235,A235_1,c235_1,e235,hx235_0,hx235_1,hl235_1,hi235_1⟩:=at_T67 HR0_0.out x24_2 p235 q235
          cases e235
          replace hx235_0:=(HB.out.cell (zl w _ hx235_0)).trans hx235_0;replace hx235_1:=(HB.out.cell (zl w _ hx235_1)).trans hx235_1;have HR235_1:=zh hi235_1;have HC235_1:=zh hl235_1;clear hi235_1 hl235_1;replace p235:=eq_true p235;replace q235:=eq_true q235
          go_wp2_with (first|((with_reducible refine zK (N:=5) rfl ?_);(try (refine yy (by rfl) ?_;dsimp only));refine zI ?hg (N:=5) ?hd (cs:=#[.int .i64 0,.slice none 0 0]) (t:=67) ?hr ?_;(case hd=>rfl);(case hg=>rfl);(case hr=>go_simp <;> rfl);intro gb236 hg w46 hbox hb;replace HO_3:=zh (yg jQ hb);have BK236:=zh (hbox);have hH_:=cH jM hb hg;have GW236:=zh hH_.1;have GE236:=GW236;replace HB:=zh hH_.2;have NB229_236:=zh ((jx : gb229≠gb236));have NB236_229:=zh NB229_236.out.symm;replace BK229:=zh (cD BK229.out jJ hb);clear hb hbox hg hH_;have hnb47:=NB236_229.out;have hnc47:=NB229_236.out;obtain ⟨hcz48_0,hcz48_1,hfz48_0,hfz48_1⟩:=cB2 BK236.out;obtain ⟨hcz49_0,hcz49_1,hfz49_0,hfz49_1⟩:=cB2 BK229.out)|((with_reducible refine zJ (f:=56) rfl ?_);refine yj (some 33) rfl rfl Try.func56 jA rfl #[.int .i64 ((rd_T67 l0_0 x24_2).f0),.int .i64 1,.int .i64 (wrap64 (a0_1 - 1))] rfl jF ?_;(with_reducible refine (Fy.calls  ((rd_T67 l0_0 x24_2).f0) 1 (wrap64 (a0_1 - 1)) true _ A16.out).mono ?_);rintro e w' ⟨rfl,⟨nd,rfl⟩⟩;refine ⟨_,rfl,?_⟩;obtain ⟨Ao50,co50,eo50⟩:=yk HO_3.out;subst eo50)|(go_at_call 57;(with_reducible refine (F03.calls k2  _ _ x3_2 ((rd_T67 l0_0 x24_2).f0) false _ ?side1 ?side2 A18.out).mono ?_);(case side1=>refine (yh (e:=3) (base:=w.heap.size) (ok:=fun k_=>True) (n:=x3_2.length) (c:=co50) ?_).2.2;exact jAF);(case side2=>exact (yh HO_3.out).2.1);rintro e w' ⟨rfl,⟨nd,rfl⟩⟩)|((with_reducible refine yA (b:=.append) (xs:=#[.tmp 59,.tmp 62]) rfl ?_);(try (refine yy (by rfl) ?_;dsimp only));at_builtin;refine Kd.R_append (Kd.int .i64) (w0:=w) w.heap.size rfl (.tmp 59) (.tmp 62) 30 3 (.int .i64 0) 8 rfl Try.underlying30 info3 rfl jC jH (.slice Ao50 x3_2.length co50) x3_2 ((rd_T67 l0_0 x24_2).f0) [.int .i64 ((rd_T67 l0_0 x24_2).f0)] (fun _=>True) (fun _=>False) rfl (by go_simp <;> rfl) ?aP (fun _ hk=>hk.elim) ?aF ?aO ?aB ?aS ?aL ?_;(case aP=>exact rfl);(case aB=>exact jZ);(case aF=>exact (fun _ _=>trivial));(case aO=>exact jBR);(case aS=>exact (zB jZ));(case aL=>have:=LMc45.out;omega);intro v243 w51 ho hb hg hat;rw [← Ny242.out] at ho;replace BK229:=zh (yv (g:=gb229) (o:=.cells #[.slice (some ad235) l0_0.length c0_0,.int .i64 a0_1] 35 (0,0)) jBS hg (Kd.R_ne HO_3.out BK229.out jC));replace BK236:=zh (yv (g:=gb236) (o:=.cells #[.int .i64 ((rd_T67 l0_0 x24_2).f0),.slice A235_1 ((rd_T67 l0_0 x24_2).f1).length c235_1] 67 (0,0)) jBT hg (Kd.R_ne HO_3.out BK236.out jC));replace HB:=zh (hb);have HO244:=zh (ho);clear HO_3 ho hb hg hat))
          go_roundg k2
          case measure=>have:=HJ1.out;have:=HK2.out;omega
          case rel=>exact ⟨(y242),(wrap64 (x24_2+1)),jD,H',⟨by have:=HJ1.out;have:=HK2.out;omega⟩,⟨by (with_reducible repeat (first|apply zm|apply zn|apply zo));exact HO244.out⟩,⟨jJ⟩,⟨jZ⟩⟩
         rw [if_neg c45] at H;exact absurd H (by simp)
        replace c17:=yb.mpr c17;subst c17;rw [if_neg (show ¬ (false=true) by decide)] at H;obtain rfl:=zU H;have p235 : 0≤(x24_2 : Int):=zy jB;have q235 : x24_2<(l0_0.length : Int):=zy jB;obtain ⟨ad235,A235_1,c235_1,e235,hx235_0,hx235_1,hl235_1,hi235_1⟩:=at_T67 HR0_0.out x24_2 p235 q235
        cases e235
        replace hx235_0:=(HB.out.cell (zl w _ hx235_0)).trans hx235_0;replace hx235_1:=(HB.out.cell (zl w _ hx235_1)).trans hx235_1;have HR235_1:=zh hi235_1;have HC235_1:=zh hl235_1;clear hi235_1 hl235_1;replace p235:=eq_true p235;replace q235:=eq_true q235
        go_wp2_with (first|((with_reducible refine zK (N:=5) rfl ?_);(try (refine yy (by rfl) ?_;dsimp only));refine zI ?hg (N:=5) ?hd (cs:=#[.int .i64 0,.slice none 0 0]) (t:=67) ?hr ?_;(case hd=>rfl);(case hg=>rfl);(case hr=>go_simp <;> rfl);intro gb236 hg w52 hbox hb;replace HO_3:=zh (yg jQ hb);have BK236:=zh (hbox);have hH_:=cH jM hb hg;have GW236:=zh hH_.1;have GE236:=GW236;replace HB:=zh hH_.2;have NB229_236:=zh ((jx : gb229≠gb236));have NB236_229:=zh NB229_236.out.symm;replace BK229:=zh (cD BK229.out jJ hb);clear hb hbox hg hH_;have hnb53:=NB236_229.out;have hnc53:=NB229_236.out;obtain ⟨hcz54_0,hcz54_1,hfz54_0,hfz54_1⟩:=cB2 BK236.out;obtain ⟨hcz55_0,hcz55_1,hfz55_0,hfz55_1⟩:=cB2 BK229.out)|((with_reducible refine zJ (f:=56) rfl ?_);refine yj (some 33) rfl rfl Try.func56 jA rfl #[.int .i64 ((rd_T67 l0_0 x24_2).f0),.int .i64 1,.int .i64 (wrap64 (a0_1 - 1))] rfl jF ?_;(with_reducible refine (Fy.calls  ((rd_T67 l0_0 x24_2).f0) 1 (wrap64 (a0_1 - 1)) false _ A16.out).mono ?_);rintro e w' ⟨rfl,⟨nd,rfl⟩⟩;refine ⟨_,rfl,?_⟩))
        go_ret
        exact ⟨jG,jZ⟩
       rw [if_neg c15] at H;exact absurd H (by simp)
      rw [if_neg c14] at H;exact absurd H (by simp)
     rw [if_neg c13] at H;have c13b0 : decide (x24_2<(l0_0.length : Int))=false:=decide_eq_false c13;clear c13;replace H:=zT.mp H;obtain ⟨t245,A560,H⟩:=H;have A56:=zh A560;clear A560;have H':=zh H;clear H;obtain ⟨hcz57_0,hcz57_1,hfz57_0,hfz57_1⟩:=cB2 BK229.out
     go_wp2_with (first|((with_reducible refine zJ (f:=33) rfl ?_);refine yj (some 66) rfl rfl Try.func33 jA rfl #[.agg #[.slice A0_0 l0_0.length c0_0,.int .i64 a0_1]] rfl jF ?_;(with_reducible refine (Fk.calls k2  _ _ l0_0 a0_1 t245 _ ?side1 ?side2 A56.out).mono ?_);(case side1=>repeat (first|exact (Kd.C_below HR0_0.out HB.out)|(with_reducible refine Kd.C_alloc ?_ _)|(with_reducible refine Kd.C_drewN ?_ _)|(with_reducible refine Kd.C_drew ?_)));(case side2=>exact HC0_0.out);rintro e w58 ⟨v246,rfl,ho0,hb⟩;refine ⟨_,rfl,?_⟩;replace HO_3:=zh (yg jQ hb);have HO247:=zh (yx ho0 (zB jM));replace BK229:=zh (cD BK229.out jJ hb);replace HB:=zh (zC jM hb);(try clear hb);(try clear hb2);(try clear hk);(try clear hi);(try clear ho0);obtain ⟨Ao59,co59,eo59⟩:=yk HO247.out;subst eo59))
     go_loopg [69] k2 (fun kq v69 w' => ∃ (x69_3 : Int),v69 = .int .i64 x69_3∧Aside0 (F1.l1 kq t245 t245 (t245.length : Int) x69_3=some r)∧Aside0 (kq≤k2)∧Aside0 (Kd.R k51 51 w' w.heap.size (fun _=>True) (.slice Ao59 t245.length co59) t245)∧Aside0 (Kd.R k51 51 w' w.heap.size (fun _=>True) (.slice Ao59 t245.length co59) t245)∧Aside0 (w'.heap[gb229]? = some (.cells #[(.slice A0_0 l0_0.length c0_0),.int .i64 a0_1] 35 (0,0)))∧Aside0 (Below w.heap.size w w'))
     case atStart=>exact ⟨(0),jD,H',⟨ye _⟩,⟨jBU⟩,⟨jBU⟩,⟨jJ⟩,⟨jM⟩⟩
     case round =>
      clear H'
      try clear c1 c2
      try clear p2
      try clear q2
      try clear hx2
      try clear c3 c4 c5
      try clear p6
      try clear c9 c13 c13b0 c14 c14b0 c15 c15b0 c17 c19 c21 c23
      try clear p23
      try clear q23
      try clear hx23
      try clear c25 c25b0 c25b1 c27 c31 c31b0 c31b1 c31b2 c32 c32b0 c32b1 c33 c34 c38 c40 c45 c47 c53 c56
      try clear hcz12_0 hcz12_1
      try clear hcz22_0 hcz22_1
      try clear hcz23_0 hcz23_1
      try clear hcz28_0 hcz28_1
      try clear hcz29_0 hcz29_1
      try clear hcz35_0 hcz35_1
      try clear hcz36_0 hcz36_1
      try clear hcz41_0 hcz41_1
      try clear hcz42_0 hcz42_1
      try clear hcz48_0 hcz48_1
      try clear hcz49_0 hcz49_1
      try clear hcz54_0 hcz54_1
      try clear hcz55_0 hcz55_1
      try clear hcz57_0 hcz57_1
      try clear hcz7_0 hcz7_1
      try clear hcz8_0 hcz8_1
      try clear hfz12_0 hfz12_1
      try clear hfz22_0 hfz22_1
      try clear hfz23_0 hfz23_1
      try clear hfz28_0 hfz28_1
      try clear hfz29_0 hfz29_1
      try clear hfz35_0 hfz35_1
      try clear hfz36_0 hfz36_1
      try clear hfz41_0 hfz41_1
      try clear hfz42_0 hfz42_1
      try clear hfz48_0 hfz48_1
      try clear hfz49_0 hfz49_1
      try clear hfz54_0 hfz54_1
      try clear hfz55_0 hfz55_1
      try clear hfz57_0 hfz57_1
      try clear hfz7_0 hfz7_1
      try clear hfz8_0 hfz8_1
      try clear hx235_0
      try clear hx235_1
      try clear p2
      try clear p235
      try clear q235
      obtain ⟨x69_3,rfl,HA,HK3,HO_6,HO_67,BK229,HB⟩:=hrel
      cases gk with
      | zero=>exact absurd HA.out (by simp [F1.l1])
      | succ k3 =>
       have H:=HA.out;clear HA;simp only [F1.l1] at H
       by_cases c60 : x69_3<(t245.length : Int)
       ·
        rw [if_pos c60] at H
        have c60b0 : decide (x69_3<(t245.length : Int))=true:=decide_eq_true c60;clear c60
        by_cases c61 : 0≤x69_3
        ·
         rw [if_pos c61] at H
         have c61b0 : decide (0≤x69_3)=true:=decide_eq_true c61;clear c61
         by_cases c62 : x69_3<(t245.length : Int)
         ·
          rw [if_pos c62] at H
          have c62b0 : decide (x69_3<(t245.length : Int))=true:=decide_eq_true c62;clear c62;replace H:=zT.mp H;obtain ⟨t250,A630,H⟩:=H;have A63:=zh A630;clear A630
          by_cases c64 : t250=true
          ·
           subst c64
           rw [if_pos rfl] at H
           by_cases c65 : x69_3 > 0
           ·
            rw [if_pos c65] at H
            have c65b0 : decide (0<x69_3)=true:=decide_eq_true c65;clear c65;obtain ⟨ji66,hji66⟩ : ∃ j_ : Int,(wrap64 (x69_3 - 1))=j_:=⟨_,rfl⟩;replace H : (if 0≤(ji66) then (if (ji66)<(t245.length : Int) then ((Fg.f k3 ((rd_T51 t245 (ji66)).f0) ((rd_T51 t245 (ji66)).f1) ((rd_T51 t245 x69_3).f0) ((rd_T51 t245 x69_3).f1)).bind fun t252=>(if t252 ≥ 0 then (some false) else (F1.l1 k3 t245 t245 (t245.length : Int) (wrap64 (x69_3+1))))) else (none)) else (none))=some r:=by first|(rw [hji66] at H;exact H)|(simp only [hji66] at H ⊢;exact H)
            (try rw [hji66] at A63);have hji66w : (IntKind.i64.wrap (x69_3 - 1))=ji66:=(zG _).trans hji66
            by_cases c67 : 0≤(ji66)
            ·
             rw [if_pos c67] at H
             have c67b0 : decide (0≤(ji66))=true:=decide_eq_true c67;clear c67
             by_cases c68 : (ji66)<(t245.length : Int)
             ·
              rw [if_pos c68] at H
              have c68b0 : decide ((ji66)<(t245.length : Int))=true:=decide_eq_true c68;clear c68;replace H:=zT.mp H;obtain ⟨t252,A690,H⟩:=H;have A69:=zh A690;clear A690
              by_cases c70 : t252 ≥ 0
              ·
               rw [if_pos c70] at H
               have c70b0 : decide (0≤t252)=true:=decide_eq_true c70;clear c70;obtain rfl:=zU H;have p248 : 0≤(x69_3 : Int):=zy jB;have q248 : x69_3<(t245.length : Int):=zy jB;obtain ⟨ad248,e248,hx248_0,hx248_1⟩:=at_T51 (yh HO_67.out).2.2 x69_3 p248 q248
               cases e248
               replace p248:=eq_true p248;replace q248:=eq_true q248
               try go_wp2_with (first|((with_reducible refine zK (N:=8) rfl ?_);(try (refine yy (by rfl) ?_;dsimp only));refine zI ?hg (N:=8) ?hd (cs:=#[.string (⟨#[]⟩ : ByteArray),.int .i64 0]) (t:=51) ?hr ?_;(case hd=>rfl);(case hg=>rfl);(case hr=>go_simp <;> rfl);intro gb249 hg w71 hbox hb;replace HO_6:=zh (yg (Kd.R_elderB jd gb249 (Nat.le_of_eq hg.symm)) hb);replace HO_67:=zh (yg (Kd.R_elderB je gb249 (Nat.le_of_eq hg.symm)) hb);have BK249:=zh (hbox);have hH_:=cH jM hb hg;have GW249:=zh hH_.1;have GE249:=GW249;replace HB:=zh hH_.2;have NB229_249:=zh ((jAV : gb229≠gb249));have NB249_229:=zh NB229_249.out.symm;replace BK229:=zh (cD BK229.out jJ hb);clear hb hbox hg hH_;have hnb72:=NB249_229.out;have hnc72:=NB229_249.out;obtain ⟨hcz73_0,hcz73_1,hfz73_0,hfz73_1⟩:=cB2 BK249.out))
               have n0_ : Aside0 (Kd.R k51 51 ((w71.setCell ⟨gb249,0,none⟩ (.string ((rd_T51 t245 x69_3).f0))).setCell ⟨gb249,1,none⟩ (.int .i64 ((rd_T51 t245 x69_3).f1))) w.heap.size (fun k_=>k_≠gb249) (.slice (some ad248) t245.length co59) t245):=⟨jAW⟩;have n1_ : Aside0 (Kd.R k51 51 ((w71.setCell ⟨gb249,0,none⟩ (.string ((rd_T51 t245 x69_3).f0))).setCell ⟨gb249,1,none⟩ (.int .i64 ((rd_T51 t245 x69_3).f1))) w.heap.size (fun k_=>k_≠gb249) (.slice (some ad248) t245.length co59) t245):=⟨jAX⟩;have n2_ : Aside0 (((w71.setCell ⟨gb249,0,none⟩ (.string ((rd_T51 t245 x69_3).f0))).setCell ⟨gb249,1,none⟩ (.int .i64 ((rd_T51 t245 x69_3).f1))).heap[gb229]? = some (.cells #[.slice A0_0 l0_0.length c0_0,.int .i64 a0_1] 35 (0,0))):=⟨jAY⟩;have n3_ : Aside0 (((w71.setCell ⟨gb249,0,none⟩ (.string ((rd_T51 t245 x69_3).f0))).setCell ⟨gb249,1,none⟩ (.int .i64 ((rd_T51 t245 x69_3).f1))).heap[gb249]? = some (.cells #[.string ((rd_T51 t245 x69_3).f0),.int .i64 ((rd_T51 t245 x69_3).f1)] 51 (0,0))):=⟨jAZ⟩;have n4_ : Aside0 (Below w.heap.size w ((w71.setCell ⟨gb249,0,none⟩ (.string ((rd_T51 t245 x69_3).f0))).setCell ⟨gb249,1,none⟩ (.int .i64 ((rd_T51 t245 x69_3).f1)))):=⟨jP⟩;(try clear HO_6);(try clear HO_67);(try clear BK229);(try clear BK249);(try clear HB);generalize ((w71.setCell ⟨gb249,0,none⟩ (.string ((rd_T51 t245 x69_3).f0))).setCell ⟨gb249,1,none⟩ (.int .i64 ((rd_T51 t245 x69_3).f1)))=w74 at n0_ n1_ n2_ n3_ n4_ ⊢;have HO_6:=n0_;have HO_67:=n1_;have BK229:=n2_;have BK249:=n3_;have HB:=n4_;clear n0_ n1_ n2_ n3_ n4_;replace HO_6:=zh (zo HO_6.out);replace HO_67:=zh (zo HO_67.out);replace BK229:=zh (zf BK229.out);replace BK249:=zh (zf BK249.out);replace HB:=zh (zc HB.out);have p251 : 0≤((ji66) : Int):=zy jB;have q251 : (ji66)<(t245.length : Int):=zy jB;obtain ⟨ad251,e251,hx251_0,hx251_1⟩:=at_T51 (yh HO_6.out).2.2 (ji66) p251 q251;obtain rfl : ad248=ad251:=(by injection e251);replace p251:=eq_true p251;replace q251:=eq_true q251;refine start_ (n:=17) (S:=fun w' => w'.cell? ⟨gb249,0,none⟩=some (.string ((rd_T51 t245 x69_3).f0))∧w'.cell? ⟨gb249,1,none⟩=some (.int .i64 ((rd_T51 t245 x69_3).f1))∧w'.cell? (ad248.add (((ji66)).toNat*2))=some (.string ((rd_T51 t245 (ji66)).f0))∧w'.cell? ⟨(ad248.add (((ji66)).toNat*2)).block,(ad248.add (((ji66)).toNat*2)).off+1,none⟩=some (.int .i64 ((rd_T51 t245 (ji66)).f1))) (ds:=[]) (bm_ 0 17) jA rfl rfl ⟨(zz BK249.out 0).trans rfl,(zz BK249.out 1).trans rfl,hx251_0,hx251_1⟩ (fun hHeld=>?_);refine with_tabW F1.tab15 F1.bits15 (fun HT_ HW_=>?_);generalize w74.drew=w75 at HO_6 HO_67 BK229 BK249 HB hx251_0 hx251_1 hHeld ⊢;refine take_ (i:=0) (N:=some 74) (v:=?_) (a':=?_) (bm_ 1 17) rfl rfl (yo HT_.out HW_.out jA) (fun _ _ _ h=>h) (Or.inl ⟨by rfl,?_⟩) hHeld ?_ ?_;rotate_left
               ·
                rintro w' ⟨s0,s1,s2,s3⟩
                go_simp
                with_reducible rfl
               rotate_left
               exact jc
               refine one_ (i:=1) (N:=some 75) (bm_ 2 17) rfl rfl (one_of HT_.out jA) jC (fun K hK=>?_);refine goes_ Try.func44 jA rfl #[.agg #[.string ((rd_T51 t245 x69_3).f0),.int .i64 ((rd_T51 t245 x69_3).f1)]] (by rfl) rfl rfl jF ?_
               with_reducible refine (F0d.calls  ((rd_T51 t245 x69_3).f0) ((rd_T51 t245 x69_3).f1) true _ A63.out).mono ?_
               rintro e w76 ⟨rfl,hb⟩;have HS2_:=(hb.cell (zl _ _ (hHeld.2.2.1))).trans (hHeld.2.2.1);have HS3_:=(hb.cell (zl _ _ (hHeld.2.2.2))).trans (hHeld.2.2.2);refine ⟨_,rfl,?_⟩;replace HO_6:=zh (yg jd hb);replace HO_67:=zh (yg je hb);replace BK229:=zh (cD BK229.out jJ hb);replace BK249:=zh (cD BK249.out jy hb);replace HB:=zh (zC jP hb);(try clear hb);(try clear hb2);(try clear hk);(try clear hi);refine hK.out _ _ ⟨(zz BK249.out 0).trans rfl,(zz BK249.out 1).trans rfl,HS2_,HS3_⟩ (fun hHeld=>?_);clear hK K;refine norm_ (a':=?_) ?_ ?_;rotate_left
               ·
                show Act.put _ (some 75) _=_
                simp only [Act.put,zi,zj,zk,zG,zH]
                rfl
               refine pure_ (i:=2) (N:=some 76) (v:=?_) (a':=?_) (bm_ 3 17) rfl rfl (any_of HT_.out jA) (fun _ _ _ h=>h) (Or.inl ⟨by rfl,?_⟩) ?_ ?_;rotate_left;exact jb;rotate_left;exact jc
               refine pure_ (i:=3) (N:=some 77) (v:=?_) (a':=?_) (bm_ 4 17) rfl rfl (any_of HT_.out jA) (fun _ _ _ h=>h) (Or.inl ⟨by rfl,?_⟩) ?_ ?_;rotate_left;exact jb;rotate_left;exact jc
               refine pure_ (i:=4) (N:=some 78) (v:=?_) (a':=?_) (bm_ 5 17) rfl rfl (any_of HT_.out jA) (fun _ _ _ h=>h) (Or.inl ⟨by rfl,?_⟩) ?_ ?_;rotate_left;exact jb;rotate_left;exact jc
               refine pure_ (i:=5) (N:=some 79) (v:=?_) (a':=?_) (bm_ 6 17) rfl rfl (any_of HT_.out jA) (fun _ _ _ h=>h) (Or.inl ⟨by rfl,?_⟩) ?_ ?_;rotate_left;exact jb;rotate_left;exact jc
               refine pure_ (i:=6) (N:=some 80) (v:=?_) (a':=?_) (bm_ 7 17) rfl rfl (any_of HT_.out jA) (fun _ _ _ h=>h) (Or.inl ⟨by rfl,?_⟩) ?_ ?_;rotate_left;exact jb;rotate_left;exact jc
               refine pure_ (i:=7) (N:=some 81) (v:=?_) (a':=?_) (bm_ 8 17) rfl rfl (any_of HT_.out jA) (fun _ _ _ h=>h) (Or.inl ⟨by rfl,?_⟩) ?_ ?_;rotate_left;exact jb;rotate_left;exact jc
               refine pure_ (i:=8) (N:=some 82) (v:=?_) (a':=?_) (bm_ 9 17) rfl rfl (any_of HT_.out jA) (fun _ _ _ h=>h) (Or.inl ⟨by rfl,?_⟩) ?_ ?_;rotate_left;exact jb;rotate_left;exact jc
               refine pure_ (i:=9) (N:=some 83) (v:=?_) (a':=?_) (bm_ 10 17) rfl rfl (any_of HT_.out jA) (fun _ _ _ h=>h) (Or.inl ⟨by rfl,?_⟩) ?_ ?_;rotate_left;exact jb;rotate_left;exact jc
               refine pure_ (i:=10) (N:=some 84) (v:=?_) (a':=?_) (bm_ 11 17) rfl rfl (any_of HT_.out jA) (fun _ _ _ h=>h) (Or.inl ⟨by rfl,?_⟩) ?_ ?_;rotate_left;exact jb;rotate_left;exact jc
               refine take_ (i:=11) (N:=some 85) (v:=?_) (a':=?_) (bm_ 12 17) rfl rfl (yo HT_.out HW_.out jA) (fun _ _ _ h=>h) (Or.inl ⟨by rfl,?_⟩) hHeld ?_ ?_;rotate_left
               ·
                rintro w' ⟨s0,s1,s2,s3⟩
                go_simp
                with_reducible rfl
               rotate_left
               exact jc
               refine take_ (i:=12) (N:=some 86) (v:=?_) (a':=?_) (bm_ 13 17) rfl rfl (yo HT_.out HW_.out jA) (fun _ _ _ h=>h) (Or.inl ⟨by rfl,?_⟩) hHeld ?_ ?_;rotate_left
               ·
                rintro w' ⟨s0,s1,s2,s3⟩
                go_simp
                with_reducible rfl
               rotate_left
               exact jc
               refine one_ (i:=13) (N:=some 87) (bm_ 14 17) rfl rfl (one_of HT_.out jA) jC (fun K hK=>?_);refine goes_ Try.func58 jA rfl #[.agg #[.string ((rd_T51 t245 (ji66)).f0),.int .i64 ((rd_T51 t245 (ji66)).f1)],.agg #[.string ((rd_T51 t245 x69_3).f0),.int .i64 ((rd_T51 t245 x69_3).f1)]] (by rfl) rfl rfl jBV ?_
               with_reducible refine (Fg.calls k3  ((rd_T51 t245 (ji66)).f0) ((rd_T51 t245 (ji66)).f1) ((rd_T51 t245 x69_3).f0) ((rd_T51 t245 x69_3).f1) t252 _ A69.out).mono ?_
               rintro e w77 ⟨rfl,hb⟩;have HS2_:=(hb.cell (zl _ _ (hHeld.2.2.1))).trans (hHeld.2.2.1);have HS3_:=(hb.cell (zl _ _ (hHeld.2.2.2))).trans (hHeld.2.2.2);refine ⟨_,rfl,?_⟩;replace HO_6:=zh (yg jd hb);replace HO_67:=zh (yg je hb);replace BK229:=zh (cD BK229.out jJ hb);replace BK249:=zh (cD BK249.out jy hb);replace HB:=zh (zC jP hb);(try clear hb);(try clear hb2);(try clear hk);(try clear hi);refine hK.out _ _ ⟨(zz BK249.out 0).trans rfl,(zz BK249.out 1).trans rfl,HS2_,HS3_⟩ (fun hHeld=>?_);clear hK K;refine norm_ (a':=?_) ?_ ?_;rotate_left
               ·
                show Act.put _ (some 87) _=_
                simp only [Act.put,zi,zj,zk,zG,zH]
                rfl
               refine pure_ (i:=14) (N:=some 88) (v:=?_) (a':=?_) (bm_ 15 17) rfl rfl (any_of HT_.out jA) (fun _ _ _ h=>h) (Or.inl ⟨by rfl,?_⟩) ?_ ?_;rotate_left;exact jb;rotate_left;exact jc
               refine pure_ (i:=15) (N:=some 89) (v:=?_) (a':=?_) (bm_ 16 17) rfl rfl (any_of HT_.out jA) (fun _ _ _ h=>h) (Or.inl ⟨by rfl,?_⟩) ?_ ?_;rotate_left;exact jb;rotate_left;exact jc
               refine pure_ (i:=16) (N:=some 90) (v:=?_) (a':=?_) (bm_ 17 17) rfl rfl (any_of HT_.out jA) (fun _ _ _ h=>h) (Or.inl ⟨by rfl,?_⟩) ?_ ?_;rotate_left;exact jb;rotate_left;exact jc
               refine done_ (done_of HT_.out jA) ?_
               try go_wp2
               go_ret
               exact ⟨by first|rfl|(simp [yt,yu] <;> rfl)|(simp only [← hji66];first|rfl|(simp [yt,yu] <;> rfl))|(simp [*,yt,yu] <;> rfl),jP⟩
              rw [if_neg c70] at H;have c70b0 : decide (0≤t252)=false:=decide_eq_false c70;clear c70;have H':=zh H;clear H;have p248 : 0≤(x69_3 : Int):=zy jB;have q248 : x69_3<(t245.length : Int):=zy jB;obtain ⟨ad248,e248,hx248_0,hx248_1⟩:=at_T51 (yh HO_67.out).2.2 x69_3 p248 q248
              cases e248
              replace p248:=eq_true p248;replace q248:=eq_true q248
              try go_wp2_with (first|((with_reducible refine zK (N:=8) rfl ?_);(try (refine yy (by rfl) ?_;dsimp only));refine zI ?hg (N:=8) ?hd (cs:=#[.string (⟨#[]⟩ : ByteArray),.int .i64 0]) (t:=51) ?hr ?_;(case hd=>rfl);(case hg=>rfl);(case hr=>go_simp <;> rfl);intro gb249 hg w78 hbox hb;replace HO_6:=zh (yg (Kd.R_elderB jd gb249 (Nat.le_of_eq hg.symm)) hb);replace HO_67:=zh (yg (Kd.R_elderB je gb249 (Nat.le_of_eq hg.symm)) hb);have BK249:=zh (hbox);have hH_:=cH jM hb hg;have GW249:=zh hH_.1;have GE249:=GW249;replace HB:=zh hH_.2;have NB229_249:=zh ((jAV : gb229≠gb249));have NB249_229:=zh NB229_249.out.symm;replace BK229:=zh (cD BK229.out jJ hb);clear hb hbox hg hH_;have hnb79:=NB249_229.out;have hnc79:=NB229_249.out;obtain ⟨hcz80_0,hcz80_1,hfz80_0,hfz80_1⟩:=cB2 BK249.out))
              have n0_ : Aside0 (Kd.R k51 51 ((w78.setCell ⟨gb249,0,none⟩ (.string ((rd_T51 t245 x69_3).f0))).setCell ⟨gb249,1,none⟩ (.int .i64 ((rd_T51 t245 x69_3).f1))) w.heap.size (fun k_=>k_≠gb249) (.slice (some ad248) t245.length co59) t245):=⟨jAW⟩;have n1_ : Aside0 (Kd.R k51 51 ((w78.setCell ⟨gb249,0,none⟩ (.string ((rd_T51 t245 x69_3).f0))).setCell ⟨gb249,1,none⟩ (.int .i64 ((rd_T51 t245 x69_3).f1))) w.heap.size (fun k_=>k_≠gb249) (.slice (some ad248) t245.length co59) t245):=⟨jAX⟩;have n2_ : Aside0 (((w78.setCell ⟨gb249,0,none⟩ (.string ((rd_T51 t245 x69_3).f0))).setCell ⟨gb249,1,none⟩ (.int .i64 ((rd_T51 t245 x69_3).f1))).heap[gb229]? = some (.cells #[.slice A0_0 l0_0.length c0_0,.int .i64 a0_1] 35 (0,0))):=⟨jAY⟩;have n3_ : Aside0 (((w78.setCell ⟨gb249,0,none⟩ (.string ((rd_T51 t245 x69_3).f0))).setCell ⟨gb249,1,none⟩ (.int .i64 ((rd_T51 t245 x69_3).f1))).heap[gb249]? = some (.cells #[.string ((rd_T51 t245 x69_3).f0),.int .i64 ((rd_T51 t245 x69_3).f1)] 51 (0,0))):=⟨jAZ⟩;have n4_ : Aside0 (Below w.heap.size w ((w78.setCell ⟨gb249,0,none⟩ (.string ((rd_T51 t245 x69_3).f0))).setCell ⟨gb249,1,none⟩ (.int .i64 ((rd_T51 t245 x69_3).f1)))):=⟨jP⟩;(try clear HO_6);(try clear HO_67);(try clear BK229);(try clear BK249);(try clear HB);generalize ((w78.setCell ⟨gb249,0,none⟩ (.string ((rd_T51 t245 x69_3).f0))).setCell ⟨gb249,1,none⟩ (.int .i64 ((rd_T51 t245 x69_3).f1)))=w81 at n0_ n1_ n2_ n3_ n4_ ⊢;have HO_6:=n0_;have HO_67:=n1_;have BK229:=n2_;have BK249:=n3_;have HB:=n4_;clear n0_ n1_ n2_ n3_ n4_;replace HO_6:=zh (zo HO_6.out);replace HO_67:=zh (zo HO_67.out);replace BK229:=zh (zf BK229.out);replace BK249:=zh (zf BK249.out);replace HB:=zh (zc HB.out);have p251 : 0≤((ji66) : Int):=zy jB;have q251 : (ji66)<(t245.length : Int):=zy jB;obtain ⟨ad251,e251,hx251_0,hx251_1⟩:=at_T51 (yh HO_6.out).2.2 (ji66) p251 q251;obtain rfl : ad248=ad251:=(by injection e251);replace p251:=eq_true p251;replace q251:=eq_true q251;refine start_ (n:=17) (S:=fun w' => w'.cell? ⟨gb249,0,none⟩=some (.string ((rd_T51 t245 x69_3).f0))∧w'.cell? ⟨gb249,1,none⟩=some (.int .i64 ((rd_T51 t245 x69_3).f1))∧w'.cell? (ad248.add (((ji66)).toNat*2))=some (.string ((rd_T51 t245 (ji66)).f0))∧w'.cell? ⟨(ad248.add (((ji66)).toNat*2)).block,(ad248.add (((ji66)).toNat*2)).off+1,none⟩=some (.int .i64 ((rd_T51 t245 (ji66)).f1))) (ds:=[]) (bm_ 0 17) jA rfl rfl ⟨(zz BK249.out 0).trans rfl,(zz BK249.out 1).trans rfl,hx251_0,hx251_1⟩ (fun hHeld=>?_);refine with_tabW F1.tab15 F1.bits15 (fun HT_ HW_=>?_);generalize w81.drew=w82 at HO_6 HO_67 BK229 BK249 HB hx251_0 hx251_1 hHeld ⊢;refine take_ (i:=0) (N:=some 74) (v:=?_) (a':=?_) (bm_ 1 17) rfl rfl (yo HT_.out HW_.out jA) (fun _ _ _ h=>h) (Or.inl ⟨by rfl,?_⟩) hHeld ?_ ?_;rotate_left
              ·
               rintro w' ⟨s0,s1,s2,s3⟩
               go_simp
               with_reducible rfl
              rotate_left
              exact jc
              refine one_ (i:=1) (N:=some 75) (bm_ 2 17) rfl rfl (one_of HT_.out jA) jC (fun K hK=>?_);refine goes_ Try.func44 jA rfl #[.agg #[.string ((rd_T51 t245 x69_3).f0),.int .i64 ((rd_T51 t245 x69_3).f1)]] (by rfl) rfl rfl jF ?_
              with_reducible refine (F0d.calls  ((rd_T51 t245 x69_3).f0) ((rd_T51 t245 x69_3).f1) true _ A63.out).mono ?_
              rintro e w83 ⟨rfl,hb⟩;have HS2_:=(hb.cell (zl _ _ (hHeld.2.2.1))).trans (hHeld.2.2.1);have HS3_:=(hb.cell (zl _ _ (hHeld.2.2.2))).trans (hHeld.2.2.2);refine ⟨_,rfl,?_⟩;replace HO_6:=zh (yg jd hb);replace HO_67:=zh (yg je hb);replace BK229:=zh (cD BK229.out jJ hb);replace BK249:=zh (cD BK249.out jy hb);replace HB:=zh (zC jP hb);(try clear hb);(try clear hb2);(try clear hk);(try clear hi);refine hK.out _ _ ⟨(zz BK249.out 0).trans rfl,(zz BK249.out 1).trans rfl,HS2_,HS3_⟩ (fun hHeld=>?_);clear hK K;refine norm_ (a':=?_) ?_ ?_;rotate_left
              ·
               show Act.put _ (some 75) _=_
               simp only [Act.put,zi,zj,zk,zG,zH]
               rfl
              refine pure_ (i:=2) (N:=some 76) (v:=?_) (a':=?_) (bm_ 3 17) rfl rfl (any_of HT_.out jA) (fun _ _ _ h=>h) (Or.inl ⟨by rfl,?_⟩) ?_ ?_;rotate_left;exact jb;rotate_left;exact jc
              refine pure_ (i:=3) (N:=some 77) (v:=?_) (a':=?_) (bm_ 4 17) rfl rfl (any_of HT_.out jA) (fun _ _ _ h=>h) (Or.inl ⟨by rfl,?_⟩) ?_ ?_;rotate_left;exact jb;rotate_left;exact jc
              refine pure_ (i:=4) (N:=some 78) (v:=?_) (a':=?_) (bm_ 5 17) rfl rfl (any_of HT_.out jA) (fun _ _ _ h=>h) (Or.inl ⟨by rfl,?_⟩) ?_ ?_;rotate_left;exact jb;rotate_left;exact jc
              refine pure_ (i:=5) (N:=some 79) (v:=?_) (a':=?_) (bm_ 6 17) rfl rfl (any_of HT_.out jA) (fun _ _ _ h=>h) (Or.inl ⟨by rfl,?_⟩) ?_ ?_;rotate_left;exact jb;rotate_left;exact jc
              refine pure_ (i:=6) (N:=some 80) (v:=?_) (a':=?_) (bm_ 7 17) rfl rfl (any_of HT_.out jA) (fun _ _ _ h=>h) (Or.inl ⟨by rfl,?_⟩) ?_ ?_;rotate_left;exact jb;rotate_left;exact jc
              refine pure_ (i:=7) (N:=some 81) (v:=?_) (a':=?_) (bm_ 8 17) rfl rfl (any_of HT_.out jA) (fun _ _ _ h=>h) (Or.inl ⟨by rfl,?_⟩) ?_ ?_;rotate_left;exact jb;rotate_left;exact jc
              refine pure_ (i:=8) (N:=some 82) (v:=?_) (a':=?_) (bm_ 9 17) rfl rfl (any_of HT_.out jA) (fun _ _ _ h=>h) (Or.inl ⟨by rfl,?_⟩) ?_ ?_;rotate_left;exact jb;rotate_left;exact jc
              refine pure_ (i:=9) (N:=some 83) (v:=?_) (a':=?_) (bm_ 10 17) rfl rfl (any_of HT_.out jA) (fun _ _ _ h=>h) (Or.inl ⟨by rfl,?_⟩) ?_ ?_;rotate_left;exact jb;rotate_left;exact jc
              refine pure_ (i:=10) (N:=some 84) (v:=?_) (a':=?_) (bm_ 11 17) rfl rfl (any_of HT_.out jA) (fun _ _ _ h=>h) (Or.inl ⟨by rfl,?_⟩) ?_ ?_;rotate_left;exact jb;rotate_left;exact jc
              refine take_ (i:=11) (N:=some 85) (v:=?_) (a':=?_) (bm_ 12 17) rfl rfl (yo HT_.out HW_.out jA) (fun _ _ _ h=>h) (Or.inl ⟨by rfl,?_⟩) hHeld ?_ ?_;rotate_left
              ·
               rintro w' ⟨s0,s1,s2,s3⟩
               go_simp
               with_reducible rfl
              rotate_left
              exact jc
              refine take_ (i:=12) (N:=some 86) (v:=?_) (a':=?_) (bm_ 13 17) rfl rfl (yo HT_.out HW_.out jA) (fun _ _ _ h=>h) (Or.inl ⟨by rfl,?_⟩) hHeld ?_ ?_;rotate_left
              ·
               rintro w' ⟨s0,s1,s2,s3⟩
               go_simp
               with_reducible rfl
              rotate_left
              exact jc
              refine one_ (i:=13) (N:=some 87) (bm_ 14 17) rfl rfl (one_of HT_.out jA) jC (fun K hK=>?_);refine goes_ Try.func58 jA rfl #[.agg #[.string ((rd_T51 t245 (ji66)).f0),.int .i64 ((rd_T51 t245 (ji66)).f1)],.agg #[.string ((rd_T51 t245 x69_3).f0),.int .i64 ((rd_T51 t245 x69_3).f1)]] (by rfl) rfl rfl jBV ?_
              with_reducible refine (Fg.calls k3  ((rd_T51 t245 (ji66)).f0) ((rd_T51 t245 (ji66)).f1) ((rd_T51 t245 x69_3).f0) ((rd_T51 t245 x69_3).f1) t252 _ A69.out).mono ?_
              rintro e w84 ⟨rfl,hb⟩;have HS2_:=(hb.cell (zl _ _ (hHeld.2.2.1))).trans (hHeld.2.2.1);have HS3_:=(hb.cell (zl _ _ (hHeld.2.2.2))).trans (hHeld.2.2.2);refine ⟨_,rfl,?_⟩;replace HO_6:=zh (yg jd hb);replace HO_67:=zh (yg je hb);replace BK229:=zh (cD BK229.out jJ hb);replace BK249:=zh (cD BK249.out jy hb);replace HB:=zh (zC jP hb);(try clear hb);(try clear hb2);(try clear hk);(try clear hi);refine hK.out _ _ ⟨(zz BK249.out 0).trans rfl,(zz BK249.out 1).trans rfl,HS2_,HS3_⟩ (fun hHeld=>?_);clear hK K;refine norm_ (a':=?_) ?_ ?_;rotate_left
              ·
               show Act.put _ (some 87) _=_
               simp only [Act.put,zi,zj,zk,zG,zH]
               rfl
              refine pure_ (i:=14) (N:=some 88) (v:=?_) (a':=?_) (bm_ 15 17) rfl rfl (any_of HT_.out jA) (fun _ _ _ h=>h) (Or.inl ⟨by rfl,?_⟩) ?_ ?_;rotate_left;exact jb;rotate_left;exact jc
              refine pure_ (i:=15) (N:=some 89) (v:=?_) (a':=?_) (bm_ 16 17) rfl rfl (any_of HT_.out jA) (fun _ _ _ h=>h) (Or.inl ⟨by rfl,?_⟩) ?_ ?_;rotate_left;exact jb;rotate_left;exact jc
              refine pure_ (i:=16) (N:=some 90) (v:=?_) (a':=?_) (bm_ 17 17) rfl rfl (any_of HT_.out jA) (fun _ _ _ h=>h) (Or.inl ⟨by rfl,?_⟩) ?_ ?_;rotate_left;exact jb;rotate_left;exact jc
              refine done_ (done_of HT_.out jA) ?_
              try go_wp2
              go_roundg k3
              case measure=>have:=HJ1.out;have:=HK2.out;have:=HK3.out;omega
              case rel=>exact ⟨(wrap64 (x69_3+1)),jD,H',⟨by have:=HJ1.out;have:=HK2.out;have:=HK3.out;omega⟩,⟨jBW⟩,⟨jBX⟩,⟨jJ⟩,⟨jP⟩⟩
             rw [if_neg c68] at H;exact absurd H (by simp)
            rw [if_neg c67] at H;exact absurd H (by simp)
           rw [if_neg c65] at H;have c65b0 : decide (0<x69_3)=false:=decide_eq_false c65;clear c65;have H':=zh H;clear H;have p248 : 0≤(x69_3 : Int):=zy jB;have q248 : x69_3<(t245.length : Int):=zy jB;obtain ⟨ad248,e248,hx248_0,hx248_1⟩:=at_T51 (yh HO_67.out).2.2 x69_3 p248 q248
           cases e248
           replace p248:=eq_true p248;replace q248:=eq_true q248
           try go_wp2_with (first|((with_reducible refine zK (N:=8) rfl ?_);(try (refine yy (by rfl) ?_;dsimp only));refine zI ?hg (N:=8) ?hd (cs:=#[.string (⟨#[]⟩ : ByteArray),.int .i64 0]) (t:=51) ?hr ?_;(case hd=>rfl);(case hg=>rfl);(case hr=>go_simp <;> rfl);intro gb249 hg w85 hbox hb;replace HO_6:=zh (yg (Kd.R_elderB jd gb249 (Nat.le_of_eq hg.symm)) hb);replace HO_67:=zh (yg (Kd.R_elderB je gb249 (Nat.le_of_eq hg.symm)) hb);have BK249:=zh (hbox);have hH_:=cH jM hb hg;have GW249:=zh hH_.1;have GE249:=GW249;replace HB:=zh hH_.2;have NB229_249:=zh ((jAV : gb229≠gb249));have NB249_229:=zh NB229_249.out.symm;replace BK229:=zh (cD BK229.out jJ hb);clear hb hbox hg hH_;have hnb86:=NB249_229.out;have hnc86:=NB229_249.out;obtain ⟨hcz87_0,hcz87_1,hfz87_0,hfz87_1⟩:=cB2 BK249.out))
           have n0_ : Aside0 (Kd.R k51 51 ((w85.setCell ⟨gb249,0,none⟩ (.string ((rd_T51 t245 x69_3).f0))).setCell ⟨gb249,1,none⟩ (.int .i64 ((rd_T51 t245 x69_3).f1))) w.heap.size (fun k_=>k_≠gb249) (.slice (some ad248) t245.length co59) t245):=⟨jAW⟩;have n1_ : Aside0 (Kd.R k51 51 ((w85.setCell ⟨gb249,0,none⟩ (.string ((rd_T51 t245 x69_3).f0))).setCell ⟨gb249,1,none⟩ (.int .i64 ((rd_T51 t245 x69_3).f1))) w.heap.size (fun k_=>k_≠gb249) (.slice (some ad248) t245.length co59) t245):=⟨jAX⟩;have n2_ : Aside0 (((w85.setCell ⟨gb249,0,none⟩ (.string ((rd_T51 t245 x69_3).f0))).setCell ⟨gb249,1,none⟩ (.int .i64 ((rd_T51 t245 x69_3).f1))).heap[gb229]? = some (.cells #[.slice A0_0 l0_0.length c0_0,.int .i64 a0_1] 35 (0,0))):=⟨jAY⟩;have n3_ : Aside0 (((w85.setCell ⟨gb249,0,none⟩ (.string ((rd_T51 t245 x69_3).f0))).setCell ⟨gb249,1,none⟩ (.int .i64 ((rd_T51 t245 x69_3).f1))).heap[gb249]? = some (.cells #[.string ((rd_T51 t245 x69_3).f0),.int .i64 ((rd_T51 t245 x69_3).f1)] 51 (0,0))):=⟨jAZ⟩;have n4_ : Aside0 (Below w.heap.size w ((w85.setCell ⟨gb249,0,none⟩ (.string ((rd_T51 t245 x69_3).f0))).setCell ⟨gb249,1,none⟩ (.int .i64 ((rd_T51 t245 x69_3).f1)))):=⟨jP⟩;(try clear HO_6);(try clear HO_67);(try clear BK229);(try clear BK249);(try clear HB);generalize ((w85.setCell ⟨gb249,0,none⟩ (.string ((rd_T51 t245 x69_3).f0))).setCell ⟨gb249,1,none⟩ (.int .i64 ((rd_T51 t245 x69_3).f1)))=w88 at n0_ n1_ n2_ n3_ n4_ ⊢;have HO_6:=n0_;have HO_67:=n1_;have BK229:=n2_;have BK249:=n3_;have HB:=n4_;clear n0_ n1_ n2_ n3_ n4_;replace HO_6:=zh (zo HO_6.out);replace HO_67:=zh (zo HO_67.out);replace BK229:=zh (zf BK229.out);replace BK249:=zh (zf BK249.out);replace HB:=zh (zc HB.out);refine start_ (n:=17) (S:=fun w' => w'.cell? ⟨gb249,0,none⟩=some (.string ((rd_T51 t245 x69_3).f0))∧w'.cell? ⟨gb249,1,none⟩=some (.int .i64 ((rd_T51 t245 x69_3).f1))) (ds:=[]) (bm_ 0 17) jA rfl rfl ⟨(zz BK249.out 0).trans rfl,(zz BK249.out 1).trans rfl⟩ (fun hHeld=>?_);refine with_tabW F1.tab15 F1.bits15 (fun HT_ HW_=>?_);generalize w88.drew=w89 at HO_6 HO_67 BK229 BK249 HB hHeld ⊢;refine take_ (i:=0) (N:=some 74) (v:=?_) (a':=?_) (bm_ 1 17) rfl rfl (yo HT_.out HW_.out jA) (fun _ _ _ h=>h) (Or.inl ⟨by rfl,?_⟩) hHeld ?_ ?_;rotate_left
           ·
            rintro w' ⟨s0,s1⟩
            go_simp
            with_reducible rfl
           rotate_left
           exact jc
           refine one_ (i:=1) (N:=some 75) (bm_ 2 17) rfl rfl (one_of HT_.out jA) jC (fun K hK=>?_);refine goes_ Try.func44 jA rfl #[.agg #[.string ((rd_T51 t245 x69_3).f0),.int .i64 ((rd_T51 t245 x69_3).f1)]] (by rfl) rfl rfl jF ?_
           with_reducible refine (F0d.calls  ((rd_T51 t245 x69_3).f0) ((rd_T51 t245 x69_3).f1) true _ A63.out).mono ?_
           rintro e w90 ⟨rfl,hb⟩;refine ⟨_,rfl,?_⟩;replace HO_6:=zh (yg jd hb);replace HO_67:=zh (yg je hb);replace BK229:=zh (cD BK229.out jJ hb);replace BK249:=zh (cD BK249.out jy hb);replace HB:=zh (zC jP hb);(try clear hb);(try clear hb2);(try clear hk);(try clear hi);refine hK.out _ _ ⟨(zz BK249.out 0).trans rfl,(zz BK249.out 1).trans rfl⟩ (fun hHeld=>?_);clear hK K;refine norm_ (a':=?_) ?_ ?_;rotate_left
           ·
            show Act.put _ (some 75) _=_
            simp only [Act.put,zi,zj,zk,zG,zH]
            rfl
           refine pure_ (i:=2) (N:=some 76) (v:=?_) (a':=?_) (bm_ 3 17) rfl rfl (any_of HT_.out jA) (fun _ _ _ h=>h) (Or.inl ⟨by rfl,?_⟩) ?_ ?_;rotate_left;exact jb;rotate_left;exact jc
           refine pure_ (i:=3) (N:=some 77) (v:=?_) (a':=?_) (bm_ 4 17) rfl rfl (any_of HT_.out jA) (fun _ _ _ h=>h) (Or.inl ⟨by rfl,?_⟩) ?_ ?_;rotate_left;exact jb;rotate_left;exact jc
           refine pure_ (i:=4) (N:=some 78) (v:=?_) (a':=?_) (bm_ 5 17) rfl rfl (any_of HT_.out jA) (fun _ _ _ h=>h) (Or.inl ⟨by rfl,?_⟩) ?_ ?_;rotate_left;exact jb;rotate_left;exact jc
           refine pure_ (i:=5) (N:=some 79) (v:=?_) (a':=?_) (bm_ 6 17) rfl rfl (any_of HT_.out jA) (fun _ _ _ h=>h) (Or.inl ⟨by rfl,?_⟩) ?_ ?_;rotate_left;exact jb;rotate_left;exact jc
           refine pure_ (i:=6) (N:=some 80) (v:=?_) (a':=?_) (bm_ 7 17) rfl rfl (any_of HT_.out jA) (fun _ _ _ h=>h) (Or.inl ⟨by rfl,?_⟩) ?_ ?_;rotate_left;exact jb;rotate_left;exact jc
           refine pure_ (i:=7) (N:=some 81) (v:=undef) (a':=?_) (bm_ 8 17) rfl rfl (any_of HT_.out jA) (fun _ _ _ h=>h) (Or.inr ⟨by rfl,rfl⟩) ?_ ?_;rotate_left
           exact jc
           refine pure_ (i:=8) (N:=some 82) (v:=undef) (a':=?_) (bm_ 9 17) rfl rfl (any_of HT_.out jA) (fun _ _ _ h=>h) (Or.inr ⟨by rfl,rfl⟩) ?_ ?_;rotate_left
           exact jc
           refine pure_ (i:=9) (N:=some 83) (v:=undef) (a':=?_) (bm_ 10 17) rfl rfl (any_of HT_.out jA) (fun _ _ _ h=>h) (Or.inr ⟨by rfl,rfl⟩) ?_ ?_;rotate_left
           exact jc
           refine pure_ (i:=10) (N:=some 84) (v:=undef) (a':=?_) (bm_ 11 17) rfl rfl (any_of HT_.out jA) (fun _ _ _ h=>h) (Or.inr ⟨by rfl,rfl⟩) ?_ ?_;rotate_left
           exact jc
           refine pure_ (i:=11) (N:=some 85) (v:=undef) (a':=?_) (bm_ 12 17) rfl rfl (any_of HT_.out jA) (fun _ _ _ h=>h) (Or.inr ⟨by rfl,rfl⟩) ?_ ?_;rotate_left
           exact jc
           refine pure_ (i:=12) (N:=some 86) (v:=undef) (a':=?_) (bm_ 13 17) rfl rfl (any_of HT_.out jA) (fun _ _ _ h=>h) (Or.inr ⟨by rfl,rfl⟩) ?_ ?_;rotate_left
           exact jc
           refine pure_ (i:=13) (N:=some 87) (v:=undef) (a':=?_) (bm_ 14 17) rfl rfl (any_of HT_.out jA) (fun _ _ _ h=>h) (Or.inr ⟨by rfl,rfl⟩) ?_ ?_;rotate_left
           exact jc
           refine pure_ (i:=14) (N:=some 88) (v:=undef) (a':=?_) (bm_ 15 17) rfl rfl (any_of HT_.out jA) (fun _ _ _ h=>h) (Or.inr ⟨by rfl,rfl⟩) ?_ ?_;rotate_left
           exact jc
           refine pure_ (i:=15) (N:=some 89) (v:=?_) (a':=?_) (bm_ 16 17) rfl rfl (any_of HT_.out jA) (fun _ _ _ h=>h) (Or.inl ⟨by rfl,?_⟩) ?_ ?_;rotate_left;exact jb;rotate_left;exact jc
           refine pure_ (i:=16) (N:=some 90) (v:=?_) (a':=?_) (bm_ 17 17) rfl rfl (any_of HT_.out jA) (fun _ _ _ h=>h) (Or.inl ⟨by rfl,?_⟩) ?_ ?_;rotate_left;exact jb;rotate_left;exact jc
           refine done_ (done_of HT_.out jA) ?_
           try go_wp2
           go_roundg k3
           case measure=>have:=HJ1.out;have:=HK2.out;have:=HK3.out;omega
           case rel=>exact ⟨(wrap64 (x69_3+1)),jD,H',⟨by have:=HJ1.out;have:=HK2.out;have:=HK3.out;omega⟩,⟨jBW⟩,⟨jBX⟩,⟨jJ⟩,⟨jP⟩⟩
          replace c64:=yb.mpr c64;subst c64;rw [if_neg (show ¬ (false=true) by decide)] at H;obtain rfl:=zU H;have p248 : 0≤(x69_3 : Int):=zy jB;have q248 : x69_3<(t245.length : Int):=zy jB;obtain ⟨ad248,e248,hx248_0,hx248_1⟩:=at_T51 (yh HO_67.out).2.2 x69_3 p248 q248
          cases e248
          replace p248:=eq_true p248;replace q248:=eq_true q248
          try go_wp2_with (first|((with_reducible refine zK (N:=8) rfl ?_);(try (refine yy (by rfl) ?_;dsimp only));refine zI ?hg (N:=8) ?hd (cs:=#[.string (⟨#[]⟩ : ByteArray),.int .i64 0]) (t:=51) ?hr ?_;(case hd=>rfl);(case hg=>rfl);(case hr=>go_simp <;> rfl);intro gb249 hg w91 hbox hb;replace HO_6:=zh (yg (Kd.R_elderB jd gb249 (Nat.le_of_eq hg.symm)) hb);replace HO_67:=zh (yg (Kd.R_elderB je gb249 (Nat.le_of_eq hg.symm)) hb);have BK249:=zh (hbox);have hH_:=cH jM hb hg;have GW249:=zh hH_.1;have GE249:=GW249;replace HB:=zh hH_.2;have NB229_249:=zh ((jAV : gb229≠gb249));have NB249_229:=zh NB229_249.out.symm;replace BK229:=zh (cD BK229.out jJ hb);clear hb hbox hg hH_;have hnb92:=NB249_229.out;have hnc92:=NB229_249.out;obtain ⟨hcz93_0,hcz93_1,hfz93_0,hfz93_1⟩:=cB2 BK249.out))
          have n0_ : Aside0 (Kd.R k51 51 ((w91.setCell ⟨gb249,0,none⟩ (.string ((rd_T51 t245 x69_3).f0))).setCell ⟨gb249,1,none⟩ (.int .i64 ((rd_T51 t245 x69_3).f1))) w.heap.size (fun k_=>k_≠gb249) (.slice (some ad248) t245.length co59) t245):=⟨jAW⟩;have n1_ : Aside0 (Kd.R k51 51 ((w91.setCell ⟨gb249,0,none⟩ (.string ((rd_T51 t245 x69_3).f0))).setCell ⟨gb249,1,none⟩ (.int .i64 ((rd_T51 t245 x69_3).f1))) w.heap.size (fun k_=>k_≠gb249) (.slice (some ad248) t245.length co59) t245):=⟨jAX⟩;have n2_ : Aside0 (((w91.setCell ⟨gb249,0,none⟩ (.string ((rd_T51 t245 x69_3).f0))).setCell ⟨gb249,1,none⟩ (.int .i64 ((rd_T51 t245 x69_3).f1))).heap[gb229]? = some (.cells #[.slice A0_0 l0_0.length c0_0,.int .i64 a0_1] 35 (0,0))):=⟨jAY⟩;have n3_ : Aside0 (((w91.setCell ⟨gb249,0,none⟩ (.string ((rd_T51 t245 x69_3).f0))).setCell ⟨gb249,1,none⟩ (.int .i64 ((rd_T51 t245 x69_3).f1))).heap[gb249]? = some (.cells #[.string ((rd_T51 t245 x69_3).f0),.int .i64 ((rd_T51 t245 x69_3).f1)] 51 (0,0))):=⟨jAZ⟩;have n4_ : Aside0 (Below w.heap.size w ((w91.setCell ⟨gb249,0,none⟩ (.string ((rd_T51 t245 x69_3).f0))).setCell ⟨gb249,1,none⟩ (.int .i64 ((rd_T51 t245 x69_3).f1)))):=⟨jP⟩;(try clear HO_6);(try clear HO_67);(try clear BK229);(try clear BK249);(try clear HB);generalize ((w91.setCell ⟨gb249,0,none⟩ (.string ((rd_T51 t245 x69_3).f0))).setCell ⟨gb249,1,none⟩ (.int .i64 ((rd_T51 t245 x69_3).f1)))=w94 at n0_ n1_ n2_ n3_ n4_ ⊢;have HO_6:=n0_;have HO_67:=n1_;have BK229:=n2_;have BK249:=n3_;have HB:=n4_;clear n0_ n1_ n2_ n3_ n4_;replace HO_6:=zh (zo HO_6.out);replace HO_67:=zh (zo HO_67.out);replace BK229:=zh (zf BK229.out);replace BK249:=zh (zf BK249.out);replace HB:=zh (zc HB.out);refine start_ (n:=17) (S:=fun w' => w'.cell? ⟨gb249,0,none⟩=some (.string ((rd_T51 t245 x69_3).f0))∧w'.cell? ⟨gb249,1,none⟩=some (.int .i64 ((rd_T51 t245 x69_3).f1))) (ds:=[]) (bm_ 0 17) jA rfl rfl ⟨(zz BK249.out 0).trans rfl,(zz BK249.out 1).trans rfl⟩ (fun hHeld=>?_);refine with_tabW F1.tab15 F1.bits15 (fun HT_ HW_=>?_);generalize w94.drew=w95 at HO_6 HO_67 BK229 BK249 HB hHeld ⊢;refine take_ (i:=0) (N:=some 74) (v:=?_) (a':=?_) (bm_ 1 17) rfl rfl (yo HT_.out HW_.out jA) (fun _ _ _ h=>h) (Or.inl ⟨by rfl,?_⟩) hHeld ?_ ?_;rotate_left
          ·
           rintro w' ⟨s0,s1⟩
           go_simp
           with_reducible rfl
          rotate_left
          exact jc
          refine one_ (i:=1) (N:=some 75) (bm_ 2 17) rfl rfl (one_of HT_.out jA) jC (fun K hK=>?_);refine goes_ Try.func44 jA rfl #[.agg #[.string ((rd_T51 t245 x69_3).f0),.int .i64 ((rd_T51 t245 x69_3).f1)]] (by rfl) rfl rfl jF ?_
          with_reducible refine (F0d.calls  ((rd_T51 t245 x69_3).f0) ((rd_T51 t245 x69_3).f1) false _ A63.out).mono ?_
          rintro e w96 ⟨rfl,hb⟩;refine ⟨_,rfl,?_⟩;replace HO_6:=zh (yg jd hb);replace HO_67:=zh (yg je hb);replace BK229:=zh (cD BK229.out jJ hb);replace BK249:=zh (cD BK249.out jy hb);replace HB:=zh (zC jP hb);(try clear hb);(try clear hb2);(try clear hk);(try clear hi);refine hK.out _ _ ⟨(zz BK249.out 0).trans rfl,(zz BK249.out 1).trans rfl⟩ (fun hHeld=>?_);clear hK K;refine norm_ (a':=?_) ?_ ?_;rotate_left
          ·
           show Act.put _ (some 75) _=_
           simp only [Act.put,zi,zj,zk,zG,zH]
           rfl
          refine pure_ (i:=2) (N:=some 76) (v:=?_) (a':=?_) (bm_ 3 17) rfl rfl (any_of HT_.out jA) (fun _ _ _ h=>h) (Or.inl ⟨by rfl,?_⟩) ?_ ?_;rotate_left;exact jb;rotate_left;exact jc
          refine pure_ (i:=3) (N:=some 77) (v:=?_) (a':=?_) (bm_ 4 17) rfl rfl (any_of HT_.out jA) (fun _ _ _ h=>h) (Or.inl ⟨by rfl,?_⟩) ?_ ?_;rotate_left;exact jb;rotate_left;exact jc
          refine pure_ (i:=4) (N:=some 78) (v:=undef) (a':=?_) (bm_ 5 17) rfl rfl (any_of HT_.out jA) (fun _ _ _ h=>h) (Or.inr ⟨by rfl,rfl⟩) ?_ ?_;rotate_left
          exact jc
          refine pure_ (i:=5) (N:=some 79) (v:=undef) (a':=?_) (bm_ 6 17) rfl rfl (any_of HT_.out jA) (fun _ _ _ h=>h) (Or.inr ⟨by rfl,rfl⟩) ?_ ?_;rotate_left
          exact jc
          refine pure_ (i:=6) (N:=some 80) (v:=undef) (a':=?_) (bm_ 7 17) rfl rfl (any_of HT_.out jA) (fun _ _ _ h=>h) (Or.inr ⟨by rfl,rfl⟩) ?_ ?_;rotate_left
          exact jc
          refine pure_ (i:=7) (N:=some 81) (v:=undef) (a':=?_) (bm_ 8 17) rfl rfl (any_of HT_.out jA) (fun _ _ _ h=>h) (Or.inr ⟨by rfl,rfl⟩) ?_ ?_;rotate_left
          exact jc
          refine pure_ (i:=8) (N:=some 82) (v:=undef) (a':=?_) (bm_ 9 17) rfl rfl (any_of HT_.out jA) (fun _ _ _ h=>h) (Or.inr ⟨by rfl,rfl⟩) ?_ ?_;rotate_left
          exact jc
          refine pure_ (i:=9) (N:=some 83) (v:=undef) (a':=?_) (bm_ 10 17) rfl rfl (any_of HT_.out jA) (fun _ _ _ h=>h) (Or.inr ⟨by rfl,rfl⟩) ?_ ?_;rotate_left
          exact jc
          refine pure_ (i:=10) (N:=some 84) (v:=undef) (a':=?_) (bm_ 11 17) rfl rfl (any_of HT_.out jA) (fun _ _ _ h=>h) (Or.inr ⟨by rfl,rfl⟩) ?_ ?_;rotate_left
          exact jc
          refine pure_ (i:=11) (N:=some 85) (v:=undef) (a':=?_) (bm_ 12 17) rfl rfl (any_of HT_.out jA) (fun _ _ _ h=>h) (Or.inr ⟨by rfl,rfl⟩) ?_ ?_;rotate_left
          exact jc
          refine pure_ (i:=12) (N:=some 86) (v:=undef) (a':=?_) (bm_ 13 17) rfl rfl (any_of HT_.out jA) (fun _ _ _ h=>h) (Or.inr ⟨by rfl,rfl⟩) ?_ ?_;rotate_left
          exact jc
          refine pure_ (i:=13) (N:=some 87) (v:=undef) (a':=?_) (bm_ 14 17) rfl rfl (any_of HT_.out jA) (fun _ _ _ h=>h) (Or.inr ⟨by rfl,rfl⟩) ?_ ?_;rotate_left
          exact jc
          refine pure_ (i:=14) (N:=some 88) (v:=undef) (a':=?_) (bm_ 15 17) rfl rfl (any_of HT_.out jA) (fun _ _ _ h=>h) (Or.inr ⟨by rfl,rfl⟩) ?_ ?_;rotate_left
          exact jc
          refine pure_ (i:=15) (N:=some 89) (v:=undef) (a':=?_) (bm_ 16 17) rfl rfl (any_of HT_.out jA) (fun _ _ _ h=>h) (Or.inr ⟨by rfl,rfl⟩) ?_ ?_;rotate_left
          exact jc
          refine pure_ (i:=16) (N:=some 90) (v:=?_) (a':=?_) (bm_ 17 17) rfl rfl (any_of HT_.out jA) (fun _ _ _ h=>h) (Or.inl ⟨by rfl,?_⟩) ?_ ?_;rotate_left;exact jb;rotate_left;exact jc
          refine done_ (done_of HT_.out jA) ?_
          try go_wp2
          go_ret
          exact ⟨jG,jP⟩
         rw [if_neg c62] at H;exact absurd H (by simp)
        rw [if_neg c61] at H;exact absurd H (by simp)
       rw [if_neg c60] at H;have c60b0 : decide (x69_3<(t245.length : Int))=false:=decide_eq_false c60;clear c60;obtain rfl:=zU H
       go_wp2
       go_ret
       exact ⟨jG,jM⟩

end Go.Proofs.Ytamikhmpfmgofaa.Q
end
section
namespace Go.Proofs.Ytamikhmpfmgofaa.Q
open Go.RowKit Go.Proofs.YtamikhmpfmgofaaW.PrintWords Go.Proofs.YtamikhmpfmgofaaW.PrintLast Go.Proofs.YtamikhmpfmgofaaW.PrintMore
attribute [local go_sem] max2_int min2_int max_two min_two max_three min_three max_four min_four max2_str min2_str str_geq str_gtr str_leq
set_option linter.unusedVariables false
set_option linter.unusedSimpArgs false

def F07.f (l0 : List S51) : Option (List S51):=if l0.length*24≤140737488355328 then (some l0) else (none)
theorem F07.R_empty (base : Nat) (W : World) (hb : base≤W.heap.size) : Kd.R k51 51 (W.alloc (.cells #[] 51)) base (fun _=>True) (.slice (some ⟨W.heap.size,0,none⟩) 0 0) [] :=
 ⟨fun _ _=>trivial,[],⟨by simp,.inr ⟨W.heap.size,0,#[],rfl,hb,blk_new W _,ye _,by unfold maxLen;omega,by simp,by simp⟩⟩,Reps.none _ _⟩
theorem F07.R_nil (base : Nat) (W : World) : Kd.R k51 51 W base (fun _=>True) (.slice none 0 0) [] :=
 ⟨fun _ _=>trivial,[],⟨by simp,.inl ⟨rfl,rfl⟩⟩,Reps.none _ _⟩
theorem F07.run_nil {P : Program} (t e : TypeId) (ht : P.underlying t=some (.slice e)) (A : Option Addr) (n c : Nat) (w : World) : (binOp .eql t (.slice A n c) (.slice none 0 0)).run P w = .ok (.bool A.isNone) w:=by
 have h : ∀ d,(Op.equalIn (d+1) t (.slice A n c) (.slice none 0 0)).run P w = .ok A.isNone w:=fun d=>by
  unfold Op.equalIn;rw [Sem.run_bind,run_underlying ht];cases A <;> rfl
 have h2 : (Op.equal t (.slice A n c) (.slice none 0 0)).run P w = .ok A.isNone w:=h 9999;simp [binOp,h2]
set_option maxHeartbeats 4000000 in
set_option maxRecDepth 100000 in
theorem F07.calls (A0 : Option Addr) (c0 : Nat) (l0 : List S51) (r : List S51) (w : World) (hr0 : Kd.C k51 w A0 l0.length l0) (hc0 : l0.length≤c0) (h : F07.f l0=some r) :
  Calls Try.prog 61 #[.slice A0 l0.length c0] w fun e w' => ∃ v0_ : Value,e = .returned (v0_)∧Kd.R k51 51 w' w.heap.size (fun _=>True) v0_ r∧Below w.heap.size w w':=by
 unfold F07.f at h
 by_cases hl : l0.length*24≤140737488355328
 case neg=>rw [if_neg hl] at h;cases h
 rw [if_pos hl] at h;obtain rfl:=zU h;have hnil:=fun A n c w=>F07.run_nil (P:=Try.prog) 29 51 Try.underlying29 A n c w
 cases A0 with
 | none =>
  have h0 : l0=[]:=by
   rcases Nat.eq_zero_or_pos l0.length with h0|h0
   ·
    exact List.eq_nil_of_length_eq_zero h0
   obtain ⟨ad,h9,_⟩:=hr0.2.2 h0
   cases h9
  subst h0
  go_enter Try.func61,Try.ntmps61
  go_wp2_with fail
  go_ret
  exact ⟨_,rfl,F07.R_nil _ _,Below.refl _ _⟩
 | some ad =>
  have hC:=Kd.C_alloc hr0 (.cells #[] 51);have hO:=F07.R_empty w.heap.size w (ye _);have hB:=za (Below.refl w.heap.size w) (.cells #[] 51)
  go_enter Try.func61,Try.ntmps61
  go_wp2_with (at_builtin;refine Kd.R_append_rows k51 w.heap.size (by rfl) (.tmp 5) (.tmp 6) 29 51 (.agg #[(.string ⟨#[]⟩),(.int .i64 0)]) 24 rfl Try.underlying29 info51 rfl jC jC (.slice (some ⟨w.heap.size,0,none⟩) 0 0) [] l0 (some ad) l0.length c0 (fun _=>True) (fun _=>False) rfl rfl hO hC (fun x cs h9=>by rw [k51_open h9];exact k51_mkM _ _ _ _) (fun _ h9=>h9.elim) (fun _ _=>trivial) hB hB.size (by simpa using hl) ?_;intro v1 w1 hR hb hg hat)
  go_ret
  exact ⟨v1,rfl,by simpa using hR,hb⟩


def Fe.l0 : Nat→List (S67)→Int→Int→List (S67)→Int→Option ((List (S67))×Int)
 | 0,_,_,_,_,_=>none
 | k+1,x10,x11,x12,x468000,x468001=>if x12<x11 then (if 0≤x12 then (if x12<(x10.length : Int) then ((F07.f ((rd_T67 x10 x12).f1)).bind fun t470=>(if x468000.length<4398046511104 then (Fe.l0 k x10 x11 (wrap64 (x12+1)) (x468000 ++ [(⟨(rd_T67 x10 x12).f0,t470⟩ : S67)]) x468001) else (none))) else (none)) else (none)) else (some (x468000,x468001))
def Fe.f (k : Nat) (l0_0 : List (S67)) (a0_1 : Int) : Option ((List (S67))×Int):=Fe.l0 k l0_0 (l0_0.length : Int) 0 ([] : List (S67)) a0_1
theorem Fe.mono_l : ∀ k,(∀ y0 y1 y2 y3 y4,LeO (Fe.l0 k y0 y1 y2 y3 y4) (Fe.l0 (k+1) y0 y1 y2 y3 y4))
 | 0=>fun _ _ _ _ _ r h=>by simp [Fe.l0] at h
 | k+1=>by
  have ih0:=Fe.mono_l k;intro y0 y1 y2 y3 y4;unfold Fe.l0
  repeat' first|(with_reducible first|exact ih0 _ _ _ _ _|exact zQ _|exact zN _|refine zP ?_ ?_|refine zO ?_ (fun _=>?_))|refine zP ?_ ?_|refine zO ?_ (fun _=>?_)
theorem Fe.mono : ∀ a0 a1 k,LeO (Fe.f k a0 a1) (Fe.f (k+1) a0 a1):=by
 intro a0 a1 k;have ih0:=Fe.mono_l k;unfold Fe.f
 repeat' first|(with_reducible first|exact ih0 _ _ _ _ _|exact zQ _|exact zN _|refine zP ?_ ?_|refine zO ?_ (fun _=>?_))|refine zP ?_ ?_|refine zO ?_ (fun _=>?_)
def Fe.T5 : Bool×List (List Nat×List Nat):=(true,[([],[]),([0],[0]),([],[]),([2],[2]),([],[]),([4],[4]),([5],[5]),([3,6],[3,6]),([7],[7]),([1,8,6],[1,8]),([0,1,2,3,4,5,6,7,8,9],[]),([10,9,9,0,1,2,3,4,5,6,7,8,9],[9,10])])
def Fe.B5 : List Nat:=[0,1,0,4,0,16,48,124,252,511,1023,2047]
theorem Fe.tab5 : rtab .any (opsOf Try.f45 5)=Fe.T5:=by kernel_rfl
theorem Fe.bits5 : waitsOk Fe.T5.2 Fe.B5=true:=by kernel_rfl
set_option maxHeartbeats 8000000 in
set_option maxRecDepth 100000 in
theorem Fe.calls (k : Nat) (A0_0 : Option Addr) (c0_0 : Nat) (l0_0 : List (S67)) (a0_1 : Int) (r1 : List (S67)) (r2 : Int) (w : World) (hr0_0 : Kd.C k67 w A0_0 l0_0.length l0_0) (hc0_0 : l0_0.length≤c0_0) (h : Fe.f k l0_0 a0_1=some (r1,r2)) :
  Calls Try.prog 45 #[.agg #[.slice A0_0 l0_0.length c0_0,.int .i64 a0_1]] w fun e w' => ∃ v0_ : Value,e = .returned (.agg #[v0_,.int .i64 r2])∧Kd.S k67 67 w' w.heap.size (fun _=>True) v0_ r1∧Below w.heap.size w w':=by
 have hu35:=Try.underlying35;have hu67:=Try.underlying67;have HR0_0:=zh hr0_0;have HC0_0:=zh hc0_0;clear hr0_0 hc0_0;have HB:=zh (Below.refl w.heap.size w);have H : (Fe.l0 k l0_0 (l0_0.length : Int) 0 ([] : List (S67)) a0_1)=some (r1,r2):=h;clear h;have H':=zh H;clear H
 go_enter Try.func45,Try.ntmps45
 go_wp2_with (first|((with_reducible refine zK (N:=1) rfl ?_);refine zI ?hg (N:=1) ?hd (cs:=#[.slice A0_0 l0_0.length c0_0,.int .i64 a0_1]) (t:=35) ?hr ?_;(case hd=>rfl);(case hg=>rfl);(case hr=>go_simp <;> rfl);intro gb465 hg w2 hbox hb;have BK465:=zh (hbox);have hH_:=cH jE hb hg;have GW465:=zh hH_.1;have GE465:=GW465;replace HB:=zh hH_.2;clear hb hbox hg hH_)|((with_reducible refine zK (N:=2) rfl ?_);refine zI ?hg (N:=2) ?hd (cs:=#[.slice none 0 0,.int .i64 0]) (t:=35) ?hr ?_;(case hd=>rfl);(case hg=>rfl);(case hr=>go_simp <;> rfl);intro gb466 hg w3 hbox hb;have BK466:=zh (hbox);have hH_:=cH (by repeat (with_reducible first|exact HB.out|apply za|apply zb|apply zc|refine zd ?_ GE465.out)) hb hg;have GW466:=zh hH_.1;have GE466:=GW466;replace HB:=zh hH_.2;have NB465_466:=zh ((jBY : gb465≠gb466));have NB466_465:=zh NB465_466.out.symm;replace BK465:=zh (cD BK465.out jr hb);clear hb hbox hg hH_;have hnb4:=NB465_466.out;have hnc4:=NB466_465.out;obtain ⟨hcz5_0,hcz5_1,hfz5_0,hfz5_1⟩:=cB2 BK465.out)|((with_reducible refine zK (N:=3) rfl ?_);refine zI ?hg (N:=3) ?hd (cs:=#[.slice none 0 0,.int .i64 0]) (t:=35) ?hr ?_;(case hd=>rfl);(case hg=>rfl);(case hr=>go_simp <;> rfl);intro gb467 hg w6 hbox hb;have BK467:=zh (hbox);have hH_:=cH (by repeat (with_reducible first|exact HB.out|apply za|apply zb|apply zc|refine zd ?_ GE465.out|refine zd ?_ GE466.out)) hb hg;have GW467:=zh hH_.1;have GE467:=GW467;replace HB:=zh hH_.2;have NB465_467:=zh ((jBY : gb465≠gb467));have NB467_465:=zh NB465_467.out.symm;replace BK465:=zh (cD BK465.out jr hb);have NB466_467:=zh ((jBZ : gb466≠gb467));have NB467_466:=zh NB466_467.out.symm;replace BK466:=zh (cD BK466.out jAG hb);clear hb hbox hg hH_;have hnb7:=NB467_465.out;have hnc7:=NB465_467.out;have hnb8:=NB467_466.out;have hnc8:=NB466_467.out;obtain ⟨hcz9_0,hcz9_1,hfz9_0,hfz9_1⟩:=cB2 BK467.out;obtain ⟨hcz10_0,hcz10_1,hfz10_0,hfz10_1⟩:=cB2 BK465.out))
 go_loopg [12] k (fun kq v12 w' => ∃ (x12_1 : Int) (x468000_1 : List (S67)) (u468000 : Value),v12 = .int .i64 x12_1∧Aside0 (Fe.l0 kq l0_0 (l0_0.length : Int) x12_1 x468000_1 a0_1=some (r1,r2))∧Aside0 (kq≤k)∧Aside0 (Kd.S k67 67 w' w.heap.size (fun _=>True) u468000 x468000_1)∧Aside0 (w'.heap[gb465]? = some (.cells #[(.slice A0_0 l0_0.length c0_0),.int .i64 a0_1] 35 (0,0)))∧Aside0 (w'.heap[gb466]? = some (.cells #[(.slice none 0 0),.int .i64 0] 35 (0,0)))∧Aside0 (w'.heap[gb467]? = some (.cells #[u468000,.int .i64 a0_1] 35 (0,0)))∧Aside0 (Below w.heap.size w w'))
 case atStart=>exact ⟨(0),(([] : List (S67))),(.slice none 0 0),jD,H',⟨ye _⟩,⟨jBN⟩,⟨by (with_reducible repeat first|apply ze|apply zf|apply zg);refine cS2 ?_ NB465_467.out;(with_reducible repeat first|apply ze|apply zf|apply zg);exact BK465.out⟩,⟨by (with_reducible repeat first|apply ze|apply zf|apply zg);refine cS2 ?_ NB466_467.out;(with_reducible repeat first|apply ze|apply zf|apply zg);exact BK466.out⟩,⟨by (with_reducible repeat first|apply ze|apply zf|apply zg);refine zL (cs:=#[.slice none 0 0,.int .i64 0]) ?_ 1 _ rfl;(with_reducible repeat first|apply ze|apply zf|apply zg);refine zL (cs:=#[.slice none 0 0,.int .i64 0]) ?_ 0 _ rfl;(with_reducible repeat first|apply ze|apply zf|apply zg);exact BK467.out⟩,⟨jA0⟩⟩
 case round =>
  clear H'
  try clear p2
  try clear c4 c7 c8
  try clear hcz10_0 hcz10_1
  try clear hcz5_0 hcz5_1
  try clear hcz9_0 hcz9_1
  try clear hfz10_0 hfz10_1
  try clear hfz5_0 hfz5_1
  try clear hfz9_0 hfz9_1
  obtain ⟨x12_1,x468000_1,u468000,rfl,HA,HK1,HO_468000,BK465,BK466,BK467,HB⟩:=hrel
  cases gk with
  | zero=>exact absurd HA.out (by simp [Fe.l0])
  | succ k1 =>
   have H:=HA.out;clear HA;simp only [Fe.l0] at H
   by_cases c11 : x12_1<(l0_0.length : Int)
   ·
    rw [if_pos c11] at H
    have c11b0 : decide (x12_1<(l0_0.length : Int))=true:=decide_eq_true c11;clear c11
    by_cases c12 : 0≤x12_1
    ·
     rw [if_pos c12] at H
     have c12b0 : decide (0≤x12_1)=true:=decide_eq_true c12;clear c12
     by_cases c13 : x12_1<(l0_0.length : Int)
     ·
      rw [if_pos c13] at H
      have c13b0 : decide (x12_1<(l0_0.length : Int))=true:=decide_eq_true c13;clear c13;replace H:=zT.mp H;obtain ⟨t470,A140,H⟩:=H;have A14:=zh A140;clear A140
      by_cases c15 : x468000_1.length<4398046511104
      ·
       rw [if_pos c15] at H
       have LMc15:=zh c15;clear c15;obtain ⟨y473,hy473⟩ : ∃ y_ : List (S67),y_=(x468000_1 ++ [(⟨(rd_T67 l0_0 x12_1).f0,t470⟩ : S67)]):=⟨_,rfl⟩;replace H : (Fe.l0 k1 l0_0 (l0_0.length : Int) (wrap64 (x12_1+1)) y473 a0_1)=some (r1,r2):=by first|(rw [hy473];with_reducible exact H)|(have H2_:=(Option.bind_some _ _).symm.trans H;rw [hy473];with_reducible exact H2_)|(have H2_:=(Option.bind_some _ _).symm.trans H;with_reducible exact H2_)|with_reducible exact H|(rw [hy473];exact H)|exact H
       have Ny473:=zh hy473;clear hy473;have H':=zh H;clear H;have p468 : 0≤(x12_1 : Int):=zy jB;have q468 : x12_1<(l0_0.length : Int):=zy jB;obtain ⟨ad468,A468_1,c468_1,e468,hx468_0,hx468_1,hl468_1,hi468_1⟩:=at_T67 HR0_0.out x12_1 p468 q468
       cases e468
       replace hx468_0:=(HB.out.cell (zl w _ hx468_0)).trans hx468_0;replace hx468_1:=(HB.out.cell (zl w _ hx468_1)).trans hx468_1;have HR468_1:=zh hi468_1;have HC468_1:=zh hl468_1;clear hi468_1 hl468_1;replace p468:=eq_true p468;replace q468:=eq_true q468
       try go_wp2_with (first|((with_reducible refine zK (N:=5) rfl ?_);refine zI ?hg (N:=5) ?hd (cs:=#[.int .i64 0,.slice none 0 0]) (t:=67) ?hr ?_;(case hd=>rfl);(case hg=>rfl);(case hr=>go_simp <;> rfl);intro gb469 hg w16 hbox hb;replace HO_468000:=zh (Kd.S_below (Kd.S_elderB jBb gb469 (Nat.le_of_eq hg.symm)) hb);have BK469:=zh (hbox);have hH_:=cH jA0 hb hg;have GW469:=zh hH_.1;have GE469:=GW469;replace HB:=zh hH_.2;have NB465_469:=zh ((by rw [hg];exact yc (yi (g:=gb465) (o:=.cells #[.slice (some ad468) l0_0.length c0_0,.int .i64 a0_1] 35 (0,0)) jr) : gb465≠gb469));have NB469_465:=zh NB465_469.out.symm;replace BK465:=zh (cD BK465.out jr hb);have NB466_469:=zh ((jBZ : gb466≠gb469));have NB469_466:=zh NB466_469.out.symm;replace BK466:=zh (cD BK466.out jAG hb);have NB467_469:=zh ((by rw [hg];exact yc (yi (g:=gb467) (o:=.cells #[u468000,.int .i64 a0_1] 35 (0,0)) jAb) : gb467≠gb469));have NB469_467:=zh NB467_469.out.symm;replace BK467:=zh (cD BK467.out jAb hb);clear hb hbox hg hH_;have hnb17:=NB469_465.out;have hnc17:=NB465_469.out;have hnb18:=NB469_466.out;have hnc18:=NB466_469.out;have hnb19:=NB469_467.out;have hnc19:=NB467_469.out;obtain ⟨hcz20_0,hcz20_1,hfz20_0,hfz20_1⟩:=cB2 BK469.out))
       have n0_ : Aside0 (Kd.S k67 67 ((w16.setCell ⟨gb469,0,none⟩ (.int .i64 ((rd_T67 l0_0 x12_1).f0))).setCell ⟨gb469,1,none⟩ (.slice A468_1 ((rd_T67 l0_0 x12_1).f1).length c468_1)) w.heap.size (fun k_=>k_≠gb469) u468000 x468000_1):=⟨by (with_reducible repeat (first|apply Kd.S_alloc|apply Kd.S_drewN|apply Kd.S_drew));exact Kd.S_mono (Kd.S_far (p:=⟨gb469,1,none⟩) (Kd.S_far (p:=⟨gb469,0,none⟩) (Kd.S_mono HO_468000.out (fun k_ hk=>(⟨hk,hk.2⟩ : _∧k_≠gb469))) (fun _ hk=>hk.2) (.int .i64 ((rd_T67 l0_0 x12_1).f0))) (fun _ hk=>hk.2) (.slice A468_1 ((rd_T67 l0_0 x12_1).f1).length c468_1)) (fun _ hk=>hk.1.2)⟩;have n1_ : Aside0 (((w16.setCell ⟨gb469,0,none⟩ (.int .i64 ((rd_T67 l0_0 x12_1).f0))).setCell ⟨gb469,1,none⟩ (.slice A468_1 ((rd_T67 l0_0 x12_1).f1).length c468_1)).heap[gb465]? = some (.cells #[.slice (some ad468) l0_0.length c0_0,.int .i64 a0_1] 35 (0,0))):=⟨by (with_reducible repeat first|apply ze|apply zf|apply zg);refine cS2 ?_ NB465_469.out;(with_reducible repeat first|apply ze|apply zf|apply zg);exact BK465.out⟩;have n2_ : Aside0 (((w16.setCell ⟨gb469,0,none⟩ (.int .i64 ((rd_T67 l0_0 x12_1).f0))).setCell ⟨gb469,1,none⟩ (.slice A468_1 ((rd_T67 l0_0 x12_1).f1).length c468_1)).heap[gb466]? = some (.cells #[.slice none 0 0,.int .i64 0] 35 (0,0))):=⟨by (with_reducible repeat first|apply ze|apply zf|apply zg);refine cS2 ?_ NB466_469.out;(with_reducible repeat first|apply ze|apply zf|apply zg);exact BK466.out⟩;have n3_ : Aside0 (((w16.setCell ⟨gb469,0,none⟩ (.int .i64 ((rd_T67 l0_0 x12_1).f0))).setCell ⟨gb469,1,none⟩ (.slice A468_1 ((rd_T67 l0_0 x12_1).f1).length c468_1)).heap[gb467]? = some (.cells #[u468000,.int .i64 a0_1] 35 (0,0))):=⟨by (with_reducible repeat first|apply ze|apply zf|apply zg);refine cS2 ?_ NB467_469.out;(with_reducible repeat first|apply ze|apply zf|apply zg);exact BK467.out⟩;have n4_ : Aside0 (((w16.setCell ⟨gb469,0,none⟩ (.int .i64 ((rd_T67 l0_0 x12_1).f0))).setCell ⟨gb469,1,none⟩ (.slice A468_1 ((rd_T67 l0_0 x12_1).f1).length c468_1)).heap[gb469]? = some (.cells #[.int .i64 ((rd_T67 l0_0 x12_1).f0),.slice A468_1 ((rd_T67 l0_0 x12_1).f1).length c468_1] 67 (0,0))):=⟨by (with_reducible repeat first|apply ze|apply zf|apply zg);refine zL (cs:=#[.int .i64 ((rd_T67 l0_0 x12_1).f0),.slice none 0 0]) ?_ 1 _ rfl;(with_reducible repeat first|apply ze|apply zf|apply zg);refine zL (cs:=#[.int .i64 0,.slice none 0 0]) ?_ 0 _ rfl;(with_reducible repeat first|apply ze|apply zf|apply zg);exact BK469.out⟩;have n5_ : Aside0 (Below w.heap.size w ((w16.setCell ⟨gb469,0,none⟩ (.int .i64 ((rd_T67 l0_0 x12_1).f0))).setCell ⟨gb469,1,none⟩ (.slice A468_1 ((rd_T67 l0_0 x12_1).f1).length c468_1))):=⟨jz⟩;(try clear HO_468000);(try clear BK465);(try clear BK466);(try clear BK467);(try clear BK469);(try clear HB);generalize ((w16.setCell ⟨gb469,0,none⟩ (.int .i64 ((rd_T67 l0_0 x12_1).f0))).setCell ⟨gb469,1,none⟩ (.slice A468_1 ((rd_T67 l0_0 x12_1).f1).length c468_1))=w21 at n0_ n1_ n2_ n3_ n4_ n5_ ⊢;have HO_468000:=n0_;have BK465:=n1_;have BK466:=n2_;have BK467:=n3_;have BK469:=n4_;have HB:=n5_;clear n0_ n1_ n2_ n3_ n4_ n5_;replace HO_468000:=zh (Kd.S_drew HO_468000.out);replace BK465:=zh (zf BK465.out);replace BK466:=zh (zf BK466.out);replace BK467:=zh (zf BK467.out);replace BK469:=zh (zf BK469.out);replace HB:=zh (zc HB.out);refine start_ (n:=12) (S:=fun w' => w'.cell? ⟨gb467,0,none⟩=some (u468000)∧w'.cell? ⟨gb467,1,none⟩=some (.int .i64 a0_1)∧w'.cell? ⟨gb469,0,none⟩=some (.int .i64 ((rd_T67 l0_0 x12_1).f0))∧w'.cell? ⟨gb469,1,none⟩=some (.slice A468_1 ((rd_T67 l0_0 x12_1).f1).length c468_1)) (ds:=[11]) (bm_ 0 12) jA rfl rfl ⟨(zz BK467.out 0).trans rfl,(zz BK467.out 1).trans rfl,(zz BK469.out 0).trans rfl,(zz BK469.out 1).trans rfl⟩ (fun hHeld=>?_);refine with_tabW Fe.tab5 Fe.bits5 (fun HT_ HW_=>?_);generalize w21.drew=w22 at HO_468000 BK465 BK466 BK467 BK469 HB hHeld ⊢;refine pure_ (i:=0) (N:=some 16) (v:=?_) (a':=?_) (bm_ 1 12) rfl rfl (any_of HT_.out jA) (fun _ _ _ h=>h) (Or.inl ⟨by rfl,?_⟩) ?_ ?_;rotate_left;exact jb;rotate_left;exact jc
       refine pure_ (i:=2) (N:=some 18) (v:=?_) (a':=?_) #[true,false,true,false,false,false,false,false,false,false,false,false] rfl rfl (any_of HT_.out jA) (fun _ _ _ h=>h) (Or.inl ⟨by rfl,?_⟩) ?_ ?_;rotate_left;exact jb;rotate_left;exact jc
       refine pure_ (i:=4) (N:=some 20) (v:=?_) (a':=?_) #[true,false,true,false,true,false,false,false,false,false,false,false] rfl rfl (any_of HT_.out jA) (fun _ _ _ h=>h) (Or.inl ⟨by rfl,?_⟩) ?_ ?_;rotate_left;exact jb;rotate_left;exact jc
       refine take_ (i:=1) (N:=some 17) (v:=?_) (a':=?_) #[true,true,true,false,true,false,false,false,false,false,false,false] rfl rfl (yo HT_.out HW_.out jA) (fun _ _ _ h=>h) (Or.inl ⟨by rfl,?_⟩) hHeld ?_ ?_;rotate_left
       ·
        rintro w' ⟨s0,s1,s2,s3⟩
        go_simp
        with_reducible rfl
       rotate_left
       exact jc
       refine take_ (i:=3) (N:=some 19) (v:=?_) (a':=?_) (bm_ 5 12) rfl rfl (yo HT_.out HW_.out jA) (fun _ _ _ h=>h) (Or.inl ⟨by rfl,?_⟩) hHeld ?_ ?_;rotate_left
       ·
        rintro w' ⟨s0,s1,s2,s3⟩
        go_simp
        with_reducible rfl
       rotate_left
       exact jc
       refine take_ (i:=5) (N:=some 21) (v:=?_) (a':=?_) (bm_ 6 12) rfl rfl (yo HT_.out HW_.out jA) (fun _ _ _ h=>h) (Or.inl ⟨by rfl,?_⟩) hHeld ?_ ?_;rotate_left
       ·
        rintro w' ⟨s0,s1,s2,s3⟩
        go_simp
        with_reducible rfl
       rotate_left
       exact jc
       refine one_ (i:=6) (N:=some 22) (bm_ 7 12) rfl rfl (one_of HT_.out jA) jC (fun K hK=>?_);refine goes_ Try.func61 jA rfl #[.slice A468_1 ((rd_T67 l0_0 x12_1).f1).length c468_1] (by rfl) rfl rfl jF ?_
       with_reducible refine (F07.calls  _ _ ((rd_T67 l0_0 x12_1).f1) t470 _ ?side1 ?side2 A14.out).mono ?_
       (case side1=>repeat (first|exact (Kd.C_below HR468_1.out HB.out)|(with_reducible refine Kd.C_alloc ?_ _)|(with_reducible refine Kd.C_drewN ?_ _)|(with_reducible refine Kd.C_drew ?_)))
       (case side2=>exact HC468_1.out)
       rintro e w23 ⟨v471,rfl,ho0,hb⟩;refine ⟨_,rfl,?_⟩;replace HO_468000:=zh (Kd.S_elder' jBb (Kd.R_base ho0) hb);have HO472:=zh (yx ho0 (zB jz));replace BK465:=zh (cD BK465.out jr hb);replace BK466:=zh (cD BK466.out jAG hb);replace BK467:=zh (cD BK467.out jAb hb);replace BK469:=zh (cD BK469.out jA1 hb);replace HB:=zh (zC jz hb);(try clear hb);(try clear hb2);(try clear hk);(try clear hi);(try clear ho0);obtain ⟨Ao24,co24,eo24⟩:=yk HO472.out;(first|subst eo24|(injection eo24 with f1_ f2_ f3_;have f4_:=f1_.symm;have f5_:=f3_.symm;clear f1_ f2_ f3_;subst f4_;subst f5_));refine hK.out _ _ ⟨(zz BK467.out 0).trans rfl,(zz BK467.out 1).trans rfl,(zz BK469.out 0).trans rfl,(zz BK469.out 1).trans rfl⟩ (fun hHeld=>?_);clear hK K;refine norm_ (a':=?_) ?_ ?_;rotate_left
       ·
        show Act.put _ (some 22) _=_
        simp only [Act.put,zi,zj,zk,zG,zH]
        rfl
       refine pure_ (i:=7) (N:=some 23) (v:=?_) (a':=?_) (bm_ 8 12) rfl rfl (any_of HT_.out jA) (fun _ _ _ h=>h) (Or.inl ⟨by rfl,?_⟩) ?_ ?_;rotate_left;exact jb;rotate_left;exact jc
       refine one_ (i:=8) (N:=some 24) (bm_ 9 12) rfl rfl (one_of HT_.out jA) jC (fun K hK=>?_);refine value_ (w1:=?_) (v:=?_) (by rfl) rfl ?_ ?_;rotate_left 2
       ·
        go_simp
        constructor
        ·
         rfl
        rfl
       refine hK.out _ _ ⟨(zz (zg BK467.out _) 0).trans rfl,(zz (zg BK467.out _) 1).trans rfl,(zz (zg BK469.out _) 0).trans rfl,(zz (zg BK469.out _) 1).trans rfl⟩ (fun hHeld=>?_);clear hK K;refine norm_ (a':=?_) ?_ ?_;rotate_left
       ·
        show Act.put _ (some 24) _=_
        simp only [Act.put,zi,zj,zk,zG,zH]
        rfl
       refine one_ (i:=9) (N:=some 25) (bm_ 10 12) rfl rfl (one_of HT_.out jA) jC (fun K hK=>?_);refine Kd.S_append_step k67 (w0:=w) w.heap.size (by rfl) (.tmp 17) (.tmp 24) 33 67 (.agg #[(.int .i64 0),(.slice none 0 0)]) 32 rfl Try.underlying33 info67 rfl jC jH u468000 x468000_1 (⟨(rd_T67 l0_0 x12_1).f0,t470⟩ : S67) [.int .i64 ((rd_T67 l0_0 x12_1).f0),.slice Ao24 t470.length co24] (fun k_=>k_≠gb469) (fun k_=>some k_=(.slice Ao24 t470.length co24 : Value).ownBlock) rfl rfl ?aP (fun k_ hk_=>((zM (ok':=fun k_=>((fun k_=>k_≠gb469)) k_∧some k_≠(u468000 : Value).ownBlock) (yf (Kd.R_apart' (HO472.out) (Kd.S_typed HO_468000.out) jC) BK469.out jC) (fun k_ hk=>⟨hk.2,hk.1.2⟩))).1 k_ hk_.symm) ?aF ?aO ?aB ?aS ?aL ?_;(case aP=>exact k67_mkM _ _ _ (⟨(rd_T67 l0_0 x12_1).f0,t470⟩ : S67) (zM (Kd.R_tight rfl (zM (ok':=fun k_=>((fun k_=>k_≠gb469)) k_∧some k_≠(u468000 : Value).ownBlock) (yf (Kd.R_apart' (HO472.out) (Kd.S_typed HO_468000.out) jC) BK469.out jC) (fun k_ hk=>⟨hk.2,hk.1.2⟩))) (fun _ h_=>h_)))
       (case aB=>exact jz)
       (case aF=>exact (fun k_ hk=>Kd.freshB (g:=gb469) (o:=.cells #[.int .i64 ((rd_T67 l0_0 x12_1).f0),.slice A468_1 ((rd_T67 l0_0 x12_1).f1).length c468_1] 67 (0,0)) jA1 k_ hk))
       (case aO=>exact (by (with_reducible repeat (first|apply Kd.S_alloc|apply Kd.S_drewN|apply Kd.S_drew));exact Kd.S_mono HO_468000.out (fun k_ hk=>⟨hk.1,fun e_=>hk.2 e_⟩)))
       (case aS=>exact (zB jz))
       (case aL=>have:=LMc15.out;omega)
       intro v474 w25 ho hb hg hat;rw [← Ny473.out] at ho;replace BK465:=zh (yv (g:=gb465) (o:=.cells #[.slice (some ad468) l0_0.length c0_0,.int .i64 a0_1] 35 (0,0)) jr hg (Kd.S_ne HO_468000.out BK465.out jC));replace BK466:=zh (yv (g:=gb466) (o:=.cells #[.slice none 0 0,.int .i64 0] 35 (0,0)) jAG hg (Kd.S_ne HO_468000.out BK466.out jC));replace BK467:=zh (yv (g:=gb467) (o:=.cells #[u468000,.int .i64 a0_1] 35 (0,0)) jAb hg (Kd.S_ne HO_468000.out BK467.out jC));replace BK469:=zh (yv (g:=gb469) (o:=.cells #[.int .i64 ((rd_T67 l0_0 x12_1).f0),.slice A468_1 ((rd_T67 l0_0 x12_1).f1).length c468_1] 67 (0,0)) jA1 hg (Kd.S_away HO_468000.out (fun _ hk=>hk.1)));replace HB:=zh (hb);have HO475:=zh (ho);clear HO_468000 HO472 ho hb hg hat;obtain ⟨Ao26,co26,eo26⟩:=Kd.S_slice HO475.out;(first|subst eo26|(injection eo26 with f1_ f2_ f3_;have f4_:=f1_.symm;have f5_:=f3_.symm;clear f1_ f2_ f3_;subst f4_;subst f5_));refine hK.out _ _ ⟨(zz BK467.out 0).trans rfl,(zz BK467.out 1).trans rfl,(zz BK469.out 0).trans rfl,(zz BK469.out 1).trans rfl⟩ (fun hHeld=>?_);clear hK K;refine norm_ (a':=?_) ?_ ?_;rotate_left
       ·
        show Act.put _ (some 25) _=_
        simp only [Act.put,zi,zj,zk,zG,zH]
        rfl
       refine pure_ (i:=10) (N:=some 26) (v:=?_) (a':=?_) (bm_ 11 12) rfl rfl (any_of HT_.out jA) (fun _ _ _ h=>h) (Or.inl ⟨by rfl,?_⟩) ?_ ?_;rotate_left;exact jb;rotate_left;exact jc
       refine last_ (i:=11) (N:=none) (bm_ 12 12) rfl rfl (one_of HT_.out jA) jC (fun K hK=>?_);have hs27 : w25.cell? ⟨gb467,0,none⟩=some (u468000):=(zz BK467.out 0).trans rfl;have hfs27:=zA BK467.out 0;have hns27_0:=NB465_467.out;have hns27_1:=NB466_467.out;have hns27_3:=NB469_467.out;have hms27_0:=NB467_465.out;have hms27_1:=NB467_466.out;have hms27_3:=NB467_469.out;refine skip_ (w1:=?_) (by rfl) rfl ?_ ?_;rotate_left
       ·
        go_simp
        rfl
       refine hK.out _ _ ?_;clear hK K;refine done_ (done_of HT_.out jA) ?_
       try go_wp2
       go_roundg k1
       case measure=>have:=HK1.out;omega
       case rel=>exact ⟨(wrap64 (x12_1+1)),(y473),(.slice Ao26 y473.length co26),jD,H',⟨jK⟩,⟨by (with_reducible repeat (first|apply Kd.S_alloc|apply Kd.S_drewN|apply Kd.S_drew));exact Kd.S_mono (Kd.S_far (p:=⟨gb467,0,none⟩) (Kd.S_types HO475.out BK467.out jC) (fun _ hk=>hk.2) (.slice Ao26 y473.length co26)) (fun _ hk=>trivial)⟩,⟨by (with_reducible repeat first|apply ze|apply zf|apply zg);refine zS ?_ NB465_467.out _;(with_reducible repeat first|apply ze|apply zf|apply zg);exact BK465.out⟩,⟨by (with_reducible repeat first|apply ze|apply zf|apply zg);refine zS ?_ NB466_467.out _;(with_reducible repeat first|apply ze|apply zf|apply zg);exact BK466.out⟩,⟨by (with_reducible repeat first|apply ze|apply zf|apply zg);refine zL (cs:=#[u468000,.int .i64 a0_1]) ?_ 0 _ rfl;(with_reducible repeat first|apply ze|apply zf|apply zg);exact BK467.out⟩,⟨jz⟩⟩
      rw [if_neg c15] at H;exact absurd H (by simp)
     rw [if_neg c13] at H;exact absurd H (by simp)
    rw [if_neg c12] at H;exact absurd H (by simp)
   rw [if_neg c11] at H;have c11b0 : decide (x12_1<(l0_0.length : Int))=false:=decide_eq_false c11;clear c11;simp only [Option.some.injEq,Prod.mk.injEq] at H;obtain ⟨rfl,rfl⟩:=H;have hnb28:=NB467_465.out;have hnc28:=NB465_467.out;have hnb29:=NB467_466.out;have hnc29:=NB466_467.out;obtain ⟨hcz30_0,hcz30_1,hfz30_0,hfz30_1⟩:=cB2 BK467.out;obtain ⟨Ao31,co31,eo31⟩:=Kd.S_slice HO_468000.out;subst eo31;have hnb32:=NB466_465.out;have hnc32:=NB465_466.out;obtain ⟨hcz33_0,hcz33_1,hfz33_0,hfz33_1⟩:=cB2 BK466.out
   go_wp2
   refine bodyPost_ret (results_cell_row rfl _ _ gb466 35 #[.slice Ao31 x468000_1.length co31,.int .i64 a0_1] (0,0) _ rfl (by (with_reducible repeat first|apply ze|apply zf|apply zg);refine zL (cs:=#[.slice Ao31 x468000_1.length co31,.int .i64 0]) ?_ 1 _ rfl;(with_reducible repeat first|apply ze|apply zf|apply zg);refine zL (cs:=#[.slice none 0 0,.int .i64 0]) ?_ 0 _ rfl;(with_reducible repeat first|apply ze|apply zf|apply zg);exact BK466.out) Try.underlying35 rfl jA) rfl ?_;exact ⟨_,jG,by (with_reducible repeat (first|apply Kd.S_alloc|apply Kd.S_drewN|apply Kd.S_drew));exact Kd.S_mono (Kd.S_far (p:=⟨gb466,1,none⟩) (Kd.S_far (p:=⟨gb466,0,none⟩) (Kd.S_types HO_468000.out BK466.out jC) (fun _ hk=>hk.2) (.slice Ao31 x468000_1.length co31)) (fun _ hk=>hk.2) (.int .i64 a0_1)) (fun _ hk=>trivial),jA0⟩


def F9.l0 : Nat→Int→List (S67)→Int→Int→ByteArray→Int→Option (Int)
 | 0,_,_,_,_,_,_=>none
 | k+1,x5,x9,x10,x11,x258000,x258001=>if x11<x10 then (if 0≤x11 then (if x11<(x9.length : Int) then (if (((rd_T67 x9 x11).f1).length : Int) > 0 then (if 0<(((rd_T67 x9 x11).f1).length : Int) then ((Fg.f k ((rd_T51 ((rd_T67 x9 x11).f1) 0).f0) ((rd_T51 ((rd_T67 x9 x11).f1) 0).f1) x258000 x258001).bind fun t261=>(if t261≤0 then (F9.l0 k x11 x9 x10 (wrap64 (x11+1)) x258000 x258001) else (F9.l0 k x5 x9 x10 (wrap64 (x11+1)) x258000 x258001))) else (none)) else (F9.l0 k x5 x9 x10 (wrap64 (x11+1)) x258000 x258001)) else (none)) else (none)) else (some x5)
def F9.f (k : Nat) (l0_0 : List (S67)) (a0_1 : Int) (a1_0 : ByteArray) (a1_1 : Int) : Option (Int):=F9.l0 k 0 l0_0 (l0_0.length : Int) 0 a1_0 a1_1
theorem F9.mono_l : ∀ k,(∀ y0 y1 y2 y3 y4 y5,LeO (F9.l0 k y0 y1 y2 y3 y4 y5) (F9.l0 (k+1) y0 y1 y2 y3 y4 y5))
 | 0=>fun _ _ _ _ _ _ r h=>by simp [F9.l0] at h
 | k+1=>by
  have ih0:=F9.mono_l k;intro y0 y1 y2 y3 y4 y5;unfold F9.l0
  repeat' first|(with_reducible first|exact ih0 _ _ _ _ _ _|exact Fg.mono _ _ _ _ _|exact zQ _|exact zN _|refine zP ?_ ?_|refine zO ?_ (fun _=>?_))|refine zP ?_ ?_|refine zO ?_ (fun _=>?_)
theorem F9.mono : ∀ a0 a1 a2 a3 k,LeO (F9.f k a0 a1 a2 a3) (F9.f (k+1) a0 a1 a2 a3):=by
 intro a0 a1 a2 a3 k;have ih0:=F9.mono_l k;unfold F9.f
 repeat' first|(with_reducible first|exact ih0 _ _ _ _ _ _|exact Fg.mono _ _ _ _ _|exact zQ _|exact zN _|refine zP ?_ ?_|refine zO ?_ (fun _=>?_))|refine zP ?_ ?_|refine zO ?_ (fun _=>?_)
def F9.T5 : Bool×List (List Nat×List Nat):=(true,[([],[]),([0],[0]),([1],[1]),([2],[2]),([3],[3]),([4],[4]),([5,4],[4,5]),([6,4],[4,6]),([7,4],[4,7]),([4],[4]),([8,9,4,4],[4,8,9]),([10,4],[4,10]),([4,11],[4,11])])
def F9.B5 : List Nat:=[0,1,3,7,15,31,63,127,255,31,1023,2047,4095]
theorem F9.tab5 : rtab .any (opsOf Try.f36 5)=F9.T5:=by kernel_rfl
theorem F9.bits5 : waitsOk F9.T5.2 F9.B5=true:=by kernel_rfl
set_option maxHeartbeats 8000000 in
set_option maxRecDepth 100000 in
theorem F9.calls (k : Nat) (A0_0 : Option Addr) (c0_0 : Nat) (l0_0 : List (S67)) (a0_1 : Int) (a1_0 : ByteArray) (a1_1 : Int) (r : Int) (w : World) (hr0_0 : Kd.C k67 w A0_0 l0_0.length l0_0) (hc0_0 : l0_0.length≤c0_0) (h : F9.f k l0_0 a0_1 a1_0 a1_1=some r) :
  Calls Try.prog 36 #[.agg #[.slice A0_0 l0_0.length c0_0,.int .i64 a0_1],.agg #[.string a1_0,.int .i64 a1_1]] w fun e w' => e = .returned (.int .i64 r)∧Below w.heap.size w w':=by
 have hu35:=Try.underlying35;have hu51:=Try.underlying51;have hu67:=Try.underlying67;have HR0_0:=zh hr0_0;have HC0_0:=zh hc0_0;clear hr0_0 hc0_0;have HB:=zh (Below.refl w.heap.size w);have H : (F9.l0 k 0 l0_0 (l0_0.length : Int) 0 a1_0 a1_1)=some r:=h;clear h;have H':=zh H;clear H
 go_enter Try.func36,Try.ntmps36
 go_wp2_with (first|((with_reducible refine zK (N:=2) rfl ?_);refine zI ?hg (N:=2) ?hd (cs:=#[.slice A0_0 l0_0.length c0_0,.int .i64 a0_1]) (t:=35) ?hr ?_;(case hd=>rfl);(case hg=>rfl);(case hr=>go_simp <;> rfl);intro gb256 hg w3 hbox hb;have BK256:=zh (hbox);have hH_:=cH jE hb hg;have GW256:=zh hH_.1;have GE256:=GW256;replace HB:=zh hH_.2;clear hb hbox hg hH_)|((with_reducible refine zK (N:=3) rfl ?_);refine zI ?hg (N:=3) ?hd (cs:=#[.string a1_0,.int .i64 a1_1]) (t:=51) ?hr ?_;(case hd=>rfl);(case hg=>rfl);(case hr=>go_simp <;> rfl);intro gb257 hg w4 hbox hb;have BK257:=zh (hbox);have hH_:=cH (by repeat (with_reducible first|exact HB.out|apply za|apply zb|apply zc|refine zd ?_ GE256.out)) hb hg;have GW257:=zh hH_.1;have GE257:=GW257;replace HB:=zh hH_.2;have NB256_257:=zh ((by rw [hg];exact yc (yi (g:=gb256) (o:=.cells #[.slice A0_0 l0_0.length c0_0,.int .i64 a0_1] 35 (0,0)) jR) : gb256≠gb257));have NB257_256:=zh NB256_257.out.symm;replace BK256:=zh (cD BK256.out jR hb);clear hb hbox hg hH_;have hnb5:=NB256_257.out;have hnc5:=NB257_256.out;obtain ⟨hcz6_0,hcz6_1,hfz6_0,hfz6_1⟩:=cB2 BK256.out))
 go_loopg [5,11] k (fun kq v5 v11 w' => ∃ (x5_1 : Int) (x11_1 : Int),v5 = .int .i64 x5_1∧v11 = .int .i64 x11_1∧Aside0 (F9.l0 kq x5_1 l0_0 (l0_0.length : Int) x11_1 a1_0 a1_1=some r)∧Aside0 (kq≤k)∧Aside0 (w'.heap[gb256]? = some (.cells #[(.slice A0_0 l0_0.length c0_0),.int .i64 a0_1] 35 (0,0)))∧Aside0 (w'.heap[gb257]? = some (.cells #[.string a1_0,.int .i64 a1_1] 51 (0,0)))∧Aside0 (Below w.heap.size w w'))
 case atStart=>exact ⟨(0),(0),jD,jD,H',⟨ye _⟩,⟨jR⟩,⟨jf⟩,⟨jAH⟩⟩
 case round =>
  clear H'
  try clear p2
  try clear c3 c5
  try clear hcz6_0 hcz6_1 hfz6_0 hfz6_1
  obtain ⟨x5_1,x11_1,rfl,rfl,HA,HK1,BK256,BK257,HB⟩:=hrel
  cases gk with
  | zero=>exact absurd HA.out (by simp [F9.l0])
  | succ k1 =>
   have H:=HA.out;clear HA;simp only [F9.l0] at H
   by_cases c7 : x11_1<(l0_0.length : Int)
   ·
    rw [if_pos c7] at H
    have c7b0 : decide (x11_1<(l0_0.length : Int))=true:=decide_eq_true c7;clear c7
    by_cases c8 : 0≤x11_1
    ·
     rw [if_pos c8] at H
     have c8b0 : decide (0≤x11_1)=true:=decide_eq_true c8;clear c8
     by_cases c9 : x11_1<(l0_0.length : Int)
     ·
      rw [if_pos c9] at H
      have c9b0 : decide (x11_1<(l0_0.length : Int))=true:=decide_eq_true c9;clear c9
      by_cases c10 : (((rd_T67 l0_0 x11_1).f1).length : Int) > 0
      ·
       rw [if_pos c10] at H
       have c10b0 : decide (0<(((rd_T67 l0_0 x11_1).f1).length : Int))=true:=decide_eq_true c10;have c10b1 : decide (0<((rd_T67 l0_0 x11_1).f1).length)=true:=decide_eq_true jH;clear c10
       by_cases c11 : 0<(((rd_T67 l0_0 x11_1).f1).length : Int)
       ·
        rw [if_pos c11] at H
        have c11b0 : decide (0<(((rd_T67 l0_0 x11_1).f1).length : Int))=true:=decide_eq_true c11;have c11b1 : decide (0<((rd_T67 l0_0 x11_1).f1).length)=true:=decide_eq_true jH;clear c11;replace H:=zT.mp H;obtain ⟨t261,A120,H⟩:=H;have A12:=zh A120;clear A120
        by_cases c13 : t261≤0
        ·
         rw [if_pos c13] at H
         have c13b0 : decide (t261≤0)=true:=decide_eq_true c13;clear c13;have H':=zh H;clear H;have p258 : 0≤(x11_1 : Int):=zy jB;have q258 : x11_1<(l0_0.length : Int):=zy jB;obtain ⟨ad258,A258_1,c258_1,e258,hx258_0,hx258_1,hl258_1,hi258_1⟩:=at_T67 HR0_0.out x11_1 p258 q258
         cases e258
         replace hx258_0:=(HB.out.cell (zl w _ hx258_0)).trans hx258_0;replace hx258_1:=(HB.out.cell (zl w _ hx258_1)).trans hx258_1;have HR258_1:=zh hi258_1;have HC258_1:=zh hl258_1;clear hi258_1 hl258_1;replace p258:=eq_true p258;replace q258:=eq_true q258
         try go_wp2_with (first|((with_reducible refine zK (N:=7) rfl ?_);refine zI ?hg (N:=7) ?hd (cs:=#[.int .i64 0,.slice none 0 0]) (t:=67) ?hr ?_;(case hd=>rfl);(case hg=>rfl);(case hr=>go_simp <;> rfl);intro gb259 hg w14 hbox hb;have BK259:=zh (hbox);have hH_:=cH jAH hb hg;have GW259:=zh hH_.1;have GE259:=GW259;replace HB:=zh hH_.2;have NB256_259:=zh ((jA2 : gb256≠gb259));have NB259_256:=zh NB256_259.out.symm;replace BK256:=zh (cD BK256.out jR hb);have NB257_259:=zh ((jA3 : gb257≠gb259));have NB259_257:=zh NB257_259.out.symm;replace BK257:=zh (cD BK257.out jf hb);clear hb hbox hg hH_;have hnb15:=NB259_256.out;have hnc15:=NB256_259.out;have hnb16:=NB259_257.out;have hnc16:=NB257_259.out;obtain ⟨hcz17_0,hcz17_1,hfz17_0,hfz17_1⟩:=cB2 BK259.out))
         have n0_ : Aside0 (((w14.setCell ⟨gb259,0,none⟩ (.int .i64 ((rd_T67 l0_0 x11_1).f0))).setCell ⟨gb259,1,none⟩ (.slice A258_1 ((rd_T67 l0_0 x11_1).f1).length c258_1)).heap[gb256]? = some (.cells #[.slice (some ad258) l0_0.length c0_0,.int .i64 a0_1] 35 (0,0))):=⟨jA4⟩;have n1_ : Aside0 (((w14.setCell ⟨gb259,0,none⟩ (.int .i64 ((rd_T67 l0_0 x11_1).f0))).setCell ⟨gb259,1,none⟩ (.slice A258_1 ((rd_T67 l0_0 x11_1).f1).length c258_1)).heap[gb257]? = some (.cells #[.string a1_0,.int .i64 a1_1] 51 (0,0))):=⟨jA5⟩;have n2_ : Aside0 (((w14.setCell ⟨gb259,0,none⟩ (.int .i64 ((rd_T67 l0_0 x11_1).f0))).setCell ⟨gb259,1,none⟩ (.slice A258_1 ((rd_T67 l0_0 x11_1).f1).length c258_1)).heap[gb259]? = some (.cells #[.int .i64 ((rd_T67 l0_0 x11_1).f0),.slice A258_1 ((rd_T67 l0_0 x11_1).f1).length c258_1] 67 (0,0))):=⟨jA6⟩;have n3_ : Aside0 (Below w.heap.size w ((w14.setCell ⟨gb259,0,none⟩ (.int .i64 ((rd_T67 l0_0 x11_1).f0))).setCell ⟨gb259,1,none⟩ (.slice A258_1 ((rd_T67 l0_0 x11_1).f1).length c258_1))):=⟨jl⟩;(try clear BK256);(try clear BK257);(try clear BK259);(try clear HB);generalize ((w14.setCell ⟨gb259,0,none⟩ (.int .i64 ((rd_T67 l0_0 x11_1).f0))).setCell ⟨gb259,1,none⟩ (.slice A258_1 ((rd_T67 l0_0 x11_1).f1).length c258_1))=w18 at n0_ n1_ n2_ n3_ ⊢;have BK256:=n0_;have BK257:=n1_;have BK259:=n2_;have HB:=n3_;clear n0_ n1_ n2_ n3_;replace BK256:=zh (zf BK256.out);replace BK257:=zh (zf BK257.out);replace BK259:=zh (zf BK259.out);replace HB:=zh (zc HB.out);have p260 : 0≤(0 : Int):=jH;have q260 : 0<(((rd_T67 l0_0 x11_1).f1).length : Int):=zy jB;obtain ⟨ad260,e260,hx260_0,hx260_1⟩:=at_T51 HR258_1.out 0 p260 q260;have hw260_1:=hx260_1;(try rw [show ((0 : Int)).toNat=0 from rfl] at hw260_1);(try rw [show 0*2=0 from rfl] at hw260_1);(try rw [Addr.add_zero'] at hw260_1);have hw260_0:=hx260_0;(try rw [show ((0 : Int)).toNat=0 from rfl] at hw260_0);(try rw [show 0*2=0 from rfl] at hw260_0);(try rw [Addr.add_zero'] at hw260_0)
         cases e260
         have qi260 : (0<((rd_T67 l0_0 x11_1).f1).length)=True:=eq_true jH;(try rw [show ((0 : Int)).toNat=0 from rfl] at hx260_0);(try rw [show 0*2=0 from rfl] at hx260_0);(try rw [Addr.add_zero'] at hx260_0);(try rw [show ((0 : Int)).toNat=0 from rfl] at hx260_1);(try rw [show 0*2=0 from rfl] at hx260_1);(try rw [Addr.add_zero'] at hx260_1);replace hx260_0:=(HB.out.cell (zl w _ hx260_0)).trans hx260_0;replace hx260_1:=(HB.out.cell (zl w _ hx260_1)).trans hx260_1;replace p260:=eq_true p260;replace q260:=eq_true q260;refine start_ (n:=13) (S:=fun w' => w'.cell? ⟨gb259,0,none⟩=some (.int .i64 ((rd_T67 l0_0 x11_1).f0))∧w'.cell? ⟨gb259,1,none⟩=some (.slice (some ad260) ((rd_T67 l0_0 x11_1).f1).length c258_1)∧w'.cell? ⟨gb257,0,none⟩=some (.string a1_0)∧w'.cell? ⟨gb257,1,none⟩=some (.int .i64 a1_1)∧w'.cell? ad260=some (.string ((rd_T51 ((rd_T67 l0_0 x11_1).f1) 0).f0))∧w'.cell? ⟨ad260.block,ad260.off+1,none⟩=some (.int .i64 ((rd_T51 ((rd_T67 l0_0 x11_1).f1) 0).f1))) (ds:=[]) (bm_ 0 13) jA rfl rfl ⟨(zz BK259.out 0).trans rfl,(zz BK259.out 1).trans rfl,(zz BK257.out 0).trans rfl,(zz BK257.out 1).trans rfl,((HB.out.cell (zl w _ hw260_0)).trans hw260_0),((HB.out.cell (zl w _ hw260_1)).trans hw260_1)⟩ (fun hHeld=>?_);refine with_tabW F9.tab5 F9.bits5 (fun HT_ HW_=>?_);generalize w18.drew=w19 at BK256 BK257 BK259 HB hx260_0 hx260_1 hHeld ⊢;refine pure_ (i:=0) (N:=some 16) (v:=?_) (a':=?_) (bm_ 1 13) rfl rfl (any_of HT_.out jA) (fun _ _ _ h=>h) (Or.inl ⟨by rfl,?_⟩) ?_ ?_;rotate_left;exact jb;rotate_left;exact jc
         refine take_ (i:=1) (N:=some 17) (v:=?_) (a':=?_) (bm_ 2 13) rfl rfl (yo HT_.out HW_.out jA) (fun _ _ _ h=>h) (Or.inl ⟨by rfl,?_⟩) hHeld ?_ ?_;rotate_left
         ·
          rintro w' ⟨s0,s1,s2,s3,s4,s5⟩
          go_simp
          with_reducible rfl
         rotate_left
         exact jc
         refine pure_ (i:=2) (N:=some 18) (v:=?_) (a':=?_) (bm_ 3 13) rfl rfl (any_of HT_.out jA) (fun _ _ _ h=>h) (Or.inl ⟨by rfl,?_⟩) ?_ ?_;rotate_left;exact jb;rotate_left;exact jc
         refine pure_ (i:=3) (N:=some 19) (v:=?_) (a':=?_) (bm_ 4 13) rfl rfl (any_of HT_.out jA) (fun _ _ _ h=>h) (Or.inl ⟨by rfl,?_⟩) ?_ ?_;rotate_left;exact jb;rotate_left;exact jc
         refine pure_ (i:=4) (N:=some 20) (v:=?_) (a':=?_) (bm_ 5 13) rfl rfl (any_of HT_.out jA) (fun _ _ _ h=>h) (Or.inl ⟨by rfl,?_⟩) ?_ ?_;rotate_left;exact jb;rotate_left;exact jc
         refine pure_ (i:=5) (N:=some 21) (v:=?_) (a':=?_) (bm_ 6 13) rfl rfl (any_of HT_.out jA) (fun _ _ _ h=>h) (Or.inl ⟨by rfl,?_⟩) ?_ ?_;rotate_left;exact jb;rotate_left;exact jc
         refine take_ (i:=6) (N:=some 22) (v:=?_) (a':=?_) (bm_ 7 13) rfl rfl (yo HT_.out HW_.out jA) (fun _ _ _ h=>h) (Or.inl ⟨by rfl,?_⟩) hHeld ?_ ?_;rotate_left
         ·
          rintro w' ⟨s0,s1,s2,s3,s4,s5⟩
          go_simp
          with_reducible rfl
         rotate_left
         exact jc
         refine pure_ (i:=7) (N:=some 23) (v:=?_) (a':=?_) (bm_ 8 13) rfl rfl (any_of HT_.out jA) (fun _ _ _ h=>h) (Or.inl ⟨by rfl,?_⟩) ?_ ?_;rotate_left;exact jb;rotate_left;exact jc
         refine take_ (i:=8) (N:=some 24) (v:=?_) (a':=?_) (bm_ 9 13) rfl rfl (yo HT_.out HW_.out jA) (fun _ _ _ h=>h) (Or.inl ⟨by rfl,?_⟩) hHeld ?_ ?_;rotate_left
         ·
          rintro w' ⟨s0,s1,s2,s3,s4,s5⟩
          go_simp
          with_reducible rfl
         rotate_left
         exact jc
         refine take_ (i:=9) (N:=some 25) (v:=?_) (a':=?_) (bm_ 10 13) rfl rfl (yo HT_.out HW_.out jA) (fun _ _ _ h=>h) (Or.inl ⟨by rfl,?_⟩) hHeld ?_ ?_;rotate_left
         ·
          rintro w' ⟨s0,s1,s2,s3,s4,s5⟩
          go_simp
          with_reducible rfl
         rotate_left
         exact jc
         refine one_ (i:=10) (N:=some 26) (bm_ 11 13) rfl rfl (one_of HT_.out jA) jC (fun K hK=>?_);refine goes_ Try.func58 jA rfl #[.agg #[.string ((rd_T51 ((rd_T67 l0_0 x11_1).f1) 0).f0),.int .i64 ((rd_T51 ((rd_T67 l0_0 x11_1).f1) 0).f1)],.agg #[.string a1_0,.int .i64 a1_1]] (by rfl) rfl rfl jF ?_
         with_reducible refine (Fg.calls k1  ((rd_T51 ((rd_T67 l0_0 x11_1).f1) 0).f0) ((rd_T51 ((rd_T67 l0_0 x11_1).f1) 0).f1) a1_0 a1_1 t261 _ A12.out).mono ?_
         rintro e w20 ⟨rfl,hb⟩;refine ⟨_,rfl,?_⟩;replace BK256:=zh (cD BK256.out jR hb);replace BK257:=zh (cD BK257.out jf hb);replace BK259:=zh (cD BK259.out jBc hb);replace HB:=zh (zC jl hb);(try clear hb);(try clear hb2);(try clear hk);(try clear hi);refine hK.out _ _ ⟨(zz BK259.out 0).trans rfl,(zz BK259.out 1).trans rfl,(zz BK257.out 0).trans rfl,(zz BK257.out 1).trans rfl,((HB.out.cell (zl w _ hw260_0)).trans hw260_0),((HB.out.cell (zl w _ hw260_1)).trans hw260_1)⟩ (fun hHeld=>?_);clear hK K;refine norm_ (a':=?_) ?_ ?_;rotate_left
         ·
          show Act.put _ (some 26) _=_
          simp only [Act.put,zi,zj,zk,zG,zH]
          rfl
         refine pure_ (i:=11) (N:=some 27) (v:=?_) (a':=?_) (bm_ 12 13) rfl rfl (any_of HT_.out jA) (fun _ _ _ h=>h) (Or.inl ⟨by rfl,?_⟩) ?_ ?_;rotate_left;exact jb;rotate_left;exact jc
         refine pure_ (i:=12) (N:=some 28) (v:=?_) (a':=?_) (bm_ 13 13) rfl rfl (any_of HT_.out jA) (fun _ _ _ h=>h) (Or.inl ⟨by rfl,?_⟩) ?_ ?_;rotate_left;exact jb;rotate_left;exact jc
         refine done_ (done_of HT_.out jA) ?_
         try go_wp2
         go_roundg k1
         case measure=>have:=HK1.out;omega
         case rel=>exact ⟨(x11_1),(wrap64 (x11_1+1)),jD,jD,H',⟨jK⟩,⟨jR⟩,⟨jf⟩,⟨jl⟩⟩
        rw [if_neg c13] at H;have c13b0 : decide (t261≤0)=false:=decide_eq_false c13;clear c13;have H':=zh H;clear H;have p258 : 0≤(x11_1 : Int):=zy jB;have q258 : x11_1<(l0_0.length : Int):=zy jB;obtain ⟨ad258,A258_1,c258_1,e258,hx258_0,hx258_1,hl258_1,hi258_1⟩:=at_T67 HR0_0.out x11_1 p258 q258
        cases e258
        replace hx258_0:=(HB.out.cell (zl w _ hx258_0)).trans hx258_0;replace hx258_1:=(HB.out.cell (zl w _ hx258_1)).trans hx258_1;have HR258_1:=zh hi258_1;have HC258_1:=zh hl258_1;clear hi258_1 hl258_1;replace p258:=eq_true p258;replace q258:=eq_true q258
        try go_wp2_with (first|((with_reducible refine zK (N:=7) rfl ?_);refine zI ?hg (N:=7) ?hd (cs:=#[.int .i64 0,.slice none 0 0]) (t:=67) ?hr ?_;(case hd=>rfl);(case hg=>rfl);(case hr=>go_simp <;> rfl);intro gb259 hg w21 hbox hb;have BK259:=zh (hbox);have hH_:=cH jAH hb hg;have GW259:=zh hH_.1;have GE259:=GW259;replace HB:=zh hH_.2;have NB256_259:=zh ((jA2 : gb256≠gb259));have NB259_256:=zh NB256_259.out.symm;replace BK256:=zh (cD BK256.out jR hb);have NB257_259:=zh ((jA3 : gb257≠gb259));have NB259_257:=zh NB257_259.out.symm;replace BK257:=zh (cD BK257.out jf hb);clear hb hbox hg hH_;have hnb22:=NB259_256.out;have hnc22:=NB256_259.out;have hnb23:=NB259_257.out;have hnc23:=NB257_259.out;obtain ⟨hcz24_0,hcz24_1,hfz24_0,hfz24_1⟩:=cB2 BK259.out))
        have n0_ : Aside0 (((w21.setCell ⟨gb259,0,none⟩ (.int .i64 ((rd_T67 l0_0 x11_1).f0))).setCell ⟨gb259,1,none⟩ (.slice A258_1 ((rd_T67 l0_0 x11_1).f1).length c258_1)).heap[gb256]? = some (.cells #[.slice (some ad258) l0_0.length c0_0,.int .i64 a0_1] 35 (0,0))):=⟨jA4⟩;have n1_ : Aside0 (((w21.setCell ⟨gb259,0,none⟩ (.int .i64 ((rd_T67 l0_0 x11_1).f0))).setCell ⟨gb259,1,none⟩ (.slice A258_1 ((rd_T67 l0_0 x11_1).f1).length c258_1)).heap[gb257]? = some (.cells #[.string a1_0,.int .i64 a1_1] 51 (0,0))):=⟨jA5⟩;have n2_ : Aside0 (((w21.setCell ⟨gb259,0,none⟩ (.int .i64 ((rd_T67 l0_0 x11_1).f0))).setCell ⟨gb259,1,none⟩ (.slice A258_1 ((rd_T67 l0_0 x11_1).f1).length c258_1)).heap[gb259]? = some (.cells #[.int .i64 ((rd_T67 l0_0 x11_1).f0),.slice A258_1 ((rd_T67 l0_0 x11_1).f1).length c258_1] 67 (0,0))):=⟨jA6⟩;have n3_ : Aside0 (Below w.heap.size w ((w21.setCell ⟨gb259,0,none⟩ (.int .i64 ((rd_T67 l0_0 x11_1).f0))).setCell ⟨gb259,1,none⟩ (.slice A258_1 ((rd_T67 l0_0 x11_1).f1).length c258_1))):=⟨jl⟩;(try clear BK256);(try clear BK257);(try clear BK259);(try clear HB);generalize ((w21.setCell ⟨gb259,0,none⟩ (.int .i64 ((rd_T67 l0_0 x11_1).f0))).setCell ⟨gb259,1,none⟩ (.slice A258_1 ((rd_T67 l0_0 x11_1).f1).length c258_1))=w25 at n0_ n1_ n2_ n3_ ⊢;have BK256:=n0_;have BK257:=n1_;have BK259:=n2_;have HB:=n3_;clear n0_ n1_ n2_ n3_;replace BK256:=zh (zf BK256.out);replace BK257:=zh (zf BK257.out);replace BK259:=zh (zf BK259.out);replace HB:=zh (zc HB.out);have p260 : 0≤(0 : Int):=jH;have q260 : 0<(((rd_T67 l0_0 x11_1).f1).length : Int):=zy jB;obtain ⟨ad260,e260,hx260_0,hx260_1⟩:=at_T51 HR258_1.out 0 p260 q260;have hw260_1:=hx260_1;(try rw [show ((0 : Int)).toNat=0 from rfl] at hw260_1);(try rw [show 0*2=0 from rfl] at hw260_1);(try rw [Addr.add_zero'] at hw260_1);have hw260_0:=hx260_0;(try rw [show ((0 : Int)).toNat=0 from rfl] at hw260_0);(try rw [show 0*2=0 from rfl] at hw260_0);(try rw [Addr.add_zero'] at hw260_0)
        cases e260
        have qi260 : (0<((rd_T67 l0_0 x11_1).f1).length)=True:=eq_true jH;(try rw [show ((0 : Int)).toNat=0 from rfl] at hx260_0);(try rw [show 0*2=0 from rfl] at hx260_0);(try rw [Addr.add_zero'] at hx260_0);(try rw [show ((0 : Int)).toNat=0 from rfl] at hx260_1);(try rw [show 0*2=0 from rfl] at hx260_1);(try rw [Addr.add_zero'] at hx260_1);replace hx260_0:=(HB.out.cell (zl w _ hx260_0)).trans hx260_0;replace hx260_1:=(HB.out.cell (zl w _ hx260_1)).trans hx260_1;replace p260:=eq_true p260;replace q260:=eq_true q260;refine start_ (n:=13) (S:=fun w' => w'.cell? ⟨gb259,0,none⟩=some (.int .i64 ((rd_T67 l0_0 x11_1).f0))∧w'.cell? ⟨gb259,1,none⟩=some (.slice (some ad260) ((rd_T67 l0_0 x11_1).f1).length c258_1)∧w'.cell? ⟨gb257,0,none⟩=some (.string a1_0)∧w'.cell? ⟨gb257,1,none⟩=some (.int .i64 a1_1)∧w'.cell? ad260=some (.string ((rd_T51 ((rd_T67 l0_0 x11_1).f1) 0).f0))∧w'.cell? ⟨ad260.block,ad260.off+1,none⟩=some (.int .i64 ((rd_T51 ((rd_T67 l0_0 x11_1).f1) 0).f1))) (ds:=[]) (bm_ 0 13) jA rfl rfl ⟨(zz BK259.out 0).trans rfl,(zz BK259.out 1).trans rfl,(zz BK257.out 0).trans rfl,(zz BK257.out 1).trans rfl,((HB.out.cell (zl w _ hw260_0)).trans hw260_0),((HB.out.cell (zl w _ hw260_1)).trans hw260_1)⟩ (fun hHeld=>?_);refine with_tabW F9.tab5 F9.bits5 (fun HT_ HW_=>?_);generalize w25.drew=w26 at BK256 BK257 BK259 HB hx260_0 hx260_1 hHeld ⊢;refine pure_ (i:=0) (N:=some 16) (v:=?_) (a':=?_) (bm_ 1 13) rfl rfl (any_of HT_.out jA) (fun _ _ _ h=>h) (Or.inl ⟨by rfl,?_⟩) ?_ ?_;rotate_left;exact jb;rotate_left;exact jc
        refine take_ (i:=1) (N:=some 17) (v:=?_) (a':=?_) (bm_ 2 13) rfl rfl (yo HT_.out HW_.out jA) (fun _ _ _ h=>h) (Or.inl ⟨by rfl,?_⟩) hHeld ?_ ?_;rotate_left
        ·
         rintro w' ⟨s0,s1,s2,s3,s4,s5⟩
         go_simp
         with_reducible rfl
        rotate_left
        exact jc
        refine pure_ (i:=2) (N:=some 18) (v:=?_) (a':=?_) (bm_ 3 13) rfl rfl (any_of HT_.out jA) (fun _ _ _ h=>h) (Or.inl ⟨by rfl,?_⟩) ?_ ?_;rotate_left;exact jb;rotate_left;exact jc
        refine pure_ (i:=3) (N:=some 19) (v:=?_) (a':=?_) (bm_ 4 13) rfl rfl (any_of HT_.out jA) (fun _ _ _ h=>h) (Or.inl ⟨by rfl,?_⟩) ?_ ?_;rotate_left;exact jb;rotate_left;exact jc
        refine pure_ (i:=4) (N:=some 20) (v:=?_) (a':=?_) (bm_ 5 13) rfl rfl (any_of HT_.out jA) (fun _ _ _ h=>h) (Or.inl ⟨by rfl,?_⟩) ?_ ?_;rotate_left;exact jb;rotate_left;exact jc
        refine pure_ (i:=5) (N:=some 21) (v:=?_) (a':=?_) (bm_ 6 13) rfl rfl (any_of HT_.out jA) (fun _ _ _ h=>h) (Or.inl ⟨by rfl,?_⟩) ?_ ?_;rotate_left;exact jb;rotate_left;exact jc
        refine take_ (i:=6) (N:=some 22) (v:=?_) (a':=?_) (bm_ 7 13) rfl rfl (yo HT_.out HW_.out jA) (fun _ _ _ h=>h) (Or.inl ⟨by rfl,?_⟩) hHeld ?_ ?_;rotate_left
        ·
         rintro w' ⟨s0,s1,s2,s3,s4,s5⟩
         go_simp
         with_reducible rfl
        rotate_left
        exact jc
        refine pure_ (i:=7) (N:=some 23) (v:=?_) (a':=?_) (bm_ 8 13) rfl rfl (any_of HT_.out jA) (fun _ _ _ h=>h) (Or.inl ⟨by rfl,?_⟩) ?_ ?_;rotate_left;exact jb;rotate_left;exact jc
        refine take_ (i:=8) (N:=some 24) (v:=?_) (a':=?_) (bm_ 9 13) rfl rfl (yo HT_.out HW_.out jA) (fun _ _ _ h=>h) (Or.inl ⟨by rfl,?_⟩) hHeld ?_ ?_;rotate_left
        ·
         rintro w' ⟨s0,s1,s2,s3,s4,s5⟩
         go_simp
         with_reducible rfl
        rotate_left
        exact jc
        refine take_ (i:=9) (N:=some 25) (v:=?_) (a':=?_) (bm_ 10 13) rfl rfl (yo HT_.out HW_.out jA) (fun _ _ _ h=>h) (Or.inl ⟨by rfl,?_⟩) hHeld ?_ ?_;rotate_left
        ·
         rintro w' ⟨s0,s1,s2,s3,s4,s5⟩
         go_simp
         with_reducible rfl
        rotate_left
        exact jc
        refine one_ (i:=10) (N:=some 26) (bm_ 11 13) rfl rfl (one_of HT_.out jA) jC (fun K hK=>?_);refine goes_ Try.func58 jA rfl #[.agg #[.string ((rd_T51 ((rd_T67 l0_0 x11_1).f1) 0).f0),.int .i64 ((rd_T51 ((rd_T67 l0_0 x11_1).f1) 0).f1)],.agg #[.string a1_0,.int .i64 a1_1]] (by rfl) rfl rfl jF ?_
        with_reducible refine (Fg.calls k1  ((rd_T51 ((rd_T67 l0_0 x11_1).f1) 0).f0) ((rd_T51 ((rd_T67 l0_0 x11_1).f1) 0).f1) a1_0 a1_1 t261 _ A12.out).mono ?_
        rintro e w27 ⟨rfl,hb⟩;refine ⟨_,rfl,?_⟩;replace BK256:=zh (cD BK256.out jR hb);replace BK257:=zh (cD BK257.out jf hb);replace BK259:=zh (cD BK259.out jBc hb);replace HB:=zh (zC jl hb);(try clear hb);(try clear hb2);(try clear hk);(try clear hi);refine hK.out _ _ ⟨(zz BK259.out 0).trans rfl,(zz BK259.out 1).trans rfl,(zz BK257.out 0).trans rfl,(zz BK257.out 1).trans rfl,((HB.out.cell (zl w _ hw260_0)).trans hw260_0),((HB.out.cell (zl w _ hw260_1)).trans hw260_1)⟩ (fun hHeld=>?_);clear hK K;refine norm_ (a':=?_) ?_ ?_;rotate_left
        ·
         show Act.put _ (some 26) _=_
         simp only [Act.put,zi,zj,zk,zG,zH]
         rfl
        refine pure_ (i:=11) (N:=some 27) (v:=?_) (a':=?_) (bm_ 12 13) rfl rfl (any_of HT_.out jA) (fun _ _ _ h=>h) (Or.inl ⟨by rfl,?_⟩) ?_ ?_;rotate_left;exact jb;rotate_left;exact jc
        refine pure_ (i:=12) (N:=some 28) (v:=?_) (a':=?_) (bm_ 13 13) rfl rfl (any_of HT_.out jA) (fun _ _ _ h=>h) (Or.inl ⟨by rfl,?_⟩) ?_ ?_;rotate_left;exact jb;rotate_left;exact jc
        refine done_ (done_of HT_.out jA) ?_
        try go_wp2
        go_roundg k1
        case measure=>have:=HK1.out;omega
        case rel=>exact ⟨(x5_1),(wrap64 (x11_1+1)),jD,jD,H',⟨jK⟩,⟨jR⟩,⟨jf⟩,⟨jl⟩⟩
       rw [if_neg c11] at H;exact absurd H (by simp)
      rw [if_neg c10] at H;have c10b0 : decide (0<(((rd_T67 l0_0 x11_1).f1).length : Int))=false:=decide_eq_false c10;have c10b1 : decide (0<((rd_T67 l0_0 x11_1).f1).length)=false:=decide_eq_false jH;clear c10;have H':=zh H;clear H;have p258 : 0≤(x11_1 : Int):=zy jB;have q258 : x11_1<(l0_0.length : Int):=zy jB;obtain ⟨ad258,A258_1,c258_1,e258,hx258_0,hx258_1,hl258_1,hi258_1⟩:=at_T67 HR0_0.out x11_1 p258 q258
      cases e258
      replace hx258_0:=(HB.out.cell (zl w _ hx258_0)).trans hx258_0;replace hx258_1:=(HB.out.cell (zl w _ hx258_1)).trans hx258_1;have HR258_1:=zh hi258_1;have HC258_1:=zh hl258_1;clear hi258_1 hl258_1;replace p258:=eq_true p258;replace q258:=eq_true q258
      try go_wp2_with (first|((with_reducible refine zK (N:=7) rfl ?_);refine zI ?hg (N:=7) ?hd (cs:=#[.int .i64 0,.slice none 0 0]) (t:=67) ?hr ?_;(case hd=>rfl);(case hg=>rfl);(case hr=>go_simp <;> rfl);intro gb259 hg w28 hbox hb;have BK259:=zh (hbox);have hH_:=cH jAH hb hg;have GW259:=zh hH_.1;have GE259:=GW259;replace HB:=zh hH_.2;have NB256_259:=zh ((jA2 : gb256≠gb259));have NB259_256:=zh NB256_259.out.symm;replace BK256:=zh (cD BK256.out jR hb);have NB257_259:=zh ((jA3 : gb257≠gb259));have NB259_257:=zh NB257_259.out.symm;replace BK257:=zh (cD BK257.out jf hb);clear hb hbox hg hH_;have hnb29:=NB259_256.out;have hnc29:=NB256_259.out;have hnb30:=NB259_257.out;have hnc30:=NB257_259.out;obtain ⟨hcz31_0,hcz31_1,hfz31_0,hfz31_1⟩:=cB2 BK259.out))
      have n0_ : Aside0 (((w28.setCell ⟨gb259,0,none⟩ (.int .i64 ((rd_T67 l0_0 x11_1).f0))).setCell ⟨gb259,1,none⟩ (.slice A258_1 ((rd_T67 l0_0 x11_1).f1).length c258_1)).heap[gb256]? = some (.cells #[.slice (some ad258) l0_0.length c0_0,.int .i64 a0_1] 35 (0,0))):=⟨jA4⟩;have n1_ : Aside0 (((w28.setCell ⟨gb259,0,none⟩ (.int .i64 ((rd_T67 l0_0 x11_1).f0))).setCell ⟨gb259,1,none⟩ (.slice A258_1 ((rd_T67 l0_0 x11_1).f1).length c258_1)).heap[gb257]? = some (.cells #[.string a1_0,.int .i64 a1_1] 51 (0,0))):=⟨jA5⟩;have n2_ : Aside0 (((w28.setCell ⟨gb259,0,none⟩ (.int .i64 ((rd_T67 l0_0 x11_1).f0))).setCell ⟨gb259,1,none⟩ (.slice A258_1 ((rd_T67 l0_0 x11_1).f1).length c258_1)).heap[gb259]? = some (.cells #[.int .i64 ((rd_T67 l0_0 x11_1).f0),.slice A258_1 ((rd_T67 l0_0 x11_1).f1).length c258_1] 67 (0,0))):=⟨jA6⟩;have n3_ : Aside0 (Below w.heap.size w ((w28.setCell ⟨gb259,0,none⟩ (.int .i64 ((rd_T67 l0_0 x11_1).f0))).setCell ⟨gb259,1,none⟩ (.slice A258_1 ((rd_T67 l0_0 x11_1).f1).length c258_1))):=⟨jl⟩;(try clear BK256);(try clear BK257);(try clear BK259);(try clear HB);generalize ((w28.setCell ⟨gb259,0,none⟩ (.int .i64 ((rd_T67 l0_0 x11_1).f0))).setCell ⟨gb259,1,none⟩ (.slice A258_1 ((rd_T67 l0_0 x11_1).f1).length c258_1))=w32 at n0_ n1_ n2_ n3_ ⊢;have BK256:=n0_;have BK257:=n1_;have BK259:=n2_;have HB:=n3_;clear n0_ n1_ n2_ n3_;replace BK256:=zh (zf BK256.out);replace BK257:=zh (zf BK257.out);replace BK259:=zh (zf BK259.out);replace HB:=zh (zc HB.out);refine start_ (n:=13) (S:=fun w' => w'.cell? ⟨gb259,0,none⟩=some (.int .i64 ((rd_T67 l0_0 x11_1).f0))∧w'.cell? ⟨gb259,1,none⟩=some (.slice A258_1 ((rd_T67 l0_0 x11_1).f1).length c258_1)) (ds:=[]) (bm_ 0 13) jA rfl rfl ⟨(zz BK259.out 0).trans rfl,(zz BK259.out 1).trans rfl⟩ (fun hHeld=>?_);refine with_tabW F9.tab5 F9.bits5 (fun HT_ HW_=>?_);generalize w32.drew=w33 at BK256 BK257 BK259 HB hHeld ⊢;refine pure_ (i:=0) (N:=some 16) (v:=?_) (a':=?_) (bm_ 1 13) rfl rfl (any_of HT_.out jA) (fun _ _ _ h=>h) (Or.inl ⟨by rfl,?_⟩) ?_ ?_;rotate_left;exact jb;rotate_left;exact jc
      refine take_ (i:=1) (N:=some 17) (v:=?_) (a':=?_) (bm_ 2 13) rfl rfl (yo HT_.out HW_.out jA) (fun _ _ _ h=>h) (Or.inl ⟨by rfl,?_⟩) hHeld ?_ ?_;rotate_left
      ·
       rintro w' ⟨s0,s1⟩
       go_simp
       with_reducible rfl
      rotate_left
      exact jc
      refine pure_ (i:=2) (N:=some 18) (v:=?_) (a':=?_) (bm_ 3 13) rfl rfl (any_of HT_.out jA) (fun _ _ _ h=>h) (Or.inl ⟨by rfl,?_⟩) ?_ ?_;rotate_left;exact jb;rotate_left;exact jc
      refine pure_ (i:=3) (N:=some 19) (v:=?_) (a':=?_) (bm_ 4 13) rfl rfl (any_of HT_.out jA) (fun _ _ _ h=>h) (Or.inl ⟨by rfl,?_⟩) ?_ ?_;rotate_left;exact jb;rotate_left;exact jc
      refine pure_ (i:=4) (N:=some 20) (v:=?_) (a':=?_) (bm_ 5 13) rfl rfl (any_of HT_.out jA) (fun _ _ _ h=>h) (Or.inl ⟨by rfl,?_⟩) ?_ ?_;rotate_left;exact jb;rotate_left;exact jc
      refine pure_ (i:=5) (N:=some 21) (v:=undef) (a':=?_) (bm_ 6 13) rfl rfl (any_of HT_.out jA) (fun _ _ _ h=>h) (Or.inr ⟨by rfl,rfl⟩) ?_ ?_;rotate_left
      exact jc
      refine pure_ (i:=6) (N:=some 22) (v:=undef) (a':=?_) (bm_ 7 13) rfl rfl (any_of HT_.out jA) (fun _ _ _ h=>h) (Or.inr ⟨by rfl,rfl⟩) ?_ ?_;rotate_left
      exact jc
      refine pure_ (i:=7) (N:=some 23) (v:=undef) (a':=?_) (bm_ 8 13) rfl rfl (any_of HT_.out jA) (fun _ _ _ h=>h) (Or.inr ⟨by rfl,rfl⟩) ?_ ?_;rotate_left
      exact jc
      refine pure_ (i:=8) (N:=some 24) (v:=undef) (a':=?_) (bm_ 9 13) rfl rfl (any_of HT_.out jA) (fun _ _ _ h=>h) (Or.inr ⟨by rfl,rfl⟩) ?_ ?_;rotate_left
      exact jc
      refine pure_ (i:=9) (N:=some 25) (v:=undef) (a':=?_) (bm_ 10 13) rfl rfl (any_of HT_.out jA) (fun _ _ _ h=>h) (Or.inr ⟨by rfl,rfl⟩) ?_ ?_;rotate_left
      exact jc
      refine pure_ (i:=10) (N:=some 26) (v:=undef) (a':=?_) (bm_ 11 13) rfl rfl (any_of HT_.out jA) (fun _ _ _ h=>h) (Or.inr ⟨by rfl,rfl⟩) ?_ ?_;rotate_left
      exact jc
      refine pure_ (i:=11) (N:=some 27) (v:=undef) (a':=?_) (bm_ 12 13) rfl rfl (any_of HT_.out jA) (fun _ _ _ h=>h) (Or.inr ⟨by rfl,rfl⟩) ?_ ?_;rotate_left
      exact jc
      refine pure_ (i:=12) (N:=some 28) (v:=?_) (a':=?_) (bm_ 13 13) rfl rfl (any_of HT_.out jA) (fun _ _ _ h=>h) (Or.inl ⟨by rfl,?_⟩) ?_ ?_;rotate_left;exact jb;rotate_left;exact jc
      refine done_ (done_of HT_.out jA) ?_
      try go_wp2
      go_roundg k1
      case measure=>have:=HK1.out;omega
      case rel=>exact ⟨(x5_1),(wrap64 (x11_1+1)),jD,jD,H',⟨jK⟩,⟨jR⟩,⟨jf⟩,⟨jl⟩⟩
     rw [if_neg c9] at H;exact absurd H (by simp)
    rw [if_neg c8] at H;exact absurd H (by simp)
   rw [if_neg c7] at H;have c7b0 : decide (x11_1<(l0_0.length : Int))=false:=decide_eq_false c7;clear c7;obtain rfl:=zU H
   go_wp2
   go_ret
   exact ⟨jG,jAH⟩


def F4.l0 : Nat→List (S51)→Int→Int→Int→ByteArray→Int→Option (Int×Bool)
 | 0,_,_,_,_,_,_=>none
 | k+1,x0,x8,x9,x10,x477000,x477001=>if x9<x10 then (if 0≤(wrap64 ((IntKind.u64.wrap (wrap64 (x9+x10))) / 2)) then (if (wrap64 ((IntKind.u64.wrap (wrap64 (x9+x10))) / 2))<(x0.length : Int) then ((Fg.f k ((rd_T51 x0 (wrap64 ((IntKind.u64.wrap (wrap64 (x9+x10))) / 2))).f0) ((rd_T51 x0 (wrap64 ((IntKind.u64.wrap (wrap64 (x9+x10))) / 2))).f1) x477000 x477001).bind fun t478=>(if t478<0 then (F4.l0 k x0 x8 (wrap64 ((wrap64 ((IntKind.u64.wrap (wrap64 (x9+x10))) / 2))+1)) x10 x477000 x477001) else (F4.l0 k x0 x8 x9 (wrap64 ((IntKind.u64.wrap (wrap64 (x9+x10))) / 2)) x477000 x477001))) else (none)) else (none)) else (if x9<x8 then (if 0≤x9 then (if x9<(x0.length : Int) then ((Fg.f k ((rd_T51 x0 x9).f0) ((rd_T51 x0 x9).f1) x477000 x477001).bind fun t480=>(some (x9,(t480 == 0)))) else (none)) else (none)) else (some (x9,false)))
def F4.f (k : Nat) (l0 : List (S51)) (a1_0 : ByteArray) (a1_1 : Int)  : Option (Int×Bool):=F4.l0 k l0 (l0.length : Int) 0 (l0.length : Int) a1_0 a1_1
theorem F4.mono_l : ∀ k,(∀ y0 y1 y2 y3 y4 y5,LeO (F4.l0 k y0 y1 y2 y3 y4 y5) (F4.l0 (k+1) y0 y1 y2 y3 y4 y5))
 | 0=>fun _ _ _ _ _ _ r h=>by simp [F4.l0] at h
 | k+1=>by
  have ih0:=F4.mono_l k;intro y0 y1 y2 y3 y4 y5;unfold F4.l0
  repeat' first|(with_reducible first|exact ih0 _ _ _ _ _ _|exact Fg.mono _ _ _ _ _|exact zQ _|exact zN _|refine zP ?_ ?_|refine zO ?_ (fun _=>?_))|refine zP ?_ ?_|refine zO ?_ (fun _=>?_)
theorem F4.mono : ∀ a0 a1 a2 k,LeO (F4.f k a0 a1 a2) (F4.f (k+1) a0 a1 a2):=by
 intro a0 a1 a2 k;have ih0:=F4.mono_l k;unfold F4.f
 repeat' first|(with_reducible first|exact ih0 _ _ _ _ _ _|exact Fg.mono _ _ _ _ _|exact zQ _|exact zN _|refine zP ?_ ?_|refine zO ?_ (fun _=>?_))|refine zP ?_ ?_|refine zO ?_ (fun _=>?_)
def F4.T5 : Bool×List (List Nat×List Nat):=(true,[([],[]),([],[]),([],[]),([1,2],[1,2]),([3],[3]),([],[]),([0,4,5],[0,4,5]),([6],[6])])
def F4.B5 : List Nat:=[0,0,0,6,14,0,63,127]
theorem F4.tab5 : rtab .any (opsOf Try.f73 5)=F4.T5:=by kernel_rfl
theorem F4.bits5 : waitsOk F4.T5.2 F4.B5=true:=by kernel_rfl
def F4.T8 : Bool×List (List Nat×List Nat):=(true,[([],[]),([],[]),([],[]),([1,2],[1,2]),([3],[3]),([4],[4]),([4],[4]),([4],[4]),([6,7,4],[4,6,7]),([8,4],[4,8]),([4],[4]),([5,9,10,4,4],[4,5,9,10]),([11,4],[4,11]),([4,12],[4,12]),([0,11,0],[0]),([13,14,0,1,2,3,4,5,6,7,8,9,10,11,12,13,14],[13])])
def F4.B8 : List Nat:=[0,0,0,6,14,30,30,30,222,478,30,2046,4094,8190,4095,32767]
theorem F4.tab8 : rtab .any (opsOf Try.f73 8)=F4.T8:=by kernel_rfl
theorem F4.bits8 : waitsOk F4.T8.2 F4.B8=true:=by kernel_rfl
theorem goesv_ {P : Program} {ops : Array Oper} {Q : Exit → Act → World → Prop} {oi : Oper} {N : Option Tmp} {a : Act} {w : World} {K : Act → World → Prop} {f : FuncId} {fn : Func} {as_ : Array Operand} {ts : Array TypeId} (fo : Operand) (hf : P.funcs[f]? = some fn) (hname : (fn.name == "runtime.NumGoroutine") = false) (hb : fn.body.isSome = true) (args : Array Value)
  (hw : Region.wanted oi (yielded ops a.tmps)=true) (hN : oi.dst=N) (hop : oi.op = .call { callee:=.value fo,args:=as_,argTypes:=ts }) (hfo : a.eval fo = .func (.func f) #[] #[]) (hargs : as_.map a.eval=args)
  (h : Calls P f args w fun e w' => ∃ v,e = .returned v∧K (a.put N v) w') : if Region.wanted oi (yielded ops a.tmps)=true then Oper.wp P oi a w K Q else K (a.put N undef) w:=by
 refine call_ f args hw hN ?_ h;have he:=enters_ hf hname hb args w;unfold execOp;simp [hop,resolve,Deferred.ofValue,invoke,hfo,hargs,he]
set_option maxHeartbeats 8000000 in
set_option maxRecDepth 100000 in
theorem F4.calls (k : Nat) (A0 : Option Addr) (c0 : Nat) (l0 : List (S51)) (a1_0 : ByteArray) (a1_1 : Int)  (r1 : Int) (r2 : Bool) (w : World) (hr0 : Kd.C k51 w A0 l0.length l0) (hc0 : l0.length≤c0) (h : F4.f k l0 a1_0 a1_1=some (r1,r2)) :
  Calls Try.prog 73 #[.slice A0 l0.length c0,.agg #[.string a1_0,.int .i64 a1_1],.func (.func 58) #[] #[]] w fun e w' => e = .returned (.tuple #[.int .i64 r1,.bool r2])∧Below w.heap.size w w':=by
 have hu51:=Try.underlying51;have HR0:=zh hr0;have HC0:=zh hc0;clear hr0 hc0;have HB:=zh (Below.refl w.heap.size w);have H : (F4.l0 k l0 (l0.length : Int) 0 (l0.length : Int) a1_0 a1_1)=some (r1,r2):=h;clear h;have H':=zh H;clear H
 go_enter Try.func73,Try.ntmps73
 go_wp2_with (first|((with_reducible refine zK (N:=4) rfl ?_);refine zI ?hg (N:=4) ?hd (cs:=#[.string a1_0,.int .i64 a1_1]) (t:=51) ?hr ?_;(case hd=>rfl);(case hg=>rfl);(case hr=>go_simp <;> rfl);intro gb476 hg w4 hbox hb;have BK476:=zh (hbox);have hH_:=cH jE hb hg;have GW476:=zh hH_.1;have GE476:=GW476;replace HB:=zh hH_.2;clear hb hbox hg hH_))
 go_loopg [9,10] k (fun kq v9 v10 w' => ∃ (x9_1 : Int) (x10_1 : Int),v9 = .int .i64 x9_1∧v10 = .int .i64 x10_1∧Aside0 (F4.l0 kq l0 (l0.length : Int) x9_1 x10_1 a1_0 a1_1=some (r1,r2))∧Aside0 (kq≤k)∧Aside0 (w'.heap[gb476]? = some (.cells #[.string a1_0,.int .i64 a1_1] 51 (0,0)))∧Aside0 (Below w.heap.size w w'))
 case atStart=>exact ⟨(0),((l0.length : Int)),jD,jD,H',⟨ye _⟩,⟨jAA⟩,⟨jm⟩⟩
 case round =>
  clear H'
  try clear p2
  obtain ⟨x9_1,x10_1,rfl,rfl,HA,HK1,BK476,HB⟩:=hrel
  cases gk with
  | zero=>exact absurd HA.out (by simp [F4.l0])
  | succ k1 =>
   have H:=HA.out;clear HA;simp only [F4.l0] at H
   by_cases c5 : x9_1<x10_1
   ·
    rw [if_pos c5] at H
    have c5b0 : decide (x9_1<x10_1)=true:=decide_eq_true c5;clear c5;obtain ⟨ji6,hji6⟩ : ∃ j_ : Int,(wrap64 ((IntKind.u64.wrap (wrap64 (x9_1+x10_1))) / 2))=j_:=⟨_,rfl⟩;replace H : (if 0≤(ji6) then (if (ji6)<(l0.length : Int) then ((Fg.f k1 ((rd_T51 l0 (ji6)).f0) ((rd_T51 l0 (ji6)).f1) a1_0 a1_1).bind fun t478=>(if t478<0 then (F4.l0 k1 l0 (l0.length : Int) (wrap64 ((ji6)+1)) x10_1 a1_0 a1_1) else (F4.l0 k1 l0 (l0.length : Int) x9_1 ji6 a1_0 a1_1))) else (none)) else (none))=some (r1,r2):=by first|(rw [hji6] at H;exact H)|(simp only [hji6] at H ⊢;exact H)
    have hji6w : (IntKind.i64.wrap ((IntKind.u64.wrap (wrap64 (x9_1+x10_1))) / 2))=ji6:=(zG _).trans hji6
    by_cases c7 : 0≤(ji6)
    ·
     rw [if_pos c7] at H
     have c7b0 : decide (0≤(ji6))=true:=decide_eq_true c7;clear c7
     by_cases c8 : (ji6)<(l0.length : Int)
     ·
      rw [if_pos c8] at H
      have c8b0 : decide ((ji6)<(l0.length : Int))=true:=decide_eq_true c8;clear c8;replace H:=zT.mp H;obtain ⟨t478,A90,H⟩:=H;have A9:=zh A90;clear A90
      by_cases c10 : t478<0
      ·
       rw [if_pos c10] at H
       have c10b0 : decide (t478<0)=true:=decide_eq_true c10;clear c10;have H':=zh H;clear H
       try go_wp2
       replace BK476:=zh (zf BK476.out);replace HB:=zh (zc HB.out);have p477 : 0≤((ji6) : Int):=zy jB;have q477 : (ji6)<(l0.length : Int):=zy jB;obtain ⟨ad477,e477,hx477_0,hx477_1⟩:=at_T51 HR0.out (ji6) p477 q477;have hw477_1:=hx477_1;have hw477_0:=hx477_0
       cases e477
       replace hx477_0:=(HB.out.cell (zl w _ hx477_0)).trans hx477_0;replace hx477_1:=(HB.out.cell (zl w _ hx477_1)).trans hx477_1;replace p477:=eq_true p477;replace q477:=eq_true q477;refine start_ (n:=8) (S:=fun w' => w'.cell? ⟨gb476,0,none⟩=some (.string a1_0)∧w'.cell? ⟨gb476,1,none⟩=some (.int .i64 a1_1)∧w'.cell? (ad477.add (((ji6)).toNat*2))=some (.string ((rd_T51 l0 (ji6)).f0))∧w'.cell? ⟨(ad477.add (((ji6)).toNat*2)).block,(ad477.add (((ji6)).toNat*2)).off+1,none⟩=some (.int .i64 ((rd_T51 l0 (ji6)).f1))) (ds:=[]) (bm_ 0 8) jA rfl rfl ⟨(zz BK476.out 0).trans rfl,(zz BK476.out 1).trans rfl,((HB.out.cell (zl w _ hw477_0)).trans hw477_0),((HB.out.cell (zl w _ hw477_1)).trans hw477_1)⟩ (fun hHeld=>?_);refine with_tabW F4.tab5 F4.bits5 (fun HT_ HW_=>?_);generalize wr.drew=w11 at BK476 HB hx477_0 hx477_1 hHeld ⊢;refine pure_ (i:=0) (N:=some 24) (v:=?_) (a':=?_) (bm_ 1 8) rfl rfl (any_of HT_.out jA) (fun _ _ _ h=>h) (Or.inl ⟨by rfl,?_⟩) ?_ ?_;rotate_left;exact jb;rotate_left;exact jc
       refine pure_ (i:=1) (N:=some 25) (v:=?_) (a':=?_) (bm_ 2 8) rfl rfl (any_of HT_.out jA) (fun _ _ _ h=>h) (Or.inl ⟨by rfl,?_⟩) ?_ ?_;rotate_left;exact jb;rotate_left;exact jc
       refine pure_ (i:=2) (N:=some 26) (v:=?_) (a':=?_) (bm_ 3 8) rfl rfl (any_of HT_.out jA) (fun _ _ _ h=>h) (Or.inl ⟨by rfl,?_⟩) ?_ ?_;rotate_left;exact jb;rotate_left;exact jc
       refine pure_ (i:=3) (N:=some 27) (v:=?_) (a':=?_) (bm_ 4 8) rfl rfl (any_of HT_.out jA) (fun _ _ _ h=>h) (Or.inl ⟨by rfl,?_⟩) ?_ ?_;rotate_left;exact jb;rotate_left;exact jc
       refine take_ (i:=4) (N:=some 28) (v:=?_) (a':=?_) (bm_ 5 8) rfl rfl (yo HT_.out HW_.out jA) (fun _ _ _ h=>h) (Or.inl ⟨by rfl,?_⟩) hHeld ?_ ?_;rotate_left
       ·
        rintro w' ⟨s0,s1,s2,s3⟩
        go_simp
        with_reducible rfl
       rotate_left
       exact jc
       refine take_ (i:=5) (N:=some 29) (v:=?_) (a':=?_) (bm_ 6 8) rfl rfl (yo HT_.out HW_.out jA) (fun _ _ _ h=>h) (Or.inl ⟨by rfl,?_⟩) hHeld ?_ ?_;rotate_left
       ·
        rintro w' ⟨s0,s1,s2,s3⟩
        go_simp
        with_reducible rfl
       rotate_left
       exact jc
       refine one_ (i:=6) (N:=some 30) (bm_ 7 8) rfl rfl (one_of HT_.out jA) jC (fun K hK=>?_);refine goesv_ (.tmp 24) Try.func58 jA rfl #[.agg #[.string ((rd_T51 l0 (ji6)).f0),.int .i64 ((rd_T51 l0 (ji6)).f1)],.agg #[.string a1_0,.int .i64 a1_1]] (by rfl) rfl rfl (by rfl) jBd ?_
       with_reducible refine (Fg.calls k1  ((rd_T51 l0 (ji6)).f0) ((rd_T51 l0 (ji6)).f1) a1_0 a1_1 t478 _ A9.out).mono ?_
       rintro e w12 ⟨rfl,hb⟩;refine ⟨_,rfl,?_⟩;replace BK476:=zh (cD BK476.out jAA hb);replace HB:=zh (zC jm hb);(try clear hb);(try clear hb2);(try clear hk);(try clear hi);refine hK.out _ _ ⟨(zz BK476.out 0).trans rfl,(zz BK476.out 1).trans rfl,((HB.out.cell (zl w _ hw477_0)).trans hw477_0),((HB.out.cell (zl w _ hw477_1)).trans hw477_1)⟩ (fun hHeld=>?_);clear hK K;refine norm_ (a':=?_) ?_ ?_;rotate_left
       ·
        show Act.put _ (some 30) _=_
        simp only [Act.put,zi,zj,zk,zG,zH]
        rfl
       refine pure_ (i:=7) (N:=some 31) (v:=?_) (a':=?_) (bm_ 8 8) rfl rfl (any_of HT_.out jA) (fun _ _ _ h=>h) (Or.inl ⟨by rfl,?_⟩) ?_ ?_;rotate_left;exact jb;rotate_left;exact jc
       refine done_ (done_of HT_.out jA) ?_
       try go_wp2
       go_roundg k1
       case measure=>have:=HK1.out;omega
       case rel=>exact ⟨(wrap64 ((ji6)+1)),(x10_1),jBe,jD,H',⟨jK⟩,⟨jAA⟩,⟨jm⟩⟩
      rw [if_neg c10] at H;have c10b0 : decide (t478<0)=false:=decide_eq_false c10;clear c10;have H':=zh H;clear H
      try go_wp2
      replace BK476:=zh (zf BK476.out);replace HB:=zh (zc HB.out);have p477 : 0≤((ji6) : Int):=zy jB;have q477 : (ji6)<(l0.length : Int):=zy jB;obtain ⟨ad477,e477,hx477_0,hx477_1⟩:=at_T51 HR0.out (ji6) p477 q477;have hw477_1:=hx477_1;have hw477_0:=hx477_0
      cases e477
      replace hx477_0:=(HB.out.cell (zl w _ hx477_0)).trans hx477_0;replace hx477_1:=(HB.out.cell (zl w _ hx477_1)).trans hx477_1;replace p477:=eq_true p477;replace q477:=eq_true q477;refine start_ (n:=8) (S:=fun w' => w'.cell? ⟨gb476,0,none⟩=some (.string a1_0)∧w'.cell? ⟨gb476,1,none⟩=some (.int .i64 a1_1)∧w'.cell? (ad477.add (((ji6)).toNat*2))=some (.string ((rd_T51 l0 (ji6)).f0))∧w'.cell? ⟨(ad477.add (((ji6)).toNat*2)).block,(ad477.add (((ji6)).toNat*2)).off+1,none⟩=some (.int .i64 ((rd_T51 l0 (ji6)).f1))) (ds:=[]) (bm_ 0 8) jA rfl rfl ⟨(zz BK476.out 0).trans rfl,(zz BK476.out 1).trans rfl,((HB.out.cell (zl w _ hw477_0)).trans hw477_0),((HB.out.cell (zl w _ hw477_1)).trans hw477_1)⟩ (fun hHeld=>?_);refine with_tabW F4.tab5 F4.bits5 (fun HT_ HW_=>?_);generalize wr.drew=w13 at BK476 HB hx477_0 hx477_1 hHeld ⊢;refine pure_ (i:=0) (N:=some 24) (v:=?_) (a':=?_) (bm_ 1 8) rfl rfl (any_of HT_.out jA) (fun _ _ _ h=>h) (Or.inl ⟨by rfl,?_⟩) ?_ ?_;rotate_left;exact jb;rotate_left;exact jc
      refine pure_ (i:=1) (N:=some 25) (v:=?_) (a':=?_) (bm_ 2 8) rfl rfl (any_of HT_.out jA) (fun _ _ _ h=>h) (Or.inl ⟨by rfl,?_⟩) ?_ ?_;rotate_left;exact jb;rotate_left;exact jc
      refine pure_ (i:=2) (N:=some 26) (v:=?_) (a':=?_) (bm_ 3 8) rfl rfl (any_of HT_.out jA) (fun _ _ _ h=>h) (Or.inl ⟨by rfl,?_⟩) ?_ ?_;rotate_left;exact jb;rotate_left;exact jc
      refine pure_ (i:=3) (N:=some 27) (v:=?_) (a':=?_) (bm_ 4 8) rfl rfl (any_of HT_.out jA) (fun _ _ _ h=>h) (Or.inl ⟨by rfl,?_⟩) ?_ ?_;rotate_left;exact jb;rotate_left;exact jc
      refine take_ (i:=4) (N:=some 28) (v:=?_) (a':=?_) (bm_ 5 8) rfl rfl (yo HT_.out HW_.out jA) (fun _ _ _ h=>h) (Or.inl ⟨by rfl,?_⟩) hHeld ?_ ?_;rotate_left
      ·
       rintro w' ⟨s0,s1,s2,s3⟩
       go_simp
       with_reducible rfl
      rotate_left
      exact jc
      refine take_ (i:=5) (N:=some 29) (v:=?_) (a':=?_) (bm_ 6 8) rfl rfl (yo HT_.out HW_.out jA) (fun _ _ _ h=>h) (Or.inl ⟨by rfl,?_⟩) hHeld ?_ ?_;rotate_left
      ·
       rintro w' ⟨s0,s1,s2,s3⟩
       go_simp
       with_reducible rfl
      rotate_left
      exact jc
      refine one_ (i:=6) (N:=some 30) (bm_ 7 8) rfl rfl (one_of HT_.out jA) jC (fun K hK=>?_);refine goesv_ (.tmp 24) Try.func58 jA rfl #[.agg #[.string ((rd_T51 l0 (ji6)).f0),.int .i64 ((rd_T51 l0 (ji6)).f1)],.agg #[.string a1_0,.int .i64 a1_1]] (by rfl) rfl rfl (by rfl) jBd ?_
      with_reducible refine (Fg.calls k1  ((rd_T51 l0 (ji6)).f0) ((rd_T51 l0 (ji6)).f1) a1_0 a1_1 t478 _ A9.out).mono ?_
      rintro e w14 ⟨rfl,hb⟩;refine ⟨_,rfl,?_⟩;replace BK476:=zh (cD BK476.out jAA hb);replace HB:=zh (zC jm hb);(try clear hb);(try clear hb2);(try clear hk);(try clear hi);refine hK.out _ _ ⟨(zz BK476.out 0).trans rfl,(zz BK476.out 1).trans rfl,((HB.out.cell (zl w _ hw477_0)).trans hw477_0),((HB.out.cell (zl w _ hw477_1)).trans hw477_1)⟩ (fun hHeld=>?_);clear hK K;refine norm_ (a':=?_) ?_ ?_;rotate_left
      ·
       show Act.put _ (some 30) _=_
       simp only [Act.put,zi,zj,zk,zG,zH]
       rfl
      refine pure_ (i:=7) (N:=some 31) (v:=?_) (a':=?_) (bm_ 8 8) rfl rfl (any_of HT_.out jA) (fun _ _ _ h=>h) (Or.inl ⟨by rfl,?_⟩) ?_ ?_;rotate_left;exact jb;rotate_left;exact jc
      refine done_ (done_of HT_.out jA) ?_
      try go_wp2
      go_roundg k1
      case measure=>have:=HK1.out;omega
      case rel=>exact ⟨(x9_1),(ji6),jD,jBe,H',⟨jK⟩,⟨jAA⟩,⟨jm⟩⟩
     rw [if_neg c8] at H;exact absurd H (by simp)
    rw [if_neg c7] at H;exact absurd H (by simp)
   rw [if_neg c5] at H;have c5b0 : decide (x9_1<x10_1)=false:=decide_eq_false c5;clear c5
   by_cases c15 : x9_1<(l0.length : Int)
   ·
    rw [if_pos c15] at H
    have c15b0 : decide (x9_1<(l0.length : Int))=true:=decide_eq_true c15;clear c15
    by_cases c16 : 0≤x9_1
    ·
     rw [if_pos c16] at H
     have c16b0 : decide (0≤x9_1)=true:=decide_eq_true c16;clear c16
     by_cases c17 : x9_1<(l0.length : Int)
     ·
      rw [if_pos c17] at H
      have c17b0 : decide (x9_1<(l0.length : Int))=true:=decide_eq_true c17;clear c17;replace H:=zT.mp H;obtain ⟨t480,A180,H⟩:=H;have A18:=zh A180;clear A180;simp only [Option.some.injEq,Prod.mk.injEq] at H;obtain ⟨rfl,rfl⟩:=H
      try go_wp2
      replace BK476:=zh (zf BK476.out);replace HB:=zh (zc HB.out);have p479 : 0≤(x9_1 : Int):=zy jB;have q479 : x9_1<(l0.length : Int):=zy jB;obtain ⟨ad479,e479,hx479_0,hx479_1⟩:=at_T51 HR0.out x9_1 p479 q479;have hw479_1:=hx479_1;have hw479_0:=hx479_0
      cases e479
      replace hx479_0:=(HB.out.cell (zl w _ hx479_0)).trans hx479_0;replace hx479_1:=(HB.out.cell (zl w _ hx479_1)).trans hx479_1;replace p479:=eq_true p479;replace q479:=eq_true q479;refine start_ (n:=16) (S:=fun w' => w'.cell? ⟨gb476,0,none⟩=some (.string a1_0)∧w'.cell? ⟨gb476,1,none⟩=some (.int .i64 a1_1)∧w'.cell? (ad479.add ((x9_1).toNat*2))=some (.string ((rd_T51 l0 x9_1).f0))∧w'.cell? ⟨(ad479.add ((x9_1).toNat*2)).block,(ad479.add ((x9_1).toNat*2)).off+1,none⟩=some (.int .i64 ((rd_T51 l0 x9_1).f1))) (ds:=[]) (bm_ 0 16) jA rfl rfl ⟨(zz BK476.out 0).trans rfl,(zz BK476.out 1).trans rfl,((HB.out.cell (zl w _ hw479_0)).trans hw479_0),((HB.out.cell (zl w _ hw479_1)).trans hw479_1)⟩ (fun hHeld=>?_);refine with_tabW F4.tab8 F4.bits8 (fun HT_ HW_=>?_);generalize wr.drew=w19 at BK476 HB hx479_0 hx479_1 hHeld ⊢;refine pure_ (i:=0) (N:=some 35) (v:=?_) (a':=?_) (bm_ 1 16) rfl rfl (any_of HT_.out jA) (fun _ _ _ h=>h) (Or.inl ⟨by rfl,?_⟩) ?_ ?_;rotate_left;exact jb;rotate_left;exact jc
      refine pure_ (i:=1) (N:=some 36) (v:=?_) (a':=?_) (bm_ 2 16) rfl rfl (any_of HT_.out jA) (fun _ _ _ h=>h) (Or.inl ⟨by rfl,?_⟩) ?_ ?_;rotate_left;exact jb;rotate_left;exact jc
      refine pure_ (i:=2) (N:=some 37) (v:=?_) (a':=?_) (bm_ 3 16) rfl rfl (any_of HT_.out jA) (fun _ _ _ h=>h) (Or.inl ⟨by rfl,?_⟩) ?_ ?_;rotate_left;exact jb;rotate_left;exact jc
      refine pure_ (i:=3) (N:=some 38) (v:=?_) (a':=?_) (bm_ 4 16) rfl rfl (any_of HT_.out jA) (fun _ _ _ h=>h) (Or.inl ⟨by rfl,?_⟩) ?_ ?_;rotate_left;exact jb;rotate_left;exact jc
      refine pure_ (i:=4) (N:=some 39) (v:=?_) (a':=?_) (bm_ 5 16) rfl rfl (any_of HT_.out jA) (fun _ _ _ h=>h) (Or.inl ⟨by rfl,?_⟩) ?_ ?_;rotate_left;exact jb;rotate_left;exact jc
      refine pure_ (i:=5) (N:=some 40) (v:=?_) (a':=?_) (bm_ 6 16) rfl rfl (any_of HT_.out jA) (fun _ _ _ h=>h) (Or.inl ⟨by rfl,?_⟩) ?_ ?_;rotate_left;exact jb;rotate_left;exact jc
      refine pure_ (i:=6) (N:=some 41) (v:=?_) (a':=?_) (bm_ 7 16) rfl rfl (any_of HT_.out jA) (fun _ _ _ h=>h) (Or.inl ⟨by rfl,?_⟩) ?_ ?_;rotate_left;exact jb;rotate_left;exact jc
      refine pure_ (i:=7) (N:=some 42) (v:=?_) (a':=?_) (bm_ 8 16) rfl rfl (any_of HT_.out jA) (fun _ _ _ h=>h) (Or.inl ⟨by rfl,?_⟩) ?_ ?_;rotate_left;exact jb;rotate_left;exact jc
      refine pure_ (i:=8) (N:=some 43) (v:=?_) (a':=?_) (bm_ 9 16) rfl rfl (any_of HT_.out jA) (fun _ _ _ h=>h) (Or.inl ⟨by rfl,?_⟩) ?_ ?_;rotate_left;exact jb;rotate_left;exact jc
      refine take_ (i:=9) (N:=some 44) (v:=?_) (a':=?_) (bm_ 10 16) rfl rfl (yo HT_.out HW_.out jA) (fun _ _ _ h=>h) (Or.inl ⟨by rfl,?_⟩) hHeld ?_ ?_;rotate_left
      ·
       rintro w' ⟨s0,s1,s2,s3⟩
       go_simp
       with_reducible rfl
      rotate_left
      exact jc
      refine take_ (i:=10) (N:=some 45) (v:=?_) (a':=?_) (bm_ 11 16) rfl rfl (yo HT_.out HW_.out jA) (fun _ _ _ h=>h) (Or.inl ⟨by rfl,?_⟩) hHeld ?_ ?_;rotate_left
      ·
       rintro w' ⟨s0,s1,s2,s3⟩
       go_simp
       with_reducible rfl
      rotate_left
      exact jc
      refine one_ (i:=11) (N:=some 46) (bm_ 12 16) rfl rfl (one_of HT_.out jA) jC (fun K hK=>?_);refine goesv_ (.tmp 40) Try.func58 jA rfl #[.agg #[.string ((rd_T51 l0 x9_1).f0),.int .i64 ((rd_T51 l0 x9_1).f1)],.agg #[.string a1_0,.int .i64 a1_1]] (by rfl) rfl rfl (by rfl) jF ?_
      with_reducible refine (Fg.calls k1  ((rd_T51 l0 x9_1).f0) ((rd_T51 l0 x9_1).f1) a1_0 a1_1 t480 _ A18.out).mono ?_
      rintro e w20 ⟨rfl,hb⟩;refine ⟨_,rfl,?_⟩;replace BK476:=zh (cD BK476.out jAA hb);replace HB:=zh (zC jm hb);(try clear hb);(try clear hb2);(try clear hk);(try clear hi);refine hK.out _ _ ⟨(zz BK476.out 0).trans rfl,(zz BK476.out 1).trans rfl,((HB.out.cell (zl w _ hw479_0)).trans hw479_0),((HB.out.cell (zl w _ hw479_1)).trans hw479_1)⟩ (fun hHeld=>?_);clear hK K;refine norm_ (a':=?_) ?_ ?_;rotate_left
      ·
       show Act.put _ (some 46) _=_
       simp only [Act.put,zi,zj,zk,zG,zH]
       rfl
      refine pure_ (i:=12) (N:=some 47) (v:=?_) (a':=?_) (bm_ 13 16) rfl rfl (any_of HT_.out jA) (fun _ _ _ h=>h) (Or.inl ⟨by rfl,?_⟩) ?_ ?_;rotate_left;exact jb;rotate_left;exact jc
      refine pure_ (i:=13) (N:=some 48) (v:=?_) (a':=?_) (bm_ 14 16) rfl rfl (any_of HT_.out jA) (fun _ _ _ h=>h) (Or.inl ⟨by rfl,?_⟩) ?_ ?_;rotate_left;exact jb;rotate_left;exact jc
      refine pure_ (i:=14) (N:=some 6) (v:=?_) (a':=?_) (bm_ 15 16) rfl rfl (any_of HT_.out jA) (fun _ _ _ h=>h) (Or.inl ⟨by rfl,?_⟩) ?_ ?_;rotate_left;exact jb;rotate_left;exact jc
      refine pure_ (i:=15) (N:=some 7) (v:=?_) (a':=?_) (bm_ 16 16) rfl rfl (any_of HT_.out jA) (fun _ _ _ h=>h) (Or.inl ⟨by rfl,?_⟩) ?_ ?_;rotate_left;exact jb;rotate_left;exact jc
      refine done_ (done_of HT_.out jA) ?_
      try go_wp2
      go_ret2
      exact ⟨jG,jm⟩
     rw [if_neg c17] at H;exact absurd H (by simp)
    rw [if_neg c16] at H;exact absurd H (by simp)
   rw [if_neg c15] at H;have c15b0 : decide (x9_1<(l0.length : Int))=false:=decide_eq_false c15;clear c15;simp only [Option.some.injEq,Prod.mk.injEq] at H;obtain ⟨rfl,rfl⟩:=H
   try go_wp2
   replace BK476:=zh (zf BK476.out);replace HB:=zh (zc HB.out);refine start_ (n:=16) (S:=fun w' => True) (ds:=[]) (bm_ 0 16) jA rfl rfl trivial (fun hHeld=>?_);refine with_tabW F4.tab8 F4.bits8 (fun HT_ HW_=>?_);generalize wr.drew=w21 at BK476 HB hHeld ⊢;refine pure_ (i:=0) (N:=some 35) (v:=?_) (a':=?_) (bm_ 1 16) rfl rfl (any_of HT_.out jA) (fun _ _ _ h=>h) (Or.inl ⟨by rfl,?_⟩) ?_ ?_;rotate_left;exact jb;rotate_left;exact jc
   refine pure_ (i:=1) (N:=some 36) (v:=?_) (a':=?_) (bm_ 2 16) rfl rfl (any_of HT_.out jA) (fun _ _ _ h=>h) (Or.inl ⟨by rfl,?_⟩) ?_ ?_;rotate_left;exact jb;rotate_left;exact jc
   refine pure_ (i:=2) (N:=some 37) (v:=?_) (a':=?_) (bm_ 3 16) rfl rfl (any_of HT_.out jA) (fun _ _ _ h=>h) (Or.inl ⟨by rfl,?_⟩) ?_ ?_;rotate_left;exact jb;rotate_left;exact jc
   refine pure_ (i:=3) (N:=some 38) (v:=?_) (a':=?_) (bm_ 4 16) rfl rfl (any_of HT_.out jA) (fun _ _ _ h=>h) (Or.inl ⟨by rfl,?_⟩) ?_ ?_;rotate_left;exact jb;rotate_left;exact jc
   refine pure_ (i:=4) (N:=some 39) (v:=?_) (a':=?_) (bm_ 5 16) rfl rfl (any_of HT_.out jA) (fun _ _ _ h=>h) (Or.inl ⟨by rfl,?_⟩) ?_ ?_;rotate_left;exact jb;rotate_left;exact jc
   refine pure_ (i:=5) (N:=some 40) (v:=undef) (a':=?_) (bm_ 6 16) rfl rfl (any_of HT_.out jA) (fun _ _ _ h=>h) (Or.inr ⟨by rfl,rfl⟩) ?_ ?_;rotate_left
   exact jc
   refine pure_ (i:=6) (N:=some 41) (v:=undef) (a':=?_) (bm_ 7 16) rfl rfl (any_of HT_.out jA) (fun _ _ _ h=>h) (Or.inr ⟨by rfl,rfl⟩) ?_ ?_;rotate_left
   exact jc
   refine pure_ (i:=7) (N:=some 42) (v:=undef) (a':=?_) (bm_ 8 16) rfl rfl (any_of HT_.out jA) (fun _ _ _ h=>h) (Or.inr ⟨by rfl,rfl⟩) ?_ ?_;rotate_left
   exact jc
   refine pure_ (i:=8) (N:=some 43) (v:=undef) (a':=?_) (bm_ 9 16) rfl rfl (any_of HT_.out jA) (fun _ _ _ h=>h) (Or.inr ⟨by rfl,rfl⟩) ?_ ?_;rotate_left
   exact jc
   refine pure_ (i:=9) (N:=some 44) (v:=undef) (a':=?_) (bm_ 10 16) rfl rfl (any_of HT_.out jA) (fun _ _ _ h=>h) (Or.inr ⟨by rfl,rfl⟩) ?_ ?_;rotate_left
   exact jc
   refine pure_ (i:=10) (N:=some 45) (v:=undef) (a':=?_) (bm_ 11 16) rfl rfl (any_of HT_.out jA) (fun _ _ _ h=>h) (Or.inr ⟨by rfl,rfl⟩) ?_ ?_;rotate_left
   exact jc
   refine pure_ (i:=11) (N:=some 46) (v:=undef) (a':=?_) (bm_ 12 16) rfl rfl (any_of HT_.out jA) (fun _ _ _ h=>h) (Or.inr ⟨by rfl,rfl⟩) ?_ ?_;rotate_left
   exact jc
   refine pure_ (i:=12) (N:=some 47) (v:=undef) (a':=?_) (bm_ 13 16) rfl rfl (any_of HT_.out jA) (fun _ _ _ h=>h) (Or.inr ⟨by rfl,rfl⟩) ?_ ?_;rotate_left
   exact jc
   refine pure_ (i:=13) (N:=some 48) (v:=?_) (a':=?_) (bm_ 14 16) rfl rfl (any_of HT_.out jA) (fun _ _ _ h=>h) (Or.inl ⟨by rfl,?_⟩) ?_ ?_;rotate_left;exact jb;rotate_left;exact jc
   refine pure_ (i:=14) (N:=some 6) (v:=?_) (a':=?_) (bm_ 15 16) rfl rfl (any_of HT_.out jA) (fun _ _ _ h=>h) (Or.inl ⟨by rfl,?_⟩) ?_ ?_;rotate_left;exact jb;rotate_left;exact jc
   refine pure_ (i:=15) (N:=some 7) (v:=?_) (a':=?_) (bm_ 16 16) rfl rfl (any_of HT_.out jA) (fun _ _ _ h=>h) (Or.inl ⟨by rfl,?_⟩) ?_ ?_;rotate_left;exact jb;rotate_left;exact jc
   refine done_ (done_of HT_.out jA) ?_
   try go_wp2
   go_ret2
   exact ⟨jG,jm⟩

end Go.Proofs.Ytamikhmpfmgofaa.Q
end
