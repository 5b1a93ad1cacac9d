/- Texts of this claim, merged by a program of this session. -/
import Derived.Test.YtoinoihiknmnmaaKLawFnListsp26
import Derived.ProofKit
import Derived.OpenShut
import Derived.ShutString
import Derived.ChangeOld
import Derived.SizedLaws
import Derived.Deep.Slices
import Derived.Lib.SmallJoins
import Derived.Laws.Entries
section
namespace Go.Proofs.Ytoinoihiknmnmaa.Q
open Go.RowKit Go.Proofs.YtoinoihiknmnmaaW.PrintWords Go.Proofs.YtoinoihiknmnmaaW.PrintLast Go.Proofs.YtoinoihiknmnmaaW.PrintMore
attribute [local go_sem] max2_int min2_int max_two min_two max_three min_three max_four min_four max2_str min2_str str_geq str_gtr str_leq
set_option linter.unusedVariables false
set_option linter.unusedSimpArgs false

def Fl.l0 : Nat→List Int→List (S43)→Int→Int→Option (Int×Int×ByteArray)
 | 0,_,_,_,_=>none
 | k+1,x3,x7,x8,x9=>if x9<x8 then (if 0≤x9 then (if x9<(x7.length : Int) then (if x3.length<140737488355328 then ((some (x3 ++ [((((rd_T43 x7 x9).f0).size : Int)) % 256] : List Int)).bind fun y395=>(if y395.length+((rd_T43 x7 x9).f0).size<140737488355328 then ((F02.f k (y395++bytesOf ((rd_T43 x7 x9).f0)) ((rd_T43 x7 x9).f1.f0) ((rd_T43 x7 x9).f1.f1) ((rd_T43 x7 x9).f1.f2)).bind fun t401=>(Fl.l0 k t401 x7 x8 (wrap64 (x9+1)))) else (none))) else (none)) else (none)) else (none)) else (some (5,0,strOfNums x3))
def Fl.f (k : Nat) (l0 : List (S43)) : Option (Int×Int×ByteArray):=Fl.l0 k (([] : List Int)) l0 (l0.length : Int) 0
theorem Fl.mono_l : ∀ k,(∀ y0 y1 y2 y3,LeO (Fl.l0 k y0 y1 y2 y3) (Fl.l0 (k+1) y0 y1 y2 y3))
 | 0=>fun _ _ _ _ r h=>by simp [Fl.l0] at h
 | k+1=>by
  have ih0:=Fl.mono_l k;intro y0 y1 y2 y3;unfold Fl.l0
  repeat' first|(with_reducible first|exact ih0 _ _ _ _|exact F02.mono _ _ _ _ _|exact zQ _|exact zN _|refine zP ?_ ?_|refine zO ?_ (fun _=>?_))|refine zP ?_ ?_|refine zO ?_ (fun _=>?_)
theorem Fl.mono : ∀ a0 k,LeO (Fl.f k a0) (Fl.f (k+1) a0):=by
 intro a0 k;have ih0:=Fl.mono_l k;unfold Fl.f
 repeat' first|(with_reducible first|exact ih0 _ _ _ _|exact F02.mono _ _ _ _ _|exact zQ _|exact zN _|refine zP ?_ ?_|refine zO ?_ (fun _=>?_))|refine zP ?_ ?_|refine zO ?_ (fun _=>?_)
def Fl.T5 : Bool×List (List Nat×List Nat):=(true,[([],[]),([],[]),([1],[1]),([2],[2]),([3],[3]),([4],[4]),([0,5],[0,5]),([],[]),([7],[7]),([6,8,6],[6,8]),([],[]),([10],[10]),([9,11,9],[9,11]),([12,12,0,1,2,3,4,5,6,7,8,9,10,11,12],[0,12])])
def Fl.B5 : List Nat:=[0,0,2,6,14,30,63,0,128,511,0,1024,4095,8191]
theorem Fl.tab5 : rtab .any (opsOf Try.f29 5)=Fl.T5:=by kernel_rfl
theorem Fl.bits5 : waitsOk Fl.T5.2 Fl.B5=true:=by kernel_rfl
set_option maxHeartbeats 8000000 in
set_option maxRecDepth 100000 in
theorem Fl.calls (k : Nat) (A0 : Option Addr) (c0 : Nat) (l0 : List (S43)) (r1 : Int) (r2 : Int) (r3 : ByteArray) (w : World) (hr0 : Kd.C k43 w A0 l0.length l0) (hc0 : l0.length≤c0) (h : Fl.f k l0=some (r1,r2,r3)) :
  Calls Try.prog 29 #[.slice A0 l0.length c0] w fun e w' => e = .returned (.agg #[.int .i64 r1,.int .i64 r2,.string r3])∧Below w.heap.size w w':=by
 have hu25:=Try.underlying25;have hu43:=Try.underlying43;have HR0:=zh hr0;have HC0:=zh hc0;clear hr0 hc0;have HB:=zh (Below.refl w.heap.size w);have H : (Fl.l0 k (([] : List Int)) l0 (l0.length : Int) 0)=some (r1,r2,r3):=h;clear h;obtain ⟨y390,hy390⟩ : ∃ y_ : List Int,y_=(([] : List Int)):=⟨_,rfl⟩;replace H : (Fl.l0 k y390 l0 (l0.length : Int) 0)=some (r1,r2,r3):=by first|(rw [hy390];with_reducible exact H)|(have H2_:=(Option.bind_some _ _).symm.trans H;rw [hy390];with_reducible exact H2_)|(have H2_:=(Option.bind_some _ _).symm.trans H;with_reducible exact H2_)|with_reducible exact H|(rw [hy390];exact H)|exact H
 have Ny390:=zh hy390;clear hy390;have H':=zh H;clear H
 go_enter Try.func29,Try.ntmps29
 go_wp2_with (first|((with_reducible refine zK (N:=2) rfl ?_);refine zI ?hg (N:=2) ?hd (cs:=#[.int .i64 0,.int .i64 0,.string (⟨#[]⟩ : ByteArray)]) (t:=25) ?hr ?_;(case hd=>rfl);(case hg=>rfl);(case hr=>go_simp <;> rfl);intro gb389 hg w2 hbox hb;have BK389:=zh (hbox);have hH_:=cH jG hb hg;have GW389:=zh hH_.1;have GE389:=GW389;replace HB:=zh hH_.2;clear hb hbox hg hH_)|((with_reducible refine zK (N:=6) rfl ?_);refine Kd.R_lit (Kd.int .u8) _ 5 ?hg (N:=6) ?hd (xs:=([] : List Int)) (inner:=[]) (ok:=fun _=>True) (okp:=fun _=>True) ?hr ?hp (fun _ hk=>hk) trivial (Below.refl _ _) (ye _) (by simp) ?_;(case hd=>rfl);(case hg=>rfl);(case hr=>go_simp <;> rfl);(case hp=>exact (Reps.none _ _));intro v391 w3 ho4 hb hg_ hnew_;clear hg_ hnew_;(first|rw [← Ny390.out] at ho4|(simp only [Int.reduceToNat] at ho4;rw [← Ny390.out] at ho4));have HO392:=zh (yy ho4 (zB jBV));replace BK389:=zh (cD BK389.out jAr hb);replace HB:=zh (zC jBV hb);clear hb ho4))
 go_loopg [3,9] k (fun kq v3 v9 w' => ∃ (x3_1 : List Int) (x9_1 : Int),v9 = .int .i64 x9_1∧Aside0 (Fl.l0 kq x3_1 l0 (l0.length : Int) x9_1=some (r1,r2,r3))∧Aside0 (kq≤k)∧Aside0 (Kd.R (Kd.int .u8) 5 w' w.heap.size (fun _=>True) v3 x3_1)∧Aside0 (w'.heap[gb389]? = some (.cells #[.int .i64 0,.int .i64 0,.string (⟨#[]⟩ : ByteArray)] 25 (0,0)))∧Aside0 (Below w.heap.size w w'))
 case atStart=>exact ⟨(y390),(0),jC,H',⟨ye _⟩,⟨by (with_reducible repeat (first|apply zm|apply zn|apply zo));exact HO392.out⟩,⟨jAr⟩,⟨jBV⟩⟩
 case round =>
  clear H'
  try clear c2
  try clear p2
  obtain ⟨x3_1,x9_1,rfl,HA,HK1,HO_3,BK389,HB⟩:=hrel
  cases gk with
  | zero=>exact absurd HA.out (by simp [Fl.l0])
  | succ k1 =>
   have H:=HA.out;clear HA;simp only [Fl.l0] at H
   by_cases c5 : x9_1<(l0.length : Int)
   ·
    rw [if_pos c5] at H
    have c5b0 : decide (x9_1<(l0.length : Int))=true:=decide_eq_true c5;clear c5
    by_cases c6 : 0≤x9_1
    ·
     rw [if_pos c6] at H
     have c6b0 : decide (0≤x9_1)=true:=decide_eq_true c6;clear c6
     by_cases c7 : x9_1<(l0.length : Int)
     ·
      rw [if_pos c7] at H
      have c7b0 : decide (x9_1<(l0.length : Int))=true:=decide_eq_true c7;clear c7
      by_cases c8 : x3_1.length<140737488355328
      ·
       rw [if_pos c8] at H
       have LMc8:=zh c8;clear c8;obtain ⟨y395,hy395⟩ : ∃ y_ : List Int,y_=(x3_1 ++ [((((rd_T43 l0 x9_1).f0).size : Int)) % 256]):=⟨_,rfl⟩;replace H : (if y395.length+((rd_T43 l0 x9_1).f0).size<140737488355328 then ((F02.f k1 (y395++bytesOf ((rd_T43 l0 x9_1).f0)) ((rd_T43 l0 x9_1).f1.f0) ((rd_T43 l0 x9_1).f1.f1) ((rd_T43 l0 x9_1).f1.f2)).bind fun t401=>(Fl.l0 k1 t401 l0 (l0.length : Int) (wrap64 (x9_1+1)))) else (none))=some (r1,r2,r3):=by first|(rw [hy395];with_reducible exact H)|(have H2_:=(Option.bind_some _ _).symm.trans H;rw [hy395];with_reducible exact H2_)|(have H2_:=(Option.bind_some _ _).symm.trans H;with_reducible exact H2_)|with_reducible exact H|(rw [hy395];exact H)|exact H
       have Ny395:=zh hy395;clear hy395
       by_cases c9 : y395.length+((rd_T43 l0 x9_1).f0).size<140737488355328
       ·
        rw [if_pos c9] at H
        have LMc9:=zh c9;clear c9;obtain ⟨y398,hy398⟩ : ∃ y_ : List Int,y_=(y395++bytesOf ((rd_T43 l0 x9_1).f0)):=⟨_,rfl⟩;replace H : ((F02.f k1 y398 ((rd_T43 l0 x9_1).f1.f0) ((rd_T43 l0 x9_1).f1.f1) ((rd_T43 l0 x9_1).f1.f2)).bind fun t401=>(Fl.l0 k1 t401 l0 (l0.length : Int) (wrap64 (x9_1+1))))=some (r1,r2,r3):=by first|(rw [hy398];with_reducible exact H)|(have H2_:=(Option.bind_some _ _).symm.trans H;rw [hy398];with_reducible exact H2_)|(have H2_:=(Option.bind_some _ _).symm.trans H;with_reducible exact H2_)|with_reducible exact H|(rw [hy398];exact H)|exact H
        have Ny398:=zh hy398;clear hy398;replace H:=zT.mp H;obtain ⟨t401,A100,H⟩:=H;have A10:=zh A100;clear A100;have H':=zh H;clear H;have p393 : 0≤(x9_1 : Int):=zy jE;have q393 : x9_1<(l0.length : Int):=zy jE;obtain ⟨ad393,e393,hx393_0,hx393_1,hx393_2,hx393_3⟩:=at_T43 HR0.out x9_1 p393 q393
        cases e393
        replace hx393_0:=(HB.out.cell (zl w _ hx393_0)).trans hx393_0;replace hx393_1:=(HB.out.cell (zl w _ hx393_1)).trans hx393_1;replace hx393_2:=(HB.out.cell (zl w _ hx393_2)).trans hx393_2;replace hx393_3:=(HB.out.cell (zl w _ hx393_3)).trans hx393_3;replace p393:=eq_true p393;replace q393:=eq_true q393
        try go_wp2_with (first|((with_reducible refine zK (N:=5) rfl ?_);refine zI ?hg (N:=5) ?hd (cs:=#[.string (⟨#[]⟩ : ByteArray),.int .i64 0,.int .i64 0,.string (⟨#[]⟩ : ByteArray)]) (t:=43) ?hr ?_;(case hd=>rfl);(case hg=>rfl);(case hr=>go_simp <;> rfl);intro gb394 hg w11 hbox hb;replace HO_3:=zh (yg jBQ hb);have BK394:=zh (hbox);have hH_:=cH jBV hb hg;have GW394:=zh hH_.1;have GE394:=GW394;replace HB:=zh hH_.2;have NB389_394:=zh ((by rw [hg];exact yc (yi (g:=gb389) (o:=.cells #[.int .i64 0,.int .i64 0,.string (⟨#[]⟩ : ByteArray)] 25 (0,0)) jAr) : gb389≠gb394));have NB394_389:=zh NB389_394.out.symm;replace BK389:=zh (cD BK389.out jAr hb);clear hb hbox hg hH_;have hnb12:=NB394_389.out;have hnc12:=NB389_394.out;obtain ⟨hcz13_0,hcz13_1,hcz13_2,hcz13_3,hfz13_0,hfz13_1,hfz13_2,hfz13_3⟩:=cB4 BK394.out))
        have n0_ : Aside0 (Kd.R (Kd.int .u8) 5 ((((w11.setCell ⟨gb394,0,none⟩ (.string ((rd_T43 l0 x9_1).f0))).setCell ⟨gb394,1,none⟩ (.int .i64 ((rd_T43 l0 x9_1).f1.f0))).setCell ⟨gb394,2,none⟩ (.int .i64 ((rd_T43 l0 x9_1).f1.f1))).setCell ⟨gb394,3,none⟩ (.string ((rd_T43 l0 x9_1).f1.f2))) w.heap.size (fun _=>True) u3 x3_1):=⟨by (with_reducible repeat (first|apply zm|apply zn|apply zo));exact zM (zE (p:=⟨gb394,3,none⟩) (zE (p:=⟨gb394,2,none⟩) (zE (p:=⟨gb394,1,none⟩) (zE (p:=⟨gb394,0,none⟩) (yf HO_3.out BK394.out jB) (fun _ hk=>hk.2) (.string ((rd_T43 l0 x9_1).f0))) (fun _ hk=>hk.2) (.int .i64 ((rd_T43 l0 x9_1).f1.f0))) (fun _ hk=>hk.2) (.int .i64 ((rd_T43 l0 x9_1).f1.f1))) (fun _ hk=>hk.2) (.string ((rd_T43 l0 x9_1).f1.f2))) (fun _ hk=>trivial)⟩;have n1_ : Aside0 (((((w11.setCell ⟨gb394,0,none⟩ (.string ((rd_T43 l0 x9_1).f0))).setCell ⟨gb394,1,none⟩ (.int .i64 ((rd_T43 l0 x9_1).f1.f0))).setCell ⟨gb394,2,none⟩ (.int .i64 ((rd_T43 l0 x9_1).f1.f1))).setCell ⟨gb394,3,none⟩ (.string ((rd_T43 l0 x9_1).f1.f2))).heap[gb389]? = some (.cells #[.int .i64 0,.int .i64 0,.string (⟨#[]⟩ : ByteArray)] 25 (0,0))):=⟨by (with_reducible repeat first|apply ze|apply zf|apply zg);refine cS4 ?_ NB389_394.out;(with_reducible repeat first|apply ze|apply zf|apply zg);exact BK389.out⟩;have n2_ : Aside0 (((((w11.setCell ⟨gb394,0,none⟩ (.string ((rd_T43 l0 x9_1).f0))).setCell ⟨gb394,1,none⟩ (.int .i64 ((rd_T43 l0 x9_1).f1.f0))).setCell ⟨gb394,2,none⟩ (.int .i64 ((rd_T43 l0 x9_1).f1.f1))).setCell ⟨gb394,3,none⟩ (.string ((rd_T43 l0 x9_1).f1.f2))).heap[gb394]? = some (.cells #[.string ((rd_T43 l0 x9_1).f0),.int .i64 ((rd_T43 l0 x9_1).f1.f0),.int .i64 ((rd_T43 l0 x9_1).f1.f1),.string ((rd_T43 l0 x9_1).f1.f2)] 43 (0,0))):=⟨by (with_reducible repeat first|apply ze|apply zf|apply zg);refine zL (cs:=#[.string ((rd_T43 l0 x9_1).f0),.int .i64 ((rd_T43 l0 x9_1).f1.f0),.int .i64 ((rd_T43 l0 x9_1).f1.f1),.string (⟨#[]⟩ : ByteArray)]) ?_ 3 _ rfl;(with_reducible repeat first|apply ze|apply zf|apply zg);refine zL (cs:=#[.string ((rd_T43 l0 x9_1).f0),.int .i64 ((rd_T43 l0 x9_1).f1.f0),.int .i64 0,.string (⟨#[]⟩ : ByteArray)]) ?_ 2 _ rfl;(with_reducible repeat first|apply ze|apply zf|apply zg);refine zL (cs:=#[.string ((rd_T43 l0 x9_1).f0),.int .i64 0,.int .i64 0,.string (⟨#[]⟩ : ByteArray)]) ?_ 1 _ rfl;(with_reducible repeat first|apply ze|apply zf|apply zg);refine zL (cs:=#[.string (⟨#[]⟩ : ByteArray),.int .i64 0,.int .i64 0,.string (⟨#[]⟩ : ByteArray)]) ?_ 0 _ rfl;(with_reducible repeat first|apply ze|apply zf|apply zg);exact BK394.out⟩;have n3_ : Aside0 (Below w.heap.size w ((((w11.setCell ⟨gb394,0,none⟩ (.string ((rd_T43 l0 x9_1).f0))).setCell ⟨gb394,1,none⟩ (.int .i64 ((rd_T43 l0 x9_1).f1.f0))).setCell ⟨gb394,2,none⟩ (.int .i64 ((rd_T43 l0 x9_1).f1.f1))).setCell ⟨gb394,3,none⟩ (.string ((rd_T43 l0 x9_1).f1.f2)))):=⟨jBG⟩;(try clear HO_3);(try clear BK389);(try clear BK394);(try clear HB);generalize ((((w11.setCell ⟨gb394,0,none⟩ (.string ((rd_T43 l0 x9_1).f0))).setCell ⟨gb394,1,none⟩ (.int .i64 ((rd_T43 l0 x9_1).f1.f0))).setCell ⟨gb394,2,none⟩ (.int .i64 ((rd_T43 l0 x9_1).f1.f1))).setCell ⟨gb394,3,none⟩ (.string ((rd_T43 l0 x9_1).f1.f2)))=w14 at n0_ n1_ n2_ n3_ ⊢;have HO_3:=n0_;have BK389:=n1_;have BK394:=n2_;have HB:=n3_;clear n0_ n1_ n2_ n3_;replace HO_3:=zh (zo HO_3.out);replace BK389:=zh (zf BK389.out);replace BK394:=zh (zf BK394.out);replace HB:=zh (zc HB.out);refine start_ (n:=14) (S:=fun w' => w'.cell? ⟨gb394,0,none⟩=some (.string ((rd_T43 l0 x9_1).f0))∧w'.cell? ⟨gb394,1,none⟩=some (.int .i64 ((rd_T43 l0 x9_1).f1.f0))∧w'.cell? ⟨gb394,2,none⟩=some (.int .i64 ((rd_T43 l0 x9_1).f1.f1))∧w'.cell? ⟨gb394,3,none⟩=some (.string ((rd_T43 l0 x9_1).f1.f2))) (ds:=[]) (bm_ 0 14) jA rfl rfl ⟨(zz BK394.out 0).trans rfl,(zz BK394.out 1).trans rfl,(zz BK394.out 2).trans rfl,(zz BK394.out 3).trans rfl⟩ (fun hHeld=>?_);refine with_tabW Fl.tab5 Fl.bits5 (fun HT_ HW_=>?_);generalize w14.drew=w15 at HO_3 BK389 BK394 HB hHeld ⊢;refine pure_ (i:=0) (N:=some 13) (v:=?_) (a':=?_) (bm_ 1 14) rfl rfl (any_of HT_.out jA) (fun _ _ _ h=>h) (Or.inl ⟨by rfl,?_⟩) ?_ ?_;rotate_left;exact jb;rotate_left;exact jc
        refine pure_ (i:=1) (N:=some 14) (v:=?_) (a':=?_) (bm_ 2 14) rfl rfl (any_of HT_.out jA) (fun _ _ _ h=>h) (Or.inl ⟨by rfl,?_⟩) ?_ ?_;rotate_left;exact jb;rotate_left;exact jc
        refine pure_ (i:=7) (N:=some 20) (v:=?_) (a':=?_) #[true,true,false,false,false,false,false,true,false,false,false,false,false,false] rfl rfl (any_of HT_.out jA) (fun _ _ _ h=>h) (Or.inl ⟨by rfl,?_⟩) ?_ ?_;rotate_left;exact jb;rotate_left;exact jc
        refine pure_ (i:=10) (N:=some 23) (v:=?_) (a':=?_) #[true,true,false,false,false,false,false,true,false,false,true,false,false,false] rfl rfl (any_of HT_.out jA) (fun _ _ _ h=>h) (Or.inl ⟨by rfl,?_⟩) ?_ ?_;rotate_left;exact jb;rotate_left;exact jc
        refine take_ (i:=2) (N:=some 15) (v:=?_) (a':=?_) #[true,true,true,false,false,false,false,true,false,false,true,false,false,false] rfl rfl (yo HT_.out HW_.out jA) (fun _ _ _ h=>h) (Or.inl ⟨by rfl,?_⟩) hHeld ?_ ?_;rotate_left
        ·
         rintro w' ⟨s0,s1,s2,s3⟩
         go_simp
         with_reducible rfl
        rotate_left
        exact jc
        refine pure_ (i:=3) (N:=some 16) (v:=?_) (a':=?_) #[true,true,true,true,false,false,false,true,false,false,true,false,false,false] rfl rfl (any_of HT_.out jA) (fun _ _ _ h=>h) (Or.inl ⟨by rfl,?_⟩) ?_ ?_;rotate_left;exact jb;rotate_left;exact jc
        refine pure_ (i:=4) (N:=some 17) (v:=?_) (a':=?_) #[true,true,true,true,true,false,false,true,false,false,true,false,false,false] rfl rfl (any_of HT_.out jA) (fun _ _ _ h=>h) (Or.inl ⟨by rfl,?_⟩) ?_ ?_;rotate_left;exact jb;rotate_left;exact jc
        refine take_ (i:=8) (N:=some 21) (v:=?_) (a':=?_) #[true,true,true,true,true,false,false,true,true,false,true,false,false,false] rfl rfl (yo HT_.out HW_.out jA) (fun _ _ _ h=>h) (Or.inl ⟨by rfl,?_⟩) hHeld ?_ ?_;rotate_left
        ·
         rintro w' ⟨s0,s1,s2,s3⟩
         go_simp
         with_reducible rfl
        rotate_left
        exact jc
        refine take_ (i:=11) (N:=some 24) (v:=?_) (a':=?_) #[true,true,true,true,true,false,false,true,true,false,true,true,false,false] rfl rfl (yo HT_.out HW_.out jA) (fun _ _ _ h=>h) (Or.inl ⟨by rfl,?_⟩) hHeld ?_ ?_;rotate_left
        ·
         rintro w' ⟨s0,s1,s2,s3⟩
         go_simp
         with_reducible rfl
        rotate_left
        exact jc
        refine one_ (i:=5) (N:=some 18) #[true,true,true,true,true,true,false,true,true,false,true,true,false,false] rfl rfl (one_of HT_.out jA) jB (fun K hK=>?_);refine value_ (w1:=?_) (v:=?_) (by rfl) rfl ?_ ?_;rotate_left 2
        ·
         go_simp
         constructor
         ·
          rfl
         rfl
        refine hK.out _ _ ⟨(zz (zg BK394.out _) 0).trans rfl,(zz (zg BK394.out _) 1).trans rfl,(zz (zg BK394.out _) 2).trans rfl,(zz (zg BK394.out _) 3).trans rfl⟩ (fun hHeld=>?_);clear hK K;refine norm_ (a':=?_) ?_ ?_;rotate_left
        ·
         show Act.put _ (some 18) _=_
         simp only [Act.put,zi,zj,zk,zG,zH]
         rfl
        refine one_ (i:=6) (N:=some 19) #[true,true,true,true,true,true,true,true,true,false,true,true,false,false] rfl rfl (one_of HT_.out jA) jB (fun K hK=>?_);refine Kd.R_append_step (Kd.int .u8) (w0:=w) w.heap.size (by rfl) (.tmp 13) (.tmp 18) 33 5 (.int .u8 0) 1 rfl Try.underlying33 info5 rfl jB jH u3 x3_1 (((((rd_T43 l0 x9_1).f0).size : Int)) % 256) [.int .u8 (((((rd_T43 l0 x9_1).f0).size : Int)) % 256)] (fun _=>True) (fun _=>False) rfl rfl ?aP (fun _ hk=>hk.elim) ?aF ?aO ?aB ?aS ?aL ?_;(case aP=>exact rfl)
        (case aB=>exact jBG)
        (case aF=>exact (fun _ _=>trivial))
        (case aO=>exact jBQ)
        (case aS=>exact (zB jBG))
        (case aL=>have:=LMc8.out;omega)
        intro v396 w16 ho hb hg hat;rw [← Ny395.out] at ho;replace BK389:=zh (yw (g:=gb389) (o:=.cells #[.int .i64 0,.int .i64 0,.string (⟨#[]⟩ : ByteArray)] 25 (0,0)) jAr hg (Kd.R_ne HO_3.out BK389.out jB));replace BK394:=zh (yw (g:=gb394) (o:=.cells #[.string ((rd_T43 l0 x9_1).f0),.int .i64 ((rd_T43 l0 x9_1).f1.f0),.int .i64 ((rd_T43 l0 x9_1).f1.f1),.string ((rd_T43 l0 x9_1).f1.f2)] 43 (0,0)) jCS hg (Kd.R_ne HO_3.out BK394.out jB));replace HB:=zh (hb);have HO397:=zh (ho);clear HO_3 ho hb hg hat;refine hK.out _ _ ⟨(zz BK394.out 0).trans rfl,(zz BK394.out 1).trans rfl,(zz BK394.out 2).trans rfl,(zz BK394.out 3).trans rfl⟩ (fun hHeld=>?_);clear hK K;refine norm_ (a':=?_) ?_ ?_;rotate_left
        ·
         show Act.put _ (some 19) _=_
         simp only [Act.put,zi,zj,zk,zG,zH]
         rfl
        refine one_ (i:=9) (N:=some 22) (bm_ 12 14) rfl rfl (one_of HT_.out jA) jB (fun K hK=>?_);refine print_append_str_go (w0:=w) w.heap.size (by rfl) (.tmp 19) _ 33 9 5 rfl Try.underlying33 Try.underlying9 info5 v396 y395 ((rd_T43 l0 x9_1).f0) rfl rfl ?aO ?aB ?aS ?aL ?_;(case aB=>exact jBG)
        (case aO=>exact (Kd.own_of_R (by (with_reducible repeat (first|apply zm|apply zn|apply zo));exact HO397.out)))
        (case aS=>exact (zB jBG))
        (case aL=>have:=LMc9.out;omega)
        intro v399 w17 ho0 hb hg hat;have ho:=Kd.R_of_own (h1:=fun _=>rfl) (ok:=(fun _=>True)) ho0 (fun k_ e_=>hat.elim (fun h_=>(HO397.out).1 k_ (h_.symm.trans e_)) (fun ⟨b_,h_,hb_⟩=>(fun _ _=>trivial) k_ (zU (h_.symm.trans e_) ▸ hb_)));clear ho0;rw [← Ny398.out] at ho;change Kd.R (Kd.int .u8) 5 w17 w.heap.size (fun _=>True) v399 y398 at ho;replace BK389:=zh (yw (g:=gb389) (o:=.cells #[.int .i64 0,.int .i64 0,.string (⟨#[]⟩ : ByteArray)] 25 (0,0)) jAr hg (Kd.R_ne HO397.out BK389.out jB));replace BK394:=zh (yw (g:=gb394) (o:=.cells #[.string ((rd_T43 l0 x9_1).f0),.int .i64 ((rd_T43 l0 x9_1).f1.f0),.int .i64 ((rd_T43 l0 x9_1).f1.f1),.string ((rd_T43 l0 x9_1).f1.f2)] 43 (0,0)) jCS hg (Kd.R_ne HO397.out BK394.out jB));replace HB:=zh (hb);have HO400:=zh (ho);clear HO397 ho hb hg hat;obtain ⟨Ao18,co18,eo18⟩:=yk HO400.out;(first|subst eo18|(injection eo18 with f1_ f2_ f3_;have f4_:=f1_.symm;have f5_:=f3_.symm;clear f1_ f2_ f3_;subst f4_;subst f5_));refine hK.out _ _ ⟨(zz BK394.out 0).trans rfl,(zz BK394.out 1).trans rfl,(zz BK394.out 2).trans rfl,(zz BK394.out 3).trans rfl⟩ (fun hHeld=>?_);clear hK K;refine norm_ (a':=?_) ?_ ?_;rotate_left
        ·
         show Act.put _ (some 22) _=_
         simp only [Act.put,zi,zj,zk,zG,zH]
         rfl
        refine one_ (i:=12) (N:=some 25) (bm_ 13 14) rfl rfl (one_of HT_.out jA) jB (fun K hK=>?_);refine goes_ Try.func51 jA rfl #[.slice Ao18 y398.length co18,.agg #[.int .i64 ((rd_T43 l0 x9_1).f1.f0),.int .i64 ((rd_T43 l0 x9_1).f1.f1),.string ((rd_T43 l0 x9_1).f1.f2)]] (by rfl) rfl rfl jD ?_
        with_reducible refine (F02.calls k1  (fun k_=>some k_=(.slice Ao18 y398.length co18 : Value).ownBlock) (.slice Ao18 y398.length co18) y398 ((rd_T43 l0 x9_1).f1.f0) ((rd_T43 l0 x9_1).f1.f1) ((rd_T43 l0 x9_1).f1.f2) t401 w _ ?side1 ?side2 A10.out).mono ?_
        (case side1=>repeat (with_reducible first|exact HB.out|apply za|apply zb|apply zc|refine zd ?_ GE389.out|refine zd ?_ GE394.out))
        (case side2=>exact Kd.R_tight rfl HO400.out)
        rintro e w19 ⟨v402,rfl,ho0,hb,hkp⟩;refine ⟨_,rfl,?_⟩;replace BK389:=zh (blk_kept jAr hkp (fun hs_=>(fun e_=>(Kd.R_ne HO400.out BK389.out jB) e_) hs_));replace BK394:=zh (blk_kept jCS hkp (fun hs_=>(fun e_=>(Kd.R_ne HO400.out BK394.out jB) e_) hs_));have HO403:=zh (zM (ok':=fun k_=>True) ho0 (fun k_ hk_=>trivial));replace HB:=zh (hb);clear HO400;(try clear hb);(try clear hkp);(try clear ho0);refine hK.out _ _ ⟨(zz BK394.out 0).trans rfl,(zz BK394.out 1).trans rfl,(zz BK394.out 2).trans rfl,(zz BK394.out 3).trans rfl⟩ (fun hHeld=>?_);clear hK K;refine norm_ (a':=?_) ?_ ?_;rotate_left
        ·
         show Act.put _ (some 25) _=_
         simp only [Act.put,zi,zj,zk,zG,zH]
         rfl
        refine pure_ (i:=13) (N:=some 3) (v:=?_) (a':=?_) (bm_ 14 14) rfl rfl (any_of HT_.out jA) (fun _ _ _ h=>h) (Or.inl ⟨by rfl,?_⟩) ?_ ?_;rotate_left;exact jb;rotate_left;exact jc
        refine done_ (done_of HT_.out jA) ?_
        try go_wp2
        go_roundg k1
        case measure=>have:=HK1.out;omega
        case rel=>exact ⟨(t401),(wrap64 (x9_1+1)),jC,H',⟨jZ⟩,⟨by (with_reducible repeat (first|apply zm|apply zn|apply zo));exact HO403.out⟩,⟨jAr⟩,⟨jBG⟩⟩
       rw [if_neg c9] at H;exact absurd H (by simp)
      rw [if_neg c8] at H;exact absurd H (by simp)
     rw [if_neg c7] at H;exact absurd H (by simp)
    rw [if_neg c6] at H;exact absurd H (by simp)
   rw [if_neg c5] at H;have c5b0 : decide (x9_1<(l0.length : Int))=false:=decide_eq_false c5;clear c5;simp only [Option.some.injEq,Prod.mk.injEq] at H;obtain ⟨rfl,rfl,rfl⟩:=H;have hcv20:=own_string (P:=Try.prog) Try.underlying33 Try.underlying5 Try.underlying9 (Kd.own_of_R HO_3.out);obtain ⟨hcz21_0,hcz21_1,hcz21_2,hfz21_0,hfz21_1,hfz21_2⟩:=cB3 BK389.out
   go_wp2
   refine bodyPost_ret (results_cell_row rfl _ _ gb389 25 #[.int .i64 5,.int .i64 0,.string (strOfNums x3_1)] (0,0) _ rfl (by (with_reducible repeat first|apply ze|apply zf|apply zg);refine zL (cs:=#[.int .i64 5,.int .i64 0,.string (⟨#[]⟩ : ByteArray)]) ?_ 2 _ rfl;(with_reducible repeat first|apply ze|apply zf|apply zg);refine zL (cs:=#[.int .i64 5,.int .i64 0,.string (⟨#[]⟩ : ByteArray)]) ?_ 1 _ rfl;(with_reducible repeat first|apply ze|apply zf|apply zg);refine zL (cs:=#[.int .i64 0,.int .i64 0,.string (⟨#[]⟩ : ByteArray)]) ?_ 0 _ rfl;(with_reducible repeat first|apply ze|apply zf|apply zg);exact BK389.out) Try.underlying25 rfl jA) rfl ?_;exact ⟨jF,jBV⟩


def Fc.l0 : Nat→List (S43)→List (S43)→Int→Int→Option (Int×Int×ByteArray×Int)
 | 0,_,_,_,_=>none
 | k+1,x4,x20,x21,x22=>if x22<x21 then (if 0≤x22 then (if x22<(x20.length : Int) then ((F01.f k x4 ((rd_T43 x20 x22).f0)).bind fun bt417=>((F05.f k ((rd_T43 x20 x22).f0)).bind fun t419=>(if t419=true then ((Fw.f k ((rd_T43 x20 x22).f1.f0) ((rd_T43 x20 x22).f1.f1) ((rd_T43 x20 x22).f1.f2)).bind fun t420=>(if t420=true then (if bt417.2=true then (some (0,0,(⟨#[]⟩ : ByteArray),12)) else ((F0d.f k x4 ((rd_T43 x20 x22).f0) ((rd_T43 x20 x22).f1.f0) ((rd_T43 x20 x22).f1.f1) ((rd_T43 x20 x22).f1.f2)).bind fun t421=>(Fc.l0 k t421 x20 x21 (wrap64 (x22+1))))) else (some (0,0,(⟨#[]⟩ : ByteArray),1)))) else (some (0,0,(⟨#[]⟩ : ByteArray),11))))) else (none)) else (none)) else ((Fl.f k x4).bind fun bt408=>((F0c.f k bt408.1 bt408.2.1 bt408.2.2).bind fun bt411=>(some (bt411.1,bt411.2.1,bt411.2.2.1,bt411.2.2.2))))
def Fc.f (k : Nat) (l0 : List (S43)) : Option (Int×Int×ByteArray×Int):=if (l0.length : Int) > 4096 then (some (0,0,(⟨#[]⟩ : ByteArray),2)) else (if (l0.length : Int) > 300 then (some (0,0,(⟨#[]⟩ : ByteArray),10)) else (Fc.l0 k (([] : List (S43))) l0 (l0.length : Int) 0))
theorem Fc.mono_l : ∀ k,(∀ y0 y1 y2 y3,LeO (Fc.l0 k y0 y1 y2 y3) (Fc.l0 (k+1) y0 y1 y2 y3))
 | 0=>fun _ _ _ _ r h=>by simp [Fc.l0] at h
 | k+1=>by
  have ih0:=Fc.mono_l k;intro y0 y1 y2 y3;unfold Fc.l0
  repeat' first|(with_reducible first|exact ih0 _ _ _ _|exact F01.mono _ _ _|exact F05.mono _ _|exact Fw.mono _ _ _ _|exact F0d.mono _ _ _ _ _ _|exact F0c.mono _ _ _ _|exact Fl.mono _ _|exact zQ _|exact zN _|refine zP ?_ ?_|refine zO ?_ (fun _=>?_))|refine zP ?_ ?_|refine zO ?_ (fun _=>?_)
theorem Fc.mono : ∀ a0 k,LeO (Fc.f k a0) (Fc.f (k+1) a0):=by
 intro a0 k;have ih0:=Fc.mono_l k;unfold Fc.f
 repeat' first|(with_reducible first|exact ih0 _ _ _ _|exact F01.mono _ _ _|exact F05.mono _ _|exact Fw.mono _ _ _ _|exact F0d.mono _ _ _ _ _ _|exact F0c.mono _ _ _ _|exact Fl.mono _ _|exact zQ _|exact zN _|refine zP ?_ ?_|refine zO ?_ (fun _=>?_))|refine zP ?_ ?_|refine zO ?_ (fun _=>?_)
set_option maxHeartbeats 8000000 in
set_option maxRecDepth 100000 in
theorem Fc.calls (k : Nat) (A0 : Option Addr) (c0 : Nat) (l0 : List (S43)) (r1 : Int) (r2 : Int) (r3 : ByteArray) (r4 : Int) (w : World) (hr0 : Kd.C k43 w A0 l0.length l0) (hc0 : l0.length≤c0) (h : Fc.f k l0=some (r1,r2,r3,r4)) :
  Calls Try.prog 8 #[.slice A0 l0.length c0] w fun e w' => e = .returned (.tuple #[.agg #[.int .i64 r1,.int .i64 r2,.string r3],.int .i64 r4])∧Below w.heap.size w w':=by
 have hu25:=Try.underlying25;have hu43:=Try.underlying43;have HR0:=zh hr0;have HC0:=zh hc0;clear hr0 hc0;have HB:=zh (Below.refl w.heap.size w);have H : (if (l0.length : Int) > 4096 then (some (0,0,(⟨#[]⟩ : ByteArray),2)) else (if (l0.length : Int) > 300 then (some (0,0,(⟨#[]⟩ : ByteArray),10)) else (Fc.l0 k (([] : List (S43))) l0 (l0.length : Int) 0)))=some (r1,r2,r3,r4):=h;clear h
 by_cases c2 : (l0.length : Int) > 4096
 ·
  rw [if_pos c2] at H
  have c2b0 : decide (4096<(l0.length : Int))=true:=decide_eq_true c2;have c2b1 : decide (4096<l0.length)=true:=decide_eq_true jH;clear c2;simp only [Option.some.injEq,Prod.mk.injEq] at H;obtain ⟨rfl,rfl,rfl,rfl⟩:=H
  go_enter Try.func8,Try.ntmps8
  go_wp2_with (first|((with_reducible refine zK (N:=2) rfl ?_);refine zI ?hg (N:=2) ?hd (cs:=#[.int .i64 0,.int .i64 0,.string (⟨#[]⟩ : ByteArray)]) (t:=25) ?hr ?_;(case hd=>rfl);(case hg=>rfl);(case hr=>go_simp <;> rfl);intro gb404 hg w3 hbox hb;have BK404:=zh (hbox);have hH_:=cH jG hb hg;have GW404:=zh hH_.1;have GE404:=GW404;replace HB:=zh hH_.2;clear hb hbox hg hH_;obtain ⟨hcz4_0,hcz4_1,hcz4_2,hfz4_0,hfz4_1,hfz4_2⟩:=cB3 BK404.out))
  refine bodyPost_ret (results_ct rfl _ _ gb404 25 #[.int .i64 0,.int .i64 0,.string (⟨#[]⟩ : ByteArray)] (0,0) _ rfl jDH Try.underlying25 rfl jA) rfl ?_;exact ⟨jF,jAU⟩
 rw [if_neg c2] at H;have c2b0 : decide (4096<(l0.length : Int))=false:=decide_eq_false c2;have c2b1 : decide (4096<l0.length)=false:=decide_eq_false jH;clear c2
 by_cases c5 : (l0.length : Int) > 300
 ·
  rw [if_pos c5] at H
  have c5b0 : decide (300<(l0.length : Int))=true:=decide_eq_true c5;have c5b1 : decide (300<l0.length)=true:=decide_eq_true jH;clear c5;simp only [Option.some.injEq,Prod.mk.injEq] at H;obtain ⟨rfl,rfl,rfl,rfl⟩:=H
  go_enter Try.func8,Try.ntmps8
  go_wp2_with (first|((with_reducible refine zK (N:=2) rfl ?_);refine zI ?hg (N:=2) ?hd (cs:=#[.int .i64 0,.int .i64 0,.string (⟨#[]⟩ : ByteArray)]) (t:=25) ?hr ?_;(case hd=>rfl);(case hg=>rfl);(case hr=>go_simp <;> rfl);intro gb404 hg w6 hbox hb;have BK404:=zh (hbox);have hH_:=cH jG hb hg;have GW404:=zh hH_.1;have GE404:=GW404;replace HB:=zh hH_.2;clear hb hbox hg hH_;obtain ⟨hcz7_0,hcz7_1,hcz7_2,hfz7_0,hfz7_1,hfz7_2⟩:=cB3 BK404.out))
  refine bodyPost_ret (results_ct rfl _ _ gb404 25 #[.int .i64 0,.int .i64 0,.string (⟨#[]⟩ : ByteArray)] (0,0) _ rfl jDH Try.underlying25 rfl jA) rfl ?_;exact ⟨jF,jAU⟩
 rw [if_neg c5] at H;have c5b0 : decide (300<(l0.length : Int))=false:=decide_eq_false c5;have c5b1 : decide (300<l0.length)=false:=decide_eq_false jH;clear c5;obtain ⟨y405,hy405⟩ : ∃ y_ : List (S43),y_=(([] : List (S43))):=⟨_,rfl⟩;replace H : (Fc.l0 k y405 l0 (l0.length : Int) 0)=some (r1,r2,r3,r4):=by first|(rw [hy405];with_reducible exact H)|(have H2_:=(Option.bind_some _ _).symm.trans H;rw [hy405];with_reducible exact H2_)|(have H2_:=(Option.bind_some _ _).symm.trans H;with_reducible exact H2_)|with_reducible exact H|(rw [hy405];exact H)|exact H
 have Ny405:=zh hy405;clear hy405;have H':=zh H;clear H
 go_enter Try.func8,Try.ntmps8
 go_wp2_with (first|((with_reducible refine zK (N:=2) rfl ?_);refine zI ?hg (N:=2) ?hd (cs:=#[.int .i64 0,.int .i64 0,.string (⟨#[]⟩ : ByteArray)]) (t:=25) ?hr ?_;(case hd=>rfl);(case hg=>rfl);(case hr=>go_simp <;> rfl);intro gb404 hg w8 hbox hb;have BK404:=zh (hbox);have hH_:=cH jG hb hg;have GW404:=zh hH_.1;have GE404:=GW404;replace HB:=zh hH_.2;clear hb hbox hg hH_)|((with_reducible refine zK (N:=19) rfl ?_);refine Kd.R_lit k43 _ 43 ?hg (N:=19) ?hd (xs:=([] : List (S43))) (inner:=[]) (ok:=fun _=>True) (okp:=fun _=>True) ?hr ?hp (fun _ hk=>hk) trivial (Below.refl _ _) (ye _) (by simp) ?_;(case hd=>rfl);(case hg=>rfl);(case hr=>go_simp <;> rfl);(case hp=>exact (Reps.none _ _));intro v406 w9 ho10 hb hg_ hnew_;clear hg_ hnew_;(first|rw [← Ny405.out] at ho10|(simp only [Int.reduceToNat] at ho10;rw [← Ny405.out] at ho10));have HO407:=zh (yy ho10 (zB jAU));replace BK404:=zh (cD BK404.out jy hb);replace HB:=zh (zC jAU hb);clear hb ho10))
 go_loopg [4,22] k (fun kq v4 v22 w' => ∃ (x4_1 : List (S43)) (x22_1 : Int) (x405000_1 : Int) (x405001_1 : Int) (x405002_1 : ByteArray),v22 = .int .i64 x22_1∧Aside0 (Fc.l0 kq x4_1 l0 (l0.length : Int) x22_1=some (r1,r2,r3,r4))∧Aside0 (kq≤k)∧Aside0 (Kd.R k43 43 w' w.heap.size (fun _=>True) v4 x4_1)∧Aside0 (w'.heap[gb404]? = some (.cells #[.int .i64 x405000_1,.int .i64 x405001_1,.string x405002_1] 25 (0,0)))∧Aside0 (Below w.heap.size w w'))
 case atStart=>exact ⟨(y405),(0),(0),(0),((⟨#[]⟩ : ByteArray)),jC,H',⟨ye _⟩,⟨by (with_reducible repeat (first|apply zm|apply zn|apply zo));exact HO407.out⟩,⟨jy⟩,⟨jAU⟩⟩
 case round =>
  clear H'
  try clear c2 c2b0 c2b1
  try clear p2
  try clear c5 c5b0 c5b1 c8
  try clear hcz4_0 hcz4_1 hcz4_2
  try clear hcz7_0 hcz7_1 hcz7_2
  try clear hfz4_0 hfz4_1 hfz4_2
  try clear hfz7_0 hfz7_1 hfz7_2
  obtain ⟨x4_1,x22_1,x405000_1,x405001_1,x405002_1,rfl,HA,HK1,HO_4,BK404,HB⟩:=hrel
  cases gk with
  | zero=>exact absurd HA.out (by simp [Fc.l0])
  | succ k1 =>
   have H:=HA.out;clear HA;simp only [Fc.l0] at H
   by_cases c11 : x22_1<(l0.length : Int)
   ·
    rw [if_pos c11] at H
    have c11b0 : decide (x22_1<(l0.length : Int))=true:=decide_eq_true c11;clear c11
    by_cases c12 : 0≤x22_1
    ·
     rw [if_pos c12] at H
     have c12b0 : decide (0≤x22_1)=true:=decide_eq_true c12;clear c12
     by_cases c13 : x22_1<(l0.length : Int)
     ·
      rw [if_pos c13] at H
      have c13b0 : decide (x22_1<(l0.length : Int))=true:=decide_eq_true c13;clear c13;replace H:=zT.mp H;obtain ⟨⟨t417,t418⟩,A140,H⟩:=H;have A14:=zh A140;clear A140;replace H:=zT.mp H;obtain ⟨t419,A150,H⟩:=H;have A15:=zh A150;clear A150
      by_cases c16 : t419=true
      ·
       subst c16
       rw [if_pos rfl] at H;replace H:=zT.mp H;obtain ⟨t420,A170,H⟩:=H;have A17:=zh A170;clear A170
       by_cases c18 : t420=true
       ·
        subst c18
        rw [if_pos rfl] at H
        by_cases c19 : t418=true
        ·
         subst c19
         rw [if_pos rfl] at H;simp only [Option.some.injEq,Prod.mk.injEq] at H;obtain ⟨rfl,rfl,rfl,rfl⟩:=H;have p415 : 0≤(x22_1 : Int):=zy jE;have q415 : x22_1<(l0.length : Int):=zy jE;obtain ⟨ad415,e415,hx415_0,hx415_1,hx415_2,hx415_3⟩:=at_T43 HR0.out x22_1 p415 q415
         cases e415
         replace hx415_0:=(HB.out.cell (zl w _ hx415_0)).trans hx415_0;replace hx415_1:=(HB.out.cell (zl w _ hx415_1)).trans hx415_1;replace hx415_2:=(HB.out.cell (zl w _ hx415_2)).trans hx415_2;replace hx415_3:=(HB.out.cell (zl w _ hx415_3)).trans hx415_3;replace p415:=eq_true p415;replace q415:=eq_true q415
         go_wp2_with (first|((with_reducible refine zK (N:=6) rfl ?_);refine zI ?hg (N:=6) ?hd (cs:=#[.string (⟨#[]⟩ : ByteArray),.int .i64 0,.int .i64 0,.string (⟨#[]⟩ : ByteArray)]) (t:=43) ?hr ?_;(case hd=>rfl);(case hg=>rfl);(case hr=>go_simp <;> rfl);intro gb416 hg w20 hbox hb;replace HO_4:=zh (yg (Kd.R_elderB jQ gb416 (Nat.le_of_eq hg.symm)) hb);have BK416:=zh (hbox);have hH_:=cH jAU hb hg;have GW416:=zh hH_.1;have GE416:=GW416;replace HB:=zh hH_.2;have NB404_416:=zh ((jBx : gb404≠gb416));have NB416_404:=zh NB404_416.out.symm;replace BK404:=zh (cD BK404.out jy hb);clear hb hbox hg hH_;have hnb21:=NB416_404.out;have hnc21:=NB404_416.out;obtain ⟨hcz22_0,hcz22_1,hcz22_2,hcz22_3,hfz22_0,hfz22_1,hfz22_2,hfz22_3⟩:=cB4 BK416.out;obtain ⟨Ao23,co23,eo23⟩:=yk HO_4.out;subst eo23)|((with_reducible refine zJ (f:=24) rfl ?_);refine yj (some 30) rfl rfl Try.func24 jA rfl #[.slice Ao23 x4_1.length co23,.string ((rd_T43 l0 x22_1).f0)] rfl jD ?_;(with_reducible refine (F01.calls k1  _ _ x4_1 ((rd_T43 l0 x22_1).f0) t417 true _ ?side1 ?side2 A14.out).mono ?_);(case side1=>refine (yh (e:=43) (base:=w.heap.size) (ok:=fun k_=>(True∧k_≠gb416)) (n:=x4_1.length) (c:=co23) ?_).2.2;exact jAs);(case side2=>exact (yh HO_4.out).2.1);rintro e w24 ⟨rfl,hb⟩;refine ⟨_,rfl,?_⟩;replace HO_4:=zh (yg jAs hb);replace BK404:=zh (cD BK404.out jBy hb);replace BK416:=zh (zD (g:=gb416) (o:=.cells #[.string ((rd_T43 l0 x22_1).f0),.int .i64 ((rd_T43 l0 x22_1).f1.f0),.int .i64 ((rd_T43 l0 x22_1).f1.f1),.string ((rd_T43 l0 x22_1).f1.f2)] 43 (0,0)) jBz hb);replace HB:=zh (zC jAV hb);(try clear hb);(try clear hb2);(try clear hk);(try clear hi);obtain ⟨hcz25_0,hcz25_1,hcz25_2,hcz25_3,hfz25_0,hfz25_1,hfz25_2,hfz25_3⟩:=cB4 BK416.out)|((with_reducible refine zJ (f:=25) rfl ?_);refine yj (some 36) rfl rfl Try.func25 jA rfl #[.string ((rd_T43 l0 x22_1).f0)] rfl jD ?_;(with_reducible refine (F05.calls k1  ((rd_T43 l0 x22_1).f0) true _ A15.out).mono ?_);rintro e w' ⟨rfl,⟨nd,rfl⟩⟩;refine ⟨_,rfl,?_⟩;(try (rw [drewN_self w24];generalize hq_ : World.drewN w24 _=w24;replace HO_4 : Aside0 (Kd.R k43 43 w24 w.heap.size (fun k_=>k_≠gb416) (.slice Ao23 x4_1.length co23) x4_1):=⟨jCT⟩;replace BK404 : Aside0 (w24.heap[gb404]? = some (.cells #[.int .i64 x405000_1,.int .i64 x405001_1,.string x405002_1] 25 (0,0))):=⟨jCU⟩;replace BK416 : Aside0 (w24.heap[gb416]? = some (.cells #[.string ((rd_T43 l0 x22_1).f0),.int .i64 ((rd_T43 l0 x22_1).f1.f0),.int .i64 ((rd_T43 l0 x22_1).f1.f1),.string ((rd_T43 l0 x22_1).f1.f2)] 43 (0,0))):=⟨jCV⟩;replace HB : Aside0 (Below w.heap.size w w24):=⟨jCW⟩;clear hq_;obtain ⟨hcz25_0,hcz25_1,hcz25_2,hcz25_3,hfz25_0,hfz25_1,hfz25_2,hfz25_3⟩:=cB4 BK416.out)))|((with_reducible refine zJ (f:=26) rfl ?_);refine yj (some 42) rfl rfl Try.func26 jA rfl #[.agg #[.int .i64 ((rd_T43 l0 x22_1).f1.f0),.int .i64 ((rd_T43 l0 x22_1).f1.f1),.string ((rd_T43 l0 x22_1).f1.f2)]] rfl jD ?_;(with_reducible refine (Fw.calls k1  ((rd_T43 l0 x22_1).f1.f0) ((rd_T43 l0 x22_1).f1.f1) ((rd_T43 l0 x22_1).f1.f2) true _ A17.out).mono ?_);rintro e w26 ⟨rfl,hb⟩;refine ⟨_,rfl,?_⟩;replace HO_4:=zh (yg jQ hb);replace BK404:=zh (cD BK404.out jy hb);replace BK416:=zh (cD BK416.out jBH hb);replace HB:=zh (zC jAV hb);(try clear hb);(try clear hb2);(try clear hk);(try clear hi);obtain ⟨hcz27_0,hcz27_1,hcz27_2,hfz27_0,hfz27_1,hfz27_2⟩:=cB3 BK404.out))
         refine bodyPost_ret (results_ct rfl _ _ gb404 25 #[.int .i64 0,.int .i64 0,.string (⟨#[]⟩ : ByteArray)] (0,0) _ rfl jCX Try.underlying25 rfl jA) rfl ?_;exact ⟨jF,jAV⟩
        replace c19:=yb.mpr c19;subst c19;rw [if_neg (show ¬ (false=true) by decide)] at H;replace H:=zT.mp H;obtain ⟨t421,A280,H⟩:=H;have A28:=zh A280;clear A280;have H':=zh H;clear H;have p415 : 0≤(x22_1 : Int):=zy jE;have q415 : x22_1<(l0.length : Int):=zy jE;obtain ⟨ad415,e415,hx415_0,hx415_1,hx415_2,hx415_3⟩:=at_T43 HR0.out x22_1 p415 q415
        cases e415
        replace hx415_0:=(HB.out.cell (zl w _ hx415_0)).trans hx415_0;replace hx415_1:=(HB.out.cell (zl w _ hx415_1)).trans hx415_1;replace hx415_2:=(HB.out.cell (zl w _ hx415_2)).trans hx415_2;replace hx415_3:=(HB.out.cell (zl w _ hx415_3)).trans hx415_3;replace p415:=eq_true p415;replace q415:=eq_true q415
        go_wp2_with (first|((with_reducible refine zK (N:=6) rfl ?_);refine zI ?hg (N:=6) ?hd (cs:=#[.string (⟨#[]⟩ : ByteArray),.int .i64 0,.int .i64 0,.string (⟨#[]⟩ : ByteArray)]) (t:=43) ?hr ?_;(case hd=>rfl);(case hg=>rfl);(case hr=>go_simp <;> rfl);intro gb416 hg w29 hbox hb;replace HO_4:=zh (yg (Kd.R_elderB jQ gb416 (Nat.le_of_eq hg.symm)) hb);have BK416:=zh (hbox);have hH_:=cH jAU hb hg;have GW416:=zh hH_.1;have GE416:=GW416;replace HB:=zh hH_.2;have NB404_416:=zh ((jBx : gb404≠gb416));have NB416_404:=zh NB404_416.out.symm;replace BK404:=zh (cD BK404.out jy hb);clear hb hbox hg hH_;have hnb30:=NB416_404.out;have hnc30:=NB404_416.out;obtain ⟨hcz31_0,hcz31_1,hcz31_2,hcz31_3,hfz31_0,hfz31_1,hfz31_2,hfz31_3⟩:=cB4 BK416.out;obtain ⟨Ao32,co32,eo32⟩:=yk HO_4.out;subst eo32)|((with_reducible refine zJ (f:=24) rfl ?_);refine yj (some 30) rfl rfl Try.func24 jA rfl #[.slice Ao32 x4_1.length co32,.string ((rd_T43 l0 x22_1).f0)] rfl jD ?_;(with_reducible refine (F01.calls k1  _ _ x4_1 ((rd_T43 l0 x22_1).f0) t417 false _ ?side1 ?side2 A14.out).mono ?_);(case side1=>refine (yh (e:=43) (base:=w.heap.size) (ok:=fun k_=>(True∧k_≠gb416)) (n:=x4_1.length) (c:=co32) ?_).2.2;exact jAs);(case side2=>exact (yh HO_4.out).2.1);rintro e w33 ⟨rfl,hb⟩;refine ⟨_,rfl,?_⟩;replace HO_4:=zh (yg jAs hb);replace BK404:=zh (cD BK404.out jBy hb);replace BK416:=zh (zD (g:=gb416) (o:=.cells #[.string ((rd_T43 l0 x22_1).f0),.int .i64 ((rd_T43 l0 x22_1).f1.f0),.int .i64 ((rd_T43 l0 x22_1).f1.f1),.string ((rd_T43 l0 x22_1).f1.f2)] 43 (0,0)) jBz hb);replace HB:=zh (zC jAV hb);(try clear hb);(try clear hb2);(try clear hk);(try clear hi);obtain ⟨hcz34_0,hcz34_1,hcz34_2,hcz34_3,hfz34_0,hfz34_1,hfz34_2,hfz34_3⟩:=cB4 BK416.out)|((with_reducible refine zJ (f:=25) rfl ?_);refine yj (some 36) rfl rfl Try.func25 jA rfl #[.string ((rd_T43 l0 x22_1).f0)] rfl jD ?_;(with_reducible refine (F05.calls k1  ((rd_T43 l0 x22_1).f0) true _ A15.out).mono ?_);rintro e w' ⟨rfl,⟨nd,rfl⟩⟩;refine ⟨_,rfl,?_⟩)|((with_reducible refine zJ (f:=26) rfl ?_);refine yj (some 42) rfl rfl Try.func26 jA rfl #[.agg #[.int .i64 ((rd_T43 l0 x22_1).f1.f0),.int .i64 ((rd_T43 l0 x22_1).f1.f1),.string ((rd_T43 l0 x22_1).f1.f2)]] rfl jD ?_;(with_reducible refine (Fw.calls k1  ((rd_T43 l0 x22_1).f1.f0) ((rd_T43 l0 x22_1).f1.f1) ((rd_T43 l0 x22_1).f1.f2) true _ A17.out).mono ?_);rintro e w35 ⟨rfl,hb⟩;refine ⟨_,rfl,?_⟩;replace HO_4:=zh (yg jQ hb);replace BK404:=zh (cD BK404.out jy hb);replace BK416:=zh (cD BK416.out jBH hb);replace HB:=zh (zC jAV hb);(try clear hb);(try clear hb2);(try clear hk);(try clear hi);obtain ⟨hcz36_0,hcz36_1,hcz36_2,hcz36_3,hfz36_0,hfz36_1,hfz36_2,hfz36_3⟩:=cB4 BK416.out)|((with_reducible refine zJ (f:=27) rfl ?_);refine yj (some 50) rfl rfl Try.func27 jA rfl #[.slice Ao32 x4_1.length co32,.agg #[.string ((rd_T43 l0 x22_1).f0),.int .i64 ((rd_T43 l0 x22_1).f1.f0),.int .i64 ((rd_T43 l0 x22_1).f1.f1),.string ((rd_T43 l0 x22_1).f1.f2)]] rfl jD ?_;(with_reducible refine (F0d.calls k1  (fun k_=>some k_=(.slice Ao32 x4_1.length co32 : Value).ownBlock) (.slice Ao32 x4_1.length co32) x4_1 ((rd_T43 l0 x22_1).f0) ((rd_T43 l0 x22_1).f1.f0) ((rd_T43 l0 x22_1).f1.f1) ((rd_T43 l0 x22_1).f1.f2) t421 w _ ?side1 ?side2 A28.out).mono ?_);(case side1=>repeat (with_reducible first|exact HB.out|apply za|apply zb|apply zc|refine zd ?_ GE404.out|refine zd ?_ GE416.out));(case side2=>exact Kd.R_tight rfl HO_4.out);rintro e w37 ⟨v422,rfl,ho0,hb,hkp⟩;refine ⟨_,rfl,?_⟩;replace BK404:=zh (blk_kept jy hkp (fun hs_=>(fun e_=>(Kd.R_ne HO_4.out BK404.out jB) e_) hs_));have HO423:=zh (zM (ok':=fun k_=>k_≠gb416) ho0 (fun k_ hk_=>Or.elim hk_ (fun hs_=>fun e_=>(yv HO_4.out (fun _ hk=>hk.2)) (by rw [← e_];exact hs_)) (fun hn_=>(Kd.freshB (g:=gb416) (o:=.cells #[.string ((rd_T43 l0 x22_1).f0),.int .i64 ((rd_T43 l0 x22_1).f1.f0),.int .i64 ((rd_T43 l0 x22_1).f1.f1),.string ((rd_T43 l0 x22_1).f1.f2)] 43 (0,0)) jBH k_ hn_))));replace BK416:=zh (blk_kept jBH hkp (fun hs_=>(fun e_=>(yv HO_4.out (fun _ hk=>hk.2)) e_) hs_));replace HB:=zh (hb);clear HO_4;(try clear hb);(try clear hkp);(try clear ho0)))
        go_roundg k1
        case measure=>have:=HK1.out;omega
        case rel=>exact ⟨(t421),(wrap64 (x22_1+1)),(x405000_1),(x405001_1),(x405002_1),jC,H',⟨jZ⟩,⟨by (with_reducible repeat (first|apply zm|apply zn|apply zo));exact zM HO423.out (fun _ hk=>trivial)⟩,⟨jy⟩,⟨jAV⟩⟩
       replace c18:=yb.mpr c18;subst c18;rw [if_neg (show ¬ (false=true) by decide)] at H;simp only [Option.some.injEq,Prod.mk.injEq] at H;obtain ⟨rfl,rfl,rfl,rfl⟩:=H;have p415 : 0≤(x22_1 : Int):=zy jE;have q415 : x22_1<(l0.length : Int):=zy jE;obtain ⟨ad415,e415,hx415_0,hx415_1,hx415_2,hx415_3⟩:=at_T43 HR0.out x22_1 p415 q415
       cases e415
       replace hx415_0:=(HB.out.cell (zl w _ hx415_0)).trans hx415_0;replace hx415_1:=(HB.out.cell (zl w _ hx415_1)).trans hx415_1;replace hx415_2:=(HB.out.cell (zl w _ hx415_2)).trans hx415_2;replace hx415_3:=(HB.out.cell (zl w _ hx415_3)).trans hx415_3;replace p415:=eq_true p415;replace q415:=eq_true q415
       go_wp2_with (first|((with_reducible refine zK (N:=6) rfl ?_);refine zI ?hg (N:=6) ?hd (cs:=#[.string (⟨#[]⟩ : ByteArray),.int .i64 0,.int .i64 0,.string (⟨#[]⟩ : ByteArray)]) (t:=43) ?hr ?_;(case hd=>rfl);(case hg=>rfl);(case hr=>go_simp <;> rfl);intro gb416 hg w38 hbox hb;replace HO_4:=zh (yg (Kd.R_elderB jQ gb416 (Nat.le_of_eq hg.symm)) hb);have BK416:=zh (hbox);have hH_:=cH jAU hb hg;have GW416:=zh hH_.1;have GE416:=GW416;replace HB:=zh hH_.2;have NB404_416:=zh ((jBx : gb404≠gb416));have NB416_404:=zh NB404_416.out.symm;replace BK404:=zh (cD BK404.out jy hb);clear hb hbox hg hH_;have hnb39:=NB416_404.out;have hnc39:=NB404_416.out;obtain ⟨hcz40_0,hcz40_1,hcz40_2,hcz40_3,hfz40_0,hfz40_1,hfz40_2,hfz40_3⟩:=cB4 BK416.out;obtain ⟨Ao41,co41,eo41⟩:=yk HO_4.out;subst eo41)|((with_reducible refine zJ (f:=24) rfl ?_);refine yj (some 30) rfl rfl Try.func24 jA rfl #[.slice Ao41 x4_1.length co41,.string ((rd_T43 l0 x22_1).f0)] rfl jD ?_;(with_reducible refine (F01.calls k1  _ _ x4_1 ((rd_T43 l0 x22_1).f0) t417 t418 _ ?side1 ?side2 A14.out).mono ?_);(case side1=>refine (yh (e:=43) (base:=w.heap.size) (ok:=fun k_=>(True∧k_≠gb416)) (n:=x4_1.length) (c:=co41) ?_).2.2;exact jAs);(case side2=>exact (yh HO_4.out).2.1);rintro e w42 ⟨rfl,hb⟩;refine ⟨_,rfl,?_⟩;replace HO_4:=zh (yg jAs hb);replace BK404:=zh (cD BK404.out jBy hb);replace BK416:=zh (zD (g:=gb416) (o:=.cells #[.string ((rd_T43 l0 x22_1).f0),.int .i64 ((rd_T43 l0 x22_1).f1.f0),.int .i64 ((rd_T43 l0 x22_1).f1.f1),.string ((rd_T43 l0 x22_1).f1.f2)] 43 (0,0)) jBz hb);replace HB:=zh (zC jAV hb);(try clear hb);(try clear hb2);(try clear hk);(try clear hi);obtain ⟨hcz43_0,hcz43_1,hcz43_2,hcz43_3,hfz43_0,hfz43_1,hfz43_2,hfz43_3⟩:=cB4 BK416.out)|((with_reducible refine zJ (f:=25) rfl ?_);refine yj (some 36) rfl rfl Try.func25 jA rfl #[.string ((rd_T43 l0 x22_1).f0)] rfl jD ?_;(with_reducible refine (F05.calls k1  ((rd_T43 l0 x22_1).f0) true _ A15.out).mono ?_);rintro e w' ⟨rfl,⟨nd,rfl⟩⟩;refine ⟨_,rfl,?_⟩;(try (rw [drewN_self w42];generalize hq_ : World.drewN w42 _=w42;replace HO_4 : Aside0 (Kd.R k43 43 w42 w.heap.size (fun k_=>k_≠gb416) (.slice Ao41 x4_1.length co41) x4_1):=⟨jCT⟩;replace BK404 : Aside0 (w42.heap[gb404]? = some (.cells #[.int .i64 x405000_1,.int .i64 x405001_1,.string x405002_1] 25 (0,0))):=⟨jCU⟩;replace BK416 : Aside0 (w42.heap[gb416]? = some (.cells #[.string ((rd_T43 l0 x22_1).f0),.int .i64 ((rd_T43 l0 x22_1).f1.f0),.int .i64 ((rd_T43 l0 x22_1).f1.f1),.string ((rd_T43 l0 x22_1).f1.f2)] 43 (0,0))):=⟨jCV⟩;replace HB : Aside0 (Below w.heap.size w w42):=⟨jCW⟩;clear hq_;obtain ⟨hcz43_0,hcz43_1,hcz43_2,hcz43_3,hfz43_0,hfz43_1,hfz43_2,hfz43_3⟩:=cB4 BK416.out)))|((with_reducible refine zJ (f:=26) rfl ?_);refine yj (some 42) rfl rfl Try.func26 jA rfl #[.agg #[.int .i64 ((rd_T43 l0 x22_1).f1.f0),.int .i64 ((rd_T43 l0 x22_1).f1.f1),.string ((rd_T43 l0 x22_1).f1.f2)]] rfl jD ?_;(with_reducible refine (Fw.calls k1  ((rd_T43 l0 x22_1).f1.f0) ((rd_T43 l0 x22_1).f1.f1) ((rd_T43 l0 x22_1).f1.f2) false _ A17.out).mono ?_);rintro e w44 ⟨rfl,hb⟩;refine ⟨_,rfl,?_⟩;replace HO_4:=zh (yg jQ hb);replace BK404:=zh (cD BK404.out jy hb);replace BK416:=zh (cD BK416.out jBH hb);replace HB:=zh (zC jAV hb);(try clear hb);(try clear hb2);(try clear hk);(try clear hi);obtain ⟨hcz45_0,hcz45_1,hcz45_2,hfz45_0,hfz45_1,hfz45_2⟩:=cB3 BK404.out))
       refine bodyPost_ret (results_ct rfl _ _ gb404 25 #[.int .i64 0,.int .i64 0,.string (⟨#[]⟩ : ByteArray)] (0,0) _ rfl jCX Try.underlying25 rfl jA) rfl ?_;exact ⟨jF,jAV⟩
      replace c16:=yb.mpr c16;subst c16;rw [if_neg (show ¬ (false=true) by decide)] at H;simp only [Option.some.injEq,Prod.mk.injEq] at H;obtain ⟨rfl,rfl,rfl,rfl⟩:=H;have p415 : 0≤(x22_1 : Int):=zy jE;have q415 : x22_1<(l0.length : Int):=zy jE;obtain ⟨ad415,e415,hx415_0,hx415_1,hx415_2,hx415_3⟩:=at_T43 HR0.out x22_1 p415 q415
      cases e415
      replace hx415_0:=(HB.out.cell (zl w _ hx415_0)).trans hx415_0;replace hx415_1:=(HB.out.cell (zl w _ hx415_1)).trans hx415_1;replace hx415_2:=(HB.out.cell (zl w _ hx415_2)).trans hx415_2;replace hx415_3:=(HB.out.cell (zl w _ hx415_3)).trans hx415_3;replace p415:=eq_true p415;replace q415:=eq_true q415
      go_wp2_with (first|((with_reducible refine zK (N:=6) rfl ?_);refine zI ?hg (N:=6) ?hd (cs:=#[.string (⟨#[]⟩ : ByteArray),.int .i64 0,.int .i64 0,.string (⟨#[]⟩ : ByteArray)]) (t:=43) ?hr ?_;(case hd=>rfl);(case hg=>rfl);(case hr=>go_simp <;> rfl);intro gb416 hg w46 hbox hb;replace HO_4:=zh (yg (Kd.R_elderB jQ gb416 (Nat.le_of_eq hg.symm)) hb);have BK416:=zh (hbox);have hH_:=cH jAU hb hg;have GW416:=zh hH_.1;have GE416:=GW416;replace HB:=zh hH_.2;have NB404_416:=zh ((jBx : gb404≠gb416));have NB416_404:=zh NB404_416.out.symm;replace BK404:=zh (cD BK404.out jy hb);clear hb hbox hg hH_;have hnb47:=NB416_404.out;have hnc47:=NB404_416.out;obtain ⟨hcz48_0,hcz48_1,hcz48_2,hcz48_3,hfz48_0,hfz48_1,hfz48_2,hfz48_3⟩:=cB4 BK416.out;obtain ⟨Ao49,co49,eo49⟩:=yk HO_4.out;subst eo49)|((with_reducible refine zJ (f:=24) rfl ?_);refine yj (some 30) rfl rfl Try.func24 jA rfl #[.slice Ao49 x4_1.length co49,.string ((rd_T43 l0 x22_1).f0)] rfl jD ?_;(with_reducible refine (F01.calls k1  _ _ x4_1 ((rd_T43 l0 x22_1).f0) t417 t418 _ ?side1 ?side2 A14.out).mono ?_);(case side1=>refine (yh (e:=43) (base:=w.heap.size) (ok:=fun k_=>(True∧k_≠gb416)) (n:=x4_1.length) (c:=co49) ?_).2.2;exact jAs);(case side2=>exact (yh HO_4.out).2.1);rintro e w50 ⟨rfl,hb⟩;refine ⟨_,rfl,?_⟩;replace HO_4:=zh (yg jAs hb);replace BK404:=zh (cD BK404.out jBy hb);replace BK416:=zh (zD (g:=gb416) (o:=.cells #[.string ((rd_T43 l0 x22_1).f0),.int .i64 ((rd_T43 l0 x22_1).f1.f0),.int .i64 ((rd_T43 l0 x22_1).f1.f1),.string ((rd_T43 l0 x22_1).f1.f2)] 43 (0,0)) jBz hb);replace HB:=zh (zC jAV hb);(try clear hb);(try clear hb2);(try clear hk);(try clear hi);obtain ⟨hcz51_0,hcz51_1,hcz51_2,hcz51_3,hfz51_0,hfz51_1,hfz51_2,hfz51_3⟩:=cB4 BK416.out)|((with_reducible refine zJ (f:=25) rfl ?_);refine yj (some 36) rfl rfl Try.func25 jA rfl #[.string ((rd_T43 l0 x22_1).f0)] rfl jD ?_;(with_reducible refine (F05.calls k1  ((rd_T43 l0 x22_1).f0) false _ A15.out).mono ?_);rintro e w' ⟨rfl,⟨nd,rfl⟩⟩;refine ⟨_,rfl,?_⟩;(try (rw [drewN_self w50];generalize hq_ : World.drewN w50 _=w50;replace HO_4 : Aside0 (Kd.R k43 43 w50 w.heap.size (fun k_=>k_≠gb416) (.slice Ao49 x4_1.length co49) x4_1):=⟨jCT⟩;replace BK404 : Aside0 (w50.heap[gb404]? = some (.cells #[.int .i64 x405000_1,.int .i64 x405001_1,.string x405002_1] 25 (0,0))):=⟨jCU⟩;replace BK416 : Aside0 (w50.heap[gb416]? = some (.cells #[.string ((rd_T43 l0 x22_1).f0),.int .i64 ((rd_T43 l0 x22_1).f1.f0),.int .i64 ((rd_T43 l0 x22_1).f1.f1),.string ((rd_T43 l0 x22_1).f1.f2)] 43 (0,0))):=⟨jCV⟩;replace HB : Aside0 (Below w.heap.size w w50):=⟨jCW⟩;clear hq_));obtain ⟨hcz52_0,hcz52_1,hcz52_2,hfz52_0,hfz52_1,hfz52_2⟩:=cB3 BK404.out))
      refine bodyPost_ret (results_ct rfl _ _ gb404 25 #[.int .i64 0,.int .i64 0,.string (⟨#[]⟩ : ByteArray)] (0,0) _ rfl jCX Try.underlying25 rfl jA) rfl ?_;exact ⟨jF,jAV⟩
     rw [if_neg c13] at H;exact absurd H (by simp)
    rw [if_neg c12] at H;exact absurd H (by simp)
   rw [if_neg c11] at H;have c11b0 : decide (x22_1<(l0.length : Int))=false:=decide_eq_false c11;clear c11;replace H:=zT.mp H;obtain ⟨⟨t408,t409,t410⟩,A530,H⟩:=H;have A53:=zh A530;clear A530;replace H:=zT.mp H;obtain ⟨⟨t411,t412,t413,t414⟩,A540,H⟩:=H;have A54:=zh A540;clear A540;simp only [Option.some.injEq,Prod.mk.injEq] at H;obtain ⟨rfl,rfl,rfl,rfl⟩:=H;obtain ⟨Ao55,co55,eo55⟩:=yk HO_4.out;subst eo55
   go_wp2_with (first|((with_reducible refine zJ (f:=29) rfl ?_);refine yj (some 53) rfl rfl Try.func29 jA rfl #[.slice Ao55 x4_1.length co55] rfl jD ?_;(with_reducible refine (Fl.calls k1  _ _ x4_1 t408 t409 t410 _ ?side1 ?side2 A53.out).mono ?_);(case side1=>repeat (first|exact (yh HO_4.out).2.2|(with_reducible refine Kd.C_alloc ?_ _)|(with_reducible refine Kd.C_drewN ?_ _)|(with_reducible refine Kd.C_drew ?_)));(case side2=>exact (yh HO_4.out).2.1);rintro e w56 ⟨rfl,hb⟩;refine ⟨_,rfl,?_⟩;replace HO_4:=zh (yg jQ hb);replace BK404:=zh (cD BK404.out jy hb);replace HB:=zh (zC jAU hb);(try clear hb);(try clear hb2);(try clear hk);(try clear hi))|((with_reducible refine zJ (f:=28) rfl ?_);refine yj (some 54) rfl rfl Try.func28 jA rfl #[.agg #[.int .i64 t408,.int .i64 t409,.string t410]] rfl jD ?_;(with_reducible refine (F0c.calls k1  t408 t409 t410 t411 t412 t413 t414 _ A54.out).mono ?_);rintro e w57 ⟨rfl,hb⟩;refine ⟨_,rfl,?_⟩;replace HO_4:=zh (yg jQ hb);replace BK404:=zh (cD BK404.out jy hb);replace HB:=zh (zC jAU hb);(try clear hb);(try clear hb2);(try clear hk);(try clear hi);obtain ⟨hcz58_0,hcz58_1,hcz58_2,hfz58_0,hfz58_1,hfz58_2⟩:=cB3 BK404.out))
   refine bodyPost_ret (results_ct rfl _ _ gb404 25 #[.int .i64 t411,.int .i64 t412,.string t413] (0,0) _ rfl (by (with_reducible repeat first|apply ze|apply zf|apply zg);refine zL (cs:=#[.int .i64 t411,.int .i64 t412,.string x405002_1]) ?_ 2 _ rfl;(with_reducible repeat first|apply ze|apply zf|apply zg);refine zL (cs:=#[.int .i64 t411,.int .i64 x405001_1,.string x405002_1]) ?_ 1 _ rfl;(with_reducible repeat first|apply ze|apply zf|apply zg);refine zL (cs:=#[.int .i64 x405000_1,.int .i64 x405001_1,.string x405002_1]) ?_ 0 _ rfl;(with_reducible repeat first|apply ze|apply zf|apply zg);exact BK404.out) Try.underlying25 rfl jA) rfl ?_;exact ⟨jF,jAU⟩


theorem eqA43 (d : Nat) (w : World) (x0 y0 : ByteArray) (x1 y1 : Int) (x2 y2 : Int) (x3 y3 : ByteArray) :
  (Op.equalIn (d+3) 43 (.agg #[.string x0,.int .i64 x1,.int .i64 x2,.string x3]) (.agg #[.string y0,.int .i64 y1,.int .i64 y2,.string y3])).run Try.prog w = .ok (x0.toList == y0.toList && ((x1 == y1 && (x2 == y2 && (x3.toList == y3.toList))))) w:=by
 refine eqA_of Try.underlying43 jA ?_;refine eqf_cons (by rfl) jAk jAk (by go_simp) ?_;exact eqf_last (by rfl) (by go_simp) (by go_simp) (eqA25 (d+0) w _ _ _ _ _ _)
end Go.Proofs.Ytoinoihiknmnmaa.Q
end
section
namespace Go.Proofs.Ytoinoihiknmnmaa.Q
open Go.RowKit Go.Proofs.YtoinoihiknmnmaaW.PrintWords Go.Proofs.YtoinoihiknmnmaaW.PrintLast Go.Proofs.YtoinoihiknmnmaaW.PrintMore
attribute [local go_sem] max2_int min2_int max_two min_two max_three min_three max_four min_four max2_str min2_str str_geq str_gtr str_leq   -- for this text's walks alone
set_option linter.unusedVariables false
set_option linter.unusedSimpArgs false

attribute [local go_sem high] eqA25 eqA43
mutual
def F0.j0 : Nat→List Int→List Int→Bool→Option (Bool)
 | 0,_,_,_=>none
 | k+1,x0,x1,x33=>if x33=true then (some true) else ((F0t.f x1 0 4).bind fun t608=>((Fk.f k x0 t608).bind fun t609=>((F09.f k t609).bind fun bt612=>((Fj.f k t609).bind fun bt617=>(if bt612.2.2.2=bt617.2.2.2 then (F0.j1 k t609 bt612.2.2.2 (!(bt612.1 == bt617.1) || (!(bt612.2.1 == bt617.2.1) || (!(bt612.2.2.1.toList == bt617.2.2.1.toList)))) bt612.1 bt612.2.1 bt612.2.2.1) else (F0.j1 k t609 bt612.2.2.2 true bt612.1 bt612.2.1 bt612.2.2.1))))))
def F0.j1 : Nat→List (S25)→Int→Bool→Int→Int→ByteArray→Option (Bool)
 | 0,_,_,_,_,_,_=>none
 | k+1,x5,x7,x55,x617000,x617001,x617002=>if x55=true then (some false) else (if x7=0 then ((F08.f k x617000 x617001 x617002).bind fun bt622=>(if bt622.2=0 then ((Fm.f k bt622.1 x5).bind fun t626=>(if t626=true then (if x617000=4 then (F0.j2 k x5) else (some false)) else (some false))) else (some false))) else (F0.j2 k x5))
def F0.j2 : Nat→List (S25)→Option (Bool)
 | 0,_=>none
 | k+1,x5=>F0.l0 k x5 (([] : List (S43))) (([(⟨#[98]⟩ : ByteArray),(⟨#[97]⟩ : ByteArray),(⟨#[100]⟩ : ByteArray),(⟨#[99]⟩ : ByteArray)] : List ByteArray)) 0
def F0.l0 : Nat→List (S25)→List (S43)→List ByteArray→Int→Option (Bool)
 | 0,_,_,_,_=>none
 | k+1,x5,x12,x13,x14=>if x14<(x5.length : Int) then (if 0≤x14 then (if x14<(x13.length : Int) then (if x12.length<2932031007402 then (F0.l0 k x5 (x12 ++ [(⟨rdOf ByteArray.empty x13 x14,(⟨(rd_T25 x5 x14).f0,(rd_T25 x5 x14).f1,(rd_T25 x5 x14).f2⟩ : S25)⟩ : S43)]) x13 (wrap64 (x14+1))) else (none)) else (none)) else (none)) else ((Fc.f k x12).bind fun bt638=>((Fc.f k x12).bind fun bt643=>(if bt638.2.2.2=bt643.2.2.2 then (F0.j4 k x12 bt638.2.2.2 (!(bt638.1 == bt643.1) || (!(bt638.2.1 == bt643.2.1) || (!(bt638.2.2.1.toList == bt643.2.2.1.toList)))) bt638.1 bt638.2.1 bt638.2.2.1) else (F0.j4 k x12 bt638.2.2.2 true bt638.1 bt638.2.1 bt638.2.2.1))))
def F0.j4 : Nat→List (S43)→Int→Bool→Int→Int→ByteArray→Option (Bool)
 | 0,_,_,_,_,_,_=>none
 | k+1,x12,x16,x113,x643000,x643001,x643002=>if x113=true then (some false) else (if x16=0 then ((F0b.f k x643000 x643001 x643002).bind fun bt653=>(if bt653.2=0 then (if (bt653.1.length : Int)=(x12.length : Int) then (F0.j5 k x12 bt653.1 (x643000 != 5)) else (F0.j5 k x12 bt653.1 true)) else (F0.j5 k x12 bt653.1 true))) else ((F1.f k x12).bind fun bt648=>(some (x16 == bt648.2.2.2))))
def F0.j5 : Nat→List (S43)→List (S43)→Bool→Option (Bool)
 | 0,_,_,_=>none
 | k+1,x12,x21,x142=>if x142=true then (some false) else (F0.l1 k x12 x21 0)
def F0.l1 : Nat→List (S43)→List (S43)→Int→Option (Bool)
 | 0,_,_,_=>none
 | k+1,x12,x21,x23=>if x23<(x21.length : Int) then (if x23 > 0 then (if 0≤(wrap64 (x23 - 1)) then (if (wrap64 (x23 - 1))<(x21.length : Int) then (if 0≤x23 then (F0.j7 k x12 x21 x23 (!(Op.bytesLess (((rd_T43 x21 (wrap64 (x23 - 1))).f0).toList) (((rd_T43 x21 x23).f0).toList)))) else (none)) else (none)) else (none)) else (F0.j7 k x12 x21 x23 false)) else (some true)
def F0.j7 : Nat→List (S43)→List (S43)→Int→Bool→Option (Bool)
 | 0,_,_,_,_=>none
 | k+1,x12,x21,x23,x164=>if x164=true then (some false) else (F0.l2 k x12 x21 x23 false 0)
def F0.l2 : Nat→List (S43)→List (S43)→Int→Bool→Int→Option (Bool)
 | 0,_,_,_,_,_=>none
 | k+1,x12,x21,x23,x24,x25=>if x25<(x12.length : Int) then (if x24=true then (F0.l2 k x12 x21 x23 true (wrap64 (x25+1))) else (if 0≤x25 then (if 0≤x23 then (if x23<(x21.length : Int) then (F0.l2 k x12 x21 x23 ((((rd_T43 x12 x25).f0).toList) == (((rd_T43 x21 x23).f0).toList) && ((((rd_T43 x12 x25).f1.f0) == ((rd_T43 x21 x23).f1.f0) && (((rd_T43 x12 x25).f1.f1) == ((rd_T43 x21 x23).f1.f1) && ((((rd_T43 x12 x25).f1.f2).toList) == (((rd_T43 x21 x23).f1.f2).toList)))))) (wrap64 (x25+1))) else (none)) else (none)) else (none))) else (if x24=true then (F0.l1 k x12 x21 (wrap64 (x23+1))) else (some false))
end
def F0.f (k : Nat) (l0 : List Int) (l1 : List Int) : Option (Bool):=if (l0.length : Int) > 1048576 then (F0.j0 k l0 l1 true) else (F0.j0 k l0 l1 (decide ((l1.length : Int) > 1048576)))
theorem F0.mono_l : ∀ k,(∀ y0 y1 y2,LeO (F0.j0 k y0 y1 y2) (F0.j0 (k+1) y0 y1 y2))∧(∀ y0 y1 y2 y3 y4 y5,LeO (F0.j1 k y0 y1 y2 y3 y4 y5) (F0.j1 (k+1) y0 y1 y2 y3 y4 y5))∧(∀ y0,LeO (F0.j2 k y0) (F0.j2 (k+1) y0))∧(∀ y0 y1 y2 y3,LeO (F0.l0 k y0 y1 y2 y3) (F0.l0 (k+1) y0 y1 y2 y3))∧(∀ y0 y1 y2 y3 y4 y5,LeO (F0.j4 k y0 y1 y2 y3 y4 y5) (F0.j4 (k+1) y0 y1 y2 y3 y4 y5))∧(∀ y0 y1 y2,LeO (F0.j5 k y0 y1 y2) (F0.j5 (k+1) y0 y1 y2))∧(∀ y0 y1 y2,LeO (F0.l1 k y0 y1 y2) (F0.l1 (k+1) y0 y1 y2))∧(∀ y0 y1 y2 y3,LeO (F0.j7 k y0 y1 y2 y3) (F0.j7 (k+1) y0 y1 y2 y3))∧(∀ y0 y1 y2 y3 y4,LeO (F0.l2 k y0 y1 y2 y3 y4) (F0.l2 (k+1) y0 y1 y2 y3 y4))
 | 0=>⟨fun _ _ _ r h=>by simp [F0.j0] at h,fun _ _ _ _ _ _ r h=>by simp [F0.j1] at h,fun _ r h=>by simp [F0.j2] at h,fun _ _ _ _ r h=>by simp [F0.l0] at h,fun _ _ _ _ _ _ r h=>by simp [F0.j4] at h,fun _ _ _ r h=>by simp [F0.j5] at h,fun _ _ _ r h=>by simp [F0.l1] at h,fun _ _ _ _ r h=>by simp [F0.j7] at h,fun _ _ _ _ _ r h=>by simp [F0.l2] at h⟩
 | k+1=>by
  obtain ⟨ih0,ih1,ih2,ih3,ih4,ih5,ih6,ih7,ih8⟩:=F0.mono_l k;refine ⟨?_,?_,?_,?_,?_,?_,?_,?_,?_⟩
  ·
   intro y0 y1 y2
   unfold F0.j0
   repeat' first|(with_reducible first|exact ih0 _ _ _|exact ih1 _ _ _ _ _ _|exact ih2 _|exact ih3 _ _ _ _|exact ih4 _ _ _ _ _ _|exact ih5 _ _ _|exact ih6 _ _ _|exact ih7 _ _ _ _|exact ih8 _ _ _ _ _|exact F1.mono _ _|exact Fc.mono _ _|exact Fk.mono _ _ _|exact F09.mono _ _|exact Fj.mono _ _|exact F08.mono _ _ _ _|exact Fm.mono _ _ _|exact F0b.mono _ _ _ _|exact zQ _|exact zN _|refine zP ?_ ?_|refine zO ?_ (fun _=>?_))|refine zP ?_ ?_|refine zO ?_ (fun _=>?_)
  ·
   intro y0 y1 y2 y3 y4 y5
   unfold F0.j1
   repeat' first|(with_reducible first|exact ih0 _ _ _|exact ih1 _ _ _ _ _ _|exact ih2 _|exact ih3 _ _ _ _|exact ih4 _ _ _ _ _ _|exact ih5 _ _ _|exact ih6 _ _ _|exact ih7 _ _ _ _|exact ih8 _ _ _ _ _|exact F1.mono _ _|exact Fc.mono _ _|exact Fk.mono _ _ _|exact F09.mono _ _|exact Fj.mono _ _|exact F08.mono _ _ _ _|exact Fm.mono _ _ _|exact F0b.mono _ _ _ _|exact zQ _|exact zN _|refine zP ?_ ?_|refine zO ?_ (fun _=>?_))|refine zP ?_ ?_|refine zO ?_ (fun _=>?_)
  ·
   intro y0
   unfold F0.j2
   repeat' first|(with_reducible first|exact ih0 _ _ _|exact ih1 _ _ _ _ _ _|exact ih2 _|exact ih3 _ _ _ _|exact ih4 _ _ _ _ _ _|exact ih5 _ _ _|exact ih6 _ _ _|exact ih7 _ _ _ _|exact ih8 _ _ _ _ _|exact F1.mono _ _|exact Fc.mono _ _|exact Fk.mono _ _ _|exact F09.mono _ _|exact Fj.mono _ _|exact F08.mono _ _ _ _|exact Fm.mono _ _ _|exact F0b.mono _ _ _ _|exact zQ _|exact zN _|refine zP ?_ ?_|refine zO ?_ (fun _=>?_))|refine zP ?_ ?_|refine zO ?_ (fun _=>?_)
  ·
   intro y0 y1 y2 y3
   unfold F0.l0
   repeat' first|(with_reducible first|exact ih0 _ _ _|exact ih1 _ _ _ _ _ _|exact ih2 _|exact ih3 _ _ _ _|exact ih4 _ _ _ _ _ _|exact ih5 _ _ _|exact ih6 _ _ _|exact ih7 _ _ _ _|exact ih8 _ _ _ _ _|exact F1.mono _ _|exact Fc.mono _ _|exact Fk.mono _ _ _|exact F09.mono _ _|exact Fj.mono _ _|exact F08.mono _ _ _ _|exact Fm.mono _ _ _|exact F0b.mono _ _ _ _|exact zQ _|exact zN _|refine zP ?_ ?_|refine zO ?_ (fun _=>?_))|refine zP ?_ ?_|refine zO ?_ (fun _=>?_)
  ·
   intro y0 y1 y2 y3 y4 y5
   unfold F0.j4
   repeat' first|(with_reducible first|exact ih0 _ _ _|exact ih1 _ _ _ _ _ _|exact ih2 _|exact ih3 _ _ _ _|exact ih4 _ _ _ _ _ _|exact ih5 _ _ _|exact ih6 _ _ _|exact ih7 _ _ _ _|exact ih8 _ _ _ _ _|exact F1.mono _ _|exact Fc.mono _ _|exact Fk.mono _ _ _|exact F09.mono _ _|exact Fj.mono _ _|exact F08.mono _ _ _ _|exact Fm.mono _ _ _|exact F0b.mono _ _ _ _|exact zQ _|exact zN _|refine zP ?_ ?_|refine zO ?_ (fun _=>?_))|refine zP ?_ ?_|refine zO ?_ (fun _=>?_)
  ·
   intro y0 y1 y2
   unfold F0.j5
   repeat' first|(with_reducible first|exact ih0 _ _ _|exact ih1 _ _ _ _ _ _|exact ih2 _|exact ih3 _ _ _ _|exact ih4 _ _ _ _ _ _|exact ih5 _ _ _|exact ih6 _ _ _|exact ih7 _ _ _ _|exact ih8 _ _ _ _ _|exact F1.mono _ _|exact Fc.mono _ _|exact Fk.mono _ _ _|exact F09.mono _ _|exact Fj.mono _ _|exact F08.mono _ _ _ _|exact Fm.mono _ _ _|exact F0b.mono _ _ _ _|exact zQ _|exact zN _|refine zP ?_ ?_|refine zO ?_ (fun _=>?_))|refine zP ?_ ?_|refine zO ?_ (fun _=>?_)
  ·
   intro y0 y1 y2
   unfold F0.l1
   repeat' first|(with_reducible first|exact ih0 _ _ _|exact ih1 _ _ _ _ _ _|exact ih2 _|exact ih3 _ _ _ _|exact ih4 _ _ _ _ _ _|exact ih5 _ _ _|exact ih6 _ _ _|exact ih7 _ _ _ _|exact ih8 _ _ _ _ _|exact F1.mono _ _|exact Fc.mono _ _|exact Fk.mono _ _ _|exact F09.mono _ _|exact Fj.mono _ _|exact F08.mono _ _ _ _|exact Fm.mono _ _ _|exact F0b.mono _ _ _ _|exact zQ _|exact zN _|refine zP ?_ ?_|refine zO ?_ (fun _=>?_))|refine zP ?_ ?_|refine zO ?_ (fun _=>?_)
  ·
   intro y0 y1 y2 y3
   unfold F0.j7
   repeat' first|(with_reducible first|exact ih0 _ _ _|exact ih1 _ _ _ _ _ _|exact ih2 _|exact ih3 _ _ _ _|exact ih4 _ _ _ _ _ _|exact ih5 _ _ _|exact ih6 _ _ _|exact ih7 _ _ _ _|exact ih8 _ _ _ _ _|exact F1.mono _ _|exact Fc.mono _ _|exact Fk.mono _ _ _|exact F09.mono _ _|exact Fj.mono _ _|exact F08.mono _ _ _ _|exact Fm.mono _ _ _|exact F0b.mono _ _ _ _|exact zQ _|exact zN _|refine zP ?_ ?_|refine zO ?_ (fun _=>?_))|refine zP ?_ ?_|refine zO ?_ (fun _=>?_)
  intro y0 y1 y2 y3 y4;unfold F0.l2
  repeat' first|(with_reducible first|exact ih0 _ _ _|exact ih1 _ _ _ _ _ _|exact ih2 _|exact ih3 _ _ _ _|exact ih4 _ _ _ _ _ _|exact ih5 _ _ _|exact ih6 _ _ _|exact ih7 _ _ _ _|exact ih8 _ _ _ _ _|exact F1.mono _ _|exact Fc.mono _ _|exact Fk.mono _ _ _|exact F09.mono _ _|exact Fj.mono _ _|exact F08.mono _ _ _ _|exact Fm.mono _ _ _|exact F0b.mono _ _ _ _|exact zQ _|exact zN _|refine zP ?_ ?_|refine zO ?_ (fun _=>?_))|refine zP ?_ ?_|refine zO ?_ (fun _=>?_)
theorem F0.mono : ∀ a0 a1 k,LeO (F0.f k a0 a1) (F0.f (k+1) a0 a1):=by
 intro a0 a1 k;obtain ⟨ih0,ih1,ih2,ih3,ih4,ih5,ih6,ih7,ih8⟩:=F0.mono_l k;unfold F0.f
 repeat' first|(with_reducible first|exact ih0 _ _ _|exact ih1 _ _ _ _ _ _|exact ih2 _|exact ih3 _ _ _ _|exact ih4 _ _ _ _ _ _|exact ih5 _ _ _|exact ih6 _ _ _|exact ih7 _ _ _ _|exact ih8 _ _ _ _ _|exact F1.mono _ _|exact Fc.mono _ _|exact Fk.mono _ _ _|exact F09.mono _ _|exact Fj.mono _ _|exact F08.mono _ _ _ _|exact Fm.mono _ _ _|exact F0b.mono _ _ _ _|exact zQ _|exact zN _|refine zP ?_ ?_|refine zO ?_ (fun _=>?_))|refine zP ?_ ?_|refine zO ?_ (fun _=>?_)
def F0.T17 : Bool×List (List Nat×List Nat):=(true,[([],[]),([],[]),([],[]),([1,2],[1,2]),([3],[3]),([],[]),([],[]),([5,6],[5,6]),([7],[7]),([4,8],[4,8]),([9],[9]),([0,10],[0,10]),([11,11,0,1,2,3,4,5,6,7,8,9,10,11],[0,11])])
def F0.B17 : List Nat:=[0,0,0,6,14,0,0,96,224,510,1022,2047,4095]
theorem F0.tab17 : rtab .any (opsOf Try.f4 17)=F0.T17:=by kernel_rfl
theorem F0.bits17 : waitsOk F0.T17.2 F0.B17=true:=by kernel_rfl
def F0.T31 : Bool×List (List Nat×List Nat):=(true,[([],[]),([0],[0]),([1],[1]),([2],[2]),([2],[2]),([4,2],[2,4]),([3,5,2],[2,3,5]),([6,2],[2,6]),([7,2],[2,7]),([2],[2]),([2],[2]),([9,10,2],[2,9,10]),([11,2],[2,11]),([12,2],[2,12]),([8,13,2],[2,8,13]),([2,14],[2,14])])
def F0.B31 : List Nat:=[0,1,3,7,7,23,63,127,255,7,7,1543,3591,7687,16383,32767]
theorem F0.tab31 : rtab .any (opsOf Try.f4 31)=F0.T31:=by kernel_rfl
theorem F0.bits31 : waitsOk F0.T31.2 F0.B31=true:=by kernel_rfl
def F0.T37 : Bool×List (List Nat×List Nat):=(true,[([],[]),([0],[0]),([1],[1]),([1],[1]),([2,3,1],[1,2,3]),([4,1],[1,4]),([1],[1]),([1],[1]),([6,7,1],[1,6,7]),([8,1],[1,8]),([5,9,1],[1,5,9]),([1,10],[1,10]),([11,1,0,1,2,3,4,5,6,7,8,9,10,11],[0,11])])
def F0.B37 : List Nat:=[0,1,3,3,15,31,3,3,195,451,1023,2047,4095]
theorem F0.tab37 : rtab .any (opsOf Try.f4 37)=F0.T37:=by kernel_rfl
theorem F0.bits37 : waitsOk F0.T37.2 F0.B37=true:=by kernel_rfl
set_option maxHeartbeats 8000000 in
set_option maxRecDepth 100000 in
theorem F0.calls (k : Nat) (A0 : Option Addr) (c0 : Nat) (l0 : List Int) (A1 : Option Addr) (c1 : Nat) (l1 : List Int) (r : Bool) (w : World) (hr0 : Kd.C (Kd.int .u8) w A0 l0.length l0) (hc0 : l0.length≤c0) (hr1 : Kd.C (Kd.int .u8) w A1 l1.length l1) (hc1 : l1.length≤c1) (h : F0.f k l0 l1=some r) (hr_ : r=true) :
  Calls Try.prog 4 #[.slice A0 l0.length c0,.slice A1 l1.length c1] w fun e w' => e = .returned (.bool r)∧Below w.heap.size w w':=by
 have hu25:=Try.underlying25;have hu43:=Try.underlying43;have HR0:=zh hr0;have HC0:=zh hc0;clear hr0 hc0;have HR1:=zh hr1;have HC1:=zh hc1;clear hr1 hc1;have HB:=zh (Below.refl w.heap.size w);have H : (if (l0.length : Int) > 1048576 then (F0.j0 k l0 l1 true) else (F0.j0 k l0 l1 (decide ((l1.length : Int) > 1048576))))=some r:=h;clear h;have HC3:=zh H;clear H
 go_enter Try.func4,Try.ntmps4
 go_upto_region 1 with (fail)
 go_cut [33] (fun v33 wc => ∃ (kq : Nat) (x33_2 : Bool),v33 = .bool x33_2∧Aside0 (F0.j0 kq l0 l1 x33_2=some r)∧Aside0 (kq≤k)∧Aside0 (Below w.heap.size w wc))
 case first =>
  have H:=HC3.out;clear HC3
  by_cases c4 : (l0.length : Int) > 1048576
  ·
   rw [if_pos c4] at H
   have c4b0 : decide (1048576<(l0.length : Int))=true:=decide_eq_true c4;have c4b1 : decide (1048576<l0.length)=true:=decide_eq_true jH;clear c4;(first|rw [c4b0]|(simp only [zG,zH];rw [c4b0])|skip);have H':=zh H;clear H
   go_wp2
   go_meet
   case rel=>exact ⟨_,(true),jC,H',⟨jY⟩,⟨jG⟩⟩
  rw [if_neg c4] at H;have c4b0 : decide (1048576<(l0.length : Int))=false:=decide_eq_false c4;have c4b1 : decide (1048576<l0.length)=false:=decide_eq_false jH;clear c4;(first|rw [c4b0]|(simp only [zG,zH];rw [c4b0])|skip);have H':=zh H;clear H
  go_wp2
  go_meet
  case rel=>exact ⟨_,(decide ((l1.length : Int) > 1048576)),jC,H',⟨jY⟩,⟨jG⟩⟩
 case rest =>
  clear HC3
  try clear c1
  try clear p2
  try clear c4 c4b0 c4b1
  obtain ⟨kq,x33_2,rfl,HA,HJ2,HB⟩:=hcut
  cases kq with
  | zero=>exact absurd HA.out (by simp [F0.j0])
  | succ kj2 =>
   have H:=HA.out;clear HA;simp only [F0.j0] at H
   by_cases c5 : x33_2=true
   ·
    subst c5
    rw [if_pos rfl] at H;obtain rfl:=zU H
    go_wp2
    go_ret
    exact ⟨jF,jG⟩
   replace c5:=yb.mpr c5;subst c5;rw [if_neg (show ¬ (false=true) by decide)] at H;replace H:=zT.mp H;obtain ⟨t608,A60,H⟩:=H;have A6:=zh A60;clear A60;replace H:=zT.mp H;obtain ⟨t609,A70,H⟩:=H;have A7:=zh A70;clear A70;replace H:=zT.mp H;obtain ⟨⟨t612,t613,t614,t615⟩,A80,H⟩:=H;have A8:=zh A80;clear A80;replace H:=zT.mp H;obtain ⟨⟨t617,t618,t619,t620⟩,A90,H⟩:=H;have A9:=zh A90;clear A90;have HC10:=zh H;clear H
   go_upto_region 6 with (first|((with_reducible refine zJ (f:=12) rfl ?_);refine yj (some 36) rfl rfl Try.func12 jA rfl #[.slice A1 l1.length c1,.int .i64 0,.int .i64 4] rfl jD ?_;(with_reducible refine (F0t.calls  _ _ l1 0 4 t608 _ ?side1 ?side2 A6.out).mono ?_);(case side1=>repeat (first|exact (Kd.C_below HR1.out HB.out)|(with_reducible refine Kd.C_alloc ?_ _)|(with_reducible refine Kd.C_drewN ?_ _)|(with_reducible refine Kd.C_drew ?_)));(case side2=>exact HC1.out);rintro e w' ⟨rfl,⟨nd,rfl⟩⟩;refine ⟨_,rfl,?_⟩;(try (rw [drewN_self wc];generalize hq_ : World.drewN wc _=wc;replace HB : Aside0 (Below w.heap.size w wc):=⟨by rw [← hq_];exact jG⟩;clear hq_)))|((with_reducible refine zJ (f:=11) rfl ?_);refine yj (some 37) rfl rfl Try.func11 jA rfl #[.slice A0 l0.length c0,.int .i64 t608] rfl jD ?_;(with_reducible refine (Fk.calls kj2  _ _ l0 t608 t609 _ ?side1 ?side2 A7.out).mono ?_);(case side1=>repeat (first|exact (Kd.C_below HR0.out HB.out)|(with_reducible refine Kd.C_alloc ?_ _)|(with_reducible refine Kd.C_drewN ?_ _)|(with_reducible refine Kd.C_drew ?_)));(case side2=>exact HC0.out);rintro e w11 ⟨v610,rfl,ho0,hb⟩;refine ⟨_,rfl,?_⟩;have HO611:=zh (yy ho0 (zB jG));replace HB:=zh (zC jG hb);(try clear hb);(try clear hb2);(try clear hk);(try clear hi);(try clear ho0);obtain ⟨Ao12,co12,eo12⟩:=yk HO611.out;subst eo12)|((with_reducible refine zJ (f:=13) rfl ?_);refine yj (some 40) rfl rfl Try.func13 jA rfl #[.slice Ao12 t609.length co12] rfl jD ?_;(with_reducible refine (F09.calls kj2  _ _ t609 t612 t613 t614 t615 _ ?side1 ?side2 A8.out).mono ?_);(case side1=>repeat (first|exact (yh HO611.out).2.2|(with_reducible refine Kd.C_alloc ?_ _)|(with_reducible refine Kd.C_drewN ?_ _)|(with_reducible refine Kd.C_drew ?_)));(case side2=>exact (yh HO611.out).2.1);rintro e w13 ⟨rfl,hb⟩;refine ⟨_,rfl,?_⟩;replace HO611:=zh (yg jCY hb);replace HB:=zh (zC jG hb);(try clear hb);(try clear hb2);(try clear hk);(try clear hi))|((with_reducible refine zK (N:=6) rfl ?_);(try (refine yz (by rfl) ?_;dsimp only));refine zI ?hg (N:=6) ?hd (cs:=#[.int .i64 0,.int .i64 0,.string (⟨#[]⟩ : ByteArray)]) (t:=25) ?hr ?_;(case hd=>rfl);(case hg=>rfl);(case hr=>go_simp <;> rfl);intro gb616 hg w14 hbox hb;replace HO611:=zh (yg (Kd.R_elderB jCY gb616 (Nat.le_of_eq hg.symm)) hb);have BK616:=zh (hbox);have hH_:=cH jG hb hg;have GW616:=zh hH_.1;have GE616:=GW616;replace HB:=zh hH_.2;clear hb hbox hg hH_;obtain ⟨hcz15_0,hcz15_1,hcz15_2,hfz15_0,hfz15_1,hfz15_2⟩:=cB3 BK616.out)|((with_reducible refine zJ (f:=14) rfl ?_);refine yj (some 45) rfl rfl Try.func14 jA rfl #[.slice Ao12 t609.length co12] rfl jD ?_;(with_reducible refine (Fj.calls kj2  _ _ t609 t617 t618 t619 t620 _ ?side1 ?side2 A9.out).mono ?_);(case side1=>refine (yh (e:=25) (base:=w.heap.size) (ok:=fun k_=>(True∧k_≠gb616)) (n:=t609.length) (c:=co12) ?_).2.2;exact jDI);(case side2=>exact (yh HO611.out).2.1);rintro e w16 ⟨rfl,hb⟩;refine ⟨_,rfl,?_⟩;replace HO611:=zh (yg jDI hb);replace BK616:=zh (zD (g:=gb616) (o:=.cells #[.int .i64 t612,.int .i64 t613,.string t614] 25 (0,0)) (by (with_reducible repeat first|apply ze|apply zf|apply zg);refine zL (cs:=#[.int .i64 t612,.int .i64 t613,.string (⟨#[]⟩ : ByteArray)]) ?_ 2 _ rfl;(with_reducible repeat first|apply ze|apply zf|apply zg);refine zL (cs:=#[.int .i64 t612,.int .i64 0,.string (⟨#[]⟩ : ByteArray)]) ?_ 1 _ rfl;(with_reducible repeat first|apply ze|apply zf|apply zg);refine zL (cs:=#[.int .i64 0,.int .i64 0,.string (⟨#[]⟩ : ByteArray)]) ?_ 0 _ rfl;(with_reducible repeat first|apply ze|apply zf|apply zg);exact BK616.out) hb);replace HB:=zh (zC jDJ hb);(try clear hb);(try clear hb2);(try clear hk);(try clear hi))|((with_reducible refine zK (N:=8) rfl ?_);(try (refine yz (by rfl) ?_;dsimp only));refine zI ?hg (N:=8) ?hd (cs:=#[.int .i64 0,.int .i64 0,.string (⟨#[]⟩ : ByteArray)]) (t:=25) ?hr ?_;(case hd=>rfl);(case hg=>rfl);(case hr=>go_simp <;> rfl);intro gb621 hg w17 hbox hb;replace HO611:=zh (yg (Kd.R_elderB jCY gb621 (Nat.le_of_eq hg.symm)) hb);have BK621:=zh (hbox);have hH_:=cH jDJ hb hg;have GW621:=zh hH_.1;have GE621:=GW621;replace HB:=zh hH_.2;have NB616_621:=zh ((jB0 : gb616≠gb621));have NB621_616:=zh NB616_621.out.symm;replace BK616:=zh (cD BK616.out jU hb);clear hb hbox hg hH_;have hnb18:=NB621_616.out;have hnc18:=NB616_621.out;obtain ⟨hcz19_0,hcz19_1,hcz19_2,hfz19_0,hfz19_1,hfz19_2⟩:=cB3 BK621.out))
   (try simp only [Act.put,zi,zj,zk])
   go_cut [55] (fun v55 wc => ∃ (kq : Nat) (x55_9 : Bool),v55 = .bool x55_9∧Aside0 (F0.j1 kq t609 t615 x55_9 t612 t613 t614=some r)∧Aside0 (kq≤kj2)∧Aside0 (Kd.R k25 25 wc w.heap.size (fun k_=>k_≠gb616∧k_≠gb621) (.slice Ao12 t609.length co12) t609)∧Aside0 (wc.heap[gb616]? = some (.cells #[.int .i64 t612,.int .i64 t613,.string t614] 25 (0,0)))∧Aside0 (wc.heap[gb621]? = some (.cells #[.int .i64 t617,.int .i64 t618,.string t619] 25 (0,0)))∧Aside0 (Below w.heap.size w wc))
   case first =>
    have H:=HC10.out;clear HC10
    by_cases c20 : t615=t620
    ·
     rw [if_pos c20] at H
     have c20b0 : (t615 == t620)=true:=ya.mpr c20;have c20b1 : (t615 != t620)=false:=zX.mpr c20;clear c20;(first|rw [c20b0]|(simp only [zG,zH];rw [c20b0])|skip);have H':=zh H;clear H;have hnb21:=NB616_621.out;have hnc21:=NB621_616.out;obtain ⟨hcz22_0,hcz22_1,hcz22_2,hfz22_0,hfz22_1,hfz22_2⟩:=cB3 BK616.out;obtain ⟨hcz23_0,hcz23_1,hcz23_2,hfz23_0,hfz23_1,hfz23_2⟩:=cB3 BK621.out
     go_wp2
     go_meet
     case rel=>exact ⟨_,((!(t612 == t617) || (!(t613 == t618) || (!(t614.toList == t619.toList))))),jC,H',⟨by have:=HJ2.out;first|omega|exact ye _⟩,⟨jDK⟩,⟨jDL⟩,⟨jDM⟩,⟨jm⟩⟩
    rw [if_neg c20] at H;have c20b0 : (t615 == t620)=false:=zY.mpr c20;have c20b1 : (t615 != t620)=true:=zZ.mpr c20;(first|rw [c20b0]|(simp only [zG,zH];rw [c20b0])|skip);have H':=zh H;clear H
    go_wp2
    go_meet
    case rel=>exact ⟨_,(true),jC,H',⟨by have:=HJ2.out;first|omega|exact ye _⟩,⟨jDK⟩,⟨jDL⟩,⟨jDM⟩,⟨jm⟩⟩
   case rest =>
    clear HC10
    try clear c1 c2
    try clear p2
    try clear c4 c4b0 c4b1 c5 c11 c12 c13 c14 c18 c20 c20b0 c20b1 c21
    try clear hcz15_0 hcz15_1 hcz15_2
    try clear hcz19_0 hcz19_1 hcz19_2
    try clear hcz22_0 hcz22_1 hcz22_2
    try clear hcz23_0 hcz23_1 hcz23_2
    try clear hfz15_0 hfz15_1 hfz15_2
    try clear hfz19_0 hfz19_1 hfz19_2
    try clear hfz22_0 hfz22_1 hfz22_2
    try clear hfz23_0 hfz23_1 hfz23_2
    try clear p2
    obtain ⟨kq,x55_9,rfl,HA,HJ9,HO_5,BK616,BK621,HB⟩:=hcut
    cases kq with
    | zero=>exact absurd HA.out (by simp [F0.j1])
    | succ kj9 =>
     have H:=HA.out;clear HA;simp only [F0.j1] at H
     by_cases c24 : x55_9=true
     ·
      subst c24
      have H1 : (some false)=some r:=by rw [if_pos rfl] at H;exact H
      exact absurd H1 jBI
     replace c24:=yb.mpr c24;subst c24;rw [if_neg (show ¬ (false=true) by decide)] at H;have HC25:=zh H;clear H
     go_upto_if 57 with (fail)
     go_cut [] (fun wc => ∃ (kq : Nat),Aside0 (F0.j2 kq t609=some r)∧Aside0 (kq≤kj9)∧Aside0 (Kd.R k25 25 wc w.heap.size (fun k_=>k_≠gb616∧k_≠gb621) (.slice Ao12 t609.length co12) t609)∧Aside0 (wc.heap[gb616]? = some (.cells #[.int .i64 t612,.int .i64 t613,.string t614] 25 (0,0)))∧Aside0 (wc.heap[gb621]? = some (.cells #[.int .i64 t617,.int .i64 t618,.string t619] 25 (0,0)))∧Aside0 (Below w.heap.size w wc))
     case first =>
      have H:=HC25.out;clear HC25
      by_cases c26 : t615=0
      ·
       rw [if_pos c26] at H
       have c26b0 : (t615 == 0)=true:=ya.mpr c26;have c26b1 : (t615 != 0)=false:=zX.mpr c26;clear c26;(first|rw [c26b0]|(simp only [zG,zH];rw [c26b0])|skip);replace H:=zT.mp H;obtain ⟨⟨t622,t625⟩,A270,H⟩:=H;have A27:=zh A270;clear A270
       by_cases c28 : t625=0
       ·
        rw [if_pos c28] at H
        have c28b0 : (t625 == 0)=true:=ya.mpr c28;have c28b1 : (t625 != 0)=false:=zX.mpr c28;clear c28;replace H:=zT.mp H;obtain ⟨t626,A290,H⟩:=H;have A29:=zh A290;clear A290
        by_cases c30 : t626=true
        ·
         subst c30
         rw [if_pos rfl] at H
         by_cases c31 : t612=4
         ·
          rw [if_pos c31] at H
          have c31b0 : (t612 == 4)=true:=ya.mpr c31;have c31b1 : (t612 != 4)=false:=zX.mpr c31;clear c31;have H':=zh H;clear H;have hnb32:=NB616_621.out;have hnc32:=NB621_616.out;obtain ⟨hcz33_0,hcz33_1,hcz33_2,hfz33_0,hfz33_1,hfz33_2⟩:=cB3 BK616.out
          go_wp2_with (first|((with_reducible refine zJ (f:=15) rfl ?_);refine yj (some 60) rfl rfl Try.func15 jA rfl #[.agg #[.int .i64 t612,.int .i64 t613,.string t614]] rfl jD ?_;(with_reducible refine (F08.calls kj9  t612 t613 t614 t622 t625 _ A27.out).mono ?_);rintro e w34 ⟨v623,rfl,ho0,hb⟩;refine ⟨_,rfl,?_⟩;have HO624:=zh (yy (Kd.R_newB (Kd.R_newB (Kd.R_new' ho0 (Kd.R_lt jI)) (g:=gb616) (o:=.cells #[.int .i64 t612,.int .i64 t613,.string t614] 25 (0,0)) jU) (g:=gb621) (o:=.cells #[.int .i64 t617,.int .i64 t618,.string t619] 25 (0,0)) jV) (zB jm));replace HO_5:=zh (Kd.R_elder' jI (Kd.R_base ho0) hb);replace BK616:=zh (cD BK616.out jU hb);replace BK621:=zh (cD BK621.out jV hb);replace HB:=zh (zC jm hb);(try clear hb);(try clear hb2);(try clear hk);(try clear hi);(try clear ho0);obtain ⟨Ao35,co35,eo35⟩:=yk HO624.out;subst eo35)|(go_at_call 16;(with_reducible refine (Fm.calls kj9  _ _ t622 _ _ t609 true _ ?side1 ?side2 ?side3 ?side4 A29.out).mono ?_);(case side1=>repeat (first|exact (yh HO624.out).2.2|(with_reducible refine Kd.C_alloc ?_ _)|(with_reducible refine Kd.C_drewN ?_ _)|(with_reducible refine Kd.C_drew ?_)));(case side2=>exact (yh HO624.out).2.1);(case side3=>repeat (first|exact (yh HO_5.out).2.2|(with_reducible refine Kd.C_alloc ?_ _)|(with_reducible refine Kd.C_drewN ?_ _)|(with_reducible refine Kd.C_drew ?_)));(case side4=>exact (yh HO_5.out).2.1);rintro e w' ⟨rfl,⟨nd,rfl⟩⟩;obtain ⟨hcz36_0,hcz36_1,hcz36_2,hfz36_0,hfz36_1,hfz36_2⟩:=cB3 BK616.out))
          go_meet
          case rel=>exact ⟨_,H',⟨jDN⟩,⟨by (with_reducible repeat (first|apply zm|apply zn|apply zo));exact zM HO_5.out (fun _ hk=>⟨hk.1.1,hk.1.2⟩)⟩,⟨jU⟩,⟨jV⟩,⟨jm⟩⟩
         rw [if_neg c31] at H;have c31b0 : (t612 == 4)=false:=zY.mpr c31;have c31b1 : (t612 != 4)=true:=zZ.mpr c31;obtain rfl:=zU H;have hnb37:=NB616_621.out;have hnc37:=NB621_616.out;obtain ⟨hcz38_0,hcz38_1,hcz38_2,hfz38_0,hfz38_1,hfz38_2⟩:=cB3 BK616.out
         go_wp2_with (first|((with_reducible refine zJ (f:=15) rfl ?_);refine yj (some 60) rfl rfl Try.func15 jA rfl #[.agg #[.int .i64 t612,.int .i64 t613,.string t614]] rfl jD ?_;(with_reducible refine (F08.calls kj9  t612 t613 t614 t622 t625 _ A27.out).mono ?_);rintro e w39 ⟨v623,rfl,ho0,hb⟩;refine ⟨_,rfl,?_⟩;have HO624:=zh (yy (Kd.R_newB (Kd.R_newB (Kd.R_new' ho0 (Kd.R_lt jI)) (g:=gb616) (o:=.cells #[.int .i64 t612,.int .i64 t613,.string t614] 25 (0,0)) jU) (g:=gb621) (o:=.cells #[.int .i64 t617,.int .i64 t618,.string t619] 25 (0,0)) jV) (zB jm));replace HO_5:=zh (Kd.R_elder' jI (Kd.R_base ho0) hb);replace BK616:=zh (cD BK616.out jU hb);replace BK621:=zh (cD BK621.out jV hb);replace HB:=zh (zC jm hb);(try clear hb);(try clear hb2);(try clear hk);(try clear hi);(try clear ho0);obtain ⟨Ao40,co40,eo40⟩:=yk HO624.out;subst eo40)|(go_at_call 16;(with_reducible refine (Fm.calls kj9  _ _ t622 _ _ t609 true _ ?side1 ?side2 ?side3 ?side4 A29.out).mono ?_);(case side1=>repeat (first|exact (yh HO624.out).2.2|(with_reducible refine Kd.C_alloc ?_ _)|(with_reducible refine Kd.C_drewN ?_ _)|(with_reducible refine Kd.C_drew ?_)));(case side2=>exact (yh HO624.out).2.1);(case side3=>repeat (first|exact (yh HO_5.out).2.2|(with_reducible refine Kd.C_alloc ?_ _)|(with_reducible refine Kd.C_drewN ?_ _)|(with_reducible refine Kd.C_drew ?_)));(case side4=>exact (yh HO_5.out).2.1);rintro e w' ⟨rfl,⟨nd,rfl⟩⟩;obtain ⟨hcz41_0,hcz41_1,hcz41_2,hfz41_0,hfz41_1,hfz41_2⟩:=cB3 BK616.out))
         go_ret
         exact ⟨jF,jm⟩
        replace c30:=yb.mpr c30;subst c30;have H1 : (some false)=some r:=by rw [if_neg (show ¬ (false=true) by decide)] at H;exact H
        exact absurd H1 jBI
       rw [if_neg c28] at H;have c28b0 : (t625 == 0)=false:=zY.mpr c28;have c28b1 : (t625 != 0)=true:=zZ.mpr c28;obtain rfl:=zU H;have hnb46:=NB616_621.out;have hnc46:=NB621_616.out;obtain ⟨hcz47_0,hcz47_1,hcz47_2,hfz47_0,hfz47_1,hfz47_2⟩:=cB3 BK616.out
       go_wp2_with (first|((with_reducible refine zJ (f:=15) rfl ?_);refine yj (some 60) rfl rfl Try.func15 jA rfl #[.agg #[.int .i64 t612,.int .i64 t613,.string t614]] rfl jD ?_;(with_reducible refine (F08.calls kj9  t612 t613 t614 t622 t625 _ A27.out).mono ?_);rintro e w48 ⟨v623,rfl,ho0,hb⟩;refine ⟨_,rfl,?_⟩;have HO624:=zh (yy (Kd.R_newB (Kd.R_newB (Kd.R_new' ho0 (Kd.R_lt jI)) (g:=gb616) (o:=.cells #[.int .i64 t612,.int .i64 t613,.string t614] 25 (0,0)) jU) (g:=gb621) (o:=.cells #[.int .i64 t617,.int .i64 t618,.string t619] 25 (0,0)) jV) (zB jm));replace HO_5:=zh (Kd.R_elder' jI (Kd.R_base ho0) hb);replace BK616:=zh (cD BK616.out jU hb);replace BK621:=zh (cD BK621.out jV hb);replace HB:=zh (zC jm hb);(try clear hb);(try clear hb2);(try clear hk);(try clear hi);(try clear ho0)))
       go_ret
       exact ⟨jF,jm⟩
      rw [if_neg c26] at H;have c26b0 : (t615 == 0)=false:=zY.mpr c26;have c26b1 : (t615 != 0)=true:=zZ.mpr c26;(first|rw [c26b0]|(simp only [zG,zH];rw [c26b0])|skip);have H':=zh H;clear H
      go_wp2
      go_meet
      case rel=>exact ⟨_,H',⟨jDN⟩,⟨jI⟩,⟨jU⟩,⟨jV⟩,⟨jm⟩⟩
     case rest =>
      clear HC25
      try clear c1 c2
      try clear p2
      try clear c3 c4 c4b0 c4b1 c5 c11 c12 c13 c14 c15 c18 c20 c20b0 c20b1 c21 c24 c26 c26b0 c26b1 c28 c28b0 c28b1 c30 c31 c31b0 c31b1 c32 c37 c42 c46
      try clear hcz15_0 hcz15_1 hcz15_2
      try clear hcz19_0 hcz19_1 hcz19_2
      try clear hcz22_0 hcz22_1 hcz22_2
      try clear hcz23_0 hcz23_1 hcz23_2
      try clear hcz33_0 hcz33_1 hcz33_2
      try clear hcz36_0 hcz36_1 hcz36_2
      try clear hcz38_0 hcz38_1 hcz38_2
      try clear hcz41_0 hcz41_1 hcz41_2
      try clear hcz43_0 hcz43_1 hcz43_2
      try clear hcz47_0 hcz47_1 hcz47_2
      try clear hfz15_0 hfz15_1 hfz15_2
      try clear hfz19_0 hfz19_1 hfz19_2
      try clear hfz22_0 hfz22_1 hfz22_2
      try clear hfz23_0 hfz23_1 hfz23_2
      try clear hfz33_0 hfz33_1 hfz33_2
      try clear hfz36_0 hfz36_1 hfz36_2
      try clear hfz38_0 hfz38_1 hfz38_2
      try clear hfz41_0 hfz41_1 hfz41_2
      try clear hfz43_0 hfz43_1 hfz43_2
      try clear hfz47_0 hfz47_1 hfz47_2
      try clear p2
      obtain ⟨kq,HA,HJ24,HO_5,BK616,BK621,HB⟩:=hcut
      cases kq with
      | zero=>exact absurd HA.out (by simp [F0.j2])
      | succ kj24 =>
       have H:=HA.out;clear HA;simp only [F0.j2] at H;obtain ⟨y627,hy627⟩ : ∃ y_ : List (S43),y_=(([] : List (S43))):=⟨_,rfl⟩;replace H : (F0.l0 kj24 t609 y627 (([(⟨#[98]⟩ : ByteArray),(⟨#[97]⟩ : ByteArray),(⟨#[100]⟩ : ByteArray),(⟨#[99]⟩ : ByteArray)] : List ByteArray)) 0)=some r:=by first|(rw [hy627];with_reducible exact H)|(have H2_:=(Option.bind_some _ _).symm.trans H;rw [hy627];with_reducible exact H2_)|(have H2_:=(Option.bind_some _ _).symm.trans H;with_reducible exact H2_)|with_reducible exact H|(rw [hy627];exact H)|exact H
       have Ny627:=zh hy627;clear hy627;obtain ⟨y630,hy630⟩ : ∃ y_ : List ByteArray,y_=(([(⟨#[98]⟩ : ByteArray),(⟨#[97]⟩ : ByteArray),(⟨#[100]⟩ : ByteArray),(⟨#[99]⟩ : ByteArray)] : List ByteArray)):=⟨_,rfl⟩;replace H : (F0.l0 kj24 t609 y627 y630 0)=some r:=by first|(rw [hy630];with_reducible exact H)|(have H2_:=(Option.bind_some _ _).symm.trans H;rw [hy630];with_reducible exact H2_)|(have H2_:=(Option.bind_some _ _).symm.trans H;with_reducible exact H2_)|with_reducible exact H|(rw [hy630];exact H)|exact H
       have Ny630:=zh hy630;clear hy630;have H':=zh H;clear H
       go_wp2_with (first|((with_reducible refine zK (N:=76) rfl ?_);(try (refine yz (by rfl) ?_;dsimp only));refine Kd.R_lit k43 _ 43 ?hg (N:=76) ?hd (xs:=([] : List (S43))) (inner:=[]) (ok:=fun _=>True) (okp:=fun _=>True) ?hr ?hp (fun _ hk=>hk) trivial (Below.refl _ _) (ye _) (by simp) ?_;(case hd=>rfl);(case hg=>rfl);(case hr=>go_simp <;> rfl);(case hp=>exact (Reps.none _ _));intro v628 w49 ho50 hb hg_ hnew_;clear hg_ hnew_;(first|rw [← Ny627.out] at ho50|(simp only [Int.reduceToNat] at ho50;rw [← Ny627.out] at ho50));replace HO_5:=zh (yg jI hb);have HO629:=zh (yy ho50 (zB jm));replace BK616:=zh (cD BK616.out jU hb);replace BK621:=zh (cD BK621.out jV hb);replace HB:=zh (zC jm hb);clear hb ho50)|((with_reducible refine zK (N:=77) rfl ?_);(try (refine yz (by rfl) ?_;dsimp only));refine Kd.R_lit Kd.string _ 9 ?hg (N:=77) ?hd (xs:=([(⟨#[98]⟩ : ByteArray),(⟨#[97]⟩ : ByteArray),(⟨#[100]⟩ : ByteArray),(⟨#[99]⟩ : ByteArray)] : List ByteArray)) (inner:=[.string (⟨#[98]⟩ : ByteArray),.string (⟨#[97]⟩ : ByteArray),.string (⟨#[100]⟩ : ByteArray),.string (⟨#[99]⟩ : ByteArray)]) (ok:=fun _=>True) (okp:=fun _=>True) ?hr ?hp (fun _ hk=>hk) trivial (Below.refl _ _) (ye _) (by simp) ?_;(case hd=>rfl);(case hg=>rfl);(case hr=>go_simp <;> rfl);(case hp=>exact (Reps.one (show Kd.M Kd.string _ _ _ (⟨#[98]⟩ : ByteArray) [.string (⟨#[98]⟩ : ByteArray)] from rfl) (Reps.one (show Kd.M Kd.string _ _ _ (⟨#[97]⟩ : ByteArray) [.string (⟨#[97]⟩ : ByteArray)] from rfl) (Reps.one (show Kd.M Kd.string _ _ _ (⟨#[100]⟩ : ByteArray) [.string (⟨#[100]⟩ : ByteArray)] from rfl) (Reps.one (show Kd.M Kd.string _ _ _ (⟨#[99]⟩ : ByteArray) [.string (⟨#[99]⟩ : ByteArray)] from rfl) (Reps.none _ _))))));intro v631 w51 ho52 hb hg_ hnew_;clear hg_ hnew_;(first|rw [← Ny630.out] at ho52|(simp only [Int.reduceToNat] at ho52;rw [← Ny630.out] at ho52));replace HO_5:=zh (yg jI hb);replace HO629:=zh (yg jDO hb);have HO632:=zh (yy ho52 (zB jm));replace BK616:=zh (cD BK616.out jU hb);replace BK621:=zh (cD BK621.out jV hb);replace HB:=zh (zC jm hb);clear hb ho52))
       go_loopg [12,14] kj24 (fun kq v12 v14 w' => ∃ (x12_4 : List (S43)) (x14_4 : Int),v14 = .int .i64 x14_4∧Aside0 (F0.l0 kq t609 x12_4 y630 x14_4=some r)∧Aside0 (kq≤kj24)∧Aside0 (Kd.R k25 25 w' w.heap.size (fun k_=>k_≠gb616∧k_≠gb621) (.slice Ao12 t609.length co12) t609)∧Aside0 (Kd.R k43 43 w' w.heap.size (fun _=>True) v12 x12_4)∧Aside0 (Kd.R Kd.string 9 w' w.heap.size (fun _=>True) v631 y630)∧Aside0 (w'.heap[gb616]? = some (.cells #[.int .i64 t612,.int .i64 t613,.string t614] 25 (0,0)))∧Aside0 (w'.heap[gb621]? = some (.cells #[.int .i64 t617,.int .i64 t618,.string t619] 25 (0,0)))∧Aside0 (Below w.heap.size w w'))
       case atStart=>exact ⟨(y627),(0),jC,H',⟨ye _⟩,⟨jI⟩,⟨jDO⟩,⟨by (with_reducible repeat (first|apply zm|apply zn|apply zo));exact HO632.out⟩,⟨jU⟩,⟨jV⟩,⟨jm⟩⟩
       case round =>
        as_aux_lemma =>
         clear H'
         try clear c1 c2
         try clear p2
         try clear c3 c4 c4b0 c4b1 c5 c11 c12 c13 c14 c15 c18 c20 c20b0 c20b1 c21 c24 c26 c26b0 c26b1 c28 c28b0 c28b1 c30 c31 c31b0 c31b1 c32 c37 c42 c46
         try clear hcz15_0 hcz15_1 hcz15_2
         try clear hcz19_0 hcz19_1 hcz19_2
         try clear hcz22_0 hcz22_1 hcz22_2
         try clear hcz23_0 hcz23_1 hcz23_2
         try clear hcz33_0 hcz33_1 hcz33_2
         try clear hcz36_0 hcz36_1 hcz36_2
         try clear hcz38_0 hcz38_1 hcz38_2
         try clear hcz41_0 hcz41_1 hcz41_2
         try clear hcz43_0 hcz43_1 hcz43_2
         try clear hcz47_0 hcz47_1 hcz47_2
         try clear hfz15_0 hfz15_1 hfz15_2
         try clear hfz19_0 hfz19_1 hfz19_2
         try clear hfz22_0 hfz22_1 hfz22_2
         try clear hfz23_0 hfz23_1 hfz23_2
         try clear hfz33_0 hfz33_1 hfz33_2
         try clear hfz36_0 hfz36_1 hfz36_2
         try clear hfz38_0 hfz38_1 hfz38_2
         try clear hfz41_0 hfz41_1 hfz41_2
         try clear hfz43_0 hfz43_1 hfz43_2
         try clear hfz47_0 hfz47_1 hfz47_2
         try clear p2
         obtain ⟨x12_4,x14_4,rfl,HA,HK4,HO_5,HO_12,HO_13,BK616,BK621,HB⟩:=hrel
         cases gk with
         | zero=>exact absurd HA.out (by simp [F0.l0])
         | succ k4 =>
          have H:=HA.out;clear HA;simp only [F0.l0] at H
          by_cases c53 : x14_4<(t609.length : Int)
          ·
           rw [if_pos c53] at H
           have c53b0 : decide (x14_4<(t609.length : Int))=true:=decide_eq_true c53;clear c53
           by_cases c54 : 0≤x14_4
           ·
            rw [if_pos c54] at H
            have c54b0 : decide (0≤x14_4)=true:=decide_eq_true c54;clear c54
            by_cases c55 : x14_4<(y630.length : Int)
            ·
             rw [if_pos c55] at H
             have c55b0 : decide (x14_4<(y630.length : Int))=true:=decide_eq_true c55;clear c55
             by_cases c56 : x12_4.length<2932031007402
             ·
              rw [if_pos c56] at H
              have LMc56:=zh c56;clear c56;obtain ⟨y635,hy635⟩ : ∃ y_ : List (S43),y_=(x12_4 ++ [(⟨rdOf ByteArray.empty y630 x14_4,(⟨(rd_T25 t609 x14_4).f0,(rd_T25 t609 x14_4).f1,(rd_T25 t609 x14_4).f2⟩ : S25)⟩ : S43)]):=⟨_,rfl⟩;replace H : (F0.l0 k4 t609 y635 y630 (wrap64 (x14_4+1)))=some r:=by first|(rw [hy635];with_reducible exact H)|(have H2_:=(Option.bind_some _ _).symm.trans H;rw [hy635];with_reducible exact H2_)|(have H2_:=(Option.bind_some _ _).symm.trans H;with_reducible exact H2_)|with_reducible exact H|(rw [hy635];exact H)|exact H
              have Ny635:=zh hy635;clear hy635;have H':=zh H;clear H
              try go_wp2
              replace HO_5:=zh (zo HO_5.out);replace HO_12:=zh (zo HO_12.out);replace HO_13:=zh (zo HO_13.out);replace BK616:=zh (zf BK616.out);replace BK621:=zh (zf BK621.out);replace HB:=zh (zc HB.out);obtain ⟨Ao58,co58,eo58⟩:=yk HO_13.out;(first|subst eo58|(injection eo58 with f1_ f2_ f3_;have f4_:=f1_.symm;have f5_:=f3_.symm;clear f1_ f2_ f3_;subst f4_;subst f5_));have p633 : 0≤(x14_4 : Int):=zy jE;have q633 : x14_4<(y630.length : Int):=zy jE;obtain ⟨ad633,e633,hx633_0⟩:=Kd.at_string (yh HO_13.out).2.2 x14_4 p633 q633
              cases e633
              replace p633:=eq_true p633;replace q633:=eq_true q633;have p634 : 0≤(x14_4 : Int):=zy jE;have q634 : x14_4<(t609.length : Int):=zy jE;obtain ⟨ad634,e634,hx634_0,hx634_1,hx634_2⟩:=at_T25 (yh HO_5.out).2.2 x14_4 p634 q634
              cases e634
              replace p634:=eq_true p634;replace q634:=eq_true q634;refine start_ (n:=13) (S:=fun w' => w'.cell? (ad633.add (x14_4).toNat)=some (.string (rdOf ByteArray.empty y630 x14_4))∧w'.cell? (ad634.add ((x14_4).toNat*3))=some (.int .i64 ((rd_T25 t609 x14_4).f0))∧w'.cell? ⟨(ad634.add ((x14_4).toNat*3)).block,(ad634.add ((x14_4).toNat*3)).off+1,none⟩=some (.int .i64 ((rd_T25 t609 x14_4).f1))∧w'.cell? ⟨(ad634.add ((x14_4).toNat*3)).block,(ad634.add ((x14_4).toNat*3)).off+2,none⟩=some (.string ((rd_T25 t609 x14_4).f2))) (ds:=[10,11]) (bm_ 0 13) jA rfl rfl ⟨hx633_0,hx634_0,hx634_1,hx634_2⟩ (fun hHeld=>?_);refine with_tabW F0.tab17 F0.bits17 (fun HT_ HW_=>?_);generalize wr.drew=w57 at HO_5 HO_12 HO_13 BK616 BK621 HB hx633_0 hx634_0 hx634_1 hx634_2 hHeld ⊢;refine pure_ (i:=0) (N:=some 84) (v:=?_) (a':=?_) (bm_ 1 13) rfl rfl (any_of HT_.out jA) (fun _ _ _ h=>h) (Or.inl ⟨by rfl,?_⟩) ?_ ?_;rotate_left;exact jb;rotate_left;exact jc
              refine pure_ (i:=1) (N:=some 85) (v:=?_) (a':=?_) (bm_ 2 13) rfl rfl (any_of HT_.out jA) (fun _ _ _ h=>h) (Or.inl ⟨by rfl,?_⟩) ?_ ?_;rotate_left;exact jb;rotate_left;exact jc
              refine pure_ (i:=2) (N:=some 86) (v:=?_) (a':=?_) (bm_ 3 13) rfl rfl (any_of HT_.out jA) (fun _ _ _ h=>h) (Or.inl ⟨by rfl,?_⟩) ?_ ?_;rotate_left;exact jb;rotate_left;exact jc
              refine pure_ (i:=3) (N:=some 87) (v:=?_) (a':=?_) (bm_ 4 13) rfl rfl (any_of HT_.out jA) (fun _ _ _ h=>h) (Or.inl ⟨by rfl,?_⟩) ?_ ?_;rotate_left;exact jb;rotate_left;exact jc
              refine pure_ (i:=5) (N:=some 89) (v:=?_) (a':=?_) #[true,true,true,true,false,true,false,false,false,false,false,false,false] rfl rfl (any_of HT_.out jA) (fun _ _ _ h=>h) (Or.inl ⟨by rfl,?_⟩) ?_ ?_;rotate_left;exact jb;rotate_left;exact jc
              refine pure_ (i:=6) (N:=some 90) (v:=?_) (a':=?_) #[true,true,true,true,false,true,true,false,false,false,false,false,false] rfl rfl (any_of HT_.out jA) (fun _ _ _ h=>h) (Or.inl ⟨by rfl,?_⟩) ?_ ?_;rotate_left;exact jb;rotate_left;exact jc
              refine pure_ (i:=7) (N:=some 91) (v:=?_) (a':=?_) #[true,true,true,true,false,true,true,true,false,false,false,false,false] rfl rfl (any_of HT_.out jA) (fun _ _ _ h=>h) (Or.inl ⟨by rfl,?_⟩) ?_ ?_;rotate_left;exact jb;rotate_left;exact jc
              refine take_ (i:=4) (N:=some 88) (v:=?_) (a':=?_) (bm_ 8 13) rfl rfl (yo HT_.out HW_.out jA) (fun _ _ _ h=>h) (Or.inl ⟨by rfl,?_⟩) hHeld ?_ ?_;rotate_left
              ·
               rintro w' ⟨s0,s1,s2,s3⟩
               go_simp
               with_reducible rfl
              rotate_left
              exact jc
              refine take_ (i:=8) (N:=some 92) (v:=?_) (a':=?_) (bm_ 9 13) rfl rfl (yo HT_.out HW_.out jA) (fun _ _ _ h=>h) (Or.inl ⟨by rfl,?_⟩) hHeld ?_ ?_;rotate_left
              ·
               rintro w' ⟨s0,s1,s2,s3⟩
               go_simp
               with_reducible rfl
              rotate_left
              exact jc
              refine pure_ (i:=9) (N:=some 93) (v:=?_) (a':=?_) (bm_ 10 13) rfl rfl (any_of HT_.out jA) (fun _ _ _ h=>h) (Or.inl ⟨by rfl,?_⟩) ?_ ?_;rotate_left;exact jb;rotate_left;exact jc
              refine last_ (i:=10) (N:=some 94) (bm_ 11 13) rfl rfl (one_of HT_.out jA) jB (fun K hK=>?_);refine value_ (w1:=?_) (v:=?_) (by rfl) rfl ?_ ?_;rotate_left 2
              ·
               go_simp
               constructor
               ·
                rfl
               rfl
              refine hK.out _ _ ?_;clear hK K;refine norm_ (a':=?_) ?_ ?_;rotate_left
              ·
               show Act.put _ (some 94) _=_
               simp only [Act.put,zi,zj,zk,zG,zH]
               rfl
              refine last_ (i:=11) (N:=some 95) (bm_ 12 13) rfl rfl (one_of HT_.out jA) jB (fun K hK=>?_);refine Kd.R_append_step k43 (w0:=w) w.heap.size (by rfl) (.tmp 84) (.tmp 94) 28 43 (.agg #[(.string ⟨#[]⟩),(.int .i64 0),(.int .i64 0),(.string ⟨#[]⟩)]) 48 rfl Try.underlying28 info43 rfl jB jH u12 x12_4 (⟨rdOf ByteArray.empty y630 x14_4,(⟨(rd_T25 t609 x14_4).f0,(rd_T25 t609 x14_4).f1,(rd_T25 t609 x14_4).f2⟩ : S25)⟩ : S43) [.string (rdOf ByteArray.empty y630 x14_4),.int .i64 ((rd_T25 t609 x14_4).f0),.int .i64 ((rd_T25 t609 x14_4).f1),.string ((rd_T25 t609 x14_4).f2)] (fun _=>True) (fun _=>False) rfl rfl ?aP (fun _ hk=>hk.elim) ?aF ?aO ?aB ?aS ?aL ?_;(case aP=>exact k43_mkM _ _ _ (⟨rdOf ByteArray.empty y630 x14_4,(⟨(rd_T25 t609 x14_4).f0,(rd_T25 t609 x14_4).f1,(rd_T25 t609 x14_4).f2⟩ : S25)⟩ : S43))
              (case aB=>exact jm)
              (case aF=>exact (fun _ _=>trivial))
              (case aO=>exact js)
              (case aS=>exact (zB jm))
              (case aL=>have:=LMc56.out;omega)
              intro v636 w59 ho hb hg hat;rw [← Ny635.out] at ho;replace HO_5:=zh (Kd.R_over' jI (Kd.R_typed js) jB hg);replace HO_13:=zh (Kd.R_over' jBW (Kd.R_typed js) jB hg);replace BK616:=zh (yw (g:=gb616) (o:=.cells #[.int .i64 t612,.int .i64 t613,.string t614] 25 (0,0)) jU hg (Kd.R_ne HO_12.out BK616.out jB));replace BK621:=zh (yw (g:=gb621) (o:=.cells #[.int .i64 t617,.int .i64 t618,.string t619] 25 (0,0)) jV hg (Kd.R_ne HO_12.out BK621.out jB));replace HB:=zh (hb);have HO637:=zh (ho);clear HO_12 ho hb hg hat;refine hK.out _ _ ?_;clear hK K;refine norm_ (a':=?_) ?_ ?_;rotate_left
              ·
               show Act.put _ (some 95) _=_
               simp only [Act.put,zi,zj,zk,zG,zH]
               rfl
              refine pure_ (i:=12) (N:=some 12) (v:=?_) (a':=?_) (bm_ 13 13) rfl rfl (any_of HT_.out jA) (fun _ _ _ h=>h) (Or.inl ⟨by rfl,?_⟩) ?_ ?_;rotate_left;exact jb;rotate_left;exact jc
              refine done_ (done_of HT_.out jA) ?_
              try go_wp2
              go_roundg k4
              case measure=>have:=HJ2.out;have:=HJ9.out;have:=HJ24.out;have:=HK4.out;omega
              case rel=>exact ⟨(y635),(wrap64 (x14_4+1)),jC,H',⟨by have:=HJ2.out;have:=HJ9.out;have:=HJ24.out;have:=HK4.out;omega⟩,⟨jI⟩,⟨by (with_reducible repeat (first|apply zm|apply zn|apply zo));exact HO637.out⟩,⟨jBW⟩,⟨jU⟩,⟨jV⟩,⟨jm⟩⟩
             rw [if_neg c56] at H;exact absurd H (by simp)
            rw [if_neg c55] at H;exact absurd H (by simp)
           rw [if_neg c54] at H;exact absurd H (by simp)
          rw [if_neg c53] at H;have c53b0 : decide (x14_4<(t609.length : Int))=false:=decide_eq_false c53;clear c53;replace H:=zT.mp H;obtain ⟨⟨t638,t639,t640,t641⟩,A600,H⟩:=H;have A60:=zh A600;clear A600;replace H:=zT.mp H;obtain ⟨⟨t643,t644,t645,t646⟩,A610,H⟩:=H;have A61:=zh A610;clear A610;have HC62:=zh H;clear H;obtain ⟨Ao63,co63,eo63⟩:=yk HO_12.out;subst eo63
          go_upto_region 20 with (first|((with_reducible refine zJ (f:=8) rfl ?_);refine yj (some 98) rfl rfl Try.func8 jA rfl #[.slice Ao63 x12_4.length co63] rfl jD ?_;(with_reducible refine (Fc.calls k4  _ _ x12_4 t638 t639 t640 t641 _ ?side1 ?side2 A60.out).mono ?_);(case side1=>repeat (first|exact (yh HO_12.out).2.2|(with_reducible refine Kd.C_alloc ?_ _)|(with_reducible refine Kd.C_drewN ?_ _)|(with_reducible refine Kd.C_drew ?_)));(case side2=>exact (yh HO_12.out).2.1);rintro e w64 ⟨rfl,hb⟩;refine ⟨_,rfl,?_⟩;replace HO_5:=zh (yg jI hb);replace HO_12:=zh (yg js hb);replace HO_13:=zh (yg jBW hb);replace BK616:=zh (cD BK616.out jU hb);replace BK621:=zh (cD BK621.out jV hb);replace HB:=zh (zC jm hb);(try clear hb);(try clear hb2);(try clear hk);(try clear hi))|((with_reducible refine zK (N:=15) rfl ?_);(try (refine yz (by rfl) ?_;dsimp only));refine zI ?hg (N:=15) ?hd (cs:=#[.int .i64 0,.int .i64 0,.string (⟨#[]⟩ : ByteArray)]) (t:=25) ?hr ?_;(case hd=>rfl);(case hg=>rfl);(case hr=>go_simp <;> rfl);intro gb642 hg w65 hbox hb;replace HO_5:=zh (yg (Kd.R_elderB jI gb642 (Nat.le_of_eq hg.symm)) hb);replace HO_12:=zh (yg js hb);replace HO_13:=zh (yg jBW hb);have BK642:=zh (hbox);have hH_:=cH jm hb hg;have GW642:=zh hH_.1;have GE642:=GW642;replace HB:=zh hH_.2;have NB616_642:=zh ((jB0 : gb616≠gb642));have NB642_616:=zh NB616_642.out.symm;replace BK616:=zh (cD BK616.out jU hb);have NB621_642:=zh ((jCZ : gb621≠gb642));have NB642_621:=zh NB621_642.out.symm;replace BK621:=zh (cD BK621.out jV hb);clear hb hbox hg hH_;have hnb66:=NB642_616.out;have hnc66:=NB616_642.out;have hnb67:=NB642_621.out;have hnc67:=NB621_642.out;obtain ⟨hcz68_0,hcz68_1,hcz68_2,hfz68_0,hfz68_1,hfz68_2⟩:=cB3 BK642.out)|((with_reducible refine zJ (f:=8) rfl ?_);refine yj (some 103) rfl rfl Try.func8 jA rfl #[.slice Ao63 x12_4.length co63] rfl jD ?_;(with_reducible refine (Fc.calls k4  _ _ x12_4 t643 t644 t645 t646 _ ?side1 ?side2 A61.out).mono ?_);(case side1=>refine (yh (e:=43) (base:=w.heap.size) (ok:=fun k_=>True) (n:=x12_4.length) (c:=co63) ?_).2.2;exact jDP);(case side2=>exact (yh HO_12.out).2.1);rintro e w69 ⟨rfl,hb⟩;refine ⟨_,rfl,?_⟩;replace HO_5:=zh (yg (by (with_reducible repeat (first|apply zm|apply zn|apply zo));exact (zM (zE (p:=⟨gb642,2,none⟩) (zE (p:=⟨gb642,1,none⟩) (zE (p:=⟨gb642,0,none⟩) (zM HO_5.out (fun k_ hk=>(⟨hk,hk.2⟩ : _∧k_≠gb642))) (fun _ hk=>hk.2) (.int .i64 t638)) (fun _ hk=>hk.2) (.int .i64 t639)) (fun _ hk=>hk.2) (.string t640)) (fun _ h_=>h_.1))) hb);replace HO_12:=zh (yg jDP hb);replace HO_13:=zh (yg (by (with_reducible repeat (first|apply zm|apply zn|apply zo));exact (zM (zE (p:=⟨gb642,2,none⟩) (zE (p:=⟨gb642,1,none⟩) (zE (p:=⟨gb642,0,none⟩) (yf HO_13.out BK642.out jB) (fun _ hk=>hk.2) (.int .i64 t638)) (fun _ hk=>hk.2) (.int .i64 t639)) (fun _ hk=>hk.2) (.string t640)) (fun _ h_=>h_.1))) hb);replace BK616:=zh (cD BK616.out (by (with_reducible repeat first|apply ze|apply zf|apply zg);refine cS3 ?_ NB616_642.out;(with_reducible repeat first|apply ze|apply zf|apply zg);exact BK616.out) hb);replace BK621:=zh (cD BK621.out (by (with_reducible repeat first|apply ze|apply zf|apply zg);refine cS3 ?_ NB621_642.out;(with_reducible repeat first|apply ze|apply zf|apply zg);exact BK621.out) hb);replace BK642:=zh (zD (g:=gb642) (o:=.cells #[.int .i64 t638,.int .i64 t639,.string t640] 25 (0,0)) (by (with_reducible repeat first|apply ze|apply zf|apply zg);refine zL (cs:=#[.int .i64 t638,.int .i64 t639,.string (⟨#[]⟩ : ByteArray)]) ?_ 2 _ rfl;(with_reducible repeat first|apply ze|apply zf|apply zg);refine zL (cs:=#[.int .i64 t638,.int .i64 0,.string (⟨#[]⟩ : ByteArray)]) ?_ 1 _ rfl;(with_reducible repeat first|apply ze|apply zf|apply zg);refine zL (cs:=#[.int .i64 0,.int .i64 0,.string (⟨#[]⟩ : ByteArray)]) ?_ 0 _ rfl;(with_reducible repeat first|apply ze|apply zf|apply zg);exact BK642.out) hb);replace HB:=zh (zC jDQ hb);(try clear hb);(try clear hb2);(try clear hk);(try clear hi))|((with_reducible refine zK (N:=17) rfl ?_);(try (refine yz (by rfl) ?_;dsimp only));refine zI ?hg (N:=17) ?hd (cs:=#[.int .i64 0,.int .i64 0,.string (⟨#[]⟩ : ByteArray)]) (t:=25) ?hr ?_;(case hd=>rfl);(case hg=>rfl);(case hr=>go_simp <;> rfl);intro gb647 hg w70 hbox hb;replace HO_5:=zh (yg (Kd.R_elderB jI gb647 (Nat.le_of_eq hg.symm)) hb);replace HO_12:=zh (yg js hb);replace HO_13:=zh (yg jBW hb);have BK647:=zh (hbox);have hH_:=cH jDQ hb hg;have GW647:=zh hH_.1;have GE647:=GW647;replace HB:=zh hH_.2;have NB616_647:=zh ((jB0 : gb616≠gb647));have NB647_616:=zh NB616_647.out.symm;replace BK616:=zh (cD BK616.out jU hb);have NB621_647:=zh ((jCZ : gb621≠gb647));have NB647_621:=zh NB621_647.out.symm;replace BK621:=zh (cD BK621.out jV hb);have NB642_647:=zh ((jDR : gb642≠gb647));have NB647_642:=zh NB642_647.out.symm;replace BK642:=zh (cD BK642.out jz hb);clear hb hbox hg hH_;have hnb71:=NB647_616.out;have hnc71:=NB616_647.out;have hnb72:=NB647_621.out;have hnc72:=NB621_647.out;have hnb73:=NB647_642.out;have hnc73:=NB642_647.out;obtain ⟨hcz74_0,hcz74_1,hcz74_2,hfz74_0,hfz74_1,hfz74_2⟩:=cB3 BK647.out))
          (try simp only [Act.put,zi,zj,zk])
          go_cut [113] (fun v113 wc => ∃ (kq : Nat) (x113_61 : Bool),v113 = .bool x113_61∧Aside0 (F0.j4 kq x12_4 t641 x113_61 t638 t639 t640=some r)∧Aside0 (kq≤k4)∧Aside0 (Kd.R k43 43 wc w.heap.size (fun _=>True) (.slice Ao63 x12_4.length co63) x12_4)∧Aside0 (wc.heap[gb616]? = some (.cells #[.int .i64 t612,.int .i64 t613,.string t614] 25 (0,0)))∧Aside0 (wc.heap[gb621]? = some (.cells #[.int .i64 t617,.int .i64 t618,.string t619] 25 (0,0)))∧Aside0 (wc.heap[gb642]? = some (.cells #[.int .i64 t638,.int .i64 t639,.string t640] 25 (0,0)))∧Aside0 (wc.heap[gb647]? = some (.cells #[.int .i64 t643,.int .i64 t644,.string t645] 25 (0,0)))∧Aside0 (Below w.heap.size w wc))
          case first =>
           have H:=HC62.out;clear HC62
           by_cases c75 : t641=t646
           ·
            rw [if_pos c75] at H
            have c75b0 : (t641 == t646)=true:=ya.mpr c75;have c75b1 : (t641 != t646)=false:=zX.mpr c75;clear c75;(first|rw [c75b0]|(simp only [zG,zH];rw [c75b0])|skip);have H':=zh H;clear H;have hnb76:=NB642_616.out;have hnc76:=NB616_642.out;have hnb77:=NB642_621.out;have hnc77:=NB621_642.out;have hnb78:=NB642_647.out;have hnc78:=NB647_642.out;obtain ⟨hcz79_0,hcz79_1,hcz79_2,hfz79_0,hfz79_1,hfz79_2⟩:=cB3 BK642.out;have hnb80:=NB647_616.out;have hnc80:=NB616_647.out;have hnb81:=NB647_621.out;have hnc81:=NB621_647.out;obtain ⟨hcz82_0,hcz82_1,hcz82_2,hfz82_0,hfz82_1,hfz82_2⟩:=cB3 BK647.out
            go_wp2
            go_meet
            case rel=>exact ⟨_,((!(t638 == t643) || (!(t639 == t644) || (!(t640.toList == t645.toList))))),jC,H',⟨jDS⟩,⟨jDT⟩,⟨jDU⟩,⟨jDV⟩,⟨jDW⟩,⟨jDX⟩,⟨jt⟩⟩
           rw [if_neg c75] at H;have c75b0 : (t641 == t646)=false:=zY.mpr c75;have c75b1 : (t641 != t646)=true:=zZ.mpr c75;(first|rw [c75b0]|(simp only [zG,zH];rw [c75b0])|skip);have H':=zh H;clear H
           go_wp2
           go_meet
           case rel=>exact ⟨_,(true),jC,H',⟨jDS⟩,⟨jDT⟩,⟨jDU⟩,⟨jDV⟩,⟨jDW⟩,⟨jDX⟩,⟨jt⟩⟩
          case rest =>
           as_aux_lemma =>
            clear HC62
            try clear c1 c2
            try clear p2
            try clear c3 c4 c4b0 c4b1 c5 c6
            try clear p6
            try clear q6
            try clear hx6
            try clear c7 c8 c11 c12 c13 c14 c15 c18 c20 c20b0 c20b1 c21 c24 c26 c26b0 c26b1 c28 c28b0 c28b1 c30 c31 c31b0 c31b1 c32 c37 c42 c46 c53 c53b0 c54 c54b0 c55 c55b0 c56
            try clear p63
            try clear q63
            try clear hx63
            try clear p64
            try clear c66 c67 c71 c72 c73 c75 c75b0 c75b1 c76 c77 c78 c80 c81
            try clear hcz15_0 hcz15_1 hcz15_2
            try clear hcz19_0 hcz19_1 hcz19_2
            try clear hcz22_0 hcz22_1 hcz22_2
            try clear hcz23_0 hcz23_1 hcz23_2
            try clear hcz33_0 hcz33_1 hcz33_2
            try clear hcz36_0 hcz36_1 hcz36_2
            try clear hcz38_0 hcz38_1 hcz38_2
            try clear hcz41_0 hcz41_1 hcz41_2
            try clear hcz43_0 hcz43_1 hcz43_2
            try clear hcz47_0 hcz47_1 hcz47_2
            try clear hcz68_0 hcz68_1 hcz68_2
            try clear hcz74_0 hcz74_1 hcz74_2
            try clear hcz79_0 hcz79_1 hcz79_2
            try clear hcz82_0 hcz82_1 hcz82_2
            try clear hfz15_0 hfz15_1 hfz15_2
            try clear hfz19_0 hfz19_1 hfz19_2
            try clear hfz22_0 hfz22_1 hfz22_2
            try clear hfz23_0 hfz23_1 hfz23_2
            try clear hfz33_0 hfz33_1 hfz33_2
            try clear hfz36_0 hfz36_1 hfz36_2
            try clear hfz38_0 hfz38_1 hfz38_2
            try clear hfz41_0 hfz41_1 hfz41_2
            try clear hfz43_0 hfz43_1 hfz43_2
            try clear hfz47_0 hfz47_1 hfz47_2
            try clear hfz68_0 hfz68_1 hfz68_2
            try clear hfz74_0 hfz74_1 hfz74_2
            try clear hfz79_0 hfz79_1 hfz79_2
            try clear hfz82_0 hfz82_1 hfz82_2
            try clear hx633_0
            try clear hx634_0
            try clear hx634_1
            try clear hx634_2
            try clear p2
            try clear p633
            try clear p634
            try clear q633
            try clear q634
            obtain ⟨kq,x113_61,rfl,HA,HJ61,HO_12,BK616,BK621,BK642,BK647,HB⟩:=hcut
            cases kq with
            | zero=>exact absurd HA.out (by simp [F0.j4])
            | succ kj61 =>
             have H:=HA.out;clear HA;simp only [F0.j4] at H
             by_cases c83 : x113_61=true
             ·
              subst c83
              have H1 : (some false)=some r:=by rw [if_pos rfl] at H;exact H
              exact absurd H1 jBI
             replace c83:=yb.mpr c83;subst c83;rw [if_neg (show ¬ (false=true) by decide)] at H
             by_cases c84 : t641=0
             ·
              rw [if_pos c84] at H
              have c84b0 : (t641 == 0)=true:=ya.mpr c84;have c84b1 : (t641 != 0)=false:=zX.mpr c84;clear c84;replace H:=zT.mp H;obtain ⟨⟨t653,t656⟩,A850,H⟩:=H;have A85:=zh A850;clear A850;have HC86:=zh H;clear H;have hnb87:=NB642_616.out;have hnc87:=NB616_642.out;have hnb88:=NB642_621.out;have hnc88:=NB621_642.out;have hnb89:=NB642_647.out;have hnc89:=NB647_642.out;obtain ⟨hcz90_0,hcz90_1,hcz90_2,hfz90_0,hfz90_1,hfz90_2⟩:=cB3 BK642.out
              go_upto_region 26 with (first|((with_reducible refine zJ (f:=17) rfl ?_);refine yj (some 126) rfl rfl Try.func17 jA rfl #[.agg #[.int .i64 t638,.int .i64 t639,.string t640]] rfl jD ?_;(with_reducible refine (F0b.calls kj61  t638 t639 t640 t653 t656 _ A85.out).mono ?_);rintro e w91 ⟨v654,rfl,ho0,hb⟩;refine ⟨_,rfl,?_⟩;have HO655:=zh (yy (Kd.R_new' ho0 (Kd.R_lt js)) (zB jt));replace HO_12:=zh (Kd.R_elder' js (Kd.R_base ho0) hb);replace BK616:=zh (cD BK616.out jU hb);replace BK621:=zh (cD BK621.out jV hb);replace BK642:=zh (cD BK642.out jz hb);replace BK647:=zh (cD BK647.out jAD hb);replace HB:=zh (zC jt hb);(try clear hb);(try clear hb2);(try clear hk);(try clear hi);(try clear ho0)))
              (try simp only [Act.put,zi,zj,zk])
              go_cut [142] (fun v142 wc => ∃ (kq : Nat) (x142_85 : Bool),v142 = .bool x142_85∧Aside0 (F0.j5 kq x12_4 t653 x142_85=some r)∧Aside0 (kq≤kj61)∧Aside0 (Kd.R k43 43 wc w.heap.size (fun k_=>some k_≠(v654 : Value).ownBlock) (.slice Ao63 x12_4.length co63) x12_4)∧Aside0 (Kd.R k43 43 wc w.heap.size (fun k_=>some k_≠((.slice Ao63 x12_4.length co63) : Value).ownBlock) v654 t653)∧Aside0 (wc.heap[gb616]? = some (.cells #[.int .i64 t612,.int .i64 t613,.string t614] 25 (0,0)))∧Aside0 (wc.heap[gb621]? = some (.cells #[.int .i64 t617,.int .i64 t618,.string t619] 25 (0,0)))∧Aside0 (wc.heap[gb642]? = some (.cells #[.int .i64 t638,.int .i64 t639,.string t640] 25 (0,0)))∧Aside0 (wc.heap[gb647]? = some (.cells #[.int .i64 t643,.int .i64 t644,.string t645] 25 (0,0)))∧Aside0 (Below w.heap.size w wc))
              case first =>
               have H:=HC86.out;clear HC86
               by_cases c92 : t656=0
               ·
                rw [if_pos c92] at H
                have c92b0 : (t656 == 0)=true:=ya.mpr c92;have c92b1 : (t656 != 0)=false:=zX.mpr c92;clear c92;(first|rw [c92b0]|(simp only [zG,zH];rw [c92b0])|skip)
                by_cases c93 : (t653.length : Int)=(x12_4.length : Int)
                ·
                 rw [if_pos c93] at H
                 have c93b0 : ((t653.length : Int) == (x12_4.length : Int))=true:=ya.mpr c93;have c93b1 : ((t653.length : Int) != (x12_4.length : Int))=false:=zX.mpr c93;have c93b2 : (t653.length == x12_4.length)=true:=by first|simpa using c93|(simp at c93 ⊢;omega)
                 clear c93;have H':=zh H;clear H;obtain ⟨Ao94,co94,eo94⟩:=yk HO655.out;subst eo94;have hnb95:=NB642_616.out;have hnc95:=NB616_642.out;have hnb96:=NB642_621.out;have hnc96:=NB621_642.out;have hnb97:=NB642_647.out;have hnc97:=NB647_642.out;obtain ⟨hcz98_0,hcz98_1,hcz98_2,hfz98_0,hfz98_1,hfz98_2⟩:=cB3 BK642.out
                 go_wp2
                 go_meet
                 case rel=>exact ⟨_,((t638 != 5)),jC,H',⟨jCb⟩,⟨jCc⟩,⟨jCd⟩,⟨jU⟩,⟨jV⟩,⟨jz⟩,⟨jAD⟩,⟨jt⟩⟩
                rw [if_neg c93] at H;have c93b0 : ((t653.length : Int) == (x12_4.length : Int))=false:=zY.mpr c93;have c93b1 : ((t653.length : Int) != (x12_4.length : Int))=true:=zZ.mpr c93;have c93b2 : (t653.length == x12_4.length)=false:=by first|simpa using c93|(simp at c93 ⊢;omega)
                have H':=zh H;clear H;obtain ⟨Ao99,co99,eo99⟩:=yk HO655.out;subst eo99
                go_wp2
                go_meet
                case rel=>exact ⟨_,(true),jC,H',⟨jCb⟩,⟨jCc⟩,⟨jCd⟩,⟨jU⟩,⟨jV⟩,⟨jz⟩,⟨jAD⟩,⟨jt⟩⟩
               rw [if_neg c92] at H;have c92b0 : (t656 == 0)=false:=zY.mpr c92;have c92b1 : (t656 != 0)=true:=zZ.mpr c92;(first|rw [c92b0]|(simp only [zG,zH];rw [c92b0])|skip);have H':=zh H;clear H
               go_wp2
               go_meet
               case rel=>exact ⟨_,(true),jC,H',⟨jCb⟩,⟨jCc⟩,⟨jCd⟩,⟨jU⟩,⟨jV⟩,⟨jz⟩,⟨jAD⟩,⟨jt⟩⟩
              case rest =>
               clear HC86
               try clear c1 c2
               try clear p2
               try clear c3 c4 c4b0 c4b1 c5 c6
               try clear p6
               try clear q6
               try clear hx6
               try clear c7 c8 c9 c11 c12 c13 c14 c15 c17 c18 c20 c20b0 c20b1 c21 c24 c26 c26b0 c26b1 c28 c28b0 c28b1 c30 c31 c31b0 c31b1 c32 c37 c42 c46 c53 c53b0 c54 c54b0 c55 c55b0 c56
               try clear p63
               try clear q63
               try clear hx63
               try clear p64
               try clear c66 c67 c71 c72 c73 c75 c75b0 c75b1 c76 c77 c78 c80 c81 c83 c84 c84b0 c84b1 c87 c88 c89 c92 c92b0 c92b1 c93 c93b0 c93b1 c93b2 c95 c96 c97
               try clear hcz15_0 hcz15_1 hcz15_2
               try clear hcz19_0 hcz19_1 hcz19_2
               try clear hcz22_0 hcz22_1 hcz22_2
               try clear hcz23_0 hcz23_1 hcz23_2
               try clear hcz33_0 hcz33_1 hcz33_2
               try clear hcz36_0 hcz36_1 hcz36_2
               try clear hcz38_0 hcz38_1 hcz38_2
               try clear hcz41_0 hcz41_1 hcz41_2
               try clear hcz43_0 hcz43_1 hcz43_2
               try clear hcz47_0 hcz47_1 hcz47_2
               try clear hcz68_0 hcz68_1 hcz68_2
               try clear hcz74_0 hcz74_1 hcz74_2
               try clear hcz79_0 hcz79_1 hcz79_2
               try clear hcz82_0 hcz82_1 hcz82_2
               try clear hcz90_0 hcz90_1 hcz90_2
               try clear hcz98_0 hcz98_1 hcz98_2
               try clear hfz15_0 hfz15_1 hfz15_2
               try clear hfz19_0 hfz19_1 hfz19_2
               try clear hfz22_0 hfz22_1 hfz22_2
               try clear hfz23_0 hfz23_1 hfz23_2
               try clear hfz33_0 hfz33_1 hfz33_2
               try clear hfz36_0 hfz36_1 hfz36_2
               try clear hfz38_0 hfz38_1 hfz38_2
               try clear hfz41_0 hfz41_1 hfz41_2
               try clear hfz43_0 hfz43_1 hfz43_2
               try clear hfz47_0 hfz47_1 hfz47_2
               try clear hfz68_0 hfz68_1 hfz68_2
               try clear hfz74_0 hfz74_1 hfz74_2
               try clear hfz79_0 hfz79_1 hfz79_2
               try clear hfz82_0 hfz82_1 hfz82_2
               try clear hfz90_0 hfz90_1 hfz90_2
               try clear hfz98_0 hfz98_1 hfz98_2
               try clear hx633_0
               try clear hx634_0
               try clear hx634_1
               try clear hx634_2
               try clear p2
               try clear p6
               try clear p63
               try clear p633
               try clear p634
               try clear p64
               try clear q6
               try clear q63
               try clear q633
               try clear q634
               obtain ⟨kq,x142_85,rfl,HA,HJ85,HO_12,HO_21,BK616,BK621,BK642,BK647,HB⟩:=hcut
               cases kq with
               | zero=>exact absurd HA.out (by simp [F0.j5])
               | succ kj85 =>
                have H:=HA.out;clear HA;simp only [F0.j5] at H
                by_cases c100 : x142_85=true
                ·
                 subst c100
                 have H1 : (some false)=some r:=by rw [if_pos rfl] at H;exact H
                 exact absurd H1 jBI
                replace c100:=yb.mpr c100;subst c100;rw [if_neg (show ¬ (false=true) by decide)] at H;have H':=zh H;clear H
                go_wp2
                go_loopg [23] kj85 (fun kq v23 w' => ∃ (x23_7 : Int),v23 = .int .i64 x23_7∧Aside0 (F0.l1 kq x12_4 t653 x23_7=some r)∧Aside0 (kq≤kj85)∧Aside0 (Kd.R k43 43 w' w.heap.size (fun k_=>some k_≠(v654 : Value).ownBlock) (.slice Ao63 x12_4.length co63) x12_4)∧Aside0 (Kd.R k43 43 w' w.heap.size (fun k_=>some k_≠((.slice Ao63 x12_4.length co63) : Value).ownBlock) v654 t653)∧Aside0 (w'.heap[gb616]? = some (.cells #[.int .i64 t612,.int .i64 t613,.string t614] 25 (0,0)))∧Aside0 (w'.heap[gb621]? = some (.cells #[.int .i64 t617,.int .i64 t618,.string t619] 25 (0,0)))∧Aside0 (w'.heap[gb642]? = some (.cells #[.int .i64 t638,.int .i64 t639,.string t640] 25 (0,0)))∧Aside0 (w'.heap[gb647]? = some (.cells #[.int .i64 t643,.int .i64 t644,.string t645] 25 (0,0)))∧Aside0 (Below w.heap.size w w'))
                case atStart=>exact ⟨(0),jC,H',⟨ye _⟩,⟨js⟩,⟨jA0⟩,⟨jU⟩,⟨jV⟩,⟨jz⟩,⟨jAD⟩,⟨jt⟩⟩
                case round =>
                 as_aux_lemma =>
                  clear H'
                  try clear c1 c2
                  try clear p2
                  try clear c3 c4 c4b0 c4b1 c5 c6
                  try clear p6
                  try clear q6
                  try clear hx6
                  try clear c7 c8 c9 c10 c11 c12 c13 c14 c15 c17 c18 c20 c20b0 c20b1 c21 c24 c26 c26b0 c26b1 c28 c28b0 c28b1 c30 c31 c31b0 c31b1 c32 c37 c42 c46 c53 c53b0 c54 c54b0 c55 c55b0 c56
                  try clear p63
                  try clear q63
                  try clear hx63
                  try clear p64
                  try clear c66 c67 c71 c72 c73 c75 c75b0 c75b1 c76 c77 c78 c80 c81 c83 c84 c84b0 c84b1 c87 c88 c89 c92 c92b0 c92b1 c93 c93b0 c93b1 c93b2 c95 c96 c97 c100
                  try clear hcz15_0 hcz15_1 hcz15_2
                  try clear hcz19_0 hcz19_1 hcz19_2
                  try clear hcz22_0 hcz22_1 hcz22_2
                  try clear hcz23_0 hcz23_1 hcz23_2
                  try clear hcz33_0 hcz33_1 hcz33_2
                  try clear hcz36_0 hcz36_1 hcz36_2
                  try clear hcz38_0 hcz38_1 hcz38_2
                  try clear hcz41_0 hcz41_1 hcz41_2
                  try clear hcz43_0 hcz43_1 hcz43_2
                  try clear hcz47_0 hcz47_1 hcz47_2
                  try clear hcz68_0 hcz68_1 hcz68_2
                  try clear hcz74_0 hcz74_1 hcz74_2
                  try clear hcz79_0 hcz79_1 hcz79_2
                  try clear hcz82_0 hcz82_1 hcz82_2
                  try clear hcz90_0 hcz90_1 hcz90_2
                  try clear hcz98_0 hcz98_1 hcz98_2
                  try clear hfz15_0 hfz15_1 hfz15_2
                  try clear hfz19_0 hfz19_1 hfz19_2
                  try clear hfz22_0 hfz22_1 hfz22_2
                  try clear hfz23_0 hfz23_1 hfz23_2
                  try clear hfz33_0 hfz33_1 hfz33_2
                  try clear hfz36_0 hfz36_1 hfz36_2
                  try clear hfz38_0 hfz38_1 hfz38_2
                  try clear hfz41_0 hfz41_1 hfz41_2
                  try clear hfz43_0 hfz43_1 hfz43_2
                  try clear hfz47_0 hfz47_1 hfz47_2
                  try clear hfz68_0 hfz68_1 hfz68_2
                  try clear hfz74_0 hfz74_1 hfz74_2
                  try clear hfz79_0 hfz79_1 hfz79_2
                  try clear hfz82_0 hfz82_1 hfz82_2
                  try clear hfz90_0 hfz90_1 hfz90_2
                  try clear hfz98_0 hfz98_1 hfz98_2
                  try clear hx633_0
                  try clear hx634_0
                  try clear hx634_1
                  try clear hx634_2
                  try clear p2
                  try clear p6
                  try clear p63
                  try clear p633
                  try clear p634
                  try clear p64
                  try clear q6
                  try clear q63
                  try clear q633
                  try clear q634
                  obtain ⟨x23_7,rfl,HA,HK7,HO_12,HO_21,BK616,BK621,BK642,BK647,HB⟩:=hrel
                  cases gk with
                  | zero=>exact absurd HA.out (by simp [F0.l1])
                  | succ k7 =>
                   have H:=HA.out;clear HA;simp only [F0.l1] at H
                   by_cases c101 : x23_7<(t653.length : Int)
                   ·
                    rw [if_pos c101] at H
                    have c101b0 : decide (x23_7<(t653.length : Int))=true:=decide_eq_true c101;clear c101;have HC102:=zh H;clear H;obtain ⟨Ao103,co103,eo103⟩:=yk HO_21.out;subst eo103
                    go_upto_region 31 with (fail)
                    go_cut [164] (fun v164 wc => ∃ (kq : Nat) (x164_101 : Bool),v164 = .bool x164_101∧Aside0 (F0.j7 kq x12_4 t653 x23_7 x164_101=some r)∧Aside0 (kq≤k7)∧Aside0 (Kd.R k43 43 wc w.heap.size (fun k_=>some k_≠((.slice Ao103 t653.length co103) : Value).ownBlock) (.slice Ao63 x12_4.length co63) x12_4)∧Aside0 (Kd.R k43 43 wc w.heap.size (fun k_=>some k_≠((.slice Ao63 x12_4.length co63) : Value).ownBlock) (.slice Ao103 t653.length co103) t653)∧Aside0 (wc.heap[gb616]? = some (.cells #[.int .i64 t612,.int .i64 t613,.string t614] 25 (0,0)))∧Aside0 (wc.heap[gb621]? = some (.cells #[.int .i64 t617,.int .i64 t618,.string t619] 25 (0,0)))∧Aside0 (wc.heap[gb642]? = some (.cells #[.int .i64 t638,.int .i64 t639,.string t640] 25 (0,0)))∧Aside0 (wc.heap[gb647]? = some (.cells #[.int .i64 t643,.int .i64 t644,.string t645] 25 (0,0)))∧Aside0 (Below w.heap.size w wc))
                    case first =>
                     as_aux_lemma =>
                      have H:=HC102.out;clear HC102
                      by_cases c104 : x23_7 > 0
                      ·
                       rw [if_pos c104] at H
                       have c104b0 : decide (0<x23_7)=true:=decide_eq_true c104;clear c104;(first|rw [c104b0]|(simp only [zG,zH];rw [c104b0])|skip);obtain ⟨ji105,hji105⟩ : ∃ j_ : Int,(wrap64 (x23_7 - 1))=j_:=⟨_,rfl⟩;replace H : (if 0≤(ji105) then (if (ji105)<(t653.length : Int) then (if 0≤x23_7 then (F0.j7 k7 x12_4 t653 x23_7 (!(Op.bytesLess (((rd_T43 t653 (ji105)).f0).toList) (((rd_T43 t653 x23_7).f0).toList)))) else (none)) else (none)) else (none))=some r:=by first|(rw [hji105] at H;exact H)|(simp only [hji105] at H ⊢;exact H)
                       have hji105w : (IntKind.i64.wrap (x23_7 - 1))=ji105:=(zG _).trans hji105
                       by_cases c106 : 0≤(ji105)
                       ·
                        rw [if_pos c106] at H
                        have c106b0 : decide (0≤(ji105))=true:=decide_eq_true c106;clear c106
                        by_cases c107 : (ji105)<(t653.length : Int)
                        ·
                         rw [if_pos c107] at H
                         have c107b0 : decide ((ji105)<(t653.length : Int))=true:=decide_eq_true c107;clear c107
                         by_cases c108 : 0≤x23_7
                         ·
                          rw [if_pos c108] at H
                          have c108b0 : decide (0≤x23_7)=true:=decide_eq_true c108;clear c108;have H':=zh H;clear H
                          try go_wp2
                          replace HO_12:=zh (zo HO_12.out);replace HO_21:=zh (zo HO_21.out);replace BK616:=zh (zf BK616.out);replace BK621:=zh (zf BK621.out);replace BK642:=zh (zf BK642.out);replace BK647:=zh (zf BK647.out);replace HB:=zh (zc HB.out);have p657 : 0≤((ji105) : Int):=zy jE;have q657 : (ji105)<(t653.length : Int):=zy jE;obtain ⟨ad657,e657,hx657_0,hx657_1,hx657_2,hx657_3⟩:=at_T43 (yh HO_21.out).2.2 (ji105) p657 q657
                          cases e657
                          replace p657:=eq_true p657;replace q657:=eq_true q657;have p658 : 0≤(x23_7 : Int):=zy jE;have q658 : x23_7<(t653.length : Int):=zy jE;obtain ⟨ad658,e658,hx658_0,hx658_1,hx658_2,hx658_3⟩:=at_T43 (yh HO_21.out).2.2 x23_7 p658 q658;obtain rfl : ad657=ad658:=(by injection e658);replace p658:=eq_true p658;replace q658:=eq_true q658;refine start_ (n:=16) (S:=fun w' => w'.cell? (ad657.add (((ji105)).toNat*4))=some (.string ((rd_T43 t653 (ji105)).f0))∧w'.cell? ⟨(ad657.add (((ji105)).toNat*4)).block,(ad657.add (((ji105)).toNat*4)).off+1,none⟩=some (.int .i64 ((rd_T43 t653 (ji105)).f1.f0))∧w'.cell? ⟨(ad657.add (((ji105)).toNat*4)).block,(ad657.add (((ji105)).toNat*4)).off+2,none⟩=some (.int .i64 ((rd_T43 t653 (ji105)).f1.f1))∧w'.cell? ⟨(ad657.add (((ji105)).toNat*4)).block,(ad657.add (((ji105)).toNat*4)).off+3,none⟩=some (.string ((rd_T43 t653 (ji105)).f1.f2))∧w'.cell? (ad657.add ((x23_7).toNat*4))=some (.string ((rd_T43 t653 x23_7).f0))∧w'.cell? ⟨(ad657.add ((x23_7).toNat*4)).block,(ad657.add ((x23_7).toNat*4)).off+1,none⟩=some (.int .i64 ((rd_T43 t653 x23_7).f1.f0))∧w'.cell? ⟨(ad657.add ((x23_7).toNat*4)).block,(ad657.add ((x23_7).toNat*4)).off+2,none⟩=some (.int .i64 ((rd_T43 t653 x23_7).f1.f1))∧w'.cell? ⟨(ad657.add ((x23_7).toNat*4)).block,(ad657.add ((x23_7).toNat*4)).off+3,none⟩=some (.string ((rd_T43 t653 x23_7).f1.f2))) (ds:=[]) (bm_ 0 16) jA rfl rfl ⟨hx657_0,hx657_1,hx657_2,hx657_3,hx658_0,hx658_1,hx658_2,hx658_3⟩ (fun hHeld=>?_);refine with_tabW F0.tab31 F0.bits31 (fun HT_ HW_=>?_);generalize wr.drew=w109 at HO_12 HO_21 BK616 BK621 BK642 BK647 HB hx657_0 hx657_1 hx657_2 hx657_3 hx658_0 hx658_1 hx658_2 hx658_3 hHeld ⊢;refine pure_ (i:=0) (N:=some 149) (v:=?_) (a':=?_) (bm_ 1 16) rfl rfl (any_of HT_.out jA) (fun _ _ _ h=>h) (Or.inl ⟨by rfl,?_⟩) ?_ ?_;rotate_left;exact jb;rotate_left;exact jc
                          refine pure_ (i:=1) (N:=some 150) (v:=?_) (a':=?_) (bm_ 2 16) rfl rfl (any_of HT_.out jA) (fun _ _ _ h=>h) (Or.inl ⟨by rfl,?_⟩) ?_ ?_;rotate_left;exact jb;rotate_left;exact jc
                          refine pure_ (i:=2) (N:=some 151) (v:=?_) (a':=?_) (bm_ 3 16) rfl rfl (any_of HT_.out jA) (fun _ _ _ h=>h) (Or.inl ⟨by rfl,?_⟩) ?_ ?_;rotate_left;exact jb;rotate_left;exact jc
                          refine pure_ (i:=3) (N:=some 152) (v:=?_) (a':=?_) (bm_ 4 16) rfl rfl (any_of HT_.out jA) (fun _ _ _ h=>h) (Or.inl ⟨by rfl,?_⟩) ?_ ?_;rotate_left;exact jb;rotate_left;exact jc
                          refine pure_ (i:=4) (N:=some 153) (v:=?_) (a':=?_) (bm_ 5 16) rfl rfl (any_of HT_.out jA) (fun _ _ _ h=>h) (Or.inl ⟨by rfl,?_⟩) ?_ ?_;rotate_left;exact jb;rotate_left;exact jc
                          refine pure_ (i:=5) (N:=some 154) (v:=?_) (a':=?_) (bm_ 6 16) rfl rfl (any_of HT_.out jA) (fun _ _ _ h=>h) (Or.inl ⟨by rfl,?_⟩) ?_ ?_;rotate_left;exact jb;rotate_left;exact jc
                          refine pure_ (i:=6) (N:=some 155) (v:=?_) (a':=?_) (bm_ 7 16) rfl rfl (any_of HT_.out jA) (fun _ _ _ h=>h) (Or.inl ⟨by rfl,?_⟩) ?_ ?_;rotate_left;exact jb;rotate_left;exact jc
                          refine pure_ (i:=7) (N:=some 156) (v:=?_) (a':=?_) (bm_ 8 16) rfl rfl (any_of HT_.out jA) (fun _ _ _ h=>h) (Or.inl ⟨by rfl,?_⟩) ?_ ?_;rotate_left;exact jb;rotate_left;exact jc
                          refine pure_ (i:=9) (N:=some 158) (v:=?_) (a':=?_) #[true,true,true,true,true,true,true,true,false,true,false,false,false,false,false,false] rfl rfl (any_of HT_.out jA) (fun _ _ _ h=>h) (Or.inl ⟨by rfl,?_⟩) ?_ ?_;rotate_left;exact jb;rotate_left;exact jc
                          refine pure_ (i:=10) (N:=some 159) (v:=?_) (a':=?_) #[true,true,true,true,true,true,true,true,false,true,true,false,false,false,false,false] rfl rfl (any_of HT_.out jA) (fun _ _ _ h=>h) (Or.inl ⟨by rfl,?_⟩) ?_ ?_;rotate_left;exact jb;rotate_left;exact jc
                          refine pure_ (i:=11) (N:=some 160) (v:=?_) (a':=?_) #[true,true,true,true,true,true,true,true,false,true,true,true,false,false,false,false] rfl rfl (any_of HT_.out jA) (fun _ _ _ h=>h) (Or.inl ⟨by rfl,?_⟩) ?_ ?_;rotate_left;exact jb;rotate_left;exact jc
                          refine pure_ (i:=12) (N:=some 161) (v:=?_) (a':=?_) #[true,true,true,true,true,true,true,true,false,true,true,true,true,false,false,false] rfl rfl (any_of HT_.out jA) (fun _ _ _ h=>h) (Or.inl ⟨by rfl,?_⟩) ?_ ?_;rotate_left;exact jb;rotate_left;exact jc
                          refine take_ (i:=8) (N:=some 157) (v:=?_) (a':=?_) (bm_ 13 16) rfl rfl (yo HT_.out HW_.out jA) (fun _ _ _ h=>h) (Or.inl ⟨by rfl,?_⟩) hHeld ?_ ?_;rotate_left
                          ·
                           rintro w' ⟨s0,s1,s2,s3,s4,s5,s6,s7⟩
                           go_simp
                           with_reducible rfl
                          rotate_left
                          exact jc
                          refine take_ (i:=13) (N:=some 162) (v:=?_) (a':=?_) (bm_ 14 16) rfl rfl (yo HT_.out HW_.out jA) (fun _ _ _ h=>h) (Or.inl ⟨by rfl,?_⟩) hHeld ?_ ?_;rotate_left
                          ·
                           rintro w' ⟨s0,s1,s2,s3,s4,s5,s6,s7⟩
                           go_simp
                           with_reducible rfl
                          rotate_left
                          exact jc
                          refine pure_ (i:=14) (N:=some 163) (v:=?_) (a':=?_) (bm_ 15 16) rfl rfl (any_of HT_.out jA) (fun _ _ _ h=>h) (Or.inl ⟨by rfl,?_⟩) ?_ ?_;rotate_left;exact jb;rotate_left;exact jc
                          refine pure_ (i:=15) (N:=some 164) (v:=?_) (a':=?_) (bm_ 16 16) rfl rfl (any_of HT_.out jA) (fun _ _ _ h=>h) (Or.inl ⟨by rfl,?_⟩) ?_ ?_;rotate_left;exact jb;rotate_left;exact jc
                          refine done_ (done_of HT_.out jA) ?_
                          try go_wp2
                          go_meet
                          case rel=>exact ⟨_,(!(Op.bytesLess (((rd_T43 t653 (ji105)).f0).toList) (((rd_T43 t653 x23_7).f0).toList))),(by first|rfl|(simp;done)|(simp only [← hji105] <;> (first|rfl|simp))|(simp [*];done)),H',⟨jDY⟩,⟨js⟩,⟨jA0⟩,⟨jU⟩,⟨jV⟩,⟨jz⟩,⟨jAD⟩,⟨jt⟩⟩
                         rw [if_neg c108] at H;exact absurd H (by simp)
                        rw [if_neg c107] at H;exact absurd H (by simp)
                       rw [if_neg c106] at H;exact absurd H (by simp)
                      rw [if_neg c104] at H;have c104b0 : decide (0<x23_7)=false:=decide_eq_false c104;clear c104;(first|rw [c104b0]|(simp only [zG,zH];rw [c104b0])|skip);have H':=zh H;clear H
                      try go_wp2
                      replace HO_12:=zh (zo HO_12.out);replace HO_21:=zh (zo HO_21.out);replace BK616:=zh (zf BK616.out);replace BK621:=zh (zf BK621.out);replace BK642:=zh (zf BK642.out);replace BK647:=zh (zf BK647.out);replace HB:=zh (zc HB.out);refine start_ (n:=16) (S:=fun w' => True) (ds:=[]) (bm_ 0 16) jA rfl rfl trivial (fun hHeld=>?_);refine with_tabW F0.tab31 F0.bits31 (fun HT_ HW_=>?_);generalize wr.drew=w110 at HO_12 HO_21 BK616 BK621 BK642 BK647 HB hHeld ⊢;refine pure_ (i:=0) (N:=some 149) (v:=?_) (a':=?_) (bm_ 1 16) rfl rfl (any_of HT_.out jA) (fun _ _ _ h=>h) (Or.inl ⟨by rfl,?_⟩) ?_ ?_;rotate_left;exact jb;rotate_left;exact jc
                      refine pure_ (i:=1) (N:=some 150) (v:=?_) (a':=?_) (bm_ 2 16) rfl rfl (any_of HT_.out jA) (fun _ _ _ h=>h) (Or.inl ⟨by rfl,?_⟩) ?_ ?_;rotate_left;exact jb;rotate_left;exact jc
                      refine pure_ (i:=2) (N:=some 151) (v:=?_) (a':=?_) (bm_ 3 16) rfl rfl (any_of HT_.out jA) (fun _ _ _ h=>h) (Or.inl ⟨by rfl,?_⟩) ?_ ?_;rotate_left;exact jb;rotate_left;exact jc
                      refine pure_ (i:=3) (N:=some 152) (v:=undef) (a':=?_) (bm_ 4 16) rfl rfl (any_of HT_.out jA) (fun _ _ _ h=>h) (Or.inr ⟨by rfl,rfl⟩) ?_ ?_;rotate_left
                      exact jc
                      refine pure_ (i:=4) (N:=some 153) (v:=undef) (a':=?_) (bm_ 5 16) rfl rfl (any_of HT_.out jA) (fun _ _ _ h=>h) (Or.inr ⟨by rfl,rfl⟩) ?_ ?_;rotate_left
                      exact jc
                      refine pure_ (i:=5) (N:=some 154) (v:=undef) (a':=?_) (bm_ 6 16) rfl rfl (any_of HT_.out jA) (fun _ _ _ h=>h) (Or.inr ⟨by rfl,rfl⟩) ?_ ?_;rotate_left
                      exact jc
                      refine pure_ (i:=6) (N:=some 155) (v:=undef) (a':=?_) (bm_ 7 16) rfl rfl (any_of HT_.out jA) (fun _ _ _ h=>h) (Or.inr ⟨by rfl,rfl⟩) ?_ ?_;rotate_left
                      exact jc
                      refine pure_ (i:=7) (N:=some 156) (v:=undef) (a':=?_) (bm_ 8 16) rfl rfl (any_of HT_.out jA) (fun _ _ _ h=>h) (Or.inr ⟨by rfl,rfl⟩) ?_ ?_;rotate_left
                      exact jc
                      refine pure_ (i:=8) (N:=some 157) (v:=undef) (a':=?_) (bm_ 9 16) rfl rfl (any_of HT_.out jA) (fun _ _ _ h=>h) (Or.inr ⟨by rfl,rfl⟩) ?_ ?_;rotate_left
                      exact jc
                      refine pure_ (i:=9) (N:=some 158) (v:=undef) (a':=?_) (bm_ 10 16) rfl rfl (any_of HT_.out jA) (fun _ _ _ h=>h) (Or.inr ⟨by rfl,rfl⟩) ?_ ?_;rotate_left
                      exact jc
                      refine pure_ (i:=10) (N:=some 159) (v:=undef) (a':=?_) (bm_ 11 16) rfl rfl (any_of HT_.out jA) (fun _ _ _ h=>h) (Or.inr ⟨by rfl,rfl⟩) ?_ ?_;rotate_left
                      exact jc
                      refine pure_ (i:=11) (N:=some 160) (v:=undef) (a':=?_) (bm_ 12 16) rfl rfl (any_of HT_.out jA) (fun _ _ _ h=>h) (Or.inr ⟨by rfl,rfl⟩) ?_ ?_;rotate_left
                      exact jc
                      refine pure_ (i:=12) (N:=some 161) (v:=undef) (a':=?_) (bm_ 13 16) rfl rfl (any_of HT_.out jA) (fun _ _ _ h=>h) (Or.inr ⟨by rfl,rfl⟩) ?_ ?_;rotate_left
                      exact jc
                      refine pure_ (i:=13) (N:=some 162) (v:=undef) (a':=?_) (bm_ 14 16) rfl rfl (any_of HT_.out jA) (fun _ _ _ h=>h) (Or.inr ⟨by rfl,rfl⟩) ?_ ?_;rotate_left
                      exact jc
                      refine pure_ (i:=14) (N:=some 163) (v:=undef) (a':=?_) (bm_ 15 16) rfl rfl (any_of HT_.out jA) (fun _ _ _ h=>h) (Or.inr ⟨by rfl,rfl⟩) ?_ ?_;rotate_left
                      exact jc
                      refine pure_ (i:=15) (N:=some 164) (v:=?_) (a':=?_) (bm_ 16 16) rfl rfl (any_of HT_.out jA) (fun _ _ _ h=>h) (Or.inl ⟨by rfl,?_⟩) ?_ ?_;rotate_left;exact jb;rotate_left;exact jc
                      refine done_ (done_of HT_.out jA) ?_
                      try go_wp2
                      go_meet
                      case rel=>exact ⟨_,(false),jC,H',⟨jDY⟩,⟨js⟩,⟨jA0⟩,⟨jU⟩,⟨jV⟩,⟨jz⟩,⟨jAD⟩,⟨jt⟩⟩
                    case rest =>
                     as_aux_lemma =>
                      clear HC102
                      try clear c1 c2
                      try clear p2
                      try clear c3 c4 c4b0 c4b1 c5 c6
                      try clear p6
                      try clear q6
                      try clear hx6
                      try clear c7 c8 c9 c10 c11 c12 c13 c14 c15 c17 c18 c20 c20b0 c20b1 c21 c24 c26 c26b0 c26b1 c28 c28b0 c28b1 c30 c31 c31b0 c31b1 c32 c37 c42 c46 c53 c53b0 c54 c54b0 c55 c55b0 c56
                      try clear p63
                      try clear q63
                      try clear hx63
                      try clear p64
                      try clear p65
                      try clear q65
                      try clear hx65
                      try clear c66 c67 c71 c72 c73 c75 c75b0 c75b1 c76 c77 c78 c80 c81 c83 c84 c84b0 c84b1 c87 c88 c89 c92 c92b0 c92b1 c93 c93b0 c93b1 c93b2 c95 c96 c97 c100 c101 c101b0 c104 c104b0 c106 c106b0 c107 c107b0 c108 c108b0
                      try clear hcz15_0 hcz15_1 hcz15_2
                      try clear hcz19_0 hcz19_1 hcz19_2
                      try clear hcz22_0 hcz22_1 hcz22_2
                      try clear hcz23_0 hcz23_1 hcz23_2
                      try clear hcz33_0 hcz33_1 hcz33_2
                      try clear hcz36_0 hcz36_1 hcz36_2
                      try clear hcz38_0 hcz38_1 hcz38_2
                      try clear hcz41_0 hcz41_1 hcz41_2
                      try clear hcz43_0 hcz43_1 hcz43_2
                      try clear hcz47_0 hcz47_1 hcz47_2
                      try clear hcz68_0 hcz68_1 hcz68_2
                      try clear hcz74_0 hcz74_1 hcz74_2
                      try clear hcz79_0 hcz79_1 hcz79_2
                      try clear hcz82_0 hcz82_1 hcz82_2
                      try clear hcz90_0 hcz90_1 hcz90_2
                      try clear hcz98_0 hcz98_1 hcz98_2
                      try clear hfz15_0 hfz15_1 hfz15_2
                      try clear hfz19_0 hfz19_1 hfz19_2
                      try clear hfz22_0 hfz22_1 hfz22_2
                      try clear hfz23_0 hfz23_1 hfz23_2
                      try clear hfz33_0 hfz33_1 hfz33_2
                      try clear hfz36_0 hfz36_1 hfz36_2
                      try clear hfz38_0 hfz38_1 hfz38_2
                      try clear hfz41_0 hfz41_1 hfz41_2
                      try clear hfz43_0 hfz43_1 hfz43_2
                      try clear hfz47_0 hfz47_1 hfz47_2
                      try clear hfz68_0 hfz68_1 hfz68_2
                      try clear hfz74_0 hfz74_1 hfz74_2
                      try clear hfz79_0 hfz79_1 hfz79_2
                      try clear hfz82_0 hfz82_1 hfz82_2
                      try clear hfz90_0 hfz90_1 hfz90_2
                      try clear hfz98_0 hfz98_1 hfz98_2
                      try clear hx633_0
                      try clear hx634_0
                      try clear hx634_1
                      try clear hx634_2
                      try clear hx657_0
                      try clear hx657_1
                      try clear hx657_2
                      try clear hx657_3
                      try clear hx658_0
                      try clear hx658_1
                      try clear hx658_2
                      try clear hx658_3
                      try clear p2
                      try clear p6
                      try clear p63
                      try clear p633
                      try clear p634
                      try clear p64
                      try clear p657
                      try clear p658
                      try clear q6
                      try clear q63
                      try clear q633
                      try clear q634
                      try clear q657
                      try clear q658
                      obtain ⟨kq,x164_101,rfl,HA,HJ101,HO_12,HO_21,BK616,BK621,BK642,BK647,HB⟩:=hcut
                      cases kq with
                      | zero=>exact absurd HA.out (by simp [F0.j7])
                      | succ kj101 =>
                       have H:=HA.out;clear HA;simp only [F0.j7] at H
                       by_cases c111 : x164_101=true
                       ·
                        subst c111
                        have H1 : (some false)=some r:=by rw [if_pos rfl] at H;exact H
                        exact absurd H1 jBI
                       replace c111:=yb.mpr c111;subst c111;rw [if_neg (show ¬ (false=true) by decide)] at H;have H':=zh H;clear H
                       go_wp2
                       go_loopg [24,25] kj101 (fun kq v24 v25 w' => ∃ (x24_9 : Bool) (x25_9 : Int),v24 = .bool x24_9∧v25 = .int .i64 x25_9∧Aside0 (F0.l2 kq x12_4 t653 x23_7 x24_9 x25_9=some r)∧Aside0 (kq≤kj101)∧Aside0 (Kd.R k43 43 w' w.heap.size (fun k_=>some k_≠((.slice Ao103 t653.length co103) : Value).ownBlock) (.slice Ao63 x12_4.length co63) x12_4)∧Aside0 (Kd.R k43 43 w' w.heap.size (fun k_=>some k_≠((.slice Ao63 x12_4.length co63) : Value).ownBlock) (.slice Ao103 t653.length co103) t653)∧Aside0 (w'.heap[gb616]? = some (.cells #[.int .i64 t612,.int .i64 t613,.string t614] 25 (0,0)))∧Aside0 (w'.heap[gb621]? = some (.cells #[.int .i64 t617,.int .i64 t618,.string t619] 25 (0,0)))∧Aside0 (w'.heap[gb642]? = some (.cells #[.int .i64 t638,.int .i64 t639,.string t640] 25 (0,0)))∧Aside0 (w'.heap[gb647]? = some (.cells #[.int .i64 t643,.int .i64 t644,.string t645] 25 (0,0)))∧Aside0 (Below w.heap.size w w'))
                       case atStart=>exact ⟨(false),(0),jC,jC,H',⟨ye _⟩,⟨js⟩,⟨jA0⟩,⟨jU⟩,⟨jV⟩,⟨jz⟩,⟨jAD⟩,⟨jt⟩⟩
                       case round =>
                        as_aux_lemma =>
                         clear H'
                         try clear c1 c2
                         try clear p2
                         try clear c3 c4 c4b0 c4b1 c5 c6
                         try clear p6
                         try clear q6
                         try clear hx6
                         try clear c7 c8 c9 c10 c11 c12 c13 c14 c15 c17 c18 c20 c20b0 c20b1 c21 c24 c26 c26b0 c26b1 c28 c28b0 c28b1 c30 c31 c31b0 c31b1 c32 c37 c42 c46 c53 c53b0 c54 c54b0 c55 c55b0 c56
                         try clear p63
                         try clear q63
                         try clear hx63
                         try clear p64
                         try clear p65
                         try clear q65
                         try clear hx65
                         try clear c66 c67 c71 c72 c73 c75 c75b0 c75b1 c76 c77 c78 c80 c81 c83 c84 c84b0 c84b1 c87 c88 c89 c92 c92b0 c92b1 c93 c93b0 c93b1 c93b2 c95 c96 c97 c100 c101 c101b0 c104 c104b0 c106 c106b0 c107 c107b0 c108 c108b0 c111
                         try clear hcz15_0 hcz15_1 hcz15_2
                         try clear hcz19_0 hcz19_1 hcz19_2
                         try clear hcz22_0 hcz22_1 hcz22_2
                         try clear hcz23_0 hcz23_1 hcz23_2
                         try clear hcz33_0 hcz33_1 hcz33_2
                         try clear hcz36_0 hcz36_1 hcz36_2
                         try clear hcz38_0 hcz38_1 hcz38_2
                         try clear hcz41_0 hcz41_1 hcz41_2
                         try clear hcz43_0 hcz43_1 hcz43_2
                         try clear hcz47_0 hcz47_1 hcz47_2
                         try clear hcz68_0 hcz68_1 hcz68_2
                         try clear hcz74_0 hcz74_1 hcz74_2
                         try clear hcz79_0 hcz79_1 hcz79_2
                         try clear hcz82_0 hcz82_1 hcz82_2
                         try clear hcz90_0 hcz90_1 hcz90_2
                         try clear hcz98_0 hcz98_1 hcz98_2
                         try clear hfz15_0 hfz15_1 hfz15_2
                         try clear hfz19_0 hfz19_1 hfz19_2
                         try clear hfz22_0 hfz22_1 hfz22_2
                         try clear hfz23_0 hfz23_1 hfz23_2
                         try clear hfz33_0 hfz33_1 hfz33_2
                         try clear hfz36_0 hfz36_1 hfz36_2
                         try clear hfz38_0 hfz38_1 hfz38_2
                         try clear hfz41_0 hfz41_1 hfz41_2
                         try clear hfz43_0 hfz43_1 hfz43_2
                         try clear hfz47_0 hfz47_1 hfz47_2
                         try clear hfz68_0 hfz68_1 hfz68_2
                         try clear hfz74_0 hfz74_1 hfz74_2
                         try clear hfz79_0 hfz79_1 hfz79_2
                         try clear hfz82_0 hfz82_1 hfz82_2
                         try clear hfz90_0 hfz90_1 hfz90_2
                         try clear hfz98_0 hfz98_1 hfz98_2
                         try clear hx633_0
                         try clear hx634_0
                         try clear hx634_1
                         try clear hx634_2
                         try clear hx657_0
                         try clear hx657_1
                         try clear hx657_2
                         try clear hx657_3
                         try clear hx658_0
                         try clear hx658_1
                         try clear hx658_2
                         try clear hx658_3
                         try clear p2
                         try clear p6
                         try clear p63
                         try clear p633
                         try clear p634
                         try clear p64
                         try clear p65
                         try clear p657
                         try clear p658
                         try clear q6
                         try clear q63
                         try clear q633
                         try clear q634
                         try clear q65
                         try clear q657
                         try clear q658
                         obtain ⟨x24_9,x25_9,rfl,rfl,HA,HK9,HO_12,HO_21,BK616,BK621,BK642,BK647,HB⟩:=hrel
                         cases gk with
                         | zero=>exact absurd HA.out (by simp [F0.l2])
                         | succ k9 =>
                          have H:=HA.out;clear HA;simp only [F0.l2] at H
                          by_cases c112 : x25_9<(x12_4.length : Int)
                          ·
                           rw [if_pos c112] at H
                           have c112b0 : decide (x25_9<(x12_4.length : Int))=true:=decide_eq_true c112;clear c112
                           by_cases c113 : x24_9=true
                           ·
                            subst c113
                            rw [if_pos rfl] at H;have H':=zh H;clear H
                            try go_wp2
                            replace HO_12:=zh (zo HO_12.out);replace HO_21:=zh (zo HO_21.out);replace BK616:=zh (zf BK616.out);replace BK621:=zh (zf BK621.out);replace BK642:=zh (zf BK642.out);replace BK647:=zh (zf BK647.out);replace HB:=zh (zc HB.out);refine start_ (n:=13) (S:=fun w' => True) (ds:=[]) (bm_ 0 13) jA rfl rfl trivial (fun hHeld=>?_);refine with_tabW F0.tab37 F0.bits37 (fun HT_ HW_=>?_);generalize wr.drew=w114 at HO_12 HO_21 BK616 BK621 BK642 BK647 HB hHeld ⊢;refine pure_ (i:=0) (N:=some 171) (v:=?_) (a':=?_) (bm_ 1 13) rfl rfl (any_of HT_.out jA) (fun _ _ _ h=>h) (Or.inl ⟨by rfl,?_⟩) ?_ ?_;rotate_left;exact jb;rotate_left;exact jc
                            refine pure_ (i:=1) (N:=some 172) (v:=?_) (a':=?_) (bm_ 2 13) rfl rfl (any_of HT_.out jA) (fun _ _ _ h=>h) (Or.inl ⟨by rfl,?_⟩) ?_ ?_;rotate_left;exact jb;rotate_left;exact jc
                            refine pure_ (i:=2) (N:=some 173) (v:=undef) (a':=?_) (bm_ 3 13) rfl rfl (any_of HT_.out jA) (fun _ _ _ h=>h) (Or.inr ⟨by rfl,rfl⟩) ?_ ?_;rotate_left
                            exact jc
                            refine pure_ (i:=3) (N:=some 174) (v:=undef) (a':=?_) (bm_ 4 13) rfl rfl (any_of HT_.out jA) (fun _ _ _ h=>h) (Or.inr ⟨by rfl,rfl⟩) ?_ ?_;rotate_left
                            exact jc
                            refine pure_ (i:=4) (N:=some 175) (v:=undef) (a':=?_) (bm_ 5 13) rfl rfl (any_of HT_.out jA) (fun _ _ _ h=>h) (Or.inr ⟨by rfl,rfl⟩) ?_ ?_;rotate_left
                            exact jc
                            refine pure_ (i:=5) (N:=some 176) (v:=undef) (a':=?_) (bm_ 6 13) rfl rfl (any_of HT_.out jA) (fun _ _ _ h=>h) (Or.inr ⟨by rfl,rfl⟩) ?_ ?_;rotate_left
                            exact jc
                            refine pure_ (i:=6) (N:=some 177) (v:=undef) (a':=?_) (bm_ 7 13) rfl rfl (any_of HT_.out jA) (fun _ _ _ h=>h) (Or.inr ⟨by rfl,rfl⟩) ?_ ?_;rotate_left
                            exact jc
                            refine pure_ (i:=7) (N:=some 178) (v:=undef) (a':=?_) (bm_ 8 13) rfl rfl (any_of HT_.out jA) (fun _ _ _ h=>h) (Or.inr ⟨by rfl,rfl⟩) ?_ ?_;rotate_left
                            exact jc
                            refine pure_ (i:=8) (N:=some 179) (v:=undef) (a':=?_) (bm_ 9 13) rfl rfl (any_of HT_.out jA) (fun _ _ _ h=>h) (Or.inr ⟨by rfl,rfl⟩) ?_ ?_;rotate_left
                            exact jc
                            refine pure_ (i:=9) (N:=some 180) (v:=undef) (a':=?_) (bm_ 10 13) rfl rfl (any_of HT_.out jA) (fun _ _ _ h=>h) (Or.inr ⟨by rfl,rfl⟩) ?_ ?_;rotate_left
                            exact jc
                            refine pure_ (i:=10) (N:=some 181) (v:=undef) (a':=?_) (bm_ 11 13) rfl rfl (any_of HT_.out jA) (fun _ _ _ h=>h) (Or.inr ⟨by rfl,rfl⟩) ?_ ?_;rotate_left
                            exact jc
                            refine pure_ (i:=11) (N:=some 182) (v:=?_) (a':=?_) (bm_ 12 13) rfl rfl (any_of HT_.out jA) (fun _ _ _ h=>h) (Or.inl ⟨by rfl,?_⟩) ?_ ?_;rotate_left;exact jb;rotate_left;exact jc
                            refine pure_ (i:=12) (N:=some 24) (v:=?_) (a':=?_) (bm_ 13 13) rfl rfl (any_of HT_.out jA) (fun _ _ _ h=>h) (Or.inl ⟨by rfl,?_⟩) ?_ ?_;rotate_left;exact jb;rotate_left;exact jc
                            refine done_ (done_of HT_.out jA) ?_
                            try go_wp2
                            go_roundg k9
                            case measure=>have:=HJ2.out;have:=HJ9.out;have:=HJ24.out;have:=HK4.out;have:=HJ61.out;have:=HJ85.out;have:=HK7.out;have:=HJ101.out;have:=HK9.out;omega
                            case rel=>exact ⟨(true),(wrap64 (x25_9+1)),jC,jC,H',⟨jCe⟩,⟨js⟩,⟨jA0⟩,⟨jU⟩,⟨jV⟩,⟨jz⟩,⟨jAD⟩,⟨jt⟩⟩
                           replace c113:=yb.mpr c113;subst c113;rw [if_neg (show ¬ (false=true) by decide)] at H
                           by_cases c115 : 0≤x25_9
                           ·
                            rw [if_pos c115] at H
                            have c115b0 : decide (0≤x25_9)=true:=decide_eq_true c115;clear c115
                            by_cases c116 : 0≤x23_7
                            ·
                             rw [if_pos c116] at H
                             have c116b0 : decide (0≤x23_7)=true:=decide_eq_true c116;clear c116
                             by_cases c117 : x23_7<(t653.length : Int)
                             ·
                              rw [if_pos c117] at H
                              have c117b0 : decide (x23_7<(t653.length : Int))=true:=decide_eq_true c117;clear c117;have H':=zh H;clear H
                              try go_wp2
                              replace HO_12:=zh (zo HO_12.out);replace HO_21:=zh (zo HO_21.out);replace BK616:=zh (zf BK616.out);replace BK621:=zh (zf BK621.out);replace BK642:=zh (zf BK642.out);replace BK647:=zh (zf BK647.out);replace HB:=zh (zc HB.out);have p659 : 0≤(x25_9 : Int):=zy jE;have q659 : x25_9<(x12_4.length : Int):=zy jE;obtain ⟨ad659,e659,hx659_0,hx659_1,hx659_2,hx659_3⟩:=at_T43 (yh HO_12.out).2.2 x25_9 p659 q659
                              cases e659
                              replace p659:=eq_true p659;replace q659:=eq_true q659;have p660 : 0≤(x23_7 : Int):=zy jE;have q660 : x23_7<(t653.length : Int):=zy jE;obtain ⟨ad660,e660,hx660_0,hx660_1,hx660_2,hx660_3⟩:=at_T43 (yh HO_21.out).2.2 x23_7 p660 q660
                              cases e660
                              replace p660:=eq_true p660;replace q660:=eq_true q660;refine start_ (n:=13) (S:=fun w' => w'.cell? (ad659.add ((x25_9).toNat*4))=some (.string ((rd_T43 x12_4 x25_9).f0))∧w'.cell? ⟨(ad659.add ((x25_9).toNat*4)).block,(ad659.add ((x25_9).toNat*4)).off+1,none⟩=some (.int .i64 ((rd_T43 x12_4 x25_9).f1.f0))∧w'.cell? ⟨(ad659.add ((x25_9).toNat*4)).block,(ad659.add ((x25_9).toNat*4)).off+2,none⟩=some (.int .i64 ((rd_T43 x12_4 x25_9).f1.f1))∧w'.cell? ⟨(ad659.add ((x25_9).toNat*4)).block,(ad659.add ((x25_9).toNat*4)).off+3,none⟩=some (.string ((rd_T43 x12_4 x25_9).f1.f2))∧w'.cell? (ad660.add ((x23_7).toNat*4))=some (.string ((rd_T43 t653 x23_7).f0))∧w'.cell? ⟨(ad660.add ((x23_7).toNat*4)).block,(ad660.add ((x23_7).toNat*4)).off+1,none⟩=some (.int .i64 ((rd_T43 t653 x23_7).f1.f0))∧w'.cell? ⟨(ad660.add ((x23_7).toNat*4)).block,(ad660.add ((x23_7).toNat*4)).off+2,none⟩=some (.int .i64 ((rd_T43 t653 x23_7).f1.f1))∧w'.cell? ⟨(ad660.add ((x23_7).toNat*4)).block,(ad660.add ((x23_7).toNat*4)).off+3,none⟩=some (.string ((rd_T43 t653 x23_7).f1.f2))) (ds:=[]) (bm_ 0 13) jA rfl rfl ⟨hx659_0,hx659_1,hx659_2,hx659_3,hx660_0,hx660_1,hx660_2,hx660_3⟩ (fun hHeld=>?_);refine with_tabW F0.tab37 F0.bits37 (fun HT_ HW_=>?_);generalize wr.drew=w118 at HO_12 HO_21 BK616 BK621 BK642 BK647 HB hx659_0 hx659_1 hx659_2 hx659_3 hx660_0 hx660_1 hx660_2 hx660_3 hHeld ⊢;refine pure_ (i:=0) (N:=some 171) (v:=?_) (a':=?_) (bm_ 1 13) rfl rfl (any_of HT_.out jA) (fun _ _ _ h=>h) (Or.inl ⟨by rfl,?_⟩) ?_ ?_;rotate_left;exact jb;rotate_left;exact jc
                              refine pure_ (i:=1) (N:=some 172) (v:=?_) (a':=?_) (bm_ 2 13) rfl rfl (any_of HT_.out jA) (fun _ _ _ h=>h) (Or.inl ⟨by rfl,?_⟩) ?_ ?_;rotate_left;exact jb;rotate_left;exact jc
                              refine pure_ (i:=2) (N:=some 173) (v:=?_) (a':=?_) (bm_ 3 13) rfl rfl (any_of HT_.out jA) (fun _ _ _ h=>h) (Or.inl ⟨by rfl,?_⟩) ?_ ?_;rotate_left;exact jb;rotate_left;exact jc
                              refine pure_ (i:=3) (N:=some 174) (v:=?_) (a':=?_) (bm_ 4 13) rfl rfl (any_of HT_.out jA) (fun _ _ _ h=>h) (Or.inl ⟨by rfl,?_⟩) ?_ ?_;rotate_left;exact jb;rotate_left;exact jc
                              refine pure_ (i:=4) (N:=some 175) (v:=?_) (a':=?_) (bm_ 5 13) rfl rfl (any_of HT_.out jA) (fun _ _ _ h=>h) (Or.inl ⟨by rfl,?_⟩) ?_ ?_;rotate_left;exact jb;rotate_left;exact jc
                              refine pure_ (i:=6) (N:=some 177) (v:=?_) (a':=?_) #[true,true,true,true,true,false,true,false,false,false,false,false,false] rfl rfl (any_of HT_.out jA) (fun _ _ _ h=>h) (Or.inl ⟨by rfl,?_⟩) ?_ ?_;rotate_left;exact jb;rotate_left;exact jc
                              refine pure_ (i:=7) (N:=some 178) (v:=?_) (a':=?_) #[true,true,true,true,true,false,true,true,false,false,false,false,false] rfl rfl (any_of HT_.out jA) (fun _ _ _ h=>h) (Or.inl ⟨by rfl,?_⟩) ?_ ?_;rotate_left;exact jb;rotate_left;exact jc
                              refine pure_ (i:=8) (N:=some 179) (v:=?_) (a':=?_) #[true,true,true,true,true,false,true,true,true,false,false,false,false] rfl rfl (any_of HT_.out jA) (fun _ _ _ h=>h) (Or.inl ⟨by rfl,?_⟩) ?_ ?_;rotate_left;exact jb;rotate_left;exact jc
                              refine take_ (i:=5) (N:=some 176) (v:=?_) (a':=?_) (bm_ 9 13) rfl rfl (yo HT_.out HW_.out jA) (fun _ _ _ h=>h) (Or.inl ⟨by rfl,?_⟩) hHeld ?_ ?_;rotate_left
                              ·
                               rintro w' ⟨s0,s1,s2,s3,s4,s5,s6,s7⟩
                               go_simp
                               with_reducible rfl
                              rotate_left
                              exact jc
                              refine take_ (i:=9) (N:=some 180) (v:=?_) (a':=?_) (bm_ 10 13) rfl rfl (yo HT_.out HW_.out jA) (fun _ _ _ h=>h) (Or.inl ⟨by rfl,?_⟩) hHeld ?_ ?_;rotate_left
                              ·
                               rintro w' ⟨s0,s1,s2,s3,s4,s5,s6,s7⟩
                               go_simp
                               with_reducible rfl
                              rotate_left
                              exact jc
                              refine pure_ (i:=10) (N:=some 181) (v:=?_) (a':=?_) (bm_ 11 13) rfl rfl (any_of HT_.out jA) (fun _ _ _ h=>h) (Or.inl ⟨by rfl,?_⟩) ?_ ?_;rotate_left;exact jb;rotate_left;exact jc
                              refine pure_ (i:=11) (N:=some 182) (v:=?_) (a':=?_) (bm_ 12 13) rfl rfl (any_of HT_.out jA) (fun _ _ _ h=>h) (Or.inl ⟨by rfl,?_⟩) ?_ ?_;rotate_left;exact jb;rotate_left;exact jc
                              refine pure_ (i:=12) (N:=some 24) (v:=?_) (a':=?_) (bm_ 13 13) rfl rfl (any_of HT_.out jA) (fun _ _ _ h=>h) (Or.inl ⟨by rfl,?_⟩) ?_ ?_;rotate_left;exact jb;rotate_left;exact jc
                              refine done_ (done_of HT_.out jA) ?_
                              try go_wp2
                              go_roundg k9
                              case measure=>have:=HJ2.out;have:=HJ9.out;have:=HJ24.out;have:=HK4.out;have:=HJ61.out;have:=HJ85.out;have:=HK7.out;have:=HJ101.out;have:=HK9.out;omega
                              case rel=>exact ⟨(((((rd_T43 x12_4 x25_9).f0).toList) == (((rd_T43 t653 x23_7).f0).toList) && ((((rd_T43 x12_4 x25_9).f1.f0) == ((rd_T43 t653 x23_7).f1.f0) && (((rd_T43 x12_4 x25_9).f1.f1) == ((rd_T43 t653 x23_7).f1.f1) && ((((rd_T43 x12_4 x25_9).f1.f2).toList) == (((rd_T43 t653 x23_7).f1.f2).toList))))))),(wrap64 (x25_9+1)),jC,jC,H',⟨jCe⟩,⟨js⟩,⟨jA0⟩,⟨jU⟩,⟨jV⟩,⟨jz⟩,⟨jAD⟩,⟨jt⟩⟩
                             rw [if_neg c117] at H;exact absurd H (by simp)
                            rw [if_neg c116] at H;exact absurd H (by simp)
                           rw [if_neg c115] at H;exact absurd H (by simp)
                          rw [if_neg c112] at H;have c112b0 : decide (x25_9<(x12_4.length : Int))=false:=decide_eq_false c112;clear c112
                          by_cases c119 : x24_9=true
                          ·
                           subst c119
                           rw [if_pos rfl] at H;have H':=zh H;clear H
                           go_wp2
                           go_roundg k9
                           case measure=>have:=HJ2.out;have:=HJ9.out;have:=HJ24.out;have:=HK4.out;have:=HJ61.out;have:=HJ85.out;have:=HK7.out;have:=HJ101.out;have:=HK9.out;omega
                           case rel=>exact ⟨(wrap64 (x23_7+1)),jC,H',⟨jCe⟩,⟨js⟩,⟨jA0⟩,⟨jU⟩,⟨jV⟩,⟨jz⟩,⟨jAD⟩,⟨jt⟩⟩
                          replace c119:=yb.mpr c119;subst c119;have H1 : (some false)=some r:=by rw [if_neg (show ¬ (false=true) by decide)] at H;exact H
                          exact absurd H1 jBI
                   rw [if_neg c101] at H;have c101b0 : decide (x23_7<(t653.length : Int))=false:=decide_eq_false c101;clear c101;obtain rfl:=zU H;obtain ⟨Ao120,co120,eo120⟩:=yk HO_21.out;subst eo120
                   go_wp2
                   go_ret
                   exact ⟨jF,jt⟩
             rw [if_neg c84] at H;have c84b0 : (t641 == 0)=false:=zY.mpr c84;have c84b1 : (t641 != 0)=true:=zZ.mpr c84;replace H:=zT.mp H;obtain ⟨⟨t648,t649,t650,t651⟩,A1210,H⟩:=H;have A121:=zh A1210;clear A1210;obtain rfl:=zU H
             go_wp2_with (first|((with_reducible refine zJ (f:=6) rfl ?_);refine yj (some 118) rfl rfl Try.func6 jA rfl #[.slice Ao63 x12_4.length co63] rfl jD ?_;(with_reducible refine (F1.calls kj61  _ _ x12_4 t648 t649 t650 t651 _ ?side1 ?side2 A121.out).mono ?_);(case side1=>repeat (first|exact (yh HO_12.out).2.2|(with_reducible refine Kd.C_alloc ?_ _)|(with_reducible refine Kd.C_drewN ?_ _)|(with_reducible refine Kd.C_drew ?_)));(case side2=>exact (yh HO_12.out).2.1);rintro e w122 ⟨rfl,hb⟩;refine ⟨_,rfl,?_⟩;replace HO_12:=zh (yg js hb);replace BK616:=zh (cD BK616.out jU hb);replace BK621:=zh (cD BK621.out jV hb);replace BK642:=zh (cD BK642.out jz hb);replace BK647:=zh (cD BK647.out jAD hb);replace HB:=zh (zC jt hb);(try clear hb);(try clear hb2);(try clear hk);(try clear hi))|((with_reducible refine zK (N:=19) rfl ?_);(try (refine yz (by rfl) ?_;dsimp only));refine zI ?hg (N:=19) ?hd (cs:=#[.int .i64 0,.int .i64 0,.string (⟨#[]⟩ : ByteArray)]) (t:=25) ?hr ?_;(case hd=>rfl);(case hg=>rfl);(case hr=>go_simp <;> rfl);intro gb652 hg w123 hbox hb;replace HO_12:=zh (yg js hb);have BK652:=zh (hbox);have hH_:=cH jt hb hg;have GW652:=zh hH_.1;have GE652:=GW652;replace HB:=zh hH_.2;have NB616_652:=zh ((jB0 : gb616≠gb652));have NB652_616:=zh NB616_652.out.symm;replace BK616:=zh (cD BK616.out jU hb);have NB621_652:=zh ((jCZ : gb621≠gb652));have NB652_621:=zh NB621_652.out.symm;replace BK621:=zh (cD BK621.out jV hb);have NB642_652:=zh ((jDR : gb642≠gb652));have NB652_642:=zh NB642_652.out.symm;replace BK642:=zh (cD BK642.out jz hb);have NB647_652:=zh ((by rw [hg];exact yc (yi (g:=gb647) (o:=.cells #[.int .i64 t643,.int .i64 t644,.string t645] 25 (0,0)) jAD) : gb647≠gb652));have NB652_647:=zh NB647_652.out.symm;replace BK647:=zh (cD BK647.out jAD hb);clear hb hbox hg hH_;have hnb124:=NB652_616.out;have hnc124:=NB616_652.out;have hnb125:=NB652_621.out;have hnc125:=NB621_652.out;have hnb126:=NB652_642.out;have hnc126:=NB642_652.out;have hnb127:=NB652_647.out;have hnc127:=NB647_652.out;obtain ⟨hcz128_0,hcz128_1,hcz128_2,hfz128_0,hfz128_1,hfz128_2⟩:=cB3 BK652.out))
             go_ret
             exact ⟨jF,by repeat (with_reducible first|exact HB.out|apply za|apply zb|apply zc|refine zd ?_ GE616.out|refine zd ?_ GE621.out|refine zd ?_ GE642.out|refine zd ?_ GE647.out|refine zd ?_ GE652.out)⟩

end Go.Proofs.Ytoinoihiknmnmaa.Q
end
section
namespace Go.Proofs.YtoinoihiknmnmaaW.PrintOpen
open Go.RowKit Go.ChangeShapes Go.WideShapes Go.ChangeAt Go.Proofs.YtoinoihiknmnmaaW.PrintWords
def Opens {α : Type} (P : Program) (d : Kd α) (t : TypeId) (good : α→Prop) : Prop :=
 ∀ (H : Type) (enc : TypeId×Value→H) (w : World) (base : Nat) (spare : Nat→Bool) (held : Bool) (fuel : Nat) (cs : List Value) (x : DataW H×List MemPlace),
  DataW.trod enc P w base spare held fuel t cs=some x → ∃ a,d.K w a cs∧good a
variable {P : Program}
theorem opens_int {t : TypeId} {k : IntKind} (ht : P.underlying t=some (.int k)) : Opens P (Kd.int k) t (fun n=>(Lit.int k n).wf=true):=by
 intro H enc w base spare held fuel cs x h;obtain ⟨n,hcs,_,hw⟩:=DataW.trod_int ht h;exact ⟨n,hcs,hw⟩
theorem opens_slice {α : Type} {t e : TypeId} {d : Kd α} {g : α→Prop} (ht : P.underlying t=some (.slice e)) (hc : P.cellsOf e=d.sz) (he : Opens P d e g) :
  Opens P (Kd.slice e d) t (fun l=>l.length≤9223372036854775807 ∧ ∀ x ∈ l,g x):=by
 intro H enc w base spare held fuel cs x h;rcases Deep.open_slice ht h with ⟨rfl,_⟩|⟨a,len,cap,m,n,D,Pl,rfl,_,hl,hm,hmm,_,hx⟩
 ·
  exact ⟨[],⟨none,0,rfl,Nat.le_refl _,rfl,by simp,fun h0=>absurd h0 (by simp)⟩,by simp,by simp⟩
 have hlm : len≤m:=by rw [hmm];split <;> omega
 have hall : ∀ i : Fin len,∃ v : α×List Value,w.cells? base (a.add (i.1*P.cellsOf e)) (P.cellsOf e)=some v.2∧d.K w v.1 v.2∧g v.1:=fun i=>by
  obtain ⟨cs',h1,h2⟩:=hx i.1 (by have:=i.2;omega);obtain ⟨a',hk,hg⟩:=he H enc w base spare held n cs' _ h2;exact ⟨(a',cs'),h1,hk,hg⟩
 obtain ⟨V,hV⟩:=Classical.axiomOfChoice hall;have hmax : len≤9223372036854775807:=by unfold maxLen at hm;omega
 have hlen : (List.ofFn fun i=>(V i).1).length=len:=List.length_ofFn;refine ⟨List.ofFn fun i=>(V i).1,⟨some a,cap,by rw [hlen],by rw [hlen];exact hl,rfl,by rw [hlen];exact hmax,fun _=>⟨a,rfl,?_⟩⟩,by rw [hlen];exact hmax,?_⟩
 ·
  intro j p hj
  have hjl : j<len:=by
   have:=(List.getElem?_eq_some_iff.1 hj).1
   omega
  rw [List.getElem?_ofFn,dif_pos hjl] at hj;obtain rfl:=Option.some.inj hj;obtain ⟨h1,h2,_⟩:=hV ⟨j,hjl⟩;obtain ⟨_,hlen2,hcell⟩:=World.cells?_some h1;refine ⟨(V ⟨j,hjl⟩).2,by rw [← hc];exact hlen2,h2,fun q u hu=>?_⟩
  have hq : q<P.cellsOf e:=by
   have:=(List.getElem?_eq_some_iff.1 hu).1
   omega
  have h3:=hcell q hq;rw [Deep.add_add,hu,hc] at h3;exact h3
 intro x hx;obtain ⟨i,rfl⟩:=List.mem_ofFn.1 hx;exact (hV i).2.2
def OpensF {α : Type} (P : Program) (d : Kd α) (fs : List Field) (off : Nat) (good : α→Prop) : Prop :=
 ∀ (H : Type) (enc : TypeId×Value→H) (w : World) (base : Nat) (spare : Nat→Bool) (held : Bool) (fuel : Nat) (cs : List Value),off+d.sz≤cs.length →
  (∀ f ∈ fs,∃ x,DataW.trod enc P w base spare held fuel f.type ((cs.drop f.offset).take (P.cellsOf f.type))=some x) → ∃ a,d.K w a ((cs.drop off).take d.sz)∧good a
theorem arg_slice {α : Type} {d : Kd α} {t e : TypeId} {g : List α→Prop} {H : Type} {enc : TypeId×Value→H} {w : World} {base b0 : Nat} {spare : Nat→Bool} {held : Bool} {r : Reach} {v : Value} {dd : DataW H} {p : List MemPlace}
  (ht : P.underlying t=some (.slice e)) (h : Opens P (Kd.slice e d) t g) (hv : Value.okWide P w r b0 t v) (hd : DataW.Trod enc P w base spare held t v dd p) :
  ∃ (l : List α) (A : Option Addr) (c : Nat),v = .slice A l.length c∧l.length≤c∧Kd.C d w A l.length l∧g l:=by
 obtain ⟨a,len,cap,rfl⟩:=okWide_slice ht hv;obtain ⟨fuel,hf⟩:=hd;obtain ⟨l,⟨A,c,he,hl,hc⟩,hg⟩:=h H enc w base spare held fuel _ _ hf;simp [Value.cells] at he;obtain ⟨rfl,rfl,rfl⟩:=he;exact ⟨l,a,cap,rfl,hl,hc,hg⟩
end Go.Proofs.YtoinoihiknmnmaaW.PrintOpen
end
section
namespace Go.Proofs.Ytoinoihiknmnmaa.Q
open Go.RowKit Go.Proofs.YtoinoihiknmnmaaW.PrintWords Go.Proofs.YtoinoihiknmnmaaW.PrintLast Go.Proofs.YtoinoihiknmnmaaW.PrintMore Go.Proofs.YtoinoihiknmnmaaW.PrintOpen
def good48 (x_ : S48) : Prop:=((Lit.int .i64 x_.f0).wf=true)∧(((Lit.int .i64 x_.f1).wf=true)∧((x_.f2.size≤9223372036854775807)))
def good50 (x_ : S50) : Prop:=(x_.f0.size≤9223372036854775807)∧((good48 x_.f1))
end Go.Proofs.Ytoinoihiknmnmaa.Q
end
section
namespace Go.Proofs.Ytoinoihiknmnmaa.Q
def F0.Pure : Prop:=∀ (x0 : List Int) (x1 : List Int),((x0.length≤9223372036854775807 ∧ ∀ y0_ ∈ x0,(Lit.int .u8 y0_).wf=true))→((x1.length≤9223372036854775807 ∧ ∀ y0_ ∈ x1,(Lit.int .u8 y0_).wf=true)) → ∃ k,F0.f k x0 x1=some true
end Go.Proofs.Ytoinoihiknmnmaa.Q
end
section
namespace Go.Proofs.YtoinoihiknmnmaaW.Pl
open Go Go.RowKit Go.Proofs.YtoinoihiknmnmaaW.PrintWords Go.Proofs.YtoinoihiknmnmaaW.PrintMore
theorem w64 {i : Int} (h0 : -9223372036854775808≤i) (h1 : i≤9223372036854775807) : wrap64 i=i:=by unfold wrap64;omega
theorem fuel {k d : Nat} (h : d<k) : ∃ m,k=m+1∧d≤m:=⟨k - 1,by omega,by omega⟩
theorem rdOf_at {α : Type} (d : α) (xs : List α) (i : Nat) (h : i<xs.length) : rdOf d xs (i : Int)=xs[i]:=by
 unfold rdOf;simp [List.getD,h]
theorem rd_at (xs : List Int) (i : Nat) (h : i<xs.length) : rd xs (i : Int)=xs[i]:=by
 unfold rd;simp [List.getD,h]
theorem getD_at {α : Type} (d : α) (xs : List α) (i : Nat) (h : i<xs.length) : xs.getD (i : Int).toNat d=xs[i]:=by
 simp [List.getD,h]
theorem drop_at {α : Type} (xs : List α) (i : Nat) (h : i<xs.length) : xs.drop i=xs[i] :: xs.drop (i+1):=List.drop_eq_getElem_cons h
theorem ba_toList (a : ByteArray) : a.toList=a.data.toList:=ByteArray.toList_eq a
theorem ba_ext {a b : ByteArray} (h : a.toList=b.toList) : a=b:=by
 rw [ba_toList,ba_toList] at h
 cases a;cases b
 simp at h;rw [h]
def all2 {α β : Type} (e : α→β→Bool) : List α→List β→Bool
 | [],_=>true
 | _ :: _,[]=>true
 | x :: xs,y :: ys=>e x y && all2 e xs ys
def first {α : Type} (p : α→Bool) : List α→Nat→Int
 | [],_ => -1
 | x :: xs,i=>if p x=true then i else first p xs (i+1)
theorem first_any {α : Type} (p : α→Bool) : ∀ (xs : List α) (i : Nat),decide (first p xs i ≥ 0)=xs.any p
 | [],i=>rfl
 | x :: xs,i=>by
  by_cases h : p x=true
  ·
   simp [first,h]
  simp only [first,if_neg h,List.any_cons,first_any p xs (i+1)];simp [h]
theorem first_loop {α : Type} (g : Nat→Int→Option Int) (xs : List α) (p : α→Bool)
  (hstep : ∀ (k i : Nat) (h : i<xs.length),g (k+1) (i : Int)=if p xs[i]=true then some (i : Int) else g k ((i+1 : Nat) : Int))
  (hend : ∀ k,g (k+1) (xs.length : Int)=some (-1)) : ∀ (d k i : Nat),i+d=xs.length→d<k→g k (i : Int)=some (first p (xs.drop i) i):=by
 intro d
 induction d with
 | zero =>
  intro k i hi hk;obtain ⟨k,rfl,_⟩:=fuel hk;obtain rfl : i=xs.length:=by omega
  rw [hend,List.drop_length];rfl
 | succ d ih =>
  intro k i hi hk;obtain ⟨k,rfl,_⟩:=fuel hk;have hlt : i<xs.length:=by omega
  rw [hstep k i hlt,drop_at xs i hlt]
  by_cases h : p xs[i]=true
  ·
   rw [if_pos h]
   simp [first,h]
  rw [if_neg h,ih k (i+1) (by omega) (by omega)];simp [first,h]
def total {α : Type} (s : α→Nat) : List α→Nat
 | []=>0
 | x :: xs=>s x+total s xs
def less {α : Type} (s : α→Nat) : List α→Int→Int
 | [],l=>l
 | x :: xs,l=>if l - s x<0 then -1 else less s xs (l - s x)
def Eve {α : Type} (g : Nat→Option α) (v : α) : Prop:=∃ K,∀ k,K≤k→g k=some v
theorem Eve.one {α : Type} {v : α} : Eve (fun _=>some v) v:=⟨0,fun _ _=>rfl⟩
theorem Eve.all {α : Type} {g : Nat→Option α} {v : α} (h : ∀ k,g k=some v) : Eve g v:=⟨0,fun k _=>h k⟩
theorem Eve.of {α : Type} {g : Nat→Option α} {v : α} {n : Nat} (h : ∀ k,n<k→g k=some v) : Eve g v:=⟨n+1,fun k hk=>h k (by omega)⟩
theorem Eve.succ {α : Type} {g : Nat→Option α} {v : α} (h : Eve (fun k=>g (k+1)) v) : Eve g v:=by
 obtain ⟨K,h⟩:=h;refine ⟨K+1,fun k hk=>?_⟩;obtain ⟨k,rfl⟩ : ∃ m,k=m+1:=⟨k - 1,by omega⟩;exact h k (by omega)
theorem Eve.bind {α β : Type} {g : Nat→Option α} {f : Nat→α→Option β} {v : α} {u : β} (h : Eve g v) (h2 : Eve (fun k=>f k v) u) : Eve (fun k=>(g k).bind (f k)) u:=by
 obtain ⟨K,h⟩:=h;obtain ⟨K2,h2⟩:=h2;refine ⟨max K K2,fun k hk=>?_⟩;show (g k).bind (f k)=some u;rw [h k (by omega),Option.bind_some];exact h2 k (by omega)
theorem Eve.ite {α : Type} {c : Prop} [Decidable c] {a b : Nat→Option α} {v : α} (h1 : c→Eve a v) (h2 : ¬ c→Eve b v) : Eve (fun k=>if c then a k else b k) v:=by
 by_cases h : c
 ·
  simp only [if_pos h];exact h1 h
 simp only [if_neg h];exact h2 h
theorem Eve.get {α : Type} {g : Nat→Option α} {v : α} (h : Eve g v) : ∃ k,g k=some v:=by
 obtain ⟨K,h⟩:=h;exact ⟨K,h K (by omega)⟩
theorem Eve.eq {α : Type} {g : Nat→Option α} {v u : α} (h : Eve g v) (e : v=u) : Eve g u:=e ▸ h
theorem Eve.congr {α : Type} {g f : Nat→Option α} {v : α} (h : Eve g v) (e : ∀ k,f k=g k) : Eve f v:=by
 obtain ⟨K,h⟩:=h;exact ⟨K,fun k hk=>by rw [e,h k hk]⟩
theorem ev_loop {σ α β : Type} (xs : List α) (g : Nat→σ→Int→Option β) (R : Nat→σ→List α→β) (I : Nat→σ→Prop)
  (hend : ∀ s,I xs.length s→Eve (fun k=>g (k+1) s (xs.length : Int)) (R xs.length s []))
  (hstep : ∀ (i : Nat) (h : i<xs.length) (s : σ),I i s→(∀ s',I (i+1) s' → Eve (fun k=>g k s' ((i+1 : Nat) : Int)) (R (i+1) s' (xs.drop (i+1)))) →
   Eve (fun k=>g (k+1) s (i : Int)) (R i s (xs[i] :: xs.drop (i+1)))) :
  ∀ (d i : Nat) (s : σ),i+d=xs.length→I i s→Eve (fun k=>g k s (i : Int)) (R i s (xs.drop i)):=by
 intro d
 induction d with
 | zero =>
  intro i s hi hI;obtain rfl : i=xs.length:=by omega
  rw [List.drop_length];exact Eve.succ (hend s hI)
 | succ d ih =>
  intro i s hi hI;have hlt : i<xs.length:=by omega
  rw [drop_at xs i hlt];exact Eve.succ (hstep i hlt s hI (fun s' h' => ih (i+1) s' (by omega) h'))
theorem ev_loop0 {σ α β : Type} (xs : List α) (g : Nat→σ→Int→Option β) (R : Nat→σ→List α→β) (I : Nat→σ→Prop)
  (hend : ∀ s,I xs.length s→Eve (fun k=>g (k+1) s (xs.length : Int)) (R xs.length s []))
  (hstep : ∀ (i : Nat) (h : i<xs.length) (s : σ),I i s→(∀ s',I (i+1) s' → Eve (fun k=>g k s' ((i+1 : Nat) : Int)) (R (i+1) s' (xs.drop (i+1)))) →
   Eve (fun k=>g (k+1) s (i : Int)) (R i s (xs[i] :: xs.drop (i+1)))) (s : σ) (h0 : I 0 s) : Eve (fun k=>g k s 0) (R 0 s xs):=by
 have:=ev_loop xs g R I hend hstep xs.length 0 s (by omega) h0
 simpa using this
theorem ev_all {α : Type} (xs : List α) (g : Nat→Int→Option Bool) (q : α→Bool)
  (hend : Eve (fun k=>g (k+1) (xs.length : Int)) true)
  (hstep : ∀ (i : Nat) (h : i<xs.length) (v : Bool),Eve (fun k=>g k ((i+1 : Nat) : Int)) v→Eve (fun k=>g (k+1) (i : Int)) (q xs[i] && v)) : Eve (fun k=>g k 0) (xs.all q) :=
 ev_loop0 xs (fun k (_ : Unit) i=>g k i) (fun _ _ r=>r.all q) (fun _ _=>True) (fun _ _=>hend) (fun i hi s _ ih=>by
  rw [List.all_cons];exact hstep i hi _ (ih () trivial)) () trivial
end Go.Proofs.YtoinoihiknmnmaaW.Pl
end
section
namespace Go.Proofs.Ytoinoihiknmnmaa.Pure
open Go Go.RowKit Go.Proofs.Ytoinoihiknmnmaa.Q Go.Proofs.YtoinoihiknmnmaaW.PrintWords Go.Proofs.YtoinoihiknmnmaaW.PrintLast Go.Proofs.YtoinoihiknmnmaaW.PrintMore Go.Proofs.YtoinoihiknmnmaaW.Pl
theorem wi {i : Nat} (h : i≤9223372036854775806) : wrap64 ((i : Int)+1)=((i+1 : Nat) : Int):=w64 (by omega) (by omega)
theorem w64m (y : Int) : wrap64 y=(y+9223372036854775808) % 18446744073709551616 - 9223372036854775808:=by unfold wrap64;omega
def stp (x b : Int) : Int:=wrap64 (wrap64 (x*256)+wrap64 b)
theorem or_byte (x b : Int) (h0 : 0≤b) (h1 : b≤255) : Go.bits .or .i64 (wrap64 (x*256)) (wrap64 b)=stp x b:=by
 have e1 : (BitVec.ofInt 64 (wrap64 (x*256))).toNat=2 ^ 8*(x % 72057594037927936).toNat:=by
  rw [BitVec.toNat_ofInt,w64m];omega
 have e2 : (BitVec.ofInt 64 (wrap64 b)).toNat=b.toNat:=by
  rw [BitVec.toNat_ofInt,w64m];omega
 have e3 : (BitVec.ofInt 64 (wrap64 (x*256)) ||| BitVec.ofInt 64 (wrap64 b)).toNat=2 ^ 8*(x % 72057594037927936).toNat+b.toNat:=by
  rw [BitVec.toNat_or,e1,e2,Nat.two_pow_add_eq_or_of_lt (by omega)]
 show IntKind.wrap .i64 ((BitVec.ofInt 64 (wrap64 (x*256)) ||| BitVec.ofInt 64 (wrap64 b)).toNat : Int)=_;rw [e3,i64_w];unfold stp;rw [w64m,w64m,w64m,w64m]
 omega
def bigV (l : List Int) : Int:=l.foldl stp 0
theorem bytes_in (a : ByteArray) : ∀ b ∈ bytesOf a,0≤b∧b≤255:=by
 intro b hb;obtain ⟨c,_,rfl⟩:=List.mem_map.1 hb;have:=c.toNat_lt
 omega
theorem bt_get (a : ByteArray) (i : Nat) (h : i<(bytesOf a).length) : bt a (i : Int)=(bytesOf a)[i]:=by
 rw [← rd_bytesOf,rd_at _ _ h]
theorem big_tells (l : List Int) (hl : l.length≤1048576) (hb : ∀ b ∈ l,0≤b∧b≤255) : Eve (fun k=>F00.f k l) (bigV l):=by
 simp only [F00.f];refine ev_loop0 l (fun k (s : Int) i=>F00.l0 k s l (l.length : Int) i) (fun _ s r=>r.foldl stp s) (fun _ _=>True) (fun s _=>?_) (fun i hi s _ ih=>?_) 0 trivial
 ·
  simp only [F00.l0]
  exact Eve.ite (fun h=>absurd h (by omega)) (fun _=>Eve.one)
 have hx:=hb l[i] (List.getElem_mem hi);simp only [F00.l0];refine Eve.ite (fun _=>?_) (fun h=>absurd (by omega) h);refine Eve.ite (fun _=>?_) (fun h=>absurd (by omega) h);refine Eve.ite (fun _=>?_) (fun h=>absurd (by omega) h);simp only [rd_at _ _ hi,or_byte _ _ hx.1 hx.2,wi (show i≤9223372036854775806 by omega)];exact ih _ trivial
theorem of_tells (a : ByteArray) (hl : a.size≤1048576) : Eve (fun k=>Fv.f k a) (bigV (bytesOf a)):=by
 have hn : (bytesOf a).length=a.size:=bytesOf_length a;simp only [Fv.f];refine ev_loop0 (bytesOf a) (fun k (s : Int) i=>Fv.l0 k a s i) (fun _ s r=>r.foldl stp s) (fun _ _=>True) (fun s _=>?_) (fun i hi s _ ih=>?_) 0 trivial
 ·
  simp only [Fv.l0]
  exact Eve.ite (fun h=>absurd h (by omega)) (fun _=>Eve.one)
 simp only [Fv.l0];refine Eve.ite (fun _=>?_) (fun h=>absurd (by omega) h);refine Eve.ite (fun _=>?_) (fun h=>absurd (by omega) h);simp only [bt_get a i hi,wi (show i≤9223372036854775806 by omega)];exact ih _ trivial
def zer (n : Nat) : ByteArray:=⟨(Lib.repeatL [0] n).toArray⟩
def takV (a : ByteArray) (f : Bool) (n : Nat) : ByteArray×ByteArray×Bool:=if a.size<n then (zer n,a,true) else (a.extract 0 n,a.extract n a.size,f)
def numV (a : ByteArray) (f : Bool) (n : Nat) : Int×ByteArray×Bool:=if a.size<n then (0,a,true) else (bigV (bytesOf (a.extract 0 n)),a.extract n a.size,f)
theorem take_tells (a : ByteArray) (f : Bool) (n : Nat) (hn : n≤65535) : F0f.f a f (n : Int)=some (takV a f n):=by
 unfold F0f.f takV
 by_cases h : a.size<n
 ·
  rw [if_pos (by omega),if_pos h]
  unfold strings_Repeat.f;rw [if_pos (by omega),if_pos (by rw [show (⟨#[0]⟩ : ByteArray).size=1 from rfl];omega),if_pos (by omega)]
  rfl
 rw [if_neg (by omega),if_pos (by omega),if_pos (by omega),if_neg h]
 rfl
theorem zer_size (n : Nat) : (zer n).size=n:=by
 show (Lib.repeatL [0] n).toArray.size=n;rw [List.size_toArray,Lib.repeatL_length];simp
theorem fold_zero : ∀ n : Nat,((Lib.repeatL [0] n).map fun b : UInt8=>(b.toNat : Int)).foldl stp 0=0
 | 0=>rfl
 | n+1=>by
  have e : stp 0 0=0:=by unfold stp;rw [w64m,w64m,w64m];omega
  simp only [Lib.repeatL,List.cons_append,List.nil_append,List.map_cons,List.foldl_cons];rw [show ((0 : UInt8).toNat : Int)=0 from rfl,e];exact fold_zero n
theorem big_zer (n : Nat) : bigV (bytesOf (zer n))=0:=by
 unfold bigV bytesOf zer;exact fold_zero n
theorem num_tells (a : ByteArray) (f : Bool) (n : Nat) (hn : n≤65535) : Eve (fun k=>Ft.f k a f (n : Int)) (numV a f n):=by
 simp only [Ft.f,take_tells a f n hn,Option.bind_some];unfold takV numV
 by_cases h : a.size<n
 ·
  simp only [if_pos h]
  have hz:=zer_size n;refine Eve.ite (fun _=>?_) (fun h=>absurd (by omega) h);refine Eve.bind (big_tells _ (by rw [bytesOf_length,hz];omega) (bytes_in _)) ?_;rw [big_zer];exact Eve.one
 simp only [if_neg h];have hz : (a.extract 0 n).size≤n:=by rw [ByteArray.size_extract];omega
 refine Eve.ite (fun _=>?_) (fun h=>absurd (by omega) h);exact Eve.bind (big_tells _ (by rw [bytesOf_length];omega) (bytes_in _)) Eve.one
theorem big1 (x : Int) (h : 0≤x∧x≤255) : bigV [x]=x:=by
 simp only [bigV,List.foldl_cons,List.foldl_nil,stp];rw [w64m,w64m,w64m];omega
theorem big2 (x y : Int) (h : 0≤x∧x≤255) (h2 : 0≤y∧y≤255) : 0≤bigV [x,y]∧bigV [x,y]≤65535:=by
 simp only [bigV,List.foldl_cons,List.foldl_nil,stp];simp only [w64m];omega
theorem len1 {l : List Int} (h : l.length=1) : ∃ x,l=[x]:=by
 match l,h with
 | [x],_=>exact ⟨x,rfl⟩
theorem len2 {l : List Int} (h : l.length=2) : ∃ x y,l=[x,y]:=by
 match l,h with
 | [x,y],_=>exact ⟨x,y,rfl⟩
theorem bytes_ext1 (a : ByteArray) (i : Nat) (h : i<a.size) : bigV (bytesOf (a.extract i (i+1)))=bt a (i : Int):=by
 have hl : (bytesOf (a.extract i (i+1))).length=1:=by rw [bytesOf_length,ByteArray.size_extract];omega
 obtain ⟨x,hx⟩:=len1 hl;have h2:=bytes_in (a.extract i (i+1)) x (by rw [hx];simp);have h3:=bt_get (a.extract i (i+1)) 0 (by omega);rw [hx,big1 x h2];simp only [hx,List.getElem_cons_zero] at h3;rw [← h3];unfold bt;have e0 : (((0 : Nat) : Int)).toNat=0:=rfl;have e1 : ((i : Int)).toNat=i:=Int.toNat_natCast i;simp only [e0,e1];rw [dif_pos (by rw [ByteArray.size_extract];omega),dif_pos h]
 congr 2
 rw [ByteArray.getElem_extract];simp
theorem bytes_ext2 (a : ByteArray) (i : Nat) (h : i+2≤a.size) : 0≤bigV (bytesOf (a.extract i (i+2)))∧bigV (bytesOf (a.extract i (i+2)))≤65535:=by
 have hl : (bytesOf (a.extract i (i+2))).length=2:=by rw [bytesOf_length,ByteArray.size_extract];omega
 obtain ⟨x,y,hx⟩:=len2 hl;have hb:=bytes_in (a.extract i (i+2));rw [hx] at hb ⊢;exact big2 x y (hb x (by simp)) (hb y (by simp))
abbrev IVal:=S25
abbrev eB : ByteArray:=⟨#[]⟩
abbrev Rd:=Int×Int×ByteArray×ByteArray×Bool
def valV (a : ByteArray) (f : Bool) : Rd :=
  let q:=numV a f 1
  if q.1=1 then (q.1,(numV q.2.1 q.2.2 1).1,eB,(numV q.2.1 q.2.2 1).2.1,(numV q.2.1 q.2.2 1).2.2)
  else if q.1=2 then (q.1,wrap64 ((numV q.2.1 q.2.2 8).1 - 4611686018427387904),eB,(numV q.2.1 q.2.2 8).2.1,(numV q.2.1 q.2.2 8).2.2)
  else if q.1=3∨q.1=4∨q.1=5 then
    let r:=numV q.2.1 q.2.2 2
    (q.1,0,(takV r.2.1 r.2.2 r.1.toNat).1,(takV r.2.1 r.2.2 r.1.toNat).2.1,(takV r.2.1 r.2.2 r.1.toNat).2.2)
  else (q.1,0,eB,q.2.1,q.2.2)
theorem num2_in (a : ByteArray) (f : Bool) : 0≤(numV a f 2).1∧(numV a f 2).1≤65535:=by
  unfold numV
  by_cases h : a.size<2
  · rw [if_pos h];simp
  rw [if_neg h];exact bytes_ext2 a 0 (by omega)
theorem j0_tells (q x1 : Int) (t : ByteArray) (a : ByteArray) (f : Bool) : Eve (fun k=>Fg.j0 k true a f q x1 t) (q,x1,(takV (numV a f 2).2.1 (numV a f 2).2.2 (numV a f 2).1.toNat).1,(takV (numV a f 2).2.1 (numV a f 2).2.2 (numV a f 2).1.toNat).2.1,(takV (numV a f 2).2.1 (numV a f 2).2.2 (numV a f 2).1.toNat).2.2):=by
  refine Eve.succ ?_;simp only [Fg.j0,if_true];refine Eve.bind (num_tells a f 2 (by omega)) ?_;have hb:=num2_in a f;have ht:=take_tells (numV a f 2).2.1 (numV a f 2).2.2 (numV a f 2).1.toNat (by omega);rw [show (((numV a f 2).1.toNat : Nat) : Int)=(numV a f 2).1 from Int.toNat_of_nonneg hb.1] at ht;simp only [ht,Option.bind_some];exact Eve.one
theorem value_tells (a : ByteArray) (f : Bool) : Eve (fun k=>Fg.f k a f) (valV a f):=by
  simp only [Fg.f];refine Eve.bind (num_tells a f 1 (by omega)) ?_;unfold valV;generalize numV a f 1=q;simp only;refine Eve.ite (fun h=>?_) (fun h=>?_)
  · rw [if_pos h]
    exact Eve.bind (num_tells q.2.1 q.2.2 1 (by omega)) Eve.one
  rw [if_neg h];refine Eve.ite (fun h2=>?_) (fun h2=>?_)
  · rw [if_pos h2]
    exact Eve.bind (num_tells q.2.1 q.2.2 8 (by omega)) Eve.one
  rw [if_neg h2];refine Eve.ite (fun h3=>?_) (fun h3=>?_)
  · rw [if_pos (.inl h3)]
    simp only [h3,beq_self_eq_true];exact j0_tells _ _ _ _ _
  refine Eve.ite (fun h4=>?_) (fun h4=>?_)
  · rw [if_pos (.inr (.inl h4))]
    simp only [h4,beq_self_eq_true];exact j0_tells _ _ _ _ _
  by_cases h5 : q.1=5
  · rw [if_pos (.inr (.inr h5))]
    simp only [h5,beq_self_eq_true];exact j0_tells _ _ _ _ _
  rw [if_neg (by omega)];have : (q.1 == 5)=false:=by simpa using h5
  simp only [this];refine Eve.succ ?_;simp only [Fg.j0,Bool.false_eq_true,if_false];exact Eve.one
def nxtV (a : ByteArray) : Option (IVal×ByteArray) :=
  if a.size=0 then none
  else if bt a 0=0 then some (⟨0,0,eB⟩,a.extract 1 a.size)
  else if bt a 0=1 then (if a.size<2 then none else some (⟨1,bt a 1,eB⟩,a.extract 2 a.size))
  else if bt a 0=2 then (if a.size<9 then none else if bt a 1 > 127 then none else some (⟨2,wrap64 (bigV (bytesOf (a.extract 1 9)) - 4611686018427387904),eB⟩,a.extract 9 a.size))
  else if bt a 0=3∨bt a 0=4∨bt a 0=5 then
    (if a.size<3 then none else if (a.size : Int)<3+bigV (bytesOf (a.extract 1 3)) then none
     else some (⟨bt a 0,0,a.extract 3 (3+bigV (bytesOf (a.extract 1 3))).toNat⟩,a.extract (3+bigV (bytesOf (a.extract 1 3))).toNat a.size))
  else none
def told (o : Option (IVal×ByteArray)) : Rd:=match o with|some (v,r)=>(v.f0,v.f1,v.f2,r,true)|none=>(0,0,eB,eB,false)
theorem wbt (a : ByteArray) (i : Int) : wrap64 (bt a i)=bt a i:=w64 (by have:=bt_range a i;omega) (by have:=bt_range a i;omega)
theorem n0_tells (a : ByteArray) (q : Int) (hs : a.size≤1048576) : Eve (fun k=>F4.j0 k a true q 0 eB)
    (told (if a.size<3 then none else if (a.size : Int)<3+bigV (bytesOf (a.extract 1 3)) then none
     else some (⟨q,0,a.extract 3 (3+bigV (bytesOf (a.extract 1 3))).toNat⟩,a.extract (3+bigV (bytesOf (a.extract 1 3))).toNat a.size))):=by
  refine Eve.succ ?_;simp only [F4.j0,if_true];refine Eve.ite (fun h=>?_) (fun h=>?_)
  · rw [if_pos (by omega)];exact Eve.one
  rw [if_neg (by omega)];refine Eve.ite (fun _=>?_) (fun h=>absurd (by omega) h);refine Eve.ite (fun _=>?_) (fun h=>absurd (by omega) h);refine Eve.bind (of_tells (a.extract 1 3) (by rw [ByteArray.size_extract];omega)) ?_;have hb:=bytes_ext2 a 1 (by omega);simp only [show 1+2=3 from rfl] at hb;have hw : wrap64 (3+bigV (bytesOf (a.extract 1 3)))=3+bigV (bytesOf (a.extract 1 3)):=w64 (by omega) (by omega);simp only [hw];refine Eve.ite (fun h2=>?_) (fun h2=>?_)
  · rw [if_pos h2];exact Eve.one
  rw [if_neg h2];refine Eve.ite (fun _=>?_) (fun h=>absurd (by omega) h);refine Eve.ite (fun _=>?_) (fun h=>absurd (by omega) h);exact Eve.ite (fun _=>Eve.one) (fun h=>absurd (by omega) h)
theorem next_tells (a : ByteArray) (hs : a.size≤1048576) : Eve (fun k=>F4.f k a) (told (nxtV a)):=by
  unfold nxtV;simp only [F4.f,wbt];refine Eve.ite (fun h=>?_) (fun h=>?_)
  · have hz : a.size=0:=by omega
    rw [if_pos hz];exact Eve.one
  have hz : ¬ a.size=0:=by omega
  rw [if_neg hz];refine Eve.ite (fun _=>?_) (fun h=>absurd (by omega) h);refine Eve.ite (fun h0=>?_) (fun h0=>?_)
  · rw [if_pos h0]
    refine Eve.ite (fun _=>?_) (fun h=>absurd (by omega) h);exact Eve.one.eq (by rw [h0];rfl)
  rw [if_neg h0];refine Eve.ite (fun h1=>?_) (fun h1=>?_)
  · rw [if_pos h1]
    refine Eve.succ ?_;simp only [F4.j1,wbt,h1];have hw : wrap64 (1+1)=2:=w64 (by omega) (by omega);simp only [hw,if_true];refine Eve.ite (fun h=>?_) (fun h=>?_)
    · have hy : a.size<2:=by omega
      rw [if_pos hy];exact Eve.one
    have hy : ¬ a.size<2:=by omega
    rw [if_neg hy];refine Eve.ite (fun _=>?_) (fun h=>absurd (by omega) h);refine Eve.ite (fun _=>?_) (fun h=>absurd (by omega) h);exact Eve.ite (fun _=>Eve.one) (fun h=>absurd (by omega) h)
  rw [if_neg h1];refine Eve.ite (fun h2=>?_) (fun h2=>?_)
  · rw [if_pos h2]
    refine Eve.succ ?_;simp only [F4.j1,h2];have hw : wrap64 (1+8)=9:=w64 (by omega) (by omega);simp only [hw];refine Eve.ite (fun h=>?_) (fun h=>?_)
    · have hy : a.size<9:=by omega
      rw [if_pos hy];exact Eve.one
    have hy : ¬ a.size<9:=by omega
    rw [if_neg hy];refine Eve.ite (fun h=>absurd h (by omega)) (fun _=>?_);refine Eve.ite (fun _=>?_) (fun h=>absurd (by omega) h);refine Eve.ite (fun h=>?_) (fun h=>?_)
    · rw [if_pos h];exact Eve.one
    rw [if_neg h];refine Eve.ite (fun _=>?_) (fun h=>absurd (by omega) h);refine Eve.ite (fun _=>?_) (fun h=>absurd (by omega) h);refine Eve.bind (of_tells (a.extract 1 9) (by rw [ByteArray.size_extract];omega)) ?_;refine Eve.ite (fun _=>?_) (fun h=>absurd (by omega) h);exact Eve.ite (fun _=>Eve.one) (fun h=>absurd (by omega) h)
  rw [if_neg h2];refine Eve.ite (fun h3=>?_) (fun h3=>?_)
  · rw [if_pos (show bt a 0=3∨bt a 0=4∨bt a 0=5 from .inl h3)]
    simp only [h3,beq_self_eq_true];exact n0_tells a 3 hs
  refine Eve.ite (fun h4=>?_) (fun h4=>?_)
  · rw [if_pos (show bt a 0=3∨bt a 0=4∨bt a 0=5 from .inr (.inl h4))]
    simp only [h4,beq_self_eq_true];exact n0_tells a 4 hs
  by_cases h5 : bt a 0=5
  · rw [if_pos (show bt a 0=3∨bt a 0=4∨bt a 0=5 from .inr (.inr h5))]
    simp only [h5,beq_self_eq_true];exact n0_tells a 5 hs
  have hy : ¬ (bt a 0=3∨bt a 0=4∨bt a 0=5):=by omega
  rw [if_neg hy];have : (bt a 0 == 5)=false:=by simpa using h5
  simp only [this];refine Eve.succ ?_;simp only [F4.j0,Bool.false_eq_true,if_false];exact Eve.one
def Bad (v : IVal) : Prop:=v.f0<0∨v.f0 > 5∨(v.f0=2∧(v.f1 < -1000000000000∨v.f1 > 1000000000000))
def rdv (r : Rd) : IVal:=⟨r.1,r.2.1,r.2.2.1⟩
theorem num_one (a : ByteArray) (f : Bool) (h : 0<a.size) : numV a f 1=(bt a 0,a.extract 1 a.size,f):=by
  unfold numV;rw [if_neg (by omega)];have:=bytes_ext1 a 0 h;simp only [Nat.zero_add] at this;rw [this];rfl
theorem num_none (a : ByteArray) (f : Bool) (n : Nat) (h : a.size<n) : numV a f n=(0,a,true):=by unfold numV;rw [if_pos h]
theorem num_some (a : ByteArray) (f : Bool) (n : Nat) (h : n≤a.size) : numV a f n=(bigV (bytesOf (a.extract 0 n)),a.extract n a.size,f):=by unfold numV;rw [if_neg (by omega)]
theorem tail_size (a : ByteArray) (n : Nat) : (a.extract n a.size).size=a.size - n:=by rw [ByteArray.size_extract];omega
theorem ext_ext (a : ByteArray) (n i j : Nat) (h : n+j≤a.size) : (a.extract n a.size).extract i j=a.extract (n+i) (n+j):=by
  rw [ByteArray.extract_extract,Nat.min_eq_left h]
theorem ext_tail (a : ByteArray) (n i : Nat) (h : n≤a.size) : (a.extract n a.size).extract i (a.extract n a.size).size=a.extract (n+i) a.size:=by
  rw [tail_size,ByteArray.extract_extract]
  congr 1
  omega
theorem big8 (l : List Int) (x : Int) (r : List Int) (hl : l=x :: r) (hr : r.length=7) (hb : ∀ b ∈ l,0≤b∧b≤255) (hx : x > 127) : wrap64 (bigV l - 4611686018427387904) < -1000000000000∨wrap64 (bigV l - 4611686018427387904) > 1000000000000:=by
  subst hl
  match r,hr with
  | [b1,b2,b3,b4,b5,b6,b7],_ =>
    have h0:=hb x (by simp);have h1:=hb b1 (by simp);have h2:=hb b2 (by simp);have h3:=hb b3 (by simp);have h4:=hb b4 (by simp);have h5:=hb b5 (by simp);have h6:=hb b6 (by simp);have h7:=hb b7 (by simp)
    have e : bigV [x,b1,b2,b3,b4,b5,b6,b7]=x*72057594037927936+b1*281474976710656+b2*1099511627776+b3*4294967296+b4*16777216+b5*65536+b6*256+b7 - 18446744073709551616:=by
      simp only [bigV,List.foldl_cons,List.foldl_nil];have s0 : stp 0 x=x:=by unfold stp;simp only [w64m];omega
      have s1 : stp x b1=x*256+b1:=by unfold stp;simp only [w64m];omega
      have s2 : stp (x*256+b1) b2=x*65536+b1*256+b2:=by unfold stp;simp only [w64m];omega
      have s3 : stp (x*65536+b1*256+b2) b3=x*16777216+b1*65536+b2*256+b3:=by unfold stp;simp only [w64m];omega
      have s4 : stp (x*16777216+b1*65536+b2*256+b3) b4=x*4294967296+b1*16777216+b2*65536+b3*256+b4:=by unfold stp;simp only [w64m];omega
      have s5 : stp (x*4294967296+b1*16777216+b2*65536+b3*256+b4) b5=x*1099511627776+b1*4294967296+b2*16777216+b3*65536+b4*256+b5:=by unfold stp;simp only [w64m];omega
      have s6 : stp (x*1099511627776+b1*4294967296+b2*16777216+b3*65536+b4*256+b5) b6=x*281474976710656+b1*1099511627776+b2*4294967296+b3*16777216+b4*65536+b5*256+b6:=by unfold stp;simp only [w64m];omega
      rw [s0,s1,s2,s3,s4,s5,s6];unfold stp;simp only [w64m];omega
    rw [e,w64m]
    omega
theorem nxt_some (a : ByteArray) (v : IVal) (r : ByteArray) (h : nxtV a=some (v,r)) : valV a false=(v.f0,v.f1,v.f2,r,false)∧r.size<a.size:=by
  unfold nxtV at h
  by_cases hz : a.size=0
  · rw [if_pos hz] at h;simp at h
  rw [if_neg hz] at h;unfold valV;rw [num_one a false (by omega)];simp only;have ht:=tail_size a 1
  by_cases h0 : bt a 0=0
  · rw [if_pos h0] at h
    obtain ⟨rfl,rfl⟩ : _∧_:=by simpa using h
    rw [if_neg (by omega),if_neg (by omega),if_neg (by omega),h0];exact ⟨rfl,by omega⟩
  rw [if_neg h0] at h
  by_cases h1 : bt a 0=1
  · rw [if_pos h1] at h
    by_cases h2 : a.size<2
    · rw [if_pos h2] at h;simp at h
    rw [if_neg h2] at h;obtain ⟨rfl,rfl⟩ : _∧_:=by simpa using h
    rw [if_pos h1,num_some _ _ _ (by omega),ext_ext _ _ _ _ (by omega),ext_tail _ _ _ (by omega),h1];have:=bytes_ext1 a 1 (by omega);refine ⟨?_,by rw [tail_size];omega⟩;show (1,bigV (bytesOf (a.extract 1 (1+1))),eB,a.extract 2 a.size,false)=_;rw [this];rfl
  rw [if_neg h1] at h
  by_cases h2 : bt a 0=2
  · rw [if_pos h2] at h
    by_cases h3 : a.size<9
    · rw [if_pos h3] at h;simp at h
    rw [if_neg h3] at h
    by_cases h4 : bt a 1 > 127
    · rw [if_pos h4] at h;simp at h
    rw [if_neg h4] at h;obtain ⟨rfl,rfl⟩ : _∧_:=by simpa using h
    rw [if_neg h1,if_pos h2,num_some _ _ _ (by omega),ext_ext _ _ _ _ (by omega),ext_tail _ _ _ (by omega),h2];exact ⟨rfl,by rw [tail_size];omega⟩
  rw [if_neg h2] at h
  by_cases h3 : bt a 0=3∨bt a 0=4∨bt a 0=5
  · rw [if_pos h3] at h
    by_cases h4 : a.size<3
    · rw [if_pos h4] at h;simp at h
    rw [if_neg h4] at h;have hb:=bytes_ext2 a 1 (by omega);simp only [show 1+2=3 from rfl] at hb
    by_cases h5 : (a.size : Int)<3+bigV (bytesOf (a.extract 1 3))
    · rw [if_pos h5] at h;simp at h
    rw [if_neg h5] at h;obtain ⟨rfl,rfl⟩ : _∧_:=by simpa using h
    rw [if_neg h1,if_neg h2,if_pos h3,num_some _ _ _ (by omega),ext_ext _ _ _ _ (by omega),ext_tail _ _ _ (by omega)];simp only [show 1+0=1 from rfl,show 1+2=3 from rfl];generalize bigV (bytesOf (a.extract 1 3))=n at hb h5 ⊢;obtain ⟨n,rfl⟩ : ∃ m : Nat,n=(m : Int):=⟨n.toNat,by omega⟩;have e1 : ((n : Int)).toNat=n:=Int.toNat_natCast n;have e2 : (3+(n : Int)).toNat=3+n:=by omega
    have ht3:=tail_size a 3;unfold takV;simp only [e1,e2];rw [if_neg (by omega),ext_ext _ _ _ _ (by omega),ext_tail _ _ _ (by omega)];exact ⟨rfl,by rw [tail_size];omega⟩
  rw [if_neg h3] at h;simp at h
theorem nxt_none (a : ByteArray) (h : nxtV a=none) : (valV a false).2.2.2.2=true∨Bad (rdv (valV a false)):=by
  by_cases hz : a.size=0
  · left
    unfold valV;rw [num_none a false 1 (by omega)];simp
  unfold nxtV at h;rw [if_neg hz] at h;unfold valV;rw [num_one a false (by omega)];simp only;have ht:=tail_size a 1
  by_cases h0 : bt a 0=0
  · rw [if_pos h0] at h;simp at h
  rw [if_neg h0] at h
  by_cases h1 : bt a 0=1
  · rw [if_pos h1] at h ⊢
    by_cases h2 : a.size<2
    · left;rw [num_none _ _ _ (by omega)]
    rw [if_neg h2] at h;simp at h
  rw [if_neg h1] at h ⊢
  by_cases h2 : bt a 0=2
  · rw [if_pos h2] at h ⊢
    by_cases h3 : a.size<9
    · left;rw [num_none _ _ _ (by omega)]
    rw [if_neg h3] at h
    by_cases h4 : bt a 1 > 127
    · right;right;right
      refine ⟨h2,?_⟩;rw [num_some _ _ _ (by omega),ext_ext _ _ _ _ (by omega)];simp only [show 1+0=1 from rfl,show 1+8=9 from rfl,rdv];have hl : (bytesOf (a.extract 1 9)).length=8:=by rw [bytesOf_length,ByteArray.size_extract];omega
      have hg:=bt_get (a.extract 1 9) 0 (by omega)
      have he : bt (a.extract 1 9) ((0 : Nat) : Int)=bt a 1:=by
        unfold bt;have e0 : (((0 : Nat) : Int)).toNat=0:=rfl;have e1 : ((1 : Int)).toNat=1:=rfl;simp only [e0,e1];rw [dif_pos (by rw [ByteArray.size_extract];omega),dif_pos (by omega)]
        congr 2
        rw [ByteArray.getElem_extract]
      cases hc : bytesOf (a.extract 1 9) with
      | nil=>rw [hc] at hl;simp at hl
      | cons x r =>
        have hb:=bytes_in (a.extract 1 9);rw [he] at hg;simp only [hc,List.getElem_cons_zero] at hg;rw [hc] at hl hb;exact big8 _ x r rfl (by simpa using hl) hb (by omega)
    rw [if_neg h4] at h;simp at h
  rw [if_neg h2] at h ⊢
  by_cases h3 : bt a 0=3∨bt a 0=4∨bt a 0=5
  · rw [if_pos h3] at h ⊢
    left
    by_cases h4 : a.size<3
    · rw [num_none _ _ 2 (by omega)]
      unfold takV;simp
    rw [if_neg h4] at h;have hb:=bytes_ext2 a 1 (by omega);simp only [show 1+2=3 from rfl] at hb
    by_cases h5 : (a.size : Int)<3+bigV (bytesOf (a.extract 1 3))
    · rw [num_some _ _ 2 (by omega),ext_ext _ _ _ _ (by omega),ext_tail _ _ _ (by omega)]
      simp only [show 1+0=1 from rfl,show 1+2=3 from rfl];unfold takV;rw [if_pos (by rw [tail_size];omega)]
    rw [if_neg h5] at h;simp at h
  rw [if_neg h3]
  right
  have:=bt_range a 0
  right;left
  show bt a 0 > 5
  omega
theorem num_mono (a : ByteArray) (f : Bool) (n : Nat) : (numV a f n).2.1.size≤a.size∧(f=true→(numV a f n).2.2=true):=by
  unfold numV
  by_cases h : a.size<n
  · rw [if_pos h];exact ⟨Nat.le_refl _,fun _=>rfl⟩
  rw [if_neg h];exact ⟨by simp only [tail_size];omega,fun h=>h⟩
theorem tak_mono (a : ByteArray) (f : Bool) (n : Nat) : (takV a f n).2.1.size≤a.size∧(f=true→(takV a f n).2.2=true):=by
  unfold takV
  by_cases h : a.size<n
  · rw [if_pos h];exact ⟨Nat.le_refl _,fun _=>rfl⟩
  rw [if_neg h];exact ⟨by simp only [tail_size];omega,fun h=>h⟩
theorem val_mono (a : ByteArray) (f : Bool) : (valV a f).2.2.2.1.size≤(numV a f 1).2.1.size∧(f=true→(valV a f).2.2.2.2=true):=by
  have hq:=num_mono a f 1;unfold valV;generalize numV a f 1=q at hq;simp only
  by_cases h1 : q.1=1
  · rw [if_pos h1]
    have:=num_mono q.2.1 q.2.2 1;exact ⟨this.1,fun h=>this.2 (hq.2 h)⟩
  rw [if_neg h1]
  by_cases h2 : q.1=2
  · rw [if_pos h2]
    have:=num_mono q.2.1 q.2.2 8;exact ⟨this.1,fun h=>this.2 (hq.2 h)⟩
  rw [if_neg h2]
  by_cases h3 : q.1=3∨q.1=4∨q.1=5
  · rw [if_pos h3]
    have hr:=num_mono q.2.1 q.2.2 2;have ht:=tak_mono (numV q.2.1 q.2.2 2).2.1 (numV q.2.1 q.2.2 2).2.2 (numV q.2.1 q.2.2 2).1.toNat;exact ⟨Nat.le_trans ht.1 hr.1,fun h=>ht.2 (hr.2 (hq.2 h))⟩
  rw [if_neg h3];exact ⟨Nat.le_refl _,hq.2⟩
theorem val_less (a : ByteArray) (f : Bool) (h : 0<a.size) : (valV a f).2.2.2.1.size<a.size:=by
  have h1:=(val_mono a f).1;rw [num_one a f h] at h1;have:=tail_size a 1;simp only at h1
  omega
end Go.Proofs.Ytoinoihiknmnmaa.Pure
end
