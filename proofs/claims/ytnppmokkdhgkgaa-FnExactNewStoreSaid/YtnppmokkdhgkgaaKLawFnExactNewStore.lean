/- FnExactNewStore: for every argument the law answers true, and the argument reads behind the call as it read before. No condition. -/
import Derived.Test.YtnppmokkdhgkgaaKLawFnExactNewStorep22
import Derived.ProofKit
import Derived.OpenShut
import Derived.ShutString
import Derived.ChangeOld
import Derived.SizedLaws
import Derived.Deep.Slices
import Derived.Lib.SmallJoins
import Derived.Test.YtnppmokkdhgkgaaRows
import Derived.Carry
section
namespace Go.Proofs.Ytnppmokkdhgkgaa.Q
open Go.RowKit Go.Proofs.YtnppmokkdhgkgaaW.PrintWords Go.Proofs.YtnppmokkdhgkgaaW.PrintLast Go.Proofs.YtnppmokkdhgkgaaW.PrintMore
attribute [local go_sem] max2_int min2_int max_two min_two max_three min_three max_four min_four max2_str min2_str str_geq str_gtr str_leq
set_option linter.unusedVariables false
set_option linter.unusedSimpArgs false

def F3.l0 : Nat→List (S62)→List (S62)→Int→Option (Bool)
 | 0,_,_,_ => none
 | k + 1,x0,x1,x5 => if x5<(x0.length : Int) then (if 0≤x5 then (if x5<(x1.length : Int) then ((F0.f k ((rd_T62 x0 x5).f0) ((rd_T62 x0 x5).f1) ((rd_T62 x0 x5).f2) ((rd_T62 x1 x5).f0) ((rd_T62 x1 x5).f1) ((rd_T62 x1 x5).f2)).bind fun t268 => (if t268=true then (F3.l0 k x0 x1 (wrap64 (x5 + 1))) else (some false))) else (none)) else (none)) else (some true)
def F3.f (k : Nat) (l0 : List (S62)) (l1 : List (S62)) : Option (Bool):=if (l0.length : Int)=(l1.length : Int) then (F3.l0 k l0 l1 0) else (some false)
theorem F3.mono_l : ∀ k,(∀ y0 y1 y2,LeO (F3.l0 k y0 y1 y2) (F3.l0 (k + 1) y0 y1 y2))
 | 0 => fun _ _ _ r h => by simp [F3.l0] at h
 | k + 1 => by
  have ih0:=F3.mono_l k;intro y0 y1 y2;unfold F3.l0
  repeat' first|(with_reducible first|exact ih0 _ _ _|exact F0.mono _ _ _ _ _ _ _|exact zQ _|exact zN _|refine zP ?_ ?_|refine zO ?_ (fun _ => ?_))|refine zP ?_ ?_|refine zO ?_ (fun _ => ?_)
theorem F3.mono : ∀ a0 a1 k,LeO (F3.f k a0 a1) (F3.f (k + 1) a0 a1):=by
 intro a0 a1 k;have ih0:=F3.mono_l k;unfold F3.f
 repeat' first|(with_reducible first|exact ih0 _ _ _|exact F0.mono _ _ _ _ _ _ _|exact zQ _|exact zN _|refine zP ?_ ?_|refine zO ?_ (fun _ => ?_))|refine zP ?_ ?_|refine zO ?_ (fun _ => ?_)
def F3.T6 : Bool×List (List Nat×List Nat):=(true,[([],[]),([],[]),([0,1],[0,1]),([2],[2]),([],[]),([],[]),([4,5],[4,5]),([6],[6]),([3,7],[3,7]),([8],[8])])
def F3.B6 : List Nat:=[0,0,3,7,0,0,48,112,255,511]
theorem F3.tab6 : rtab .any (opsOf Try.f34 6)=F3.T6:=by kernel_rfl
theorem F3.bits6 : waitsOk F3.T6.2 F3.B6=true:=by kernel_rfl
set_option maxHeartbeats 8000000 in
set_option maxRecDepth 100000 in
theorem F3.calls (k : Nat) (A0 : Option Addr) (c0 : Nat) (l0 : List (S62)) (A1 : Option Addr) (c1 : Nat) (l1 : List (S62)) (r : Bool) (w : World) (hr0 : Kd.C k62 w A0 l0.length l0) (hc0 : l0.length≤c0) (hr1 : Kd.C k62 w A1 l1.length l1) (hc1 : l1.length≤c1) (h : F3.f k l0 l1=some r) :
  Calls Try.prog 34 #[.slice A0 l0.length c0,.slice A1 l1.length c1] w fun e w' => e = .returned (.bool r)∧Below w.heap.size w w':=by
 have hu62:=Try.underlying62;have HR0:=zh hr0;have HC0:=zh hc0;clear hr0 hc0;have HR1:=zh hr1;have HC1:=zh hc1;clear hr1 hc1;have HB:=zh (Below.refl w.heap.size w);have H : (if (l0.length : Int)=(l1.length : Int) then (F3.l0 k l0 l1 0) else (some false))=some r:=h;clear h
 by_cases c3 : (l0.length : Int)=(l1.length : Int)
 ·
  rw [if_pos c3] at H
  have c3b0 : ((l0.length : Int) == (l1.length : Int))=true:=ya.mpr c3;have c3b1 : ((l0.length : Int) != (l1.length : Int))=false:=zX.mpr c3;have c3b2 : (l0.length == l1.length)=true:=by first|simpa using c3|(simp at c3 ⊢;omega)
  clear c3;have H':=zh H;clear H
  go_enter Try.func34,Try.ntmps34
  go_wp2
  go_loopg [5] k (fun kq v5 w' => ∃ (x5_1 : Int),v5 = .int .i64 x5_1∧Aside0 (F3.l0 kq l0 l1 x5_1=some r)∧Aside0 (kq≤k)∧Aside0 (Below w.heap.size w w'))
  case atStart => exact ⟨(0),(by first|rfl|(simp;done)|(simp [*];done)),H',⟨ye _⟩,⟨by repeat (with_reducible first|exact HB.out|apply za|apply zb|apply zc)⟩⟩
  case round =>
   clear H'
   try clear c1
   try clear p2
   try clear c3
   try clear c3b0
   try clear c3b1
   try clear c3b2
   obtain ⟨x5_1,rfl,HA,HK1,HB⟩:=hrel
   cases gk with
   | zero => exact absurd HA.out (by simp [F3.l0])
   | succ k1 =>
    have H:=HA.out;clear HA;simp only [F3.l0] at H
    by_cases c4 : x5_1<(l0.length : Int)
    ·
     rw [if_pos c4] at H
     have c4b0 : decide (x5_1<(l0.length : Int))=true:=decide_eq_true c4;clear c4
     by_cases c5 : 0≤x5_1
     ·
      rw [if_pos c5] at H
      have c5b0 : decide (0≤x5_1)=true:=decide_eq_true c5;clear c5
      by_cases c6 : x5_1<(l1.length : Int)
      ·
       rw [if_pos c6] at H
       have c6b0 : decide (x5_1<(l1.length : Int))=true:=decide_eq_true c6;clear c6;replace H:=zT.mp H;obtain ⟨t268,A70,H⟩:=H;replace H : (if t268=true then (F3.l0 k1 l0 l1 (wrap64 (x5_1 + 1))) else (some false))=some r:=H;have A7:=zh A70;clear A70
       by_cases c8 : t268=true
       ·
        subst c8
        have H1 : (F3.l0 k1 l0 l1 (wrap64 (x5_1 + 1)))=some r:=by rw [if_pos rfl] at H;exact H
        clear H;have H:=H1;clear H1;have H':=zh H;clear H
        try go_wp2
        replace HB:=zh (zc HB.out);have p266 : 0≤(x5_1 : Int):=zy (by first|(with_reducible assumption)|assumption);have q266 : x5_1<(l0.length : Int):=zy (by first|(with_reducible assumption)|assumption);obtain ⟨ad266,A266_1,c266_1,A266_2,c266_2,e266,hx266_0,hx266_1,hx266_2,hl266_1,hi266_1,hl266_2,hi266_2⟩:=at_T62 HR0.out x5_1 p266 q266;have hw266_2:=hx266_2;have hw266_1:=hx266_1;have hw266_0:=hx266_0
        cases e266
        replace hx266_0:=(HB.out.cell (zl w _ hx266_0)).trans hx266_0;replace hx266_1:=(HB.out.cell (zl w _ hx266_1)).trans hx266_1;replace hx266_2:=(HB.out.cell (zl w _ hx266_2)).trans hx266_2;have HR266_1:=zh hi266_1;have HC266_1:=zh hl266_1;clear hi266_1 hl266_1;have HR266_2:=zh hi266_2;have HC266_2:=zh hl266_2;clear hi266_2 hl266_2;replace p266:=eq_true p266;replace q266:=eq_true q266;have p267 : 0≤(x5_1 : Int):=zy (by first|(with_reducible assumption)|assumption);have q267 : x5_1<(l1.length : Int):=zy (by first|(with_reducible assumption)|assumption);obtain ⟨ad267,A267_1,c267_1,A267_2,c267_2,e267,hx267_0,hx267_1,hx267_2,hl267_1,hi267_1,hl267_2,hi267_2⟩:=at_T62 HR1.out x5_1 p267 q267;have hw267_2:=hx267_2;have hw267_1:=hx267_1;have hw267_0:=hx267_0
        cases e267
        replace hx267_0:=(HB.out.cell (zl w _ hx267_0)).trans hx267_0;replace hx267_1:=(HB.out.cell (zl w _ hx267_1)).trans hx267_1;replace hx267_2:=(HB.out.cell (zl w _ hx267_2)).trans hx267_2;have HR267_1:=zh hi267_1;have HC267_1:=zh hl267_1;clear hi267_1 hl267_1;have HR267_2:=zh hi267_2;have HC267_2:=zh hl267_2;clear hi267_2 hl267_2;replace p267:=eq_true p267;replace q267:=eq_true q267;refine start_ (n:=10) (S:=fun w' => w'.cell? (ad266.add ((x5_1).toNat * 3))=some (.string ((rd_T62 l0 x5_1).f0))∧w'.cell? ⟨(ad266.add ((x5_1).toNat * 3)).block,(ad266.add ((x5_1).toNat * 3)).off + 1,none⟩=some (.slice A266_1 ((rd_T62 l0 x5_1).f1).length c266_1)∧w'.cell? ⟨(ad266.add ((x5_1).toNat * 3)).block,(ad266.add ((x5_1).toNat * 3)).off + 2,none⟩=some (.slice A266_2 ((rd_T62 l0 x5_1).f2).length c266_2)∧w'.cell? (ad267.add ((x5_1).toNat * 3))=some (.string ((rd_T62 l1 x5_1).f0))∧w'.cell? ⟨(ad267.add ((x5_1).toNat * 3)).block,(ad267.add ((x5_1).toNat * 3)).off + 1,none⟩=some (.slice A267_1 ((rd_T62 l1 x5_1).f1).length c267_1)∧w'.cell? ⟨(ad267.add ((x5_1).toNat * 3)).block,(ad267.add ((x5_1).toNat * 3)).off + 2,none⟩=some (.slice A267_2 ((rd_T62 l1 x5_1).f2).length c267_2)) (ds:=[]) (bm_ 0 10) (by kernel_rfl) rfl rfl ⟨((HB.out.cell (zl w _ hw266_0)).trans hw266_0),((HB.out.cell (zl w _ hw266_1)).trans hw266_1),((HB.out.cell (zl w _ hw266_2)).trans hw266_2),((HB.out.cell (zl w _ hw267_0)).trans hw267_0),((HB.out.cell (zl w _ hw267_1)).trans hw267_1),((HB.out.cell (zl w _ hw267_2)).trans hw267_2)⟩ (fun hHeld => ?_);refine with_tabW F3.tab6 F3.bits6 (fun HT_ HW_ => ?_);generalize wr.drew=w9 at HB HR266_1 HR266_2 HR267_1 HR267_2 hx266_0 hx266_1 hx266_2 hx267_0 hx267_1 hx267_2 hHeld ⊢;refine pure_ (i:=0) (N:=some 17) (v:=?_) (a':=?_) (bm_ 1 10) rfl rfl (any_of HT_.out (by kernel_rfl)) (fun _ _ _ h => h) (Or.inl ⟨by rfl,?_⟩) ?_ ?_;rotate_left
        ·
         intro w'
         go_simp
         with_reducible rfl
        rotate_left
        ·
         simp only [Act.put,zi,zj,zk,zG,zH]
         rfl
        refine pure_ (i:=1) (N:=some 18) (v:=?_) (a':=?_) (bm_ 2 10) rfl rfl (any_of HT_.out (by kernel_rfl)) (fun _ _ _ h => h) (Or.inl ⟨by rfl,?_⟩) ?_ ?_;rotate_left
        ·
         intro w'
         go_simp
         with_reducible rfl
        rotate_left
        ·
         simp only [Act.put,zi,zj,zk,zG,zH]
         rfl
        refine pure_ (i:=2) (N:=some 19) (v:=?_) (a':=?_) (bm_ 3 10) rfl rfl (any_of HT_.out (by kernel_rfl)) (fun _ _ _ h => h) (Or.inl ⟨by rfl,?_⟩) ?_ ?_;rotate_left
        ·
         intro w'
         go_simp
         with_reducible rfl
        rotate_left
        ·
         simp only [Act.put,zi,zj,zk,zG,zH]
         rfl
        refine pure_ (i:=4) (N:=some 21) (v:=?_) (a':=?_) #[true,true,true,false,true,false,false,false,false,false] rfl rfl (any_of HT_.out (by kernel_rfl)) (fun _ _ _ h => h) (Or.inl ⟨by rfl,?_⟩) ?_ ?_;rotate_left
        ·
         intro w'
         go_simp
         with_reducible rfl
        rotate_left
        ·
         simp only [Act.put,zi,zj,zk,zG,zH]
         rfl
        refine pure_ (i:=5) (N:=some 22) (v:=?_) (a':=?_) #[true,true,true,false,true,true,false,false,false,false] rfl rfl (any_of HT_.out (by kernel_rfl)) (fun _ _ _ h => h) (Or.inl ⟨by rfl,?_⟩) ?_ ?_;rotate_left
        ·
         intro w'
         go_simp
         with_reducible rfl
        rotate_left
        ·
         simp only [Act.put,zi,zj,zk,zG,zH]
         rfl
        refine pure_ (i:=6) (N:=some 23) (v:=?_) (a':=?_) #[true,true,true,false,true,true,true,false,false,false] rfl rfl (any_of HT_.out (by kernel_rfl)) (fun _ _ _ h => h) (Or.inl ⟨by rfl,?_⟩) ?_ ?_;rotate_left
        ·
         intro w'
         go_simp
         with_reducible rfl
        rotate_left
        ·
         simp only [Act.put,zi,zj,zk,zG,zH]
         rfl
        refine take_ (i:=3) (N:=some 20) (v:=?_) (a':=?_) (bm_ 7 10) rfl rfl (yo HT_.out HW_.out (by kernel_rfl)) (fun _ _ _ h => h) (Or.inl ⟨by rfl,?_⟩) hHeld ?_ ?_;rotate_left
        ·
         rintro w' ⟨s0,s1,s2,s3,s4,s5⟩
         go_simp
         with_reducible rfl
        rotate_left
        ·
         simp only [Act.put,zi,zj,zk,zG,zH]
         rfl
        refine take_ (i:=7) (N:=some 24) (v:=?_) (a':=?_) (bm_ 8 10) rfl rfl (yo HT_.out HW_.out (by kernel_rfl)) (fun _ _ _ h => h) (Or.inl ⟨by rfl,?_⟩) hHeld ?_ ?_;rotate_left
        ·
         rintro w' ⟨s0,s1,s2,s3,s4,s5⟩
         go_simp
         with_reducible rfl
        rotate_left
        ·
         simp only [Act.put,zi,zj,zk,zG,zH]
         rfl
        refine one_ (i:=8) (N:=some 25) (bm_ 9 10) rfl rfl (one_of HT_.out (by kernel_rfl)) (by decide) (fun K hK => ?_);refine goes_ Try.func50 (by kernel_rfl) rfl #[.agg #[.string ((rd_T62 l0 x5_1).f0),.slice A266_1 ((rd_T62 l0 x5_1).f1).length c266_1,.slice A266_2 ((rd_T62 l0 x5_1).f2).length c266_2],.agg #[.string ((rd_T62 l1 x5_1).f0),.slice A267_1 ((rd_T62 l1 x5_1).f1).length c267_1,.slice A267_2 ((rd_T62 l1 x5_1).f2).length c267_2]] (by rfl) rfl rfl (by (try simp only [zt,zu,zv]);first|done|rfl|(simp only [zw,zx];rfl)|(simp only [yr,ys,zV,zW];rfl)) ?_
        with_reducible refine (F0.calls k1  ((rd_T62 l0 x5_1).f0) _ _ ((rd_T62 l0 x5_1).f1) _ _ ((rd_T62 l0 x5_1).f2) ((rd_T62 l1 x5_1).f0) _ _ ((rd_T62 l1 x5_1).f1) _ _ ((rd_T62 l1 x5_1).f2) true _ ?side1 ?side2 ?side3 ?side4 ?side5 ?side6 ?side7 ?side8 A7.out).mono ?_
        (case side1 => repeat (first|exact (Kd.C_below HR266_1.out HB.out)|(with_reducible refine Kd.C_alloc ?_ _)|(with_reducible refine Kd.C_drewN ?_ _)|(with_reducible refine Kd.C_drew ?_)))
        (case side2 => exact HC266_1.out)
        (case side3 => repeat (first|exact (Kd.C_below HR266_2.out HB.out)|(with_reducible refine Kd.C_alloc ?_ _)|(with_reducible refine Kd.C_drewN ?_ _)|(with_reducible refine Kd.C_drew ?_)))
        (case side4 => exact HC266_2.out)
        (case side5 => repeat (first|exact (Kd.C_below HR267_1.out HB.out)|(with_reducible refine Kd.C_alloc ?_ _)|(with_reducible refine Kd.C_drewN ?_ _)|(with_reducible refine Kd.C_drew ?_)))
        (case side6 => exact HC267_1.out)
        (case side7 => repeat (first|exact (Kd.C_below HR267_2.out HB.out)|(with_reducible refine Kd.C_alloc ?_ _)|(with_reducible refine Kd.C_drewN ?_ _)|(with_reducible refine Kd.C_drew ?_)))
        (case side8 => exact HC267_2.out)
        rintro e w10 ⟨rfl,hb⟩;refine ⟨_,rfl,?_⟩;replace HB:=zh (zC (by repeat (with_reducible first|exact HB.out|apply za|apply zb|apply zc)) hb);(try clear hb);(try clear hb2);(try clear hk);(try clear hi);refine hK.out _ _ ⟨((HB.out.cell (zl w _ hw266_0)).trans hw266_0),((HB.out.cell (zl w _ hw266_1)).trans hw266_1),((HB.out.cell (zl w _ hw266_2)).trans hw266_2),((HB.out.cell (zl w _ hw267_0)).trans hw267_0),((HB.out.cell (zl w _ hw267_1)).trans hw267_1),((HB.out.cell (zl w _ hw267_2)).trans hw267_2)⟩ (fun hHeld => ?_);clear hK K;refine norm_ (a':=?_) ?_ ?_;rotate_left
        ·
         show Act.put _ (some 25) _=_
         simp only [Act.put,zi,zj,zk,zG,zH]
         rfl
        refine pure_ (i:=9) (N:=some 26) (v:=?_) (a':=?_) (bm_ 10 10) rfl rfl (any_of HT_.out (by kernel_rfl)) (fun _ _ _ h => h) (Or.inl ⟨by rfl,?_⟩) ?_ ?_;rotate_left
        ·
         intro w'
         go_simp
         with_reducible rfl
        rotate_left
        ·
         simp only [Act.put,zi,zj,zk,zG,zH]
         rfl
        refine done_ (done_of HT_.out (by kernel_rfl)) ?_
        try go_wp2
        go_roundg k1
        case measure => have:=HK1.out;omega
        case rel => exact ⟨(wrap64 (x5_1 + 1)),(by first|rfl|(simp;done)|(simp [*];done)),H',⟨by have:=HK1.out;omega⟩,⟨by repeat (with_reducible first|exact HB.out|apply za|apply zb|apply zc)⟩⟩
       replace c8:=yb.mpr c8;subst c8;have H1 : (some false)=some r:=by rw [if_neg (show ¬ (false=true) by decide)] at H;exact H
       clear H;have H:=H1;clear H1;obtain rfl:=zU H
       try go_wp2
       replace HB:=zh (zc HB.out);have p266 : 0≤(x5_1 : Int):=zy (by first|(with_reducible assumption)|assumption);have q266 : x5_1<(l0.length : Int):=zy (by first|(with_reducible assumption)|assumption);obtain ⟨ad266,A266_1,c266_1,A266_2,c266_2,e266,hx266_0,hx266_1,hx266_2,hl266_1,hi266_1,hl266_2,hi266_2⟩:=at_T62 HR0.out x5_1 p266 q266;have hw266_2:=hx266_2;have hw266_1:=hx266_1;have hw266_0:=hx266_0
       cases e266
       replace hx266_0:=(HB.out.cell (zl w _ hx266_0)).trans hx266_0;replace hx266_1:=(HB.out.cell (zl w _ hx266_1)).trans hx266_1;replace hx266_2:=(HB.out.cell (zl w _ hx266_2)).trans hx266_2;have HR266_1:=zh hi266_1;have HC266_1:=zh hl266_1;clear hi266_1 hl266_1;have HR266_2:=zh hi266_2;have HC266_2:=zh hl266_2;clear hi266_2 hl266_2;replace p266:=eq_true p266;replace q266:=eq_true q266;have p267 : 0≤(x5_1 : Int):=zy (by first|(with_reducible assumption)|assumption);have q267 : x5_1<(l1.length : Int):=zy (by first|(with_reducible assumption)|assumption);obtain ⟨ad267,A267_1,c267_1,A267_2,c267_2,e267,hx267_0,hx267_1,hx267_2,hl267_1,hi267_1,hl267_2,hi267_2⟩:=at_T62 HR1.out x5_1 p267 q267;have hw267_2:=hx267_2;have hw267_1:=hx267_1;have hw267_0:=hx267_0
       cases e267
       replace hx267_0:=(HB.out.cell (zl w _ hx267_0)).trans hx267_0;replace hx267_1:=(HB.out.cell (zl w _ hx267_1)).trans hx267_1;replace hx267_2:=(HB.out.cell (zl w _ hx267_2)).trans hx267_2;have HR267_1:=zh hi267_1;have HC267_1:=zh hl267_1;clear hi267_1 hl267_1;have HR267_2:=zh hi267_2;have HC267_2:=zh hl267_2;clear hi267_2 hl267_2;replace p267:=eq_true p267;replace q267:=eq_true q267;refine start_ (n:=10) (S:=fun w' => w'.cell? (ad266.add ((x5_1).toNat * 3))=some (.string ((rd_T62 l0 x5_1).f0))∧w'.cell? ⟨(ad266.add ((x5_1).toNat * 3)).block,(ad266.add ((x5_1).toNat * 3)).off + 1,none⟩=some (.slice A266_1 ((rd_T62 l0 x5_1).f1).length c266_1)∧w'.cell? ⟨(ad266.add ((x5_1).toNat * 3)).block,(ad266.add ((x5_1).toNat * 3)).off + 2,none⟩=some (.slice A266_2 ((rd_T62 l0 x5_1).f2).length c266_2)∧w'.cell? (ad267.add ((x5_1).toNat * 3))=some (.string ((rd_T62 l1 x5_1).f0))∧w'.cell? ⟨(ad267.add ((x5_1).toNat * 3)).block,(ad267.add ((x5_1).toNat * 3)).off + 1,none⟩=some (.slice A267_1 ((rd_T62 l1 x5_1).f1).length c267_1)∧w'.cell? ⟨(ad267.add ((x5_1).toNat * 3)).block,(ad267.add ((x5_1).toNat * 3)).off + 2,none⟩=some (.slice A267_2 ((rd_T62 l1 x5_1).f2).length c267_2)) (ds:=[]) (bm_ 0 10) (by kernel_rfl) rfl rfl ⟨((HB.out.cell (zl w _ hw266_0)).trans hw266_0),((HB.out.cell (zl w _ hw266_1)).trans hw266_1),((HB.out.cell (zl w _ hw266_2)).trans hw266_2),((HB.out.cell (zl w _ hw267_0)).trans hw267_0),((HB.out.cell (zl w _ hw267_1)).trans hw267_1),((HB.out.cell (zl w _ hw267_2)).trans hw267_2)⟩ (fun hHeld => ?_);refine with_tabW F3.tab6 F3.bits6 (fun HT_ HW_ => ?_);generalize wr.drew=w11 at HB HR266_1 HR266_2 HR267_1 HR267_2 hx266_0 hx266_1 hx266_2 hx267_0 hx267_1 hx267_2 hHeld ⊢;refine pure_ (i:=0) (N:=some 17) (v:=?_) (a':=?_) (bm_ 1 10) rfl rfl (any_of HT_.out (by kernel_rfl)) (fun _ _ _ h => h) (Or.inl ⟨by rfl,?_⟩) ?_ ?_;rotate_left
       ·
        intro w'
        go_simp
        with_reducible rfl
       rotate_left
       ·
        simp only [Act.put,zi,zj,zk,zG,zH]
        rfl
       refine pure_ (i:=1) (N:=some 18) (v:=?_) (a':=?_) (bm_ 2 10) rfl rfl (any_of HT_.out (by kernel_rfl)) (fun _ _ _ h => h) (Or.inl ⟨by rfl,?_⟩) ?_ ?_;rotate_left
       ·
        intro w'
        go_simp
        with_reducible rfl
       rotate_left
       ·
        simp only [Act.put,zi,zj,zk,zG,zH]
        rfl
       refine pure_ (i:=2) (N:=some 19) (v:=?_) (a':=?_) (bm_ 3 10) rfl rfl (any_of HT_.out (by kernel_rfl)) (fun _ _ _ h => h) (Or.inl ⟨by rfl,?_⟩) ?_ ?_;rotate_left
       ·
        intro w'
        go_simp
        with_reducible rfl
       rotate_left
       ·
        simp only [Act.put,zi,zj,zk,zG,zH]
        rfl
       refine pure_ (i:=4) (N:=some 21) (v:=?_) (a':=?_) #[true,true,true,false,true,false,false,false,false,false] rfl rfl (any_of HT_.out (by kernel_rfl)) (fun _ _ _ h => h) (Or.inl ⟨by rfl,?_⟩) ?_ ?_;rotate_left
       ·
        intro w'
        go_simp
        with_reducible rfl
       rotate_left
       ·
        simp only [Act.put,zi,zj,zk,zG,zH]
        rfl
       refine pure_ (i:=5) (N:=some 22) (v:=?_) (a':=?_) #[true,true,true,false,true,true,false,false,false,false] rfl rfl (any_of HT_.out (by kernel_rfl)) (fun _ _ _ h => h) (Or.inl ⟨by rfl,?_⟩) ?_ ?_;rotate_left
       ·
        intro w'
        go_simp
        with_reducible rfl
       rotate_left
       ·
        simp only [Act.put,zi,zj,zk,zG,zH]
        rfl
       refine pure_ (i:=6) (N:=some 23) (v:=?_) (a':=?_) #[true,true,true,false,true,true,true,false,false,false] rfl rfl (any_of HT_.out (by kernel_rfl)) (fun _ _ _ h => h) (Or.inl ⟨by rfl,?_⟩) ?_ ?_;rotate_left
       ·
        intro w'
        go_simp
        with_reducible rfl
       rotate_left
       ·
        simp only [Act.put,zi,zj,zk,zG,zH]
        rfl
       refine take_ (i:=3) (N:=some 20) (v:=?_) (a':=?_) (bm_ 7 10) rfl rfl (yo HT_.out HW_.out (by kernel_rfl)) (fun _ _ _ h => h) (Or.inl ⟨by rfl,?_⟩) hHeld ?_ ?_;rotate_left
       ·
        rintro w' ⟨s0,s1,s2,s3,s4,s5⟩
        go_simp
        with_reducible rfl
       rotate_left
       ·
        simp only [Act.put,zi,zj,zk,zG,zH]
        rfl
       refine take_ (i:=7) (N:=some 24) (v:=?_) (a':=?_) (bm_ 8 10) rfl rfl (yo HT_.out HW_.out (by kernel_rfl)) (fun _ _ _ h => h) (Or.inl ⟨by rfl,?_⟩) hHeld ?_ ?_;rotate_left
       ·
        rintro w' ⟨s0,s1,s2,s3,s4,s5⟩
        go_simp
        with_reducible rfl
       rotate_left
       ·
        simp only [Act.put,zi,zj,zk,zG,zH]
        rfl
       refine one_ (i:=8) (N:=some 25) (bm_ 9 10) rfl rfl (one_of HT_.out (by kernel_rfl)) (by decide) (fun K hK => ?_);refine goes_ Try.func50 (by kernel_rfl) rfl #[.agg #[.string ((rd_T62 l0 x5_1).f0),.slice A266_1 ((rd_T62 l0 x5_1).f1).length c266_1,.slice A266_2 ((rd_T62 l0 x5_1).f2).length c266_2],.agg #[.string ((rd_T62 l1 x5_1).f0),.slice A267_1 ((rd_T62 l1 x5_1).f1).length c267_1,.slice A267_2 ((rd_T62 l1 x5_1).f2).length c267_2]] (by rfl) rfl rfl (by (try simp only [zt,zu,zv]);first|done|rfl|(simp only [zw,zx];rfl)|(simp only [yr,ys,zV,zW];rfl)) ?_
       with_reducible refine (F0.calls k1  ((rd_T62 l0 x5_1).f0) _ _ ((rd_T62 l0 x5_1).f1) _ _ ((rd_T62 l0 x5_1).f2) ((rd_T62 l1 x5_1).f0) _ _ ((rd_T62 l1 x5_1).f1) _ _ ((rd_T62 l1 x5_1).f2) false _ ?side1 ?side2 ?side3 ?side4 ?side5 ?side6 ?side7 ?side8 A7.out).mono ?_
       (case side1 => repeat (first|exact (Kd.C_below HR266_1.out HB.out)|(with_reducible refine Kd.C_alloc ?_ _)|(with_reducible refine Kd.C_drewN ?_ _)|(with_reducible refine Kd.C_drew ?_)))
       (case side2 => exact HC266_1.out)
       (case side3 => repeat (first|exact (Kd.C_below HR266_2.out HB.out)|(with_reducible refine Kd.C_alloc ?_ _)|(with_reducible refine Kd.C_drewN ?_ _)|(with_reducible refine Kd.C_drew ?_)))
       (case side4 => exact HC266_2.out)
       (case side5 => repeat (first|exact (Kd.C_below HR267_1.out HB.out)|(with_reducible refine Kd.C_alloc ?_ _)|(with_reducible refine Kd.C_drewN ?_ _)|(with_reducible refine Kd.C_drew ?_)))
       (case side6 => exact HC267_1.out)
       (case side7 => repeat (first|exact (Kd.C_below HR267_2.out HB.out)|(with_reducible refine Kd.C_alloc ?_ _)|(with_reducible refine Kd.C_drewN ?_ _)|(with_reducible refine Kd.C_drew ?_)))
       (case side8 => exact HC267_2.out)
       rintro e w12 ⟨rfl,hb⟩;refine ⟨_,rfl,?_⟩;replace HB:=zh (zC (by repeat (with_reducible first|exact HB.out|apply za|apply zb|apply zc)) hb);(try clear hb);(try clear hb2);(try clear hk);(try clear hi);refine hK.out _ _ ⟨((HB.out.cell (zl w _ hw266_0)).trans hw266_0),((HB.out.cell (zl w _ hw266_1)).trans hw266_1),((HB.out.cell (zl w _ hw266_2)).trans hw266_2),((HB.out.cell (zl w _ hw267_0)).trans hw267_0),((HB.out.cell (zl w _ hw267_1)).trans hw267_1),((HB.out.cell (zl w _ hw267_2)).trans hw267_2)⟩ (fun hHeld => ?_);clear hK K;refine norm_ (a':=?_) ?_ ?_;rotate_left
       ·
        show Act.put _ (some 25) _=_
        simp only [Act.put,zi,zj,zk,zG,zH]
        rfl
       refine pure_ (i:=9) (N:=some 26) (v:=?_) (a':=?_) (bm_ 10 10) rfl rfl (any_of HT_.out (by kernel_rfl)) (fun _ _ _ h => h) (Or.inl ⟨by rfl,?_⟩) ?_ ?_;rotate_left
       ·
        intro w'
        go_simp
        with_reducible rfl
       rotate_left
       ·
        simp only [Act.put,zi,zj,zk,zG,zH]
        rfl
       refine done_ (done_of HT_.out (by kernel_rfl)) ?_
       try go_wp2
       go_ret
       exact ⟨by first|rfl|(simp [yt,yu] <;> rfl)|(simp [*,yt,yu] <;> rfl),by repeat (with_reducible first|exact HB.out|apply za|apply zb|apply zc)⟩
      rw [if_neg c6] at H;exact absurd H (by simp)
     rw [if_neg c5] at H;exact absurd H (by simp)
    rw [if_neg c4] at H;have c4b0 : decide (x5_1<(l0.length : Int))=false:=decide_eq_false c4;clear c4;obtain rfl:=zU H
    go_wp2
    go_ret
    exact ⟨by first|rfl|(simp [yt,yu] <;> rfl)|(simp [*,yt,yu] <;> rfl),by repeat (with_reducible first|exact HB.out|apply za|apply zb|apply zc)⟩
 rw [if_neg c3] at H;have c3b0 : ((l0.length : Int) == (l1.length : Int))=false:=zY.mpr c3;have c3b1 : ((l0.length : Int) != (l1.length : Int))=true:=zZ.mpr c3;have c3b2 : (l0.length == l1.length)=false:=by first|simpa using c3|(simp at c3 ⊢;omega)
 obtain rfl:=zU H
 go_enter Try.func34,Try.ntmps34
 go_wp2
 go_ret
 exact ⟨by first|rfl|(simp [yt,yu] <;> rfl)|(simp [*,yt,yu] <;> rfl),by repeat (with_reducible first|exact HB.out|apply za|apply zb|apply zc)⟩


def Fc.l0 : Nat→List (S78)→Int→Option (Bool)
 | 0,_,_ => none
 | k + 1,x0,x5 => if x5<(x0.length : Int) then (none) else (some true)
def Fc.f (k : Nat) (l0 : List (S78)) (l1 : List (S78)) : Option (Bool):=if (l0.length : Int)=(l1.length : Int) then (Fc.l0 k l0 0) else (some false)
theorem Fc.mono_l : ∀ k,(∀ y0 y1,LeO (Fc.l0 k y0 y1) (Fc.l0 (k + 1) y0 y1))
 | 0 => fun _ _ r h => by simp [Fc.l0] at h
 | k + 1 => by
  have ih0:=Fc.mono_l k;intro y0 y1;unfold Fc.l0
  repeat' first|(with_reducible first|exact ih0 _ _|exact zQ _|exact zN _|refine zP ?_ ?_|refine zO ?_ (fun _ => ?_))|refine zP ?_ ?_|refine zO ?_ (fun _ => ?_)
theorem Fc.mono : ∀ a0 a1 k,LeO (Fc.f k a0 a1) (Fc.f (k + 1) a0 a1):=by
 intro a0 a1 k;have ih0:=Fc.mono_l k;unfold Fc.f
 repeat' first|(with_reducible first|exact ih0 _ _|exact zQ _|exact zN _|refine zP ?_ ?_|refine zO ?_ (fun _ => ?_))|refine zP ?_ ?_|refine zO ?_ (fun _ => ?_)
set_option maxHeartbeats 8000000 in
set_option maxRecDepth 100000 in
theorem Fc.calls (k : Nat) (A0 : Option Addr) (c0 : Nat) (l0 : List (S78)) (A1 : Option Addr) (c1 : Nat) (l1 : List (S78)) (r : Bool) (w : World) (hr0 : Kd.C k78 w A0 l0.length l0) (hc0 : l0.length≤c0) (hr1 : Kd.C k78 w A1 l1.length l1) (hc1 : l1.length≤c1) (h : Fc.f k l0 l1=some r) :
  Calls Try.prog 35 #[.slice A0 l0.length c0,.slice A1 l1.length c1] w fun e w' => e = .returned (.bool r)∧Below w.heap.size w w':=by
 have hu78:=Try.underlying78;have HR0:=zh hr0;have HC0:=zh hc0;clear hr0 hc0;have HR1:=zh hr1;have HC1:=zh hc1;clear hr1 hc1;have HB:=zh (Below.refl w.heap.size w);have H : (if (l0.length : Int)=(l1.length : Int) then (Fc.l0 k l0 0) else (some false))=some r:=h;clear h
 by_cases c3 : (l0.length : Int)=(l1.length : Int)
 ·
  rw [if_pos c3] at H
  have c3b0 : ((l0.length : Int) == (l1.length : Int))=true:=ya.mpr c3;have c3b1 : ((l0.length : Int) != (l1.length : Int))=false:=zX.mpr c3;have c3b2 : (l0.length == l1.length)=true:=by first|simpa using c3|(simp at c3 ⊢;omega)
  clear c3;have H':=zh H;clear H
  go_enter Try.func35,Try.ntmps35
  go_wp2
  go_loopg [5] k (fun kq v5 w' => ∃ (x5_1 : Int),v5 = .int .i64 x5_1∧Aside0 (Fc.l0 kq l0 x5_1=some r)∧Aside0 (kq≤k)∧Aside0 (Below w.heap.size w w'))
  case atStart => exact ⟨(0),(by first|rfl|(simp;done)|(simp [*];done)),H',⟨ye _⟩,⟨by repeat (with_reducible first|exact HB.out|apply za|apply zb|apply zc)⟩⟩
  case round =>
   clear H'
   try clear c1
   try clear p2
   try clear c3
   try clear c3b0
   try clear c3b1
   try clear c3b2
   obtain ⟨x5_1,rfl,HA,HK1,HB⟩:=hrel
   cases gk with
   | zero => exact absurd HA.out (by simp [Fc.l0])
   | succ k1 =>
    have H:=HA.out;clear HA;simp only [Fc.l0] at H
    by_cases c4 : x5_1<(l0.length : Int)
    ·
     rw [if_pos c4] at H
     exact absurd H (by simp)
    rw [if_neg c4] at H;have c4b0 : decide (x5_1<(l0.length : Int))=false:=decide_eq_false c4;clear c4;obtain rfl:=zU H
    go_wp2
    go_ret
    exact ⟨by first|rfl|(simp [yt,yu] <;> rfl)|(simp [*,yt,yu] <;> rfl),by repeat (with_reducible first|exact HB.out|apply za|apply zb|apply zc)⟩
 rw [if_neg c3] at H;have c3b0 : ((l0.length : Int) == (l1.length : Int))=false:=zY.mpr c3;have c3b1 : ((l0.length : Int) != (l1.length : Int))=true:=zZ.mpr c3;have c3b2 : (l0.length == l1.length)=false:=by first|simpa using c3|(simp at c3 ⊢;omega)
 obtain rfl:=zU H
 go_enter Try.func35,Try.ntmps35
 go_wp2
 go_ret
 exact ⟨by first|rfl|(simp [yt,yu] <;> rfl)|(simp [*,yt,yu] <;> rfl),by repeat (with_reducible first|exact HB.out|apply za|apply zb|apply zc)⟩


def Fa.l0 : Nat→List (S82)→Int→Option (Bool)
 | 0,_,_ => none
 | k + 1,x0,x5 => if x5<(x0.length : Int) then (none) else (some true)
def Fa.f (k : Nat) (l0 : List (S82)) (l1 : List (S82)) : Option (Bool):=if (l0.length : Int)=(l1.length : Int) then (Fa.l0 k l0 0) else (some false)
theorem Fa.mono_l : ∀ k,(∀ y0 y1,LeO (Fa.l0 k y0 y1) (Fa.l0 (k + 1) y0 y1))
 | 0 => fun _ _ r h => by simp [Fa.l0] at h
 | k + 1 => by
  have ih0:=Fa.mono_l k;intro y0 y1;unfold Fa.l0
  repeat' first|(with_reducible first|exact ih0 _ _|exact zQ _|exact zN _|refine zP ?_ ?_|refine zO ?_ (fun _ => ?_))|refine zP ?_ ?_|refine zO ?_ (fun _ => ?_)
theorem Fa.mono : ∀ a0 a1 k,LeO (Fa.f k a0 a1) (Fa.f (k + 1) a0 a1):=by
 intro a0 a1 k;have ih0:=Fa.mono_l k;unfold Fa.f
 repeat' first|(with_reducible first|exact ih0 _ _|exact zQ _|exact zN _|refine zP ?_ ?_|refine zO ?_ (fun _ => ?_))|refine zP ?_ ?_|refine zO ?_ (fun _ => ?_)
set_option maxHeartbeats 8000000 in
set_option maxRecDepth 100000 in
theorem Fa.calls (k : Nat) (A0 : Option Addr) (c0 : Nat) (l0 : List (S82)) (A1 : Option Addr) (c1 : Nat) (l1 : List (S82)) (r : Bool) (w : World) (hr0 : Kd.C k82 w A0 l0.length l0) (hc0 : l0.length≤c0) (hr1 : Kd.C k82 w A1 l1.length l1) (hc1 : l1.length≤c1) (h : Fa.f k l0 l1=some r) :
  Calls Try.prog 36 #[.slice A0 l0.length c0,.slice A1 l1.length c1] w fun e w' => e = .returned (.bool r)∧Below w.heap.size w w':=by
 have hu82:=Try.underlying82;have HR0:=zh hr0;have HC0:=zh hc0;clear hr0 hc0;have HR1:=zh hr1;have HC1:=zh hc1;clear hr1 hc1;have HB:=zh (Below.refl w.heap.size w);have H : (if (l0.length : Int)=(l1.length : Int) then (Fa.l0 k l0 0) else (some false))=some r:=h;clear h
 by_cases c3 : (l0.length : Int)=(l1.length : Int)
 ·
  rw [if_pos c3] at H
  have c3b0 : ((l0.length : Int) == (l1.length : Int))=true:=ya.mpr c3;have c3b1 : ((l0.length : Int) != (l1.length : Int))=false:=zX.mpr c3;have c3b2 : (l0.length == l1.length)=true:=by first|simpa using c3|(simp at c3 ⊢;omega)
  clear c3;have H':=zh H;clear H
  go_enter Try.func36,Try.ntmps36
  go_wp2
  go_loopg [5] k (fun kq v5 w' => ∃ (x5_1 : Int),v5 = .int .i64 x5_1∧Aside0 (Fa.l0 kq l0 x5_1=some r)∧Aside0 (kq≤k)∧Aside0 (Below w.heap.size w w'))
  case atStart => exact ⟨(0),(by first|rfl|(simp;done)|(simp [*];done)),H',⟨ye _⟩,⟨by repeat (with_reducible first|exact HB.out|apply za|apply zb|apply zc)⟩⟩
  case round =>
   clear H'
   try clear c1
   try clear p2
   try clear c3
   try clear c3b0
   try clear c3b1
   try clear c3b2
   obtain ⟨x5_1,rfl,HA,HK1,HB⟩:=hrel
   cases gk with
   | zero => exact absurd HA.out (by simp [Fa.l0])
   | succ k1 =>
    have H:=HA.out;clear HA;simp only [Fa.l0] at H
    by_cases c4 : x5_1<(l0.length : Int)
    ·
     rw [if_pos c4] at H
     exact absurd H (by simp)
    rw [if_neg c4] at H;have c4b0 : decide (x5_1<(l0.length : Int))=false:=decide_eq_false c4;clear c4;obtain rfl:=zU H
    go_wp2
    go_ret
    exact ⟨by first|rfl|(simp [yt,yu] <;> rfl)|(simp [*,yt,yu] <;> rfl),by repeat (with_reducible first|exact HB.out|apply za|apply zb|apply zc)⟩
 rw [if_neg c3] at H;have c3b0 : ((l0.length : Int) == (l1.length : Int))=false:=zY.mpr c3;have c3b1 : ((l0.length : Int) != (l1.length : Int))=true:=zZ.mpr c3;have c3b2 : (l0.length == l1.length)=false:=by first|simpa using c3|(simp at c3 ⊢;omega)
 obtain rfl:=zU H
 go_enter Try.func36,Try.ntmps36
 go_wp2
 go_ret
 exact ⟨by first|rfl|(simp [yt,yu] <;> rfl)|(simp [*,yt,yu] <;> rfl),by repeat (with_reducible first|exact HB.out|apply za|apply zb|apply zc)⟩


def Fs.f (k : Nat) (l0_0 : List (S62)) (l0_1 : List (S78)) (l0_2 : List (S82)) (a0_3 : Int) (l1_0 : List (S62)) (l1_1 : List (S78)) (l1_2 : List (S82)) (a1_3 : Int) : Option (Bool):=(F3.f k l0_0 l1_0).bind fun t313 => (if t313=true then ((Fc.f k l0_1 l1_1).bind fun t314 => (if t314=true then ((Fa.f k l0_2 l1_2).bind fun t315 => (if t315=true then (if a0_3=a1_3 then (some true) else (some false)) else (some false))) else (some false))) else (some false))
theorem Fs.mono : ∀ a0 a1 a2 a3 a4 a5 a6 a7 k,LeO (Fs.f k a0 a1 a2 a3 a4 a5 a6 a7) (Fs.f (k + 1) a0 a1 a2 a3 a4 a5 a6 a7):=by
 intro a0 a1 a2 a3 a4 a5 a6 a7 k;unfold Fs.f
 repeat' first|(with_reducible first|exact F3.mono _ _ _|exact Fc.mono _ _ _|exact Fa.mono _ _ _|exact zQ _|exact zN _|refine zP ?_ ?_|refine zO ?_ (fun _ => ?_))|refine zP ?_ ?_|refine zO ?_ (fun _ => ?_)
set_option maxHeartbeats 8000000 in
set_option maxRecDepth 100000 in
theorem Fs.calls (k : Nat) (A0_0 : Option Addr) (c0_0 : Nat) (l0_0 : List (S62)) (A0_1 : Option Addr) (c0_1 : Nat) (l0_1 : List (S78)) (A0_2 : Option Addr) (c0_2 : Nat) (l0_2 : List (S82)) (a0_3 : Int) (A1_0 : Option Addr) (c1_0 : Nat) (l1_0 : List (S62)) (A1_1 : Option Addr) (c1_1 : Nat) (l1_1 : List (S78)) (A1_2 : Option Addr) (c1_2 : Nat) (l1_2 : List (S82)) (a1_3 : Int) (r : Bool) (w : World) (hr0_0 : Kd.C k62 w A0_0 l0_0.length l0_0) (hc0_0 : l0_0.length≤c0_0) (hr0_1 : Kd.C k78 w A0_1 l0_1.length l0_1) (hc0_1 : l0_1.length≤c0_1) (hr0_2 : Kd.C k82 w A0_2 l0_2.length l0_2) (hc0_2 : l0_2.length≤c0_2) (hr1_0 : Kd.C k62 w A1_0 l1_0.length l1_0) (hc1_0 : l1_0.length≤c1_0) (hr1_1 : Kd.C k78 w A1_1 l1_1.length l1_1) (hc1_1 : l1_1.length≤c1_1) (hr1_2 : Kd.C k82 w A1_2 l1_2.length l1_2) (hc1_2 : l1_2.length≤c1_2) (h : Fs.f k l0_0 l0_1 l0_2 a0_3 l1_0 l1_1 l1_2 a1_3=some r) :
  Calls Try.prog 20 #[.agg #[.slice A0_0 l0_0.length c0_0,.slice A0_1 l0_1.length c0_1,.slice A0_2 l0_2.length c0_2,.int .i64 a0_3],.agg #[.slice A1_0 l1_0.length c1_0,.slice A1_1 l1_1.length c1_1,.slice A1_2 l1_2.length c1_2,.int .i64 a1_3]] w fun e w' => e = .returned (.bool r)∧Below w.heap.size w w':=by
 have hu43:=Try.underlying43;have HR0_0:=zh hr0_0;have HC0_0:=zh hc0_0;clear hr0_0 hc0_0;have HR0_1:=zh hr0_1;have HC0_1:=zh hc0_1;clear hr0_1 hc0_1;have HR0_2:=zh hr0_2;have HC0_2:=zh hc0_2;clear hr0_2 hc0_2;have HR1_0:=zh hr1_0;have HC1_0:=zh hc1_0;clear hr1_0 hc1_0;have HR1_1:=zh hr1_1;have HC1_1:=zh hc1_1;clear hr1_1 hc1_1;have HR1_2:=zh hr1_2;have HC1_2:=zh hc1_2;clear hr1_2 hc1_2;have HB:=zh (Below.refl w.heap.size w);have H : ((F3.f k l0_0 l1_0).bind fun t313 => (if t313=true then ((Fc.f k l0_1 l1_1).bind fun t314 => (if t314=true then ((Fa.f k l0_2 l1_2).bind fun t315 => (if t315=true then (if a0_3=a1_3 then (some true) else (some false)) else (some false))) else (some false))) else (some false)))=some r:=h;clear h;replace H:=zT.mp H;obtain ⟨t313,A30,H⟩:=H;replace H : (if t313=true then ((Fc.f k l0_1 l1_1).bind fun t314 => (if t314=true then ((Fa.f k l0_2 l1_2).bind fun t315 => (if t315=true then (if a0_3=a1_3 then (some true) else (some false)) else (some false))) else (some false))) else (some false))=some r:=H;have A3:=zh A30;clear A30
 by_cases c4 : t313=true
 ·
  subst c4
  have H1 : ((Fc.f k l0_1 l1_1).bind fun t314 => (if t314=true then ((Fa.f k l0_2 l1_2).bind fun t315 => (if t315=true then (if a0_3=a1_3 then (some true) else (some false)) else (some false))) else (some false)))=some r:=by rw [if_pos rfl] at H;exact H
  clear H;have H:=H1;clear H1;replace H:=zT.mp H;obtain ⟨t314,A50,H⟩:=H;replace H : (if t314=true then ((Fa.f k l0_2 l1_2).bind fun t315 => (if t315=true then (if a0_3=a1_3 then (some true) else (some false)) else (some false))) else (some false))=some r:=H;have A5:=zh A50;clear A50
  by_cases c6 : t314=true
  ·
   subst c6
   have H1 : ((Fa.f k l0_2 l1_2).bind fun t315 => (if t315=true then (if a0_3=a1_3 then (some true) else (some false)) else (some false)))=some r:=by rw [if_pos rfl] at H;exact H
   clear H;have H:=H1;clear H1;replace H:=zT.mp H;obtain ⟨t315,A70,H⟩:=H;replace H : (if t315=true then (if a0_3=a1_3 then (some true) else (some false)) else (some false))=some r:=H;have A7:=zh A70;clear A70
   by_cases c8 : t315=true
   ·
    subst c8
    have H1 : (if a0_3=a1_3 then (some true) else (some false))=some r:=by rw [if_pos rfl] at H;exact H
    clear H;have H:=H1;clear H1
    by_cases c9 : a0_3=a1_3
    ·
     rw [if_pos c9] at H
     have c9b0 : (a0_3 == a1_3)=true:=ya.mpr c9;have c9b1 : (a0_3 != a1_3)=false:=zX.mpr c9;clear c9;obtain rfl:=zU H
     go_enter Try.func20,Try.ntmps20
     go_wp2_with (first|((with_reducible refine zK (N:=2) rfl ?_);refine zI ?hg (N:=2) ?hd (cs:=#[.slice A0_0 l0_0.length c0_0,.slice A0_1 l0_1.length c0_1,.slice A0_2 l0_2.length c0_2,.int .i64 a0_3]) (t:=43) ?hr ?_;(case hd => rfl);(case hg => rfl);(case hr => first|(go_simp;done)|(go_simp;rfl));intro gb311 hg w10 hbox hb;have BK311:=zh (hbox);have GW311:=zh ((by rw [hg];exact (zB (by repeat (with_reducible first|exact HB.out|apply za|apply zb|apply zc))) : w.heap.size≤gb311));have GE311:=zh ((by rw [hg];exact (zB (by repeat (with_reducible first|exact HB.out|apply za|apply zb|apply zc))) : w.heap.size≤gb311));replace HB:=zh (zC (by repeat (with_reducible first|exact HB.out|apply za|apply zb|apply zc)) hb);clear hb hbox hg)|((with_reducible refine zK (N:=3) rfl ?_);refine zI ?hg (N:=3) ?hd (cs:=#[.slice A1_0 l1_0.length c1_0,.slice A1_1 l1_1.length c1_1,.slice A1_2 l1_2.length c1_2,.int .i64 a1_3]) (t:=43) ?hr ?_;(case hd => rfl);(case hg => rfl);(case hr => first|(go_simp;done)|(go_simp;rfl));intro gb312 hg w11 hbox hb;have BK312:=zh (hbox);have GW312:=zh ((by rw [hg];exact (zB (by repeat (with_reducible first|exact HB.out|apply za|apply zb|apply zc|refine zd ?_ GE311.out))) : w.heap.size≤gb312));have GE312:=zh ((by rw [hg];exact (zB (by repeat (with_reducible first|exact HB.out|apply za|apply zb|apply zc|refine zd ?_ GE311.out))) : w.heap.size≤gb312));replace HB:=zh (zC (by repeat (with_reducible first|exact HB.out|apply za|apply zb|apply zc|refine zd ?_ GE311.out)) hb);have NB311_312:=zh ((by rw [hg];exact yc (yi (g:=gb311) (o:=.cells #[.slice A0_0 l0_0.length c0_0,.slice A0_1 l0_1.length c0_1,.slice A0_2 l0_2.length c0_2,.int .i64 a0_3] 43 (0,0)) (by (with_reducible repeat (first|refine ze ?_ _|refine zf ?_|refine zg ?_ _));exact BK311.out)) : gb311≠gb312));have NB312_311:=zh ((by rw [hg];exact yd (yi (g:=gb311) (o:=.cells #[.slice A0_0 l0_0.length c0_0,.slice A0_1 l0_1.length c0_1,.slice A0_2 l0_2.length c0_2,.int .i64 a0_3] 43 (0,0)) (by (with_reducible repeat (first|refine ze ?_ _|refine zf ?_|refine zg ?_ _));exact BK311.out)) : gb312≠gb311));replace BK311:=zh (zD (g:=gb311) (o:=.cells #[.slice A0_0 l0_0.length c0_0,.slice A0_1 l0_1.length c0_1,.slice A0_2 l0_2.length c0_2,.int .i64 a0_3] 43 (0,0)) (by (with_reducible repeat (first|refine ze ?_ _|refine zf ?_|refine zg ?_ _));exact BK311.out) hb);clear hb hbox hg;have hnb12:=NB311_312.out;have hnc12:=NB312_311.out;have hcz13_0 : w11.cell? ⟨gb311,0,none⟩=some (.slice A0_0 l0_0.length c0_0):=(zz BK311.out 0).trans rfl;have hcz13_1 : w11.cell? ⟨gb311,1,none⟩=some (.slice A0_1 l0_1.length c0_1):=(zz BK311.out 1).trans rfl;have hcz13_2 : w11.cell? ⟨gb311,2,none⟩=some (.slice A0_2 l0_2.length c0_2):=(zz BK311.out 2).trans rfl;have hcz13_3 : w11.cell? ⟨gb311,3,none⟩=some (.int .i64 a0_3):=(zz BK311.out 3).trans rfl;have hfz13_0:=zA BK311.out 0;have hfz13_1:=zA BK311.out 1;have hfz13_2:=zA BK311.out 2;have hfz13_3:=zA BK311.out 3;have hcz14_0 : w11.cell? ⟨gb312,0,none⟩=some (.slice A1_0 l1_0.length c1_0):=(zz BK312.out 0).trans rfl;have hcz14_1 : w11.cell? ⟨gb312,1,none⟩=some (.slice A1_1 l1_1.length c1_1):=(zz BK312.out 1).trans rfl;have hcz14_2 : w11.cell? ⟨gb312,2,none⟩=some (.slice A1_2 l1_2.length c1_2):=(zz BK312.out 2).trans rfl;have hcz14_3 : w11.cell? ⟨gb312,3,none⟩=some (.int .i64 a1_3):=(zz BK312.out 3).trans rfl;have hfz14_0:=zA BK312.out 0;have hfz14_1:=zA BK312.out 1;have hfz14_2:=zA BK312.out 2;have hfz14_3:=zA BK312.out 3)|((with_reducible refine zJ (f:=34) rfl ?_);refine yj (some 9) rfl rfl Try.func34 (by kernel_rfl) rfl #[.slice A0_0 l0_0.length c0_0,.slice A1_0 l1_0.length c1_0] rfl (by (try simp only [zt,zu,zv]);first|done|rfl|(simp only [zw,zx];rfl)|(simp only [yr,ys,zV,zW];rfl)) ?_;(with_reducible refine (F3.calls k  _ _ l0_0 _ _ l1_0 true _ ?side1 ?side2 ?side3 ?side4 A3.out).mono ?_);(case side1 => repeat (first|exact (Kd.C_below HR0_0.out HB.out)|(with_reducible refine Kd.C_alloc ?_ _)|(with_reducible refine Kd.C_drewN ?_ _)|(with_reducible refine Kd.C_drew ?_)));(case side2 => exact HC0_0.out);(case side3 => repeat (first|exact (Kd.C_below HR1_0.out HB.out)|(with_reducible refine Kd.C_alloc ?_ _)|(with_reducible refine Kd.C_drewN ?_ _)|(with_reducible refine Kd.C_drew ?_)));(case side4 => exact HC1_0.out);rintro e w15 ⟨rfl,hb⟩;refine ⟨_,rfl,?_⟩;replace BK311:=zh (zD (g:=gb311) (o:=.cells #[.slice A0_0 l0_0.length c0_0,.slice A0_1 l0_1.length c0_1,.slice A0_2 l0_2.length c0_2,.int .i64 a0_3] 43 (0,0)) (by (with_reducible repeat (first|refine ze ?_ _|refine zf ?_|refine zg ?_ _));exact BK311.out) hb);replace BK312:=zh (zD (g:=gb312) (o:=.cells #[.slice A1_0 l1_0.length c1_0,.slice A1_1 l1_1.length c1_1,.slice A1_2 l1_2.length c1_2,.int .i64 a1_3] 43 (0,0)) (by (with_reducible repeat (first|refine ze ?_ _|refine zf ?_|refine zg ?_ _));exact BK312.out) hb);replace HB:=zh (zC (by repeat (with_reducible first|exact HB.out|apply za|apply zb|apply zc|refine zd ?_ GE311.out|refine zd ?_ GE312.out)) hb);(try clear hb);(try clear hb2);(try clear hk);(try clear hi);have hcz16_0 : w15.cell? ⟨gb311,0,none⟩=some (.slice A0_0 l0_0.length c0_0):=(zz BK311.out 0).trans rfl;have hcz16_1 : w15.cell? ⟨gb311,1,none⟩=some (.slice A0_1 l0_1.length c0_1):=(zz BK311.out 1).trans rfl;have hcz16_2 : w15.cell? ⟨gb311,2,none⟩=some (.slice A0_2 l0_2.length c0_2):=(zz BK311.out 2).trans rfl;have hcz16_3 : w15.cell? ⟨gb311,3,none⟩=some (.int .i64 a0_3):=(zz BK311.out 3).trans rfl;have hfz16_0:=zA BK311.out 0;have hfz16_1:=zA BK311.out 1;have hfz16_2:=zA BK311.out 2;have hfz16_3:=zA BK311.out 3;have hcz17_0 : w15.cell? ⟨gb312,0,none⟩=some (.slice A1_0 l1_0.length c1_0):=(zz BK312.out 0).trans rfl;have hcz17_1 : w15.cell? ⟨gb312,1,none⟩=some (.slice A1_1 l1_1.length c1_1):=(zz BK312.out 1).trans rfl;have hcz17_2 : w15.cell? ⟨gb312,2,none⟩=some (.slice A1_2 l1_2.length c1_2):=(zz BK312.out 2).trans rfl;have hcz17_3 : w15.cell? ⟨gb312,3,none⟩=some (.int .i64 a1_3):=(zz BK312.out 3).trans rfl;have hfz17_0:=zA BK312.out 0;have hfz17_1:=zA BK312.out 1;have hfz17_2:=zA BK312.out 2;have hfz17_3:=zA BK312.out 3)|((with_reducible refine zJ (f:=35) rfl ?_);refine yj (some 15) rfl rfl Try.func35 (by kernel_rfl) rfl #[.slice A0_1 l0_1.length c0_1,.slice A1_1 l1_1.length c1_1] rfl (by (try simp only [zt,zu,zv]);first|done|rfl|(simp only [zw,zx];rfl)|(simp only [yr,ys,zV,zW];rfl)) ?_;(with_reducible refine (Fc.calls k  _ _ l0_1 _ _ l1_1 true _ ?side1 ?side2 ?side3 ?side4 A5.out).mono ?_);(case side1 => repeat (first|exact (Kd.C_below HR0_1.out HB.out)|(with_reducible refine Kd.C_alloc ?_ _)|(with_reducible refine Kd.C_drewN ?_ _)|(with_reducible refine Kd.C_drew ?_)));(case side2 => exact HC0_1.out);(case side3 => repeat (first|exact (Kd.C_below HR1_1.out HB.out)|(with_reducible refine Kd.C_alloc ?_ _)|(with_reducible refine Kd.C_drewN ?_ _)|(with_reducible refine Kd.C_drew ?_)));(case side4 => exact HC1_1.out);rintro e w18 ⟨rfl,hb⟩;refine ⟨_,rfl,?_⟩;replace BK311:=zh (zD (g:=gb311) (o:=.cells #[.slice A0_0 l0_0.length c0_0,.slice A0_1 l0_1.length c0_1,.slice A0_2 l0_2.length c0_2,.int .i64 a0_3] 43 (0,0)) (by (with_reducible repeat (first|refine ze ?_ _|refine zf ?_|refine zg ?_ _));exact BK311.out) hb);replace BK312:=zh (zD (g:=gb312) (o:=.cells #[.slice A1_0 l1_0.length c1_0,.slice A1_1 l1_1.length c1_1,.slice A1_2 l1_2.length c1_2,.int .i64 a1_3] 43 (0,0)) (by (with_reducible repeat (first|refine ze ?_ _|refine zf ?_|refine zg ?_ _));exact BK312.out) hb);replace HB:=zh (zC (by repeat (with_reducible first|exact HB.out|apply za|apply zb|apply zc|refine zd ?_ GE311.out|refine zd ?_ GE312.out)) hb);(try clear hb);(try clear hb2);(try clear hk);(try clear hi);have hcz19_0 : w18.cell? ⟨gb311,0,none⟩=some (.slice A0_0 l0_0.length c0_0):=(zz BK311.out 0).trans rfl;have hcz19_1 : w18.cell? ⟨gb311,1,none⟩=some (.slice A0_1 l0_1.length c0_1):=(zz BK311.out 1).trans rfl;have hcz19_2 : w18.cell? ⟨gb311,2,none⟩=some (.slice A0_2 l0_2.length c0_2):=(zz BK311.out 2).trans rfl;have hcz19_3 : w18.cell? ⟨gb311,3,none⟩=some (.int .i64 a0_3):=(zz BK311.out 3).trans rfl;have hfz19_0:=zA BK311.out 0;have hfz19_1:=zA BK311.out 1;have hfz19_2:=zA BK311.out 2;have hfz19_3:=zA BK311.out 3;have hcz20_0 : w18.cell? ⟨gb312,0,none⟩=some (.slice A1_0 l1_0.length c1_0):=(zz BK312.out 0).trans rfl;have hcz20_1 : w18.cell? ⟨gb312,1,none⟩=some (.slice A1_1 l1_1.length c1_1):=(zz BK312.out 1).trans rfl;have hcz20_2 : w18.cell? ⟨gb312,2,none⟩=some (.slice A1_2 l1_2.length c1_2):=(zz BK312.out 2).trans rfl;have hcz20_3 : w18.cell? ⟨gb312,3,none⟩=some (.int .i64 a1_3):=(zz BK312.out 3).trans rfl;have hfz20_0:=zA BK312.out 0;have hfz20_1:=zA BK312.out 1;have hfz20_2:=zA BK312.out 2;have hfz20_3:=zA BK312.out 3)|((with_reducible refine zJ (f:=36) rfl ?_);refine yj (some 21) rfl rfl Try.func36 (by kernel_rfl) rfl #[.slice A0_2 l0_2.length c0_2,.slice A1_2 l1_2.length c1_2] rfl (by (try simp only [zt,zu,zv]);first|done|rfl|(simp only [zw,zx];rfl)|(simp only [yr,ys,zV,zW];rfl)) ?_;(with_reducible refine (Fa.calls k  _ _ l0_2 _ _ l1_2 true _ ?side1 ?side2 ?side3 ?side4 A7.out).mono ?_);(case side1 => repeat (first|exact (Kd.C_below HR0_2.out HB.out)|(with_reducible refine Kd.C_alloc ?_ _)|(with_reducible refine Kd.C_drewN ?_ _)|(with_reducible refine Kd.C_drew ?_)));(case side2 => exact HC0_2.out);(case side3 => repeat (first|exact (Kd.C_below HR1_2.out HB.out)|(with_reducible refine Kd.C_alloc ?_ _)|(with_reducible refine Kd.C_drewN ?_ _)|(with_reducible refine Kd.C_drew ?_)));(case side4 => exact HC1_2.out);rintro e w21 ⟨rfl,hb⟩;refine ⟨_,rfl,?_⟩;replace BK311:=zh (zD (g:=gb311) (o:=.cells #[.slice A0_0 l0_0.length c0_0,.slice A0_1 l0_1.length c0_1,.slice A0_2 l0_2.length c0_2,.int .i64 a0_3] 43 (0,0)) (by (with_reducible repeat (first|refine ze ?_ _|refine zf ?_|refine zg ?_ _));exact BK311.out) hb);replace BK312:=zh (zD (g:=gb312) (o:=.cells #[.slice A1_0 l1_0.length c1_0,.slice A1_1 l1_1.length c1_1,.slice A1_2 l1_2.length c1_2,.int .i64 a1_3] 43 (0,0)) (by (with_reducible repeat (first|refine ze ?_ _|refine zf ?_|refine zg ?_ _));exact BK312.out) hb);replace HB:=zh (zC (by repeat (with_reducible first|exact HB.out|apply za|apply zb|apply zc|refine zd ?_ GE311.out|refine zd ?_ GE312.out)) hb);(try clear hb);(try clear hb2);(try clear hk);(try clear hi);have hcz22_0 : w21.cell? ⟨gb311,0,none⟩=some (.slice A0_0 l0_0.length c0_0):=(zz BK311.out 0).trans rfl;have hcz22_1 : w21.cell? ⟨gb311,1,none⟩=some (.slice A0_1 l0_1.length c0_1):=(zz BK311.out 1).trans rfl;have hcz22_2 : w21.cell? ⟨gb311,2,none⟩=some (.slice A0_2 l0_2.length c0_2):=(zz BK311.out 2).trans rfl;have hcz22_3 : w21.cell? ⟨gb311,3,none⟩=some (.int .i64 a0_3):=(zz BK311.out 3).trans rfl;have hfz22_0:=zA BK311.out 0;have hfz22_1:=zA BK311.out 1;have hfz22_2:=zA BK311.out 2;have hfz22_3:=zA BK311.out 3;have hcz23_0 : w21.cell? ⟨gb312,0,none⟩=some (.slice A1_0 l1_0.length c1_0):=(zz BK312.out 0).trans rfl;have hcz23_1 : w21.cell? ⟨gb312,1,none⟩=some (.slice A1_1 l1_1.length c1_1):=(zz BK312.out 1).trans rfl;have hcz23_2 : w21.cell? ⟨gb312,2,none⟩=some (.slice A1_2 l1_2.length c1_2):=(zz BK312.out 2).trans rfl;have hcz23_3 : w21.cell? ⟨gb312,3,none⟩=some (.int .i64 a1_3):=(zz BK312.out 3).trans rfl;have hfz23_0:=zA BK312.out 0;have hfz23_1:=zA BK312.out 1;have hfz23_2:=zA BK312.out 2;have hfz23_3:=zA BK312.out 3))
     go_ret
     exact ⟨by first|rfl|(simp [yt,yu] <;> rfl)|(simp [*,yt,yu] <;> rfl),by repeat (with_reducible first|exact HB.out|apply za|apply zb|apply zc|refine zd ?_ GE311.out|refine zd ?_ GE312.out)⟩
    rw [if_neg c9] at H;have c9b0 : (a0_3 == a1_3)=false:=zY.mpr c9;have c9b1 : (a0_3 != a1_3)=true:=zZ.mpr c9;obtain rfl:=zU H
    go_enter Try.func20,Try.ntmps20
    go_wp2_with (first|((with_reducible refine zK (N:=2) rfl ?_);refine zI ?hg (N:=2) ?hd (cs:=#[.slice A0_0 l0_0.length c0_0,.slice A0_1 l0_1.length c0_1,.slice A0_2 l0_2.length c0_2,.int .i64 a0_3]) (t:=43) ?hr ?_;(case hd => rfl);(case hg => rfl);(case hr => first|(go_simp;done)|(go_simp;rfl));intro gb311 hg w24 hbox hb;have BK311:=zh (hbox);have GW311:=zh ((by rw [hg];exact (zB (by repeat (with_reducible first|exact HB.out|apply za|apply zb|apply zc))) : w.heap.size≤gb311));have GE311:=zh ((by rw [hg];exact (zB (by repeat (with_reducible first|exact HB.out|apply za|apply zb|apply zc))) : w.heap.size≤gb311));replace HB:=zh (zC (by repeat (with_reducible first|exact HB.out|apply za|apply zb|apply zc)) hb);clear hb hbox hg)|((with_reducible refine zK (N:=3) rfl ?_);refine zI ?hg (N:=3) ?hd (cs:=#[.slice A1_0 l1_0.length c1_0,.slice A1_1 l1_1.length c1_1,.slice A1_2 l1_2.length c1_2,.int .i64 a1_3]) (t:=43) ?hr ?_;(case hd => rfl);(case hg => rfl);(case hr => first|(go_simp;done)|(go_simp;rfl));intro gb312 hg w25 hbox hb;have BK312:=zh (hbox);have GW312:=zh ((by rw [hg];exact (zB (by repeat (with_reducible first|exact HB.out|apply za|apply zb|apply zc|refine zd ?_ GE311.out))) : w.heap.size≤gb312));have GE312:=zh ((by rw [hg];exact (zB (by repeat (with_reducible first|exact HB.out|apply za|apply zb|apply zc|refine zd ?_ GE311.out))) : w.heap.size≤gb312));replace HB:=zh (zC (by repeat (with_reducible first|exact HB.out|apply za|apply zb|apply zc|refine zd ?_ GE311.out)) hb);have NB311_312:=zh ((by rw [hg];exact yc (yi (g:=gb311) (o:=.cells #[.slice A0_0 l0_0.length c0_0,.slice A0_1 l0_1.length c0_1,.slice A0_2 l0_2.length c0_2,.int .i64 a0_3] 43 (0,0)) (by (with_reducible repeat (first|refine ze ?_ _|refine zf ?_|refine zg ?_ _));exact BK311.out)) : gb311≠gb312));have NB312_311:=zh ((by rw [hg];exact yd (yi (g:=gb311) (o:=.cells #[.slice A0_0 l0_0.length c0_0,.slice A0_1 l0_1.length c0_1,.slice A0_2 l0_2.length c0_2,.int .i64 a0_3] 43 (0,0)) (by (with_reducible repeat (first|refine ze ?_ _|refine zf ?_|refine zg ?_ _));exact BK311.out)) : gb312≠gb311));replace BK311:=zh (zD (g:=gb311) (o:=.cells #[.slice A0_0 l0_0.length c0_0,.slice A0_1 l0_1.length c0_1,.slice A0_2 l0_2.length c0_2,.int .i64 a0_3] 43 (0,0)) (by (with_reducible repeat (first|refine ze ?_ _|refine zf ?_|refine zg ?_ _));exact BK311.out) hb);clear hb hbox hg;have hnb26:=NB311_312.out;have hnc26:=NB312_311.out;have hcz27_0 : w25.cell? ⟨gb311,0,none⟩=some (.slice A0_0 l0_0.length c0_0):=(zz BK311.out 0).trans rfl;have hcz27_1 : w25.cell? ⟨gb311,1,none⟩=some (.slice A0_1 l0_1.length c0_1):=(zz BK311.out 1).trans rfl;have hcz27_2 : w25.cell? ⟨gb311,2,none⟩=some (.slice A0_2 l0_2.length c0_2):=(zz BK311.out 2).trans rfl;have hcz27_3 : w25.cell? ⟨gb311,3,none⟩=some (.int .i64 a0_3):=(zz BK311.out 3).trans rfl;have hfz27_0:=zA BK311.out 0;have hfz27_1:=zA BK311.out 1;have hfz27_2:=zA BK311.out 2;have hfz27_3:=zA BK311.out 3;have hcz28_0 : w25.cell? ⟨gb312,0,none⟩=some (.slice A1_0 l1_0.length c1_0):=(zz BK312.out 0).trans rfl;have hcz28_1 : w25.cell? ⟨gb312,1,none⟩=some (.slice A1_1 l1_1.length c1_1):=(zz BK312.out 1).trans rfl;have hcz28_2 : w25.cell? ⟨gb312,2,none⟩=some (.slice A1_2 l1_2.length c1_2):=(zz BK312.out 2).trans rfl;have hcz28_3 : w25.cell? ⟨gb312,3,none⟩=some (.int .i64 a1_3):=(zz BK312.out 3).trans rfl;have hfz28_0:=zA BK312.out 0;have hfz28_1:=zA BK312.out 1;have hfz28_2:=zA BK312.out 2;have hfz28_3:=zA BK312.out 3)|((with_reducible refine zJ (f:=34) rfl ?_);refine yj (some 9) rfl rfl Try.func34 (by kernel_rfl) rfl #[.slice A0_0 l0_0.length c0_0,.slice A1_0 l1_0.length c1_0] rfl (by (try simp only [zt,zu,zv]);first|done|rfl|(simp only [zw,zx];rfl)|(simp only [yr,ys,zV,zW];rfl)) ?_;(with_reducible refine (F3.calls k  _ _ l0_0 _ _ l1_0 true _ ?side1 ?side2 ?side3 ?side4 A3.out).mono ?_);(case side1 => repeat (first|exact (Kd.C_below HR0_0.out HB.out)|(with_reducible refine Kd.C_alloc ?_ _)|(with_reducible refine Kd.C_drewN ?_ _)|(with_reducible refine Kd.C_drew ?_)));(case side2 => exact HC0_0.out);(case side3 => repeat (first|exact (Kd.C_below HR1_0.out HB.out)|(with_reducible refine Kd.C_alloc ?_ _)|(with_reducible refine Kd.C_drewN ?_ _)|(with_reducible refine Kd.C_drew ?_)));(case side4 => exact HC1_0.out);rintro e w29 ⟨rfl,hb⟩;refine ⟨_,rfl,?_⟩;replace BK311:=zh (zD (g:=gb311) (o:=.cells #[.slice A0_0 l0_0.length c0_0,.slice A0_1 l0_1.length c0_1,.slice A0_2 l0_2.length c0_2,.int .i64 a0_3] 43 (0,0)) (by (with_reducible repeat (first|refine ze ?_ _|refine zf ?_|refine zg ?_ _));exact BK311.out) hb);replace BK312:=zh (zD (g:=gb312) (o:=.cells #[.slice A1_0 l1_0.length c1_0,.slice A1_1 l1_1.length c1_1,.slice A1_2 l1_2.length c1_2,.int .i64 a1_3] 43 (0,0)) (by (with_reducible repeat (first|refine ze ?_ _|refine zf ?_|refine zg ?_ _));exact BK312.out) hb);replace HB:=zh (zC (by repeat (with_reducible first|exact HB.out|apply za|apply zb|apply zc|refine zd ?_ GE311.out|refine zd ?_ GE312.out)) hb);(try clear hb);(try clear hb2);(try clear hk);(try clear hi);have hcz30_0 : w29.cell? ⟨gb311,0,none⟩=some (.slice A0_0 l0_0.length c0_0):=(zz BK311.out 0).trans rfl;have hcz30_1 : w29.cell? ⟨gb311,1,none⟩=some (.slice A0_1 l0_1.length c0_1):=(zz BK311.out 1).trans rfl;have hcz30_2 : w29.cell? ⟨gb311,2,none⟩=some (.slice A0_2 l0_2.length c0_2):=(zz BK311.out 2).trans rfl;have hcz30_3 : w29.cell? ⟨gb311,3,none⟩=some (.int .i64 a0_3):=(zz BK311.out 3).trans rfl;have hfz30_0:=zA BK311.out 0;have hfz30_1:=zA BK311.out 1;have hfz30_2:=zA BK311.out 2;have hfz30_3:=zA BK311.out 3;have hcz31_0 : w29.cell? ⟨gb312,0,none⟩=some (.slice A1_0 l1_0.length c1_0):=(zz BK312.out 0).trans rfl;have hcz31_1 : w29.cell? ⟨gb312,1,none⟩=some (.slice A1_1 l1_1.length c1_1):=(zz BK312.out 1).trans rfl;have hcz31_2 : w29.cell? ⟨gb312,2,none⟩=some (.slice A1_2 l1_2.length c1_2):=(zz BK312.out 2).trans rfl;have hcz31_3 : w29.cell? ⟨gb312,3,none⟩=some (.int .i64 a1_3):=(zz BK312.out 3).trans rfl;have hfz31_0:=zA BK312.out 0;have hfz31_1:=zA BK312.out 1;have hfz31_2:=zA BK312.out 2;have hfz31_3:=zA BK312.out 3)|((with_reducible refine zJ (f:=35) rfl ?_);refine yj (some 15) rfl rfl Try.func35 (by kernel_rfl) rfl #[.slice A0_1 l0_1.length c0_1,.slice A1_1 l1_1.length c1_1] rfl (by (try simp only [zt,zu,zv]);first|done|rfl|(simp only [zw,zx];rfl)|(simp only [yr,ys,zV,zW];rfl)) ?_;(with_reducible refine (Fc.calls k  _ _ l0_1 _ _ l1_1 true _ ?side1 ?side2 ?side3 ?side4 A5.out).mono ?_);(case side1 => repeat (first|exact (Kd.C_below HR0_1.out HB.out)|(with_reducible refine Kd.C_alloc ?_ _)|(with_reducible refine Kd.C_drewN ?_ _)|(with_reducible refine Kd.C_drew ?_)));(case side2 => exact HC0_1.out);(case side3 => repeat (first|exact (Kd.C_below HR1_1.out HB.out)|(with_reducible refine Kd.C_alloc ?_ _)|(with_reducible refine Kd.C_drewN ?_ _)|(with_reducible refine Kd.C_drew ?_)));(case side4 => exact HC1_1.out);rintro e w32 ⟨rfl,hb⟩;refine ⟨_,rfl,?_⟩;replace BK311:=zh (zD (g:=gb311) (o:=.cells #[.slice A0_0 l0_0.length c0_0,.slice A0_1 l0_1.length c0_1,.slice A0_2 l0_2.length c0_2,.int .i64 a0_3] 43 (0,0)) (by (with_reducible repeat (first|refine ze ?_ _|refine zf ?_|refine zg ?_ _));exact BK311.out) hb);replace BK312:=zh (zD (g:=gb312) (o:=.cells #[.slice A1_0 l1_0.length c1_0,.slice A1_1 l1_1.length c1_1,.slice A1_2 l1_2.length c1_2,.int .i64 a1_3] 43 (0,0)) (by (with_reducible repeat (first|refine ze ?_ _|refine zf ?_|refine zg ?_ _));exact BK312.out) hb);replace HB:=zh (zC (by repeat (with_reducible first|exact HB.out|apply za|apply zb|apply zc|refine zd ?_ GE311.out|refine zd ?_ GE312.out)) hb);(try clear hb);(try clear hb2);(try clear hk);(try clear hi);have hcz33_0 : w32.cell? ⟨gb311,0,none⟩=some (.slice A0_0 l0_0.length c0_0):=(zz BK311.out 0).trans rfl;have hcz33_1 : w32.cell? ⟨gb311,1,none⟩=some (.slice A0_1 l0_1.length c0_1):=(zz BK311.out 1).trans rfl;have hcz33_2 : w32.cell? ⟨gb311,2,none⟩=some (.slice A0_2 l0_2.length c0_2):=(zz BK311.out 2).trans rfl;have hcz33_3 : w32.cell? ⟨gb311,3,none⟩=some (.int .i64 a0_3):=(zz BK311.out 3).trans rfl;have hfz33_0:=zA BK311.out 0;have hfz33_1:=zA BK311.out 1;have hfz33_2:=zA BK311.out 2;have hfz33_3:=zA BK311.out 3;have hcz34_0 : w32.cell? ⟨gb312,0,none⟩=some (.slice A1_0 l1_0.length c1_0):=(zz BK312.out 0).trans rfl;have hcz34_1 : w32.cell? ⟨gb312,1,none⟩=some (.slice A1_1 l1_1.length c1_1):=(zz BK312.out 1).trans rfl;have hcz34_2 : w32.cell? ⟨gb312,2,none⟩=some (.slice A1_2 l1_2.length c1_2):=(zz BK312.out 2).trans rfl;have hcz34_3 : w32.cell? ⟨gb312,3,none⟩=some (.int .i64 a1_3):=(zz BK312.out 3).trans rfl;have hfz34_0:=zA BK312.out 0;have hfz34_1:=zA BK312.out 1;have hfz34_2:=zA BK312.out 2;have hfz34_3:=zA BK312.out 3)|((with_reducible refine zJ (f:=36) rfl ?_);refine yj (some 21) rfl rfl Try.func36 (by kernel_rfl) rfl #[.slice A0_2 l0_2.length c0_2,.slice A1_2 l1_2.length c1_2] rfl (by (try simp only [zt,zu,zv]);first|done|rfl|(simp only [zw,zx];rfl)|(simp only [yr,ys,zV,zW];rfl)) ?_;(with_reducible refine (Fa.calls k  _ _ l0_2 _ _ l1_2 true _ ?side1 ?side2 ?side3 ?side4 A7.out).mono ?_);(case side1 => repeat (first|exact (Kd.C_below HR0_2.out HB.out)|(with_reducible refine Kd.C_alloc ?_ _)|(with_reducible refine Kd.C_drewN ?_ _)|(with_reducible refine Kd.C_drew ?_)));(case side2 => exact HC0_2.out);(case side3 => repeat (first|exact (Kd.C_below HR1_2.out HB.out)|(with_reducible refine Kd.C_alloc ?_ _)|(with_reducible refine Kd.C_drewN ?_ _)|(with_reducible refine Kd.C_drew ?_)));(case side4 => exact HC1_2.out);rintro e w35 ⟨rfl,hb⟩;refine ⟨_,rfl,?_⟩;replace BK311:=zh (zD (g:=gb311) (o:=.cells #[.slice A0_0 l0_0.length c0_0,.slice A0_1 l0_1.length c0_1,.slice A0_2 l0_2.length c0_2,.int .i64 a0_3] 43 (0,0)) (by (with_reducible repeat (first|refine ze ?_ _|refine zf ?_|refine zg ?_ _));exact BK311.out) hb);replace BK312:=zh (zD (g:=gb312) (o:=.cells #[.slice A1_0 l1_0.length c1_0,.slice A1_1 l1_1.length c1_1,.slice A1_2 l1_2.length c1_2,.int .i64 a1_3] 43 (0,0)) (by (with_reducible repeat (first|refine ze ?_ _|refine zf ?_|refine zg ?_ _));exact BK312.out) hb);replace HB:=zh (zC (by repeat (with_reducible first|exact HB.out|apply za|apply zb|apply zc|refine zd ?_ GE311.out|refine zd ?_ GE312.out)) hb);(try clear hb);(try clear hb2);(try clear hk);(try clear hi);have hcz36_0 : w35.cell? ⟨gb311,0,none⟩=some (.slice A0_0 l0_0.length c0_0):=(zz BK311.out 0).trans rfl;have hcz36_1 : w35.cell? ⟨gb311,1,none⟩=some (.slice A0_1 l0_1.length c0_1):=(zz BK311.out 1).trans rfl;have hcz36_2 : w35.cell? ⟨gb311,2,none⟩=some (.slice A0_2 l0_2.length c0_2):=(zz BK311.out 2).trans rfl;have hcz36_3 : w35.cell? ⟨gb311,3,none⟩=some (.int .i64 a0_3):=(zz BK311.out 3).trans rfl;have hfz36_0:=zA BK311.out 0;have hfz36_1:=zA BK311.out 1;have hfz36_2:=zA BK311.out 2;have hfz36_3:=zA BK311.out 3;have hcz37_0 : w35.cell? ⟨gb312,0,none⟩=some (.slice A1_0 l1_0.length c1_0):=(zz BK312.out 0).trans rfl;have hcz37_1 : w35.cell? ⟨gb312,1,none⟩=some (.slice A1_1 l1_1.length c1_1):=(zz BK312.out 1).trans rfl;have hcz37_2 : w35.cell? ⟨gb312,2,none⟩=some (.slice A1_2 l1_2.length c1_2):=(zz BK312.out 2).trans rfl;have hcz37_3 : w35.cell? ⟨gb312,3,none⟩=some (.int .i64 a1_3):=(zz BK312.out 3).trans rfl;have hfz37_0:=zA BK312.out 0;have hfz37_1:=zA BK312.out 1;have hfz37_2:=zA BK312.out 2;have hfz37_3:=zA BK312.out 3))
    go_ret
    exact ⟨by first|rfl|(simp [yt,yu] <;> rfl)|(simp [*,yt,yu] <;> rfl),by repeat (with_reducible first|exact HB.out|apply za|apply zb|apply zc|refine zd ?_ GE311.out|refine zd ?_ GE312.out)⟩
   replace c8:=yb.mpr c8;subst c8;have H1 : (some false)=some r:=by rw [if_neg (show ¬ (false=true) by decide)] at H;exact H
   clear H;have H:=H1;clear H1;obtain rfl:=zU H
   go_enter Try.func20,Try.ntmps20
   go_wp2_with (first|((with_reducible refine zK (N:=2) rfl ?_);refine zI ?hg (N:=2) ?hd (cs:=#[.slice A0_0 l0_0.length c0_0,.slice A0_1 l0_1.length c0_1,.slice A0_2 l0_2.length c0_2,.int .i64 a0_3]) (t:=43) ?hr ?_;(case hd => rfl);(case hg => rfl);(case hr => first|(go_simp;done)|(go_simp;rfl));intro gb311 hg w38 hbox hb;have BK311:=zh (hbox);have GW311:=zh ((by rw [hg];exact (zB (by repeat (with_reducible first|exact HB.out|apply za|apply zb|apply zc))) : w.heap.size≤gb311));have GE311:=zh ((by rw [hg];exact (zB (by repeat (with_reducible first|exact HB.out|apply za|apply zb|apply zc))) : w.heap.size≤gb311));replace HB:=zh (zC (by repeat (with_reducible first|exact HB.out|apply za|apply zb|apply zc)) hb);clear hb hbox hg)|((with_reducible refine zK (N:=3) rfl ?_);refine zI ?hg (N:=3) ?hd (cs:=#[.slice A1_0 l1_0.length c1_0,.slice A1_1 l1_1.length c1_1,.slice A1_2 l1_2.length c1_2,.int .i64 a1_3]) (t:=43) ?hr ?_;(case hd => rfl);(case hg => rfl);(case hr => first|(go_simp;done)|(go_simp;rfl));intro gb312 hg w39 hbox hb;have BK312:=zh (hbox);have GW312:=zh ((by rw [hg];exact (zB (by repeat (with_reducible first|exact HB.out|apply za|apply zb|apply zc|refine zd ?_ GE311.out))) : w.heap.size≤gb312));have GE312:=zh ((by rw [hg];exact (zB (by repeat (with_reducible first|exact HB.out|apply za|apply zb|apply zc|refine zd ?_ GE311.out))) : w.heap.size≤gb312));replace HB:=zh (zC (by repeat (with_reducible first|exact HB.out|apply za|apply zb|apply zc|refine zd ?_ GE311.out)) hb);have NB311_312:=zh ((by rw [hg];exact yc (yi (g:=gb311) (o:=.cells #[.slice A0_0 l0_0.length c0_0,.slice A0_1 l0_1.length c0_1,.slice A0_2 l0_2.length c0_2,.int .i64 a0_3] 43 (0,0)) (by (with_reducible repeat (first|refine ze ?_ _|refine zf ?_|refine zg ?_ _));exact BK311.out)) : gb311≠gb312));have NB312_311:=zh ((by rw [hg];exact yd (yi (g:=gb311) (o:=.cells #[.slice A0_0 l0_0.length c0_0,.slice A0_1 l0_1.length c0_1,.slice A0_2 l0_2.length c0_2,.int .i64 a0_3] 43 (0,0)) (by (with_reducible repeat (first|refine ze ?_ _|refine zf ?_|refine zg ?_ _));exact BK311.out)) : gb312≠gb311));replace BK311:=zh (zD (g:=gb311) (o:=.cells #[.slice A0_0 l0_0.length c0_0,.slice A0_1 l0_1.length c0_1,.slice A0_2 l0_2.length c0_2,.int .i64 a0_3] 43 (0,0)) (by (with_reducible repeat (first|refine ze ?_ _|refine zf ?_|refine zg ?_ _));exact BK311.out) hb);clear hb hbox hg;have hnb40:=NB311_312.out;have hnc40:=NB312_311.out;have hcz41_0 : w39.cell? ⟨gb311,0,none⟩=some (.slice A0_0 l0_0.length c0_0):=(zz BK311.out 0).trans rfl;have hcz41_1 : w39.cell? ⟨gb311,1,none⟩=some (.slice A0_1 l0_1.length c0_1):=(zz BK311.out 1).trans rfl;have hcz41_2 : w39.cell? ⟨gb311,2,none⟩=some (.slice A0_2 l0_2.length c0_2):=(zz BK311.out 2).trans rfl;have hcz41_3 : w39.cell? ⟨gb311,3,none⟩=some (.int .i64 a0_3):=(zz BK311.out 3).trans rfl;have hfz41_0:=zA BK311.out 0;have hfz41_1:=zA BK311.out 1;have hfz41_2:=zA BK311.out 2;have hfz41_3:=zA BK311.out 3;have hcz42_0 : w39.cell? ⟨gb312,0,none⟩=some (.slice A1_0 l1_0.length c1_0):=(zz BK312.out 0).trans rfl;have hcz42_1 : w39.cell? ⟨gb312,1,none⟩=some (.slice A1_1 l1_1.length c1_1):=(zz BK312.out 1).trans rfl;have hcz42_2 : w39.cell? ⟨gb312,2,none⟩=some (.slice A1_2 l1_2.length c1_2):=(zz BK312.out 2).trans rfl;have hcz42_3 : w39.cell? ⟨gb312,3,none⟩=some (.int .i64 a1_3):=(zz BK312.out 3).trans rfl;have hfz42_0:=zA BK312.out 0;have hfz42_1:=zA BK312.out 1;have hfz42_2:=zA BK312.out 2;have hfz42_3:=zA BK312.out 3)|((with_reducible refine zJ (f:=34) rfl ?_);refine yj (some 9) rfl rfl Try.func34 (by kernel_rfl) rfl #[.slice A0_0 l0_0.length c0_0,.slice A1_0 l1_0.length c1_0] rfl (by (try simp only [zt,zu,zv]);first|done|rfl|(simp only [zw,zx];rfl)|(simp only [yr,ys,zV,zW];rfl)) ?_;(with_reducible refine (F3.calls k  _ _ l0_0 _ _ l1_0 true _ ?side1 ?side2 ?side3 ?side4 A3.out).mono ?_);(case side1 => repeat (first|exact (Kd.C_below HR0_0.out HB.out)|(with_reducible refine Kd.C_alloc ?_ _)|(with_reducible refine Kd.C_drewN ?_ _)|(with_reducible refine Kd.C_drew ?_)));(case side2 => exact HC0_0.out);(case side3 => repeat (first|exact (Kd.C_below HR1_0.out HB.out)|(with_reducible refine Kd.C_alloc ?_ _)|(with_reducible refine Kd.C_drewN ?_ _)|(with_reducible refine Kd.C_drew ?_)));(case side4 => exact HC1_0.out);rintro e w43 ⟨rfl,hb⟩;refine ⟨_,rfl,?_⟩;replace BK311:=zh (zD (g:=gb311) (o:=.cells #[.slice A0_0 l0_0.length c0_0,.slice A0_1 l0_1.length c0_1,.slice A0_2 l0_2.length c0_2,.int .i64 a0_3] 43 (0,0)) (by (with_reducible repeat (first|refine ze ?_ _|refine zf ?_|refine zg ?_ _));exact BK311.out) hb);replace BK312:=zh (zD (g:=gb312) (o:=.cells #[.slice A1_0 l1_0.length c1_0,.slice A1_1 l1_1.length c1_1,.slice A1_2 l1_2.length c1_2,.int .i64 a1_3] 43 (0,0)) (by (with_reducible repeat (first|refine ze ?_ _|refine zf ?_|refine zg ?_ _));exact BK312.out) hb);replace HB:=zh (zC (by repeat (with_reducible first|exact HB.out|apply za|apply zb|apply zc|refine zd ?_ GE311.out|refine zd ?_ GE312.out)) hb);(try clear hb);(try clear hb2);(try clear hk);(try clear hi);have hcz44_0 : w43.cell? ⟨gb311,0,none⟩=some (.slice A0_0 l0_0.length c0_0):=(zz BK311.out 0).trans rfl;have hcz44_1 : w43.cell? ⟨gb311,1,none⟩=some (.slice A0_1 l0_1.length c0_1):=(zz BK311.out 1).trans rfl;have hcz44_2 : w43.cell? ⟨gb311,2,none⟩=some (.slice A0_2 l0_2.length c0_2):=(zz BK311.out 2).trans rfl;have hcz44_3 : w43.cell? ⟨gb311,3,none⟩=some (.int .i64 a0_3):=(zz BK311.out 3).trans rfl;have hfz44_0:=zA BK311.out 0;have hfz44_1:=zA BK311.out 1;have hfz44_2:=zA BK311.out 2;have hfz44_3:=zA BK311.out 3;have hcz45_0 : w43.cell? ⟨gb312,0,none⟩=some (.slice A1_0 l1_0.length c1_0):=(zz BK312.out 0).trans rfl;have hcz45_1 : w43.cell? ⟨gb312,1,none⟩=some (.slice A1_1 l1_1.length c1_1):=(zz BK312.out 1).trans rfl;have hcz45_2 : w43.cell? ⟨gb312,2,none⟩=some (.slice A1_2 l1_2.length c1_2):=(zz BK312.out 2).trans rfl;have hcz45_3 : w43.cell? ⟨gb312,3,none⟩=some (.int .i64 a1_3):=(zz BK312.out 3).trans rfl;have hfz45_0:=zA BK312.out 0;have hfz45_1:=zA BK312.out 1;have hfz45_2:=zA BK312.out 2;have hfz45_3:=zA BK312.out 3)|((with_reducible refine zJ (f:=35) rfl ?_);refine yj (some 15) rfl rfl Try.func35 (by kernel_rfl) rfl #[.slice A0_1 l0_1.length c0_1,.slice A1_1 l1_1.length c1_1] rfl (by (try simp only [zt,zu,zv]);first|done|rfl|(simp only [zw,zx];rfl)|(simp only [yr,ys,zV,zW];rfl)) ?_;(with_reducible refine (Fc.calls k  _ _ l0_1 _ _ l1_1 true _ ?side1 ?side2 ?side3 ?side4 A5.out).mono ?_);(case side1 => repeat (first|exact (Kd.C_below HR0_1.out HB.out)|(with_reducible refine Kd.C_alloc ?_ _)|(with_reducible refine Kd.C_drewN ?_ _)|(with_reducible refine Kd.C_drew ?_)));(case side2 => exact HC0_1.out);(case side3 => repeat (first|exact (Kd.C_below HR1_1.out HB.out)|(with_reducible refine Kd.C_alloc ?_ _)|(with_reducible refine Kd.C_drewN ?_ _)|(with_reducible refine Kd.C_drew ?_)));(case side4 => exact HC1_1.out);rintro e w46 ⟨rfl,hb⟩;refine ⟨_,rfl,?_⟩;replace BK311:=zh (zD (g:=gb311) (o:=.cells #[.slice A0_0 l0_0.length c0_0,.slice A0_1 l0_1.length c0_1,.slice A0_2 l0_2.length c0_2,.int .i64 a0_3] 43 (0,0)) (by (with_reducible repeat (first|refine ze ?_ _|refine zf ?_|refine zg ?_ _));exact BK311.out) hb);replace BK312:=zh (zD (g:=gb312) (o:=.cells #[.slice A1_0 l1_0.length c1_0,.slice A1_1 l1_1.length c1_1,.slice A1_2 l1_2.length c1_2,.int .i64 a1_3] 43 (0,0)) (by (with_reducible repeat (first|refine ze ?_ _|refine zf ?_|refine zg ?_ _));exact BK312.out) hb);replace HB:=zh (zC (by repeat (with_reducible first|exact HB.out|apply za|apply zb|apply zc|refine zd ?_ GE311.out|refine zd ?_ GE312.out)) hb);(try clear hb);(try clear hb2);(try clear hk);(try clear hi);have hcz47_0 : w46.cell? ⟨gb311,0,none⟩=some (.slice A0_0 l0_0.length c0_0):=(zz BK311.out 0).trans rfl;have hcz47_1 : w46.cell? ⟨gb311,1,none⟩=some (.slice A0_1 l0_1.length c0_1):=(zz BK311.out 1).trans rfl;have hcz47_2 : w46.cell? ⟨gb311,2,none⟩=some (.slice A0_2 l0_2.length c0_2):=(zz BK311.out 2).trans rfl;have hcz47_3 : w46.cell? ⟨gb311,3,none⟩=some (.int .i64 a0_3):=(zz BK311.out 3).trans rfl;have hfz47_0:=zA BK311.out 0;have hfz47_1:=zA BK311.out 1;have hfz47_2:=zA BK311.out 2;have hfz47_3:=zA BK311.out 3;have hcz48_0 : w46.cell? ⟨gb312,0,none⟩=some (.slice A1_0 l1_0.length c1_0):=(zz BK312.out 0).trans rfl;have hcz48_1 : w46.cell? ⟨gb312,1,none⟩=some (.slice A1_1 l1_1.length c1_1):=(zz BK312.out 1).trans rfl;have hcz48_2 : w46.cell? ⟨gb312,2,none⟩=some (.slice A1_2 l1_2.length c1_2):=(zz BK312.out 2).trans rfl;have hcz48_3 : w46.cell? ⟨gb312,3,none⟩=some (.int .i64 a1_3):=(zz BK312.out 3).trans rfl;have hfz48_0:=zA BK312.out 0;have hfz48_1:=zA BK312.out 1;have hfz48_2:=zA BK312.out 2;have hfz48_3:=zA BK312.out 3)|((with_reducible refine zJ (f:=36) rfl ?_);refine yj (some 21) rfl rfl Try.func36 (by kernel_rfl) rfl #[.slice A0_2 l0_2.length c0_2,.slice A1_2 l1_2.length c1_2] rfl (by (try simp only [zt,zu,zv]);first|done|rfl|(simp only [zw,zx];rfl)|(simp only [yr,ys,zV,zW];rfl)) ?_;(with_reducible refine (Fa.calls k  _ _ l0_2 _ _ l1_2 false _ ?side1 ?side2 ?side3 ?side4 A7.out).mono ?_);(case side1 => repeat (first|exact (Kd.C_below HR0_2.out HB.out)|(with_reducible refine Kd.C_alloc ?_ _)|(with_reducible refine Kd.C_drewN ?_ _)|(with_reducible refine Kd.C_drew ?_)));(case side2 => exact HC0_2.out);(case side3 => repeat (first|exact (Kd.C_below HR1_2.out HB.out)|(with_reducible refine Kd.C_alloc ?_ _)|(with_reducible refine Kd.C_drewN ?_ _)|(with_reducible refine Kd.C_drew ?_)));(case side4 => exact HC1_2.out);rintro e w49 ⟨rfl,hb⟩;refine ⟨_,rfl,?_⟩;replace BK311:=zh (zD (g:=gb311) (o:=.cells #[.slice A0_0 l0_0.length c0_0,.slice A0_1 l0_1.length c0_1,.slice A0_2 l0_2.length c0_2,.int .i64 a0_3] 43 (0,0)) (by (with_reducible repeat (first|refine ze ?_ _|refine zf ?_|refine zg ?_ _));exact BK311.out) hb);replace BK312:=zh (zD (g:=gb312) (o:=.cells #[.slice A1_0 l1_0.length c1_0,.slice A1_1 l1_1.length c1_1,.slice A1_2 l1_2.length c1_2,.int .i64 a1_3] 43 (0,0)) (by (with_reducible repeat (first|refine ze ?_ _|refine zf ?_|refine zg ?_ _));exact BK312.out) hb);replace HB:=zh (zC (by repeat (with_reducible first|exact HB.out|apply za|apply zb|apply zc|refine zd ?_ GE311.out|refine zd ?_ GE312.out)) hb);(try clear hb);(try clear hb2);(try clear hk);(try clear hi)))
   go_ret
   exact ⟨by first|rfl|(simp [yt,yu] <;> rfl)|(simp [*,yt,yu] <;> rfl),by repeat (with_reducible first|exact HB.out|apply za|apply zb|apply zc|refine zd ?_ GE311.out|refine zd ?_ GE312.out)⟩
  replace c6:=yb.mpr c6;subst c6;have H1 : (some false)=some r:=by rw [if_neg (show ¬ (false=true) by decide)] at H;exact H
  clear H;have H:=H1;clear H1;obtain rfl:=zU H
  go_enter Try.func20,Try.ntmps20
  go_wp2_with (first|((with_reducible refine zK (N:=2) rfl ?_);refine zI ?hg (N:=2) ?hd (cs:=#[.slice A0_0 l0_0.length c0_0,.slice A0_1 l0_1.length c0_1,.slice A0_2 l0_2.length c0_2,.int .i64 a0_3]) (t:=43) ?hr ?_;(case hd => rfl);(case hg => rfl);(case hr => first|(go_simp;done)|(go_simp;rfl));intro gb311 hg w50 hbox hb;have BK311:=zh (hbox);have GW311:=zh ((by rw [hg];exact (zB (by repeat (with_reducible first|exact HB.out|apply za|apply zb|apply zc))) : w.heap.size≤gb311));have GE311:=zh ((by rw [hg];exact (zB (by repeat (with_reducible first|exact HB.out|apply za|apply zb|apply zc))) : w.heap.size≤gb311));replace HB:=zh (zC (by repeat (with_reducible first|exact HB.out|apply za|apply zb|apply zc)) hb);clear hb hbox hg)|((with_reducible refine zK (N:=3) rfl ?_);refine zI ?hg (N:=3) ?hd (cs:=#[.slice A1_0 l1_0.length c1_0,.slice A1_1 l1_1.length c1_1,.slice A1_2 l1_2.length c1_2,.int .i64 a1_3]) (t:=43) ?hr ?_;(case hd => rfl);(case hg => rfl);(case hr => first|(go_simp;done)|(go_simp;rfl));intro gb312 hg w51 hbox hb;have BK312:=zh (hbox);have GW312:=zh ((by rw [hg];exact (zB (by repeat (with_reducible first|exact HB.out|apply za|apply zb|apply zc|refine zd ?_ GE311.out))) : w.heap.size≤gb312));have GE312:=zh ((by rw [hg];exact (zB (by repeat (with_reducible first|exact HB.out|apply za|apply zb|apply zc|refine zd ?_ GE311.out))) : w.heap.size≤gb312));replace HB:=zh (zC (by repeat (with_reducible first|exact HB.out|apply za|apply zb|apply zc|refine zd ?_ GE311.out)) hb);have NB311_312:=zh ((by rw [hg];exact yc (yi (g:=gb311) (o:=.cells #[.slice A0_0 l0_0.length c0_0,.slice A0_1 l0_1.length c0_1,.slice A0_2 l0_2.length c0_2,.int .i64 a0_3] 43 (0,0)) (by (with_reducible repeat (first|refine ze ?_ _|refine zf ?_|refine zg ?_ _));exact BK311.out)) : gb311≠gb312));have NB312_311:=zh ((by rw [hg];exact yd (yi (g:=gb311) (o:=.cells #[.slice A0_0 l0_0.length c0_0,.slice A0_1 l0_1.length c0_1,.slice A0_2 l0_2.length c0_2,.int .i64 a0_3] 43 (0,0)) (by (with_reducible repeat (first|refine ze ?_ _|refine zf ?_|refine zg ?_ _));exact BK311.out)) : gb312≠gb311));replace BK311:=zh (zD (g:=gb311) (o:=.cells #[.slice A0_0 l0_0.length c0_0,.slice A0_1 l0_1.length c0_1,.slice A0_2 l0_2.length c0_2,.int .i64 a0_3] 43 (0,0)) (by (with_reducible repeat (first|refine ze ?_ _|refine zf ?_|refine zg ?_ _));exact BK311.out) hb);clear hb hbox hg;have hnb52:=NB311_312.out;have hnc52:=NB312_311.out;have hcz53_0 : w51.cell? ⟨gb311,0,none⟩=some (.slice A0_0 l0_0.length c0_0):=(zz BK311.out 0).trans rfl;have hcz53_1 : w51.cell? ⟨gb311,1,none⟩=some (.slice A0_1 l0_1.length c0_1):=(zz BK311.out 1).trans rfl;have hcz53_2 : w51.cell? ⟨gb311,2,none⟩=some (.slice A0_2 l0_2.length c0_2):=(zz BK311.out 2).trans rfl;have hcz53_3 : w51.cell? ⟨gb311,3,none⟩=some (.int .i64 a0_3):=(zz BK311.out 3).trans rfl;have hfz53_0:=zA BK311.out 0;have hfz53_1:=zA BK311.out 1;have hfz53_2:=zA BK311.out 2;have hfz53_3:=zA BK311.out 3;have hcz54_0 : w51.cell? ⟨gb312,0,none⟩=some (.slice A1_0 l1_0.length c1_0):=(zz BK312.out 0).trans rfl;have hcz54_1 : w51.cell? ⟨gb312,1,none⟩=some (.slice A1_1 l1_1.length c1_1):=(zz BK312.out 1).trans rfl;have hcz54_2 : w51.cell? ⟨gb312,2,none⟩=some (.slice A1_2 l1_2.length c1_2):=(zz BK312.out 2).trans rfl;have hcz54_3 : w51.cell? ⟨gb312,3,none⟩=some (.int .i64 a1_3):=(zz BK312.out 3).trans rfl;have hfz54_0:=zA BK312.out 0;have hfz54_1:=zA BK312.out 1;have hfz54_2:=zA BK312.out 2;have hfz54_3:=zA BK312.out 3)|((with_reducible refine zJ (f:=34) rfl ?_);refine yj (some 9) rfl rfl Try.func34 (by kernel_rfl) rfl #[.slice A0_0 l0_0.length c0_0,.slice A1_0 l1_0.length c1_0] rfl (by (try simp only [zt,zu,zv]);first|done|rfl|(simp only [zw,zx];rfl)|(simp only [yr,ys,zV,zW];rfl)) ?_;(with_reducible refine (F3.calls k  _ _ l0_0 _ _ l1_0 true _ ?side1 ?side2 ?side3 ?side4 A3.out).mono ?_);(case side1 => repeat (first|exact (Kd.C_below HR0_0.out HB.out)|(with_reducible refine Kd.C_alloc ?_ _)|(with_reducible refine Kd.C_drewN ?_ _)|(with_reducible refine Kd.C_drew ?_)));(case side2 => exact HC0_0.out);(case side3 => repeat (first|exact (Kd.C_below HR1_0.out HB.out)|(with_reducible refine Kd.C_alloc ?_ _)|(with_reducible refine Kd.C_drewN ?_ _)|(with_reducible refine Kd.C_drew ?_)));(case side4 => exact HC1_0.out);rintro e w55 ⟨rfl,hb⟩;refine ⟨_,rfl,?_⟩;replace BK311:=zh (zD (g:=gb311) (o:=.cells #[.slice A0_0 l0_0.length c0_0,.slice A0_1 l0_1.length c0_1,.slice A0_2 l0_2.length c0_2,.int .i64 a0_3] 43 (0,0)) (by (with_reducible repeat (first|refine ze ?_ _|refine zf ?_|refine zg ?_ _));exact BK311.out) hb);replace BK312:=zh (zD (g:=gb312) (o:=.cells #[.slice A1_0 l1_0.length c1_0,.slice A1_1 l1_1.length c1_1,.slice A1_2 l1_2.length c1_2,.int .i64 a1_3] 43 (0,0)) (by (with_reducible repeat (first|refine ze ?_ _|refine zf ?_|refine zg ?_ _));exact BK312.out) hb);replace HB:=zh (zC (by repeat (with_reducible first|exact HB.out|apply za|apply zb|apply zc|refine zd ?_ GE311.out|refine zd ?_ GE312.out)) hb);(try clear hb);(try clear hb2);(try clear hk);(try clear hi);have hcz56_0 : w55.cell? ⟨gb311,0,none⟩=some (.slice A0_0 l0_0.length c0_0):=(zz BK311.out 0).trans rfl;have hcz56_1 : w55.cell? ⟨gb311,1,none⟩=some (.slice A0_1 l0_1.length c0_1):=(zz BK311.out 1).trans rfl;have hcz56_2 : w55.cell? ⟨gb311,2,none⟩=some (.slice A0_2 l0_2.length c0_2):=(zz BK311.out 2).trans rfl;have hcz56_3 : w55.cell? ⟨gb311,3,none⟩=some (.int .i64 a0_3):=(zz BK311.out 3).trans rfl;have hfz56_0:=zA BK311.out 0;have hfz56_1:=zA BK311.out 1;have hfz56_2:=zA BK311.out 2;have hfz56_3:=zA BK311.out 3;have hcz57_0 : w55.cell? ⟨gb312,0,none⟩=some (.slice A1_0 l1_0.length c1_0):=(zz BK312.out 0).trans rfl;have hcz57_1 : w55.cell? ⟨gb312,1,none⟩=some (.slice A1_1 l1_1.length c1_1):=(zz BK312.out 1).trans rfl;have hcz57_2 : w55.cell? ⟨gb312,2,none⟩=some (.slice A1_2 l1_2.length c1_2):=(zz BK312.out 2).trans rfl;have hcz57_3 : w55.cell? ⟨gb312,3,none⟩=some (.int .i64 a1_3):=(zz BK312.out 3).trans rfl;have hfz57_0:=zA BK312.out 0;have hfz57_1:=zA BK312.out 1;have hfz57_2:=zA BK312.out 2;have hfz57_3:=zA BK312.out 3)|((with_reducible refine zJ (f:=35) rfl ?_);refine yj (some 15) rfl rfl Try.func35 (by kernel_rfl) rfl #[.slice A0_1 l0_1.length c0_1,.slice A1_1 l1_1.length c1_1] rfl (by (try simp only [zt,zu,zv]);first|done|rfl|(simp only [zw,zx];rfl)|(simp only [yr,ys,zV,zW];rfl)) ?_;(with_reducible refine (Fc.calls k  _ _ l0_1 _ _ l1_1 false _ ?side1 ?side2 ?side3 ?side4 A5.out).mono ?_);(case side1 => repeat (first|exact (Kd.C_below HR0_1.out HB.out)|(with_reducible refine Kd.C_alloc ?_ _)|(with_reducible refine Kd.C_drewN ?_ _)|(with_reducible refine Kd.C_drew ?_)));(case side2 => exact HC0_1.out);(case side3 => repeat (first|exact (Kd.C_below HR1_1.out HB.out)|(with_reducible refine Kd.C_alloc ?_ _)|(with_reducible refine Kd.C_drewN ?_ _)|(with_reducible refine Kd.C_drew ?_)));(case side4 => exact HC1_1.out);rintro e w58 ⟨rfl,hb⟩;refine ⟨_,rfl,?_⟩;replace BK311:=zh (zD (g:=gb311) (o:=.cells #[.slice A0_0 l0_0.length c0_0,.slice A0_1 l0_1.length c0_1,.slice A0_2 l0_2.length c0_2,.int .i64 a0_3] 43 (0,0)) (by (with_reducible repeat (first|refine ze ?_ _|refine zf ?_|refine zg ?_ _));exact BK311.out) hb);replace BK312:=zh (zD (g:=gb312) (o:=.cells #[.slice A1_0 l1_0.length c1_0,.slice A1_1 l1_1.length c1_1,.slice A1_2 l1_2.length c1_2,.int .i64 a1_3] 43 (0,0)) (by (with_reducible repeat (first|refine ze ?_ _|refine zf ?_|refine zg ?_ _));exact BK312.out) hb);replace HB:=zh (zC (by repeat (with_reducible first|exact HB.out|apply za|apply zb|apply zc|refine zd ?_ GE311.out|refine zd ?_ GE312.out)) hb);(try clear hb);(try clear hb2);(try clear hk);(try clear hi)))
  go_ret
  exact ⟨by first|rfl|(simp [yt,yu] <;> rfl)|(simp [*,yt,yu] <;> rfl),by repeat (with_reducible first|exact HB.out|apply za|apply zb|apply zc|refine zd ?_ GE311.out|refine zd ?_ GE312.out)⟩
 replace c4:=yb.mpr c4;subst c4;have H1 : (some false)=some r:=by rw [if_neg (show ¬ (false=true) by decide)] at H;exact H
 clear H;have H:=H1;clear H1;obtain rfl:=zU H
 go_enter Try.func20,Try.ntmps20
 go_wp2_with (first|((with_reducible refine zK (N:=2) rfl ?_);refine zI ?hg (N:=2) ?hd (cs:=#[.slice A0_0 l0_0.length c0_0,.slice A0_1 l0_1.length c0_1,.slice A0_2 l0_2.length c0_2,.int .i64 a0_3]) (t:=43) ?hr ?_;(case hd => rfl);(case hg => rfl);(case hr => first|(go_simp;done)|(go_simp;rfl));intro gb311 hg w59 hbox hb;have BK311:=zh (hbox);have GW311:=zh ((by rw [hg];exact (zB (by repeat (with_reducible first|exact HB.out|apply za|apply zb|apply zc))) : w.heap.size≤gb311));have GE311:=zh ((by rw [hg];exact (zB (by repeat (with_reducible first|exact HB.out|apply za|apply zb|apply zc))) : w.heap.size≤gb311));replace HB:=zh (zC (by repeat (with_reducible first|exact HB.out|apply za|apply zb|apply zc)) hb);clear hb hbox hg)|((with_reducible refine zK (N:=3) rfl ?_);refine zI ?hg (N:=3) ?hd (cs:=#[.slice A1_0 l1_0.length c1_0,.slice A1_1 l1_1.length c1_1,.slice A1_2 l1_2.length c1_2,.int .i64 a1_3]) (t:=43) ?hr ?_;(case hd => rfl);(case hg => rfl);(case hr => first|(go_simp;done)|(go_simp;rfl));intro gb312 hg w60 hbox hb;have BK312:=zh (hbox);have GW312:=zh ((by rw [hg];exact (zB (by repeat (with_reducible first|exact HB.out|apply za|apply zb|apply zc|refine zd ?_ GE311.out))) : w.heap.size≤gb312));have GE312:=zh ((by rw [hg];exact (zB (by repeat (with_reducible first|exact HB.out|apply za|apply zb|apply zc|refine zd ?_ GE311.out))) : w.heap.size≤gb312));replace HB:=zh (zC (by repeat (with_reducible first|exact HB.out|apply za|apply zb|apply zc|refine zd ?_ GE311.out)) hb);have NB311_312:=zh ((by rw [hg];exact yc (yi (g:=gb311) (o:=.cells #[.slice A0_0 l0_0.length c0_0,.slice A0_1 l0_1.length c0_1,.slice A0_2 l0_2.length c0_2,.int .i64 a0_3] 43 (0,0)) (by (with_reducible repeat (first|refine ze ?_ _|refine zf ?_|refine zg ?_ _));exact BK311.out)) : gb311≠gb312));have NB312_311:=zh ((by rw [hg];exact yd (yi (g:=gb311) (o:=.cells #[.slice A0_0 l0_0.length c0_0,.slice A0_1 l0_1.length c0_1,.slice A0_2 l0_2.length c0_2,.int .i64 a0_3] 43 (0,0)) (by (with_reducible repeat (first|refine ze ?_ _|refine zf ?_|refine zg ?_ _));exact BK311.out)) : gb312≠gb311));replace BK311:=zh (zD (g:=gb311) (o:=.cells #[.slice A0_0 l0_0.length c0_0,.slice A0_1 l0_1.length c0_1,.slice A0_2 l0_2.length c0_2,.int .i64 a0_3] 43 (0,0)) (by (with_reducible repeat (first|refine ze ?_ _|refine zf ?_|refine zg ?_ _));exact BK311.out) hb);clear hb hbox hg;have hnb61:=NB311_312.out;have hnc61:=NB312_311.out;have hcz62_0 : w60.cell? ⟨gb311,0,none⟩=some (.slice A0_0 l0_0.length c0_0):=(zz BK311.out 0).trans rfl;have hcz62_1 : w60.cell? ⟨gb311,1,none⟩=some (.slice A0_1 l0_1.length c0_1):=(zz BK311.out 1).trans rfl;have hcz62_2 : w60.cell? ⟨gb311,2,none⟩=some (.slice A0_2 l0_2.length c0_2):=(zz BK311.out 2).trans rfl;have hcz62_3 : w60.cell? ⟨gb311,3,none⟩=some (.int .i64 a0_3):=(zz BK311.out 3).trans rfl;have hfz62_0:=zA BK311.out 0;have hfz62_1:=zA BK311.out 1;have hfz62_2:=zA BK311.out 2;have hfz62_3:=zA BK311.out 3;have hcz63_0 : w60.cell? ⟨gb312,0,none⟩=some (.slice A1_0 l1_0.length c1_0):=(zz BK312.out 0).trans rfl;have hcz63_1 : w60.cell? ⟨gb312,1,none⟩=some (.slice A1_1 l1_1.length c1_1):=(zz BK312.out 1).trans rfl;have hcz63_2 : w60.cell? ⟨gb312,2,none⟩=some (.slice A1_2 l1_2.length c1_2):=(zz BK312.out 2).trans rfl;have hcz63_3 : w60.cell? ⟨gb312,3,none⟩=some (.int .i64 a1_3):=(zz BK312.out 3).trans rfl;have hfz63_0:=zA BK312.out 0;have hfz63_1:=zA BK312.out 1;have hfz63_2:=zA BK312.out 2;have hfz63_3:=zA BK312.out 3)|((with_reducible refine zJ (f:=34) rfl ?_);refine yj (some 9) rfl rfl Try.func34 (by kernel_rfl) rfl #[.slice A0_0 l0_0.length c0_0,.slice A1_0 l1_0.length c1_0] rfl (by (try simp only [zt,zu,zv]);first|done|rfl|(simp only [zw,zx];rfl)|(simp only [yr,ys,zV,zW];rfl)) ?_;(with_reducible refine (F3.calls k  _ _ l0_0 _ _ l1_0 false _ ?side1 ?side2 ?side3 ?side4 A3.out).mono ?_);(case side1 => repeat (first|exact (Kd.C_below HR0_0.out HB.out)|(with_reducible refine Kd.C_alloc ?_ _)|(with_reducible refine Kd.C_drewN ?_ _)|(with_reducible refine Kd.C_drew ?_)));(case side2 => exact HC0_0.out);(case side3 => repeat (first|exact (Kd.C_below HR1_0.out HB.out)|(with_reducible refine Kd.C_alloc ?_ _)|(with_reducible refine Kd.C_drewN ?_ _)|(with_reducible refine Kd.C_drew ?_)));(case side4 => exact HC1_0.out);rintro e w64 ⟨rfl,hb⟩;refine ⟨_,rfl,?_⟩;replace BK311:=zh (zD (g:=gb311) (o:=.cells #[.slice A0_0 l0_0.length c0_0,.slice A0_1 l0_1.length c0_1,.slice A0_2 l0_2.length c0_2,.int .i64 a0_3] 43 (0,0)) (by (with_reducible repeat (first|refine ze ?_ _|refine zf ?_|refine zg ?_ _));exact BK311.out) hb);replace BK312:=zh (zD (g:=gb312) (o:=.cells #[.slice A1_0 l1_0.length c1_0,.slice A1_1 l1_1.length c1_1,.slice A1_2 l1_2.length c1_2,.int .i64 a1_3] 43 (0,0)) (by (with_reducible repeat (first|refine ze ?_ _|refine zf ?_|refine zg ?_ _));exact BK312.out) hb);replace HB:=zh (zC (by repeat (with_reducible first|exact HB.out|apply za|apply zb|apply zc|refine zd ?_ GE311.out|refine zd ?_ GE312.out)) hb);(try clear hb);(try clear hb2);(try clear hk);(try clear hi)))
 go_ret
 exact ⟨by first|rfl|(simp [yt,yu] <;> rfl)|(simp [*,yt,yu] <;> rfl),by repeat (with_reducible first|exact HB.out|apply za|apply zb|apply zc|refine zd ?_ GE311.out|refine zd ?_ GE312.out)⟩


def Fd.l0 : Nat→List ByteArray→Int→Int→Option (Int×List ByteArray)
 | 0,_,_,_ => none
 | k + 1,x0,x1,x5 => if x5<(x0.length : Int) then ((F4.f k x1).bind fun t318 => (if 0≤x5 then (Fd.l0 k (x0.set (x5 : Int).toNat t318) (wrap64 (x1 + 1)) (wrap64 (x5 + 1))) else (none))) else (some (x1,x0))
def Fd.f (k : Nat) (l0 : List ByteArray) (a1 : Int) : Option (Int×List ByteArray):=Fd.l0 k l0 a1 0
theorem Fd.mono_l : ∀ k,(∀ y0 y1 y2,LeO (Fd.l0 k y0 y1 y2) (Fd.l0 (k + 1) y0 y1 y2))
 | 0 => fun _ _ _ r h => by simp [Fd.l0] at h
 | k + 1 => by
  have ih0:=Fd.mono_l k;intro y0 y1 y2;unfold Fd.l0
  repeat' first|(with_reducible first|exact ih0 _ _ _|exact F4.mono _ _|exact zQ _|exact zN _|refine zP ?_ ?_|refine zO ?_ (fun _ => ?_))|refine zP ?_ ?_|refine zO ?_ (fun _ => ?_)
theorem Fd.mono : ∀ a0 a1 k,LeO (Fd.f k a0 a1) (Fd.f (k + 1) a0 a1):=by
 intro a0 a1 k;have ih0:=Fd.mono_l k;unfold Fd.f
 repeat' first|(with_reducible first|exact ih0 _ _ _|exact F4.mono _ _|exact zQ _|exact zN _|refine zP ?_ ?_|refine zO ?_ (fun _ => ?_))|refine zP ?_ ?_|refine zO ?_ (fun _ => ?_)
set_option maxHeartbeats 8000000 in
set_option maxRecDepth 100000 in
theorem Fd.calls (k : Nat) (P0_ : Nat→Prop) (u9000_ : Value) (l0 : List ByteArray) (a1 : Int) (r1 : Int) (r2 : List ByteArray) (w0 w : World) (hB : Below w0.heap.size w0 w) (ho0 : Kd.R Kd.string 9 w w0.heap.size P0_ u9000_ l0) (h : Fd.f k l0 a1=some (r1,r2)) :
  Calls Try.prog 22 #[u9000_,.int .i64 a1] w fun e w' => e = .returned (.int .i64 r1)∧Kd.R Kd.string 9 w' w0.heap.size (fun k_ => (P0_ k_∨w.heap.size≤k_)) u9000_ r2∧Below w0.heap.size w0 w' ∧ Kept w w' (fun k_ => P0_ k_):=by
 have HO0:=zh (show Kd.R Kd.string 9 w w0.heap.size (fun k_ => (P0_ k_∨w.heap.size≤k_)) u9000_ l0 from zM ho0 (fun k_ hk => (.inl hk)));have HK:=zh (Kept.refl w (fun k_ => P0_ k_));have HW0:=zh hB.size;have HB:=zh hB;clear hB;have H : (Fd.l0 k l0 a1 0)=some (r1,r2):=h;clear h;have H':=zh H;clear H
 go_enter Try.func22,Try.ntmps22
 go_wp2
 go_loopg [1,5] k (fun kq v1 v5 w' => ∃ (x0_1 : List ByteArray) (x1_1 : Int) (x5_1 : Int),v1 = .int .i64 x1_1∧v5 = .int .i64 x5_1∧Aside0 (Fd.l0 kq x0_1 x1_1 x5_1=some (r1,r2))∧Aside0 (kq≤k)∧Aside0 (Kd.R Kd.string 9 w' w0.heap.size (fun k_ => (P0_ k_∨w.heap.size≤k_)) u9000_ x0_1)∧Aside0 (Kept w w' (fun k_ => P0_ k_))∧Aside0 (Below w0.heap.size w0 w'))
 case atStart => exact ⟨(l0),(a1),(0),(by first|rfl|(simp;done)|(simp [*];done)),(by first|rfl|(simp;done)|(simp [*];done)),H',⟨ye _⟩,⟨by (with_reducible repeat (first|apply zm|apply zn|apply zo));exact HO0.out⟩,⟨by repeat (with_reducible first|exact HK.out|apply zr|apply zp|apply zq)⟩,⟨by repeat (with_reducible first|exact HB.out|apply za|apply zb|apply zc)⟩⟩
 case round =>
  clear H'
  try clear c2
  try clear p2
  obtain ⟨x0_1,x1_1,x5_1,rfl,rfl,HA,HK1,HO_0,HK,HB⟩:=hrel
  cases gk with
  | zero => exact absurd HA.out (by simp [Fd.l0])
  | succ k1 =>
   have H:=HA.out;clear HA;simp only [Fd.l0] at H
   by_cases c3 : x5_1<(x0_1.length : Int)
   ·
    rw [if_pos c3] at H
    have c3b0 : decide (x5_1<(x0_1.length : Int))=true:=decide_eq_true c3;clear c3;replace H:=zT.mp H;obtain ⟨t318,A40,H⟩:=H;replace H : (if 0≤x5_1 then (Fd.l0 k1 (x0_1.set (x5_1 : Int).toNat t318) (wrap64 (x1_1 + 1)) (wrap64 (x5_1 + 1))) else (none))=some (r1,r2):=H;have A4:=zh A40;clear A40
    by_cases c5 : 0≤x5_1
    ·
     rw [if_pos c5] at H
     have c5b0 : decide (0≤x5_1)=true:=decide_eq_true c5;clear c5;obtain ⟨y319,hy319⟩ : ∃ y_ : List ByteArray,y_=(x0_1.set (x5_1 : Int).toNat t318):=⟨_,rfl⟩;replace H : (Fd.l0 k1 y319 (wrap64 (x1_1 + 1)) (wrap64 (x5_1 + 1)))=some (r1,r2):=by first|(rw [hy319];with_reducible exact H)|(have H2_:=(Option.bind_some _ _).symm.trans H;rw [hy319];with_reducible exact H2_)|(have H2_:=(Option.bind_some _ _).symm.trans H;with_reducible exact H2_)|with_reducible exact H|(rw [hy319];exact H)|exact H
     have Ny319:=zh hy319;clear hy319;have H':=zh H;clear H;obtain ⟨Ao7,co7,eo7⟩:=yk HO_0.out;subst eo7
     go_wp2_with (first|((with_reducible refine zJ (f:=37) rfl ?_);refine yj (some 15) rfl rfl Try.func37 (by kernel_rfl) rfl #[.int .i64 x1_1] rfl (by (try simp only [zt,zu,zv]);first|done|rfl|(simp only [zw,zx];rfl)|(simp only [yr,ys,zV,zW];rfl)) ?_;(with_reducible refine (F4.calls k1  x1_1 t318 _ A4.out).mono ?_);rintro e w8 ⟨rfl,hb⟩;refine ⟨_,rfl,?_⟩;replace HO_0:=zh (yg (by (with_reducible repeat (first|apply zm|apply zn|apply zo));exact HO_0.out) hb);replace HK:=zh (Kept.below (S:=(fun k_ => P0_ k_)) (by repeat (with_reducible first|exact HK.out|apply zr|apply zp|apply zq)) hb);replace HB:=zh (zC (by repeat (with_reducible first|exact HB.out|apply za|apply zb|apply zc)) hb);(try clear hb);(try clear hb2);(try clear hk);(try clear hi);have p6 : 0≤(x5_1 : Int):=zy (by first|(with_reducible assumption)|assumption);have q6 : (x5_1 : Int)<((x0_1.length : Int) : Int):=zy (by first|(with_reducible assumption)|assumption);obtain ⟨go6,co6,eo6,gb6,gl6,cl6,HG6⟩:=Kd.R_form HO_0.out (by omega);(first|cases eo6|(injection eo6 with ea_ en_ ec_;(first|subst ea_|(injection ea_ with ea_;subst ea_));subst ec_;clear en_));have GB6:=zh gb6;have GG6:=zh HG6;clear gb6 gl6 HG6;have HMgo6:=zh (show (P0_ go6∨w.heap.size≤go6) from (HO_0.out.1 _ rfl));obtain ⟨hx6_0,hf6_0⟩:=Kd.R_celln (⟨#[]⟩ : ByteArray) HO_0.out (x5_1 : Int) p6 q6;replace p6:=eq_true p6;replace q6:=eq_true q6;obtain ⟨hy9_,hz9_⟩:=Kd.R_celln (⟨#[]⟩ : ByteArray) HO_0.out (x5_1 : Int) (zy (by first|(with_reducible assumption)|assumption)) (zy (by first|(with_reducible assumption)|assumption));have HP9:=Kd.R_putg HO_0.out (x5_1 : Int) t318)|((with_reducible refine gate_store (t:=9) (p:=16) rfl ?_);refine store_event (t:=9) (p:=16) (v:=?vo_w10) (w1:=(w8.setCell ⟨go6,(x5_1 : Int).toNat,none⟩ (.string t318))) ?hg ?ho ?hn ?hr ?_;(case ho => rfl);(case hg => rfl);(case hn => rfl);(case hr => first|(go_simp;done)|(go_simp;rfl));intro w10 hw;have hg : w8.grownBy w10 (some go6):=(by rw [hw];exact HP9.2);have hp_ : Kd.R Kd.string 9 w10 w0.heap.size (fun k_ => (P0_ k_∨w.heap.size≤k_)) (.slice (some ⟨go6,0,none⟩) x0_1.length co7) y319:=(by rw [hw,Ny319.out];exact HP9.1);clear HP9;replace HB:=zh ((by rw [hw];exact zd (HB.out) GB6.out : Below w0.heap.size w0 w10));replace HK:=zh (yz (S:=(fun k_ => P0_ k_)) hg (by repeat (with_reducible first|exact HK.out|apply zr|apply zp|apply zq)) (fun k_ e_ => (HO_0.out.1 k_ e_)));replace HO_0:=zh (hp_);clear hg hw hp_))
     go_roundg k1
     case measure => have:=HK1.out;omega
     case rel => exact ⟨(y319),(wrap64 (x1_1 + 1)),(wrap64 (x5_1 + 1)),(by first|rfl|(simp;done)|(simp [*];done)),(by first|rfl|(simp;done)|(simp [*];done)),H',⟨by have:=HK1.out;omega⟩,⟨by (with_reducible repeat (first|apply zm|apply zn|apply zo));exact HO_0.out⟩,⟨by repeat (with_reducible first|exact HK.out|apply zr|apply zp|apply zq)⟩,⟨by repeat (with_reducible first|exact HB.out|apply za|apply zb|apply zc)⟩⟩
    rw [if_neg c5] at H;exact absurd H (by simp)
   rw [if_neg c3] at H;have c3b0 : decide (x5_1<(x0_1.length : Int))=false:=decide_eq_false c3;clear c3;simp only [Option.some.injEq,Prod.mk.injEq] at H;obtain ⟨rfl,rfl⟩:=H;obtain ⟨Ao11,co11,eo11⟩:=yk HO_0.out;subst eo11
   go_wp2
   go_ret
   exact ⟨by first|rfl|(simp [yt,yu] <;> rfl)|(simp [*,yt,yu] <;> rfl),by (with_reducible repeat (first|apply zm|apply zn|apply zo));exact HO_0.out,by repeat (with_reducible first|exact HB.out|apply za|apply zb|apply zc),by repeat (with_reducible first|exact HK.out|apply zr|apply zp|apply zq)⟩


def Fn.l0 : Nat→List (S100)→Int→Int→Option (Int)
 | 0,_,_,_ => none
 | k + 1,x0,x1,x5 => if x5<(x0.length : Int) then (none) else (some x1)
def Fn.f (k : Nat) (l0 : List (S100)) (a1 : Int) : Option (Int):=Fn.l0 k l0 a1 0
theorem Fn.mono_l : ∀ k,(∀ y0 y1 y2,LeO (Fn.l0 k y0 y1 y2) (Fn.l0 (k + 1) y0 y1 y2))
 | 0 => fun _ _ _ r h => by simp [Fn.l0] at h
 | k + 1 => by
  have ih0:=Fn.mono_l k;intro y0 y1 y2;unfold Fn.l0
  repeat' first|(with_reducible first|exact ih0 _ _ _|exact zQ _|exact zN _|refine zP ?_ ?_|refine zO ?_ (fun _ => ?_))|refine zP ?_ ?_|refine zO ?_ (fun _ => ?_)
theorem Fn.mono : ∀ a0 a1 k,LeO (Fn.f k a0 a1) (Fn.f (k + 1) a0 a1):=by
 intro a0 a1 k;have ih0:=Fn.mono_l k;unfold Fn.f
 repeat' first|(with_reducible first|exact ih0 _ _ _|exact zQ _|exact zN _|refine zP ?_ ?_|refine zO ?_ (fun _ => ?_))|refine zP ?_ ?_|refine zO ?_ (fun _ => ?_)
set_option maxHeartbeats 8000000 in
set_option maxRecDepth 100000 in
theorem Fn.calls (k : Nat) (A0 : Option Addr) (c0 : Nat) (l0 : List (S100)) (a1 : Int) (r : Int) (w : World) (hr0 : Kd.C k100 w A0 l0.length l0) (hc0 : l0.length≤c0) (h : Fn.f k l0 a1=some r) :
  Calls Try.prog 53 #[.slice A0 l0.length c0,.int .i64 a1] w fun e w' => e = .returned (.int .i64 r)∧Below w.heap.size w w':=by
 have HR0:=zh hr0;have HC0:=zh hc0;clear hr0 hc0;have HB:=zh (Below.refl w.heap.size w);have H : (Fn.l0 k l0 a1 0)=some r:=h;clear h;have H':=zh H;clear H
 go_enter Try.func53,Try.ntmps53
 go_wp2
 go_loopg [1,5] k (fun kq v1 v5 w' => ∃ (x1_1 : Int) (x5_1 : Int),v1 = .int .i64 x1_1∧v5 = .int .i64 x5_1∧Aside0 (Fn.l0 kq l0 x1_1 x5_1=some r)∧Aside0 (kq≤k)∧Aside0 (Below w.heap.size w w'))
 case atStart => exact ⟨(a1),(0),(by first|rfl|(simp;done)|(simp [*];done)),(by first|rfl|(simp;done)|(simp [*];done)),H',⟨ye _⟩,⟨by repeat (with_reducible first|exact HB.out|apply za|apply zb|apply zc)⟩⟩
 case round =>
  clear H'
  try clear p2
  obtain ⟨x1_1,x5_1,rfl,rfl,HA,HK1,HB⟩:=hrel
  cases gk with
  | zero => exact absurd HA.out (by simp [Fn.l0])
  | succ k1 =>
   have H:=HA.out;clear HA;simp only [Fn.l0] at H
   by_cases c3 : x5_1<(l0.length : Int)
   ·
    rw [if_pos c3] at H
    exact absurd H (by simp)
   rw [if_neg c3] at H;have c3b0 : decide (x5_1<(l0.length : Int))=false:=decide_eq_false c3;clear c3;obtain rfl:=zU H
   go_wp2
   go_ret
   exact ⟨by first|rfl|(simp [yt,yu] <;> rfl)|(simp [*,yt,yu] <;> rfl),by repeat (with_reducible first|exact HB.out|apply za|apply zb|apply zc)⟩


def Fk.l0 : Nat→List (S104)→Int→Int→Option (Int)
 | 0,_,_,_ => none
 | k + 1,x0,x1,x5 => if x5<(x0.length : Int) then (none) else (some x1)
def Fk.f (k : Nat) (l0 : List (S104)) (a1 : Int) : Option (Int):=Fk.l0 k l0 a1 0
theorem Fk.mono_l : ∀ k,(∀ y0 y1 y2,LeO (Fk.l0 k y0 y1 y2) (Fk.l0 (k + 1) y0 y1 y2))
 | 0 => fun _ _ _ r h => by simp [Fk.l0] at h
 | k + 1 => by
  have ih0:=Fk.mono_l k;intro y0 y1 y2;unfold Fk.l0
  repeat' first|(with_reducible first|exact ih0 _ _ _|exact zQ _|exact zN _|refine zP ?_ ?_|refine zO ?_ (fun _ => ?_))|refine zP ?_ ?_|refine zO ?_ (fun _ => ?_)
theorem Fk.mono : ∀ a0 a1 k,LeO (Fk.f k a0 a1) (Fk.f (k + 1) a0 a1):=by
 intro a0 a1 k;have ih0:=Fk.mono_l k;unfold Fk.f
 repeat' first|(with_reducible first|exact ih0 _ _ _|exact zQ _|exact zN _|refine zP ?_ ?_|refine zO ?_ (fun _ => ?_))|refine zP ?_ ?_|refine zO ?_ (fun _ => ?_)
set_option maxHeartbeats 8000000 in
set_option maxRecDepth 100000 in
theorem Fk.calls (k : Nat) (A0 : Option Addr) (c0 : Nat) (l0 : List (S104)) (a1 : Int) (r : Int) (w : World) (hr0 : Kd.C k104 w A0 l0.length l0) (hc0 : l0.length≤c0) (h : Fk.f k l0 a1=some r) :
  Calls Try.prog 54 #[.slice A0 l0.length c0,.int .i64 a1] w fun e w' => e = .returned (.int .i64 r)∧Below w.heap.size w w':=by
 have HR0:=zh hr0;have HC0:=zh hc0;clear hr0 hc0;have HB:=zh (Below.refl w.heap.size w);have H : (Fk.l0 k l0 a1 0)=some r:=h;clear h;have H':=zh H;clear H
 go_enter Try.func54,Try.ntmps54
 go_wp2
 go_loopg [1,5] k (fun kq v1 v5 w' => ∃ (x1_1 : Int) (x5_1 : Int),v1 = .int .i64 x1_1∧v5 = .int .i64 x5_1∧Aside0 (Fk.l0 kq l0 x1_1 x5_1=some r)∧Aside0 (kq≤k)∧Aside0 (Below w.heap.size w w'))
 case atStart => exact ⟨(a1),(0),(by first|rfl|(simp;done)|(simp [*];done)),(by first|rfl|(simp;done)|(simp [*];done)),H',⟨ye _⟩,⟨by repeat (with_reducible first|exact HB.out|apply za|apply zb|apply zc)⟩⟩
 case round =>
  clear H'
  try clear p2
  obtain ⟨x1_1,x5_1,rfl,rfl,HA,HK1,HB⟩:=hrel
  cases gk with
  | zero => exact absurd HA.out (by simp [Fk.l0])
  | succ k1 =>
   have H:=HA.out;clear HA;simp only [Fk.l0] at H
   by_cases c3 : x5_1<(l0.length : Int)
   ·
    rw [if_pos c3] at H
    exact absurd H (by simp)
   rw [if_neg c3] at H;have c3b0 : decide (x5_1<(l0.length : Int))=false:=decide_eq_false c3;clear c3;obtain rfl:=zU H
   go_wp2
   go_ret
   exact ⟨by first|rfl|(simp [yt,yu] <;> rfl)|(simp [*,yt,yu] <;> rfl),by repeat (with_reducible first|exact HB.out|apply za|apply zb|apply zc)⟩


def Fb.l0 : Nat→List (S62)→Int→Int→Option (Int×(List (S62)))
 | 0,_,_,_ => none
 | k + 1,x0,x1,x5 => if x5<(x0.length : Int) then ((F4.f k x1).bind fun t329 => (if 0≤x5 then ((some (x0.set (x5 : Int).toNat (⟨t329,(rd_T62 x0 x5).f1,(rd_T62 x0 x5).f2⟩ : S62) : List (S62))).bind fun y330 => ((Fn.f k ((rd_T62 y330 x5).f1) (wrap64 (x1 + 1))).bind fun t332 => ((Fk.f k ((rd_T62 y330 x5).f2) t332).bind fun t334 => (Fb.l0 k y330 t334 (wrap64 (x5 + 1)))))) else (none))) else (some (x1,x0))
def Fb.f (k : Nat) (l0 : List (S62)) (a1 : Int) : Option (Int×(List (S62))):=Fb.l0 k l0 a1 0
theorem Fb.mono_l : ∀ k,(∀ y0 y1 y2,LeO (Fb.l0 k y0 y1 y2) (Fb.l0 (k + 1) y0 y1 y2))
 | 0 => fun _ _ _ r h => by simp [Fb.l0] at h
 | k + 1 => by
  have ih0:=Fb.mono_l k;intro y0 y1 y2;unfold Fb.l0
  repeat' first|(with_reducible first|exact ih0 _ _ _|exact F4.mono _ _|exact Fn.mono _ _ _|exact Fk.mono _ _ _|exact zQ _|exact zN _|refine zP ?_ ?_|refine zO ?_ (fun _ => ?_))|refine zP ?_ ?_|refine zO ?_ (fun _ => ?_)
theorem Fb.mono : ∀ a0 a1 k,LeO (Fb.f k a0 a1) (Fb.f (k + 1) a0 a1):=by
 intro a0 a1 k;have ih0:=Fb.mono_l k;unfold Fb.f
 repeat' first|(with_reducible first|exact ih0 _ _ _|exact F4.mono _ _|exact Fn.mono _ _ _|exact Fk.mono _ _ _|exact zQ _|exact zN _|refine zP ?_ ?_|refine zO ?_ (fun _ => ?_))|refine zP ?_ ?_|refine zO ?_ (fun _ => ?_)
set_option maxHeartbeats 8000000 in
set_option maxRecDepth 100000 in
theorem Fb.calls (k : Nat) (P0_ : Nat→Prop) (u9000_ : Value) (l0 : List (S62)) (a1 : Int) (r1 : Int) (r2 : List (S62)) (w0 w : World) (hB : Below w0.heap.size w0 w) (ho0 : Kd.R k62 62 w w0.heap.size P0_ u9000_ l0) (h : Fb.f k l0 a1=some (r1,r2)) :
  Calls Try.prog 38 #[u9000_,.int .i64 a1] w fun e w' => e = .returned (.int .i64 r1)∧Kd.R k62 62 w' w0.heap.size (fun k_ => (P0_ k_∨w.heap.size≤k_)) u9000_ r2∧Below w0.heap.size w0 w' ∧ Kept w w' (fun k_ => P0_ k_):=by
 have HO0:=zh (show Kd.R k62 62 w w0.heap.size (fun k_ => (P0_ k_∨w.heap.size≤k_)) u9000_ l0 from zM ho0 (fun k_ hk => (.inl hk)));have HK:=zh (Kept.refl w (fun k_ => P0_ k_));have HW0:=zh hB.size;have HB:=zh hB;clear hB;have H : (Fb.l0 k l0 a1 0)=some (r1,r2):=h;clear h;have H':=zh H;clear H
 go_enter Try.func38,Try.ntmps38
 go_wp2
 go_loopg [1,5] k (fun kq v1 v5 w' => ∃ (x0_1 : List (S62)) (x1_1 : Int) (x5_1 : Int),v1 = .int .i64 x1_1∧v5 = .int .i64 x5_1∧Aside0 (Fb.l0 kq x0_1 x1_1 x5_1=some (r1,r2))∧Aside0 (kq≤k)∧Aside0 (Kd.R k62 62 w' w0.heap.size (fun k_ => (P0_ k_∨w.heap.size≤k_)) u9000_ x0_1)∧Aside0 (Kept w w' (fun k_ => P0_ k_))∧Aside0 (Below w0.heap.size w0 w'))
 case atStart => exact ⟨(l0),(a1),(0),(by first|rfl|(simp;done)|(simp [*];done)),(by first|rfl|(simp;done)|(simp [*];done)),H',⟨ye _⟩,⟨by (with_reducible repeat (first|apply zm|apply zn|apply zo));exact HO0.out⟩,⟨by repeat (with_reducible first|exact HK.out|apply zr|apply zp|apply zq)⟩,⟨by repeat (with_reducible first|exact HB.out|apply za|apply zb|apply zc)⟩⟩
 case round =>
  clear H'
  try clear p2
  obtain ⟨x0_1,x1_1,x5_1,rfl,rfl,HA,HK1,HO_0,HK,HB⟩:=hrel
  cases gk with
  | zero => exact absurd HA.out (by simp [Fb.l0])
  | succ k1 =>
   have H:=HA.out;clear HA;simp only [Fb.l0] at H
   by_cases c3 : x5_1<(x0_1.length : Int)
   ·
    rw [if_pos c3] at H
    have c3b0 : decide (x5_1<(x0_1.length : Int))=true:=decide_eq_true c3;clear c3;replace H:=zT.mp H;obtain ⟨t329,A40,H⟩:=H;replace H : (if 0≤x5_1 then ((some (x0_1.set (x5_1 : Int).toNat (⟨t329,(rd_T62 x0_1 x5_1).f1,(rd_T62 x0_1 x5_1).f2⟩ : S62) : List (S62))).bind fun y330 => ((Fn.f k1 ((rd_T62 y330 x5_1).f1) (wrap64 (x1_1 + 1))).bind fun t332 => ((Fk.f k1 ((rd_T62 y330 x5_1).f2) t332).bind fun t334 => (Fb.l0 k1 y330 t334 (wrap64 (x5_1 + 1)))))) else (none))=some (r1,r2):=H;have A4:=zh A40;clear A40
    by_cases c5 : 0≤x5_1
    ·
     rw [if_pos c5] at H
     have c5b0 : decide (0≤x5_1)=true:=decide_eq_true c5;clear c5;obtain ⟨y330,hy330⟩ : ∃ y_ : List (S62),y_=(x0_1.set (x5_1 : Int).toNat (⟨t329,(rd_T62 x0_1 x5_1).f1,(rd_T62 x0_1 x5_1).f2⟩ : S62)):=⟨_,rfl⟩;replace H : ((Fn.f k1 ((rd_T62 y330 x5_1).f1) (wrap64 (x1_1 + 1))).bind fun t332 => ((Fk.f k1 ((rd_T62 y330 x5_1).f2) t332).bind fun t334 => (Fb.l0 k1 y330 t334 (wrap64 (x5_1 + 1)))))=some (r1,r2):=by first|(rw [hy330];with_reducible exact H)|(have H2_:=(Option.bind_some _ _).symm.trans H;rw [hy330];with_reducible exact H2_)|(have H2_:=(Option.bind_some _ _).symm.trans H;with_reducible exact H2_)|with_reducible exact H|(rw [hy330];exact H)|exact H
     have Ny330:=zh hy330;clear hy330;replace H:=zT.mp H;obtain ⟨t332,A70,H⟩:=H;replace H : ((Fk.f k1 ((rd_T62 y330 x5_1).f2) t332).bind fun t334 => (Fb.l0 k1 y330 t334 (wrap64 (x5_1 + 1))))=some (r1,r2):=H;have A7:=zh A70;clear A70;replace H:=zT.mp H;obtain ⟨t334,A80,H⟩:=H;replace H : (Fb.l0 k1 y330 t334 (wrap64 (x5_1 + 1)))=some (r1,r2):=H;have A8:=zh A80;clear A80;have H':=zh H;clear H;obtain ⟨Ao9,co9,eo9⟩:=yk HO_0.out;subst eo9
     go_wp2_with (first|((with_reducible refine zJ (f:=37) rfl ?_);refine yj (some 15) rfl rfl Try.func37 (by kernel_rfl) rfl #[.int .i64 x1_1] rfl (by (try simp only [zt,zu,zv]);first|done|rfl|(simp only [zw,zx];rfl)|(simp only [yr,ys,zV,zW];rfl)) ?_;(with_reducible refine (F4.calls k1  x1_1 t329 _ A4.out).mono ?_);rintro e w10 ⟨rfl,hb⟩;refine ⟨_,rfl,?_⟩;replace HO_0:=zh (yg (by (with_reducible repeat (first|apply zm|apply zn|apply zo));exact HO_0.out) hb);replace HK:=zh (Kept.below (S:=(fun k_ => P0_ k_)) (by repeat (with_reducible first|exact HK.out|apply zr|apply zp|apply zq)) hb);replace HB:=zh (zC (by repeat (with_reducible first|exact HB.out|apply za|apply zb|apply zc)) hb);(try clear hb);(try clear hb2);(try clear hk);(try clear hi);have p6 : 0≤(x5_1 : Int):=zy (by first|(with_reducible assumption)|assumption);have q6 : (x5_1 : Int)<((x0_1.length : Int) : Int):=zy (by first|(with_reducible assumption)|assumption);obtain ⟨go6,co6,eo6,gb6,gl6,cl6,HG6⟩:=Kd.R_form HO_0.out (by omega);(first|cases eo6|(injection eo6 with ea_ en_ ec_;(first|subst ea_|(injection ea_ with ea_;subst ea_));subst ec_;clear en_));have GB6:=zh gb6;have GG6:=zh HG6;clear gb6 gl6 HG6;have HMgo6:=zh (show (P0_ go6∨w.heap.size≤go6) from (HO_0.out.1 _ rfl));obtain ⟨ce6,hcl6,hM6,hcc6,hfr6⟩:=Kd.R_elem HO_0.out z62 (x5_1 : Int) p6 q6;obtain ⟨ve6_1,ve6_2,rfl,ge6_1,ge6_2⟩:=k62_openM hM6;have hx6_0 : w10.cell? ⟨go6,(x5_1 : Int).toNat * 3,none⟩=some (.string ((rd_T62 x0_1 x5_1).f0)):=hcc6 0 _ rfl;have hx6_1 : w10.cell? ⟨go6,(x5_1 : Int).toNat * 3 + 1,none⟩=some (ve6_1):=hcc6 1 _ rfl;have hx6_2 : w10.cell? ⟨go6,(x5_1 : Int).toNat * 3 + 2,none⟩=some (ve6_2):=hcc6 2 _ rfl;have hf6_0 : w10.frozen? ⟨go6,(x5_1 : Int).toNat * 3,none⟩=false:=hfr6 0;have hf6_1 : w10.frozen? ⟨go6,(x5_1 : Int).toNat * 3 + 1,none⟩=false:=hfr6 1;have hf6_2 : w10.frozen? ⟨go6,(x5_1 : Int).toNat * 3 + 2,none⟩=false:=hfr6 2;clear hcl6 hcc6 hfr6 hM6;replace p6:=eq_true p6;replace q6:=eq_true q6;have HX11:=zh (show Kd.R k62 62 w10 w0.heap.size (fun k_ => (P0_ k_∨w.heap.size≤k_)) (.slice (some ⟨go6,0,none⟩) x0_1.length co9) x0_1 from (by (with_reducible repeat (first|apply zm|apply zn|apply zo));exact HO_0.out));obtain ⟨ce11,hcl11,hM11,hcc11,hfr11⟩:=Kd.R_elem HX11.out z62 (x5_1 : Int) (zy (by first|(with_reducible assumption)|assumption)) (by have h_ : (x5_1 : Int)<((x0_1.length : Int) : Int):=zy (by first|(with_reducible assumption)|assumption);first|exact h_|(have e_:=(yh HO_0.out).1;omega)|simpa using h_);obtain ⟨ve11_1,ve11_2,rfl,ge11_1,ge11_2⟩:=k62_openM hM11;have HP11:=Kd.R_seg HX11.out (x5_1 : Int) (zy (by first|(with_reducible assumption)|assumption)) (by have h_ : (x5_1 : Int)<((x0_1.length : Int) : Int):=zy (by first|(with_reducible assumption)|assumption);first|exact h_|(have e_:=(yh HO_0.out).1;omega)|simpa using h_) (seg:=[.string t329]) (j:=0) hcl11 hcc11 (show 1≤3 from by decide) (x':=(⟨t329,(rd_T62 x0_1 x5_1).f1,(rd_T62 x0_1 x5_1).f2⟩ : S62)) (k62_mkM _ _ _ (⟨t329,(rd_T62 x0_1 x5_1).f1,(rd_T62 x0_1 x5_1).f2⟩ : S62) ge11_1 ge11_2) (fun _ hk => hk);have hx11_0:=hcc11 0 _ rfl;(try simp only [show (k62).sz=3 from rfl,Nat.mul_one,Nat.add_zero] at hx11_0);have hf11_0:=hfr11 0;(try simp only [show (k62).sz=3 from rfl,Nat.mul_one,Nat.add_zero] at hf11_0);clear hcl11 hcc11 hfr11 hM11)|((with_reducible refine gate_store (t:=9) (p:=17) rfl ?_);refine store_event (t:=9) (p:=17) (v:=?vo_w12) (w1:=(w10.setCell ⟨go6,(x5_1 : Int).toNat * 3,none⟩ (.string t329))) ?hg ?ho ?hn ?hr ?_;(case ho => rfl);(case hg => rfl);(case hn => rfl);(case hr => first|(go_simp;done)|(go_simp;rfl));intro w12 hw;have hg : w10.grownBy w12 (some go6):=(by rw [hw];exact HP11.2);have hp_ : Kd.R k62 62 w12 w0.heap.size (fun k_ => (P0_ k_∨w.heap.size≤k_)) (.slice (some ⟨go6,0,none⟩) x0_1.length co9) y330:=(by rw [hw,Ny330.out];exact HP11.1);clear HP11;replace HB:=zh ((by rw [hw];exact zd (HB.out) GB6.out : Below w0.heap.size w0 w12));replace HK:=zh (yz (S:=(fun k_ => P0_ k_)) hg (by repeat (with_reducible first|exact HK.out|apply zr|apply zp|apply zq)) (fun k_ e_ => (HO_0.out.1 k_ e_)));replace HO_0:=zh (hp_);clear hg hw hp_;have p331 : 0≤(x5_1 : Int):=zy (by first|(with_reducible assumption)|assumption);have q331 : x5_1<(y330.length : Int):=(by have h_ : (x5_1 : Int)<((x0_1.length : Int) : Int):=zy (by first|(with_reducible assumption)|assumption);first|(have e_:=(yh HO_0.out).1;omega)|simpa only [Ny330.out,List.length_set] using h_);have ql331 : ((x5_1 : Int)<((x0_1.length : Int) : Int))=True:=eq_true (zy (by first|(with_reducible assumption)|assumption));obtain ⟨ad331,A331_1,c331_1,A331_2,c331_2,e331,hx331_0,hx331_1,hx331_2,hl331_1,hi331_1,hl331_2,hi331_2⟩:=at_T62 (yh HO_0.out).2.2 x5_1 p331 q331;obtain rfl : (⟨go6,0,none⟩ : Addr)=ad331:=(by injection e331);obtain ⟨ce331,hce331,hMe331,hcc331⟩:=Kd.R_get HO_0.out z62 x5_1 p331 (by first|exact q331|exact zy (by first|(with_reducible assumption)|assumption)|(have e_:=(yh HO_0.out).1;omega));obtain ⟨ve331_1,ve331_2,rfl,ge331_1,ge331_2⟩:=k62_openM hMe331;have hv331_1:=hcc331 1 _ rfl;rw [add_field _ _ 1 (by omega)] at hv331_1;replace hv331_1:=zU (hv331_1.symm.trans hx331_1);rw [hv331_1] at ge331_1;have HL331_1:=zh (show Kd.R k100 100 _ _ _ _ ((rd_T62 y330 x5_1).f1) from ge331_1);clear hv331_1 ge331_1;have hv331_2:=hcc331 2 _ rfl;rw [add_field _ _ 2 (by omega)] at hv331_2;replace hv331_2:=zU (hv331_2.symm.trans hx331_2);rw [hv331_2] at ge331_2;have HL331_2:=zh (show Kd.R k104 104 _ _ _ _ ((rd_T62 y330 x5_1).f2) from ge331_2);clear hv331_2 ge331_2 hcc331 hce331;(first|simp only [add_plain] at hx331_0|simp only [add_at] at hx331_0|simp only [Addr.add,Nat.zero_add] at hx331_0|skip);(first|simp only [add_plain] at hx331_1|simp only [add_at] at hx331_1|simp only [Addr.add,Nat.zero_add] at hx331_1|skip);(first|simp only [add_plain] at hx331_2|simp only [add_at] at hx331_2|simp only [Addr.add,Nat.zero_add] at hx331_2|skip);have HR331_1:=zh hi331_1;have HC331_1:=zh hl331_1;clear hi331_1 hl331_1;have HR331_2:=zh hi331_2;have HC331_2:=zh hl331_2;clear hi331_2 hl331_2;replace p331:=eq_true p331;replace q331:=eq_true q331)|((with_reducible refine zJ (f:=53) rfl ?_);refine yj (some 26) rfl rfl Try.func53 (by kernel_rfl) rfl #[.slice A331_1 ((rd_T62 y330 x5_1).f1).length c331_1,.int .i64 (wrap64 (x1_1 + 1))] rfl (by (try simp only [zt,zu,zv]);first|done|rfl|(simp only [zw,zx];rfl)|(simp only [yr,ys,zV,zW];rfl)) ?_;(with_reducible refine (Fn.calls k1  _ _ ((rd_T62 y330 x5_1).f1) (wrap64 (x1_1 + 1)) t332 _ ?side1 ?side2 A7.out).mono ?_);(case side1 => repeat (first|exact (by repeat (first|(with_reducible exact HR331_1.out)|(with_reducible refine Kd.C_alloc ?_ _)|(with_reducible refine Kd.C_drewN ?_ _)|(with_reducible refine Kd.C_drew ?_)|exact HR331_1.out))|(with_reducible refine Kd.C_alloc ?_ _)|(with_reducible refine Kd.C_drewN ?_ _)|(with_reducible refine Kd.C_drew ?_)));(case side2 => exact HC331_1.out);rintro e w13 ⟨rfl,hb⟩;refine ⟨_,rfl,?_⟩;replace HO_0:=zh (yg (by (with_reducible repeat (first|apply zm|apply zn|apply zo));exact HO_0.out) hb);replace HL331_1:=zh (yg (by (with_reducible repeat (first|apply zm|apply zn|apply zo));exact HL331_1.out) hb);replace HL331_2:=zh (yg (by (with_reducible repeat (first|apply zm|apply zn|apply zo));exact HL331_2.out) hb);replace HR331_1:=zh (Kd.C_below (by repeat (first|(with_reducible exact HR331_1.out)|(with_reducible refine Kd.C_alloc ?_ _)|(with_reducible refine Kd.C_drewN ?_ _)|(with_reducible refine Kd.C_drew ?_)|exact HR331_1.out)) hb);replace HR331_2:=zh (Kd.C_below (by repeat (first|(with_reducible exact HR331_2.out)|(with_reducible refine Kd.C_alloc ?_ _)|(with_reducible refine Kd.C_drewN ?_ _)|(with_reducible refine Kd.C_drew ?_)|exact HR331_2.out)) hb);replace HK:=zh (Kept.below (S:=(fun k_ => P0_ k_)) (by repeat (with_reducible first|exact HK.out|apply zr|apply zp|apply zq)) hb);replace HB:=zh (zC (by repeat (with_reducible first|exact HB.out|apply za|apply zb|apply zc)) hb);(try clear hb);(try clear hb2);(try clear hk);(try clear hi);have p333 : 0≤(x5_1 : Int):=zy (by first|(with_reducible assumption)|assumption);have q333 : x5_1<(y330.length : Int):=(by have h_ : (x5_1 : Int)<((x0_1.length : Int) : Int):=zy (by first|(with_reducible assumption)|assumption);first|(have e_:=(yh HO_0.out).1;omega)|simpa only [Ny330.out,List.length_set] using h_);have ql333 : ((x5_1 : Int)<((x0_1.length : Int) : Int))=True:=eq_true (zy (by first|(with_reducible assumption)|assumption));obtain ⟨ad333,A333_1,c333_1,A333_2,c333_2,e333,hx333_0,hx333_1,hx333_2,hl333_1,hi333_1,hl333_2,hi333_2⟩:=at_T62 (yh HO_0.out).2.2 x5_1 p333 q333;obtain rfl : (⟨go6,0,none⟩ : Addr)=ad333:=(by injection e333);obtain ⟨ce333,hce333,hMe333,hcc333⟩:=Kd.R_get HO_0.out z62 x5_1 p333 (by first|exact q333|exact zy (by first|(with_reducible assumption)|assumption)|(have e_:=(yh HO_0.out).1;omega));obtain ⟨ve333_1,ve333_2,rfl,ge333_1,ge333_2⟩:=k62_openM hMe333;have hv333_1:=hcc333 1 _ rfl;rw [add_field _ _ 1 (by omega)] at hv333_1;replace hv333_1:=zU (hv333_1.symm.trans hx333_1);rw [hv333_1] at ge333_1;have HL333_1:=zh (show Kd.R k100 100 _ _ _ _ ((rd_T62 y330 x5_1).f1) from ge333_1);clear hv333_1 ge333_1;have hv333_2:=hcc333 2 _ rfl;rw [add_field _ _ 2 (by omega)] at hv333_2;replace hv333_2:=zU (hv333_2.symm.trans hx333_2);rw [hv333_2] at ge333_2;have HL333_2:=zh (show Kd.R k104 104 _ _ _ _ ((rd_T62 y330 x5_1).f2) from ge333_2);clear hv333_2 ge333_2 hcc333 hce333;(first|simp only [add_plain] at hx333_0|simp only [add_at] at hx333_0|simp only [Addr.add,Nat.zero_add] at hx333_0|skip);(first|simp only [add_plain] at hx333_1|simp only [add_at] at hx333_1|simp only [Addr.add,Nat.zero_add] at hx333_1|skip);(first|simp only [add_plain] at hx333_2|simp only [add_at] at hx333_2|simp only [Addr.add,Nat.zero_add] at hx333_2|skip);have HR333_1:=zh hi333_1;have HC333_1:=zh hl333_1;clear hi333_1 hl333_1;have HR333_2:=zh hi333_2;have HC333_2:=zh hl333_2;clear hi333_2 hl333_2;replace p333:=eq_true p333;replace q333:=eq_true q333)|((with_reducible refine zJ (f:=54) rfl ?_);refine yj (some 33) rfl rfl Try.func54 (by kernel_rfl) rfl #[.slice A333_2 ((rd_T62 y330 x5_1).f2).length c333_2,.int .i64 t332] rfl (by (try simp only [zt,zu,zv]);first|done|rfl|(simp only [zw,zx];rfl)|(simp only [yr,ys,zV,zW];rfl)) ?_;(with_reducible refine (Fk.calls k1  _ _ ((rd_T62 y330 x5_1).f2) t332 t334 _ ?side1 ?side2 A8.out).mono ?_);(case side1 => repeat (first|exact (by repeat (first|(with_reducible exact HR333_2.out)|(with_reducible refine Kd.C_alloc ?_ _)|(with_reducible refine Kd.C_drewN ?_ _)|(with_reducible refine Kd.C_drew ?_)|exact HR333_2.out))|(with_reducible refine Kd.C_alloc ?_ _)|(with_reducible refine Kd.C_drewN ?_ _)|(with_reducible refine Kd.C_drew ?_)));(case side2 => exact HC333_2.out);rintro e w14 ⟨rfl,hb⟩;refine ⟨_,rfl,?_⟩;replace HO_0:=zh (yg (by (with_reducible repeat (first|apply zm|apply zn|apply zo));exact HO_0.out) hb);replace HL331_1:=zh (yg (by (with_reducible repeat (first|apply zm|apply zn|apply zo));exact HL331_1.out) hb);replace HL331_2:=zh (yg (by (with_reducible repeat (first|apply zm|apply zn|apply zo));exact HL331_2.out) hb);replace HL333_1:=zh (yg (by (with_reducible repeat (first|apply zm|apply zn|apply zo));exact HL333_1.out) hb);replace HL333_2:=zh (yg (by (with_reducible repeat (first|apply zm|apply zn|apply zo));exact HL333_2.out) hb);replace HR331_1:=zh (Kd.C_below (by repeat (first|(with_reducible exact HR331_1.out)|(with_reducible refine Kd.C_alloc ?_ _)|(with_reducible refine Kd.C_drewN ?_ _)|(with_reducible refine Kd.C_drew ?_)|exact HR331_1.out)) hb);replace HR331_2:=zh (Kd.C_below (by repeat (first|(with_reducible exact HR331_2.out)|(with_reducible refine Kd.C_alloc ?_ _)|(with_reducible refine Kd.C_drewN ?_ _)|(with_reducible refine Kd.C_drew ?_)|exact HR331_2.out)) hb);replace HR333_1:=zh (Kd.C_below (by repeat (first|(with_reducible exact HR333_1.out)|(with_reducible refine Kd.C_alloc ?_ _)|(with_reducible refine Kd.C_drewN ?_ _)|(with_reducible refine Kd.C_drew ?_)|exact HR333_1.out)) hb);replace HR333_2:=zh (Kd.C_below (by repeat (first|(with_reducible exact HR333_2.out)|(with_reducible refine Kd.C_alloc ?_ _)|(with_reducible refine Kd.C_drewN ?_ _)|(with_reducible refine Kd.C_drew ?_)|exact HR333_2.out)) hb);replace HK:=zh (Kept.below (S:=(fun k_ => P0_ k_)) (by repeat (with_reducible first|exact HK.out|apply zr|apply zp|apply zq)) hb);replace HB:=zh (zC (by repeat (with_reducible first|exact HB.out|apply za|apply zb|apply zc)) hb);(try clear hb);(try clear hb2);(try clear hk);(try clear hi)))
     go_roundg k1
     case measure => have:=HK1.out;omega
     case rel => exact ⟨(y330),(t334),(wrap64 (x5_1 + 1)),(by first|rfl|(simp;done)|(simp [*];done)),(by first|rfl|(simp;done)|(simp [*];done)),H',⟨by have:=HK1.out;omega⟩,⟨by (with_reducible repeat (first|apply zm|apply zn|apply zo));exact HO_0.out⟩,⟨by repeat (with_reducible first|exact HK.out|apply zr|apply zp|apply zq)⟩,⟨by repeat (with_reducible first|exact HB.out|apply za|apply zb|apply zc)⟩⟩
    rw [if_neg c5] at H;exact absurd H (by simp)
   rw [if_neg c3] at H;have c3b0 : decide (x5_1<(x0_1.length : Int))=false:=decide_eq_false c3;clear c3;simp only [Option.some.injEq,Prod.mk.injEq] at H;obtain ⟨rfl,rfl⟩:=H;obtain ⟨Ao15,co15,eo15⟩:=yk HO_0.out;subst eo15
   go_wp2
   go_ret
   exact ⟨by first|rfl|(simp [yt,yu] <;> rfl)|(simp [*,yt,yu] <;> rfl),by (with_reducible repeat (first|apply zm|apply zn|apply zo));exact HO_0.out,by repeat (with_reducible first|exact HB.out|apply za|apply zb|apply zc),by repeat (with_reducible first|exact HK.out|apply zr|apply zp|apply zq)⟩


def Fp.l0 : Nat→List (S78)→Int→Int→Option (Int)
 | 0,_,_,_ => none
 | k + 1,x0,x1,x5 => if x5<(x0.length : Int) then (none) else (some x1)
def Fp.f (k : Nat) (l0 : List (S78)) (a1 : Int) : Option (Int):=Fp.l0 k l0 a1 0
theorem Fp.mono_l : ∀ k,(∀ y0 y1 y2,LeO (Fp.l0 k y0 y1 y2) (Fp.l0 (k + 1) y0 y1 y2))
 | 0 => fun _ _ _ r h => by simp [Fp.l0] at h
 | k + 1 => by
  have ih0:=Fp.mono_l k;intro y0 y1 y2;unfold Fp.l0
  repeat' first|(with_reducible first|exact ih0 _ _ _|exact zQ _|exact zN _|refine zP ?_ ?_|refine zO ?_ (fun _ => ?_))|refine zP ?_ ?_|refine zO ?_ (fun _ => ?_)
theorem Fp.mono : ∀ a0 a1 k,LeO (Fp.f k a0 a1) (Fp.f (k + 1) a0 a1):=by
 intro a0 a1 k;have ih0:=Fp.mono_l k;unfold Fp.f
 repeat' first|(with_reducible first|exact ih0 _ _ _|exact zQ _|exact zN _|refine zP ?_ ?_|refine zO ?_ (fun _ => ?_))|refine zP ?_ ?_|refine zO ?_ (fun _ => ?_)
set_option maxHeartbeats 8000000 in
set_option maxRecDepth 100000 in
theorem Fp.calls (k : Nat) (A0 : Option Addr) (c0 : Nat) (l0 : List (S78)) (a1 : Int) (r : Int) (w : World) (hr0 : Kd.C k78 w A0 l0.length l0) (hc0 : l0.length≤c0) (h : Fp.f k l0 a1=some r) :
  Calls Try.prog 39 #[.slice A0 l0.length c0,.int .i64 a1] w fun e w' => e = .returned (.int .i64 r)∧Below w.heap.size w w':=by
 have HR0:=zh hr0;have HC0:=zh hc0;clear hr0 hc0;have HB:=zh (Below.refl w.heap.size w);have H : (Fp.l0 k l0 a1 0)=some r:=h;clear h;have H':=zh H;clear H
 go_enter Try.func39,Try.ntmps39
 go_wp2
 go_loopg [1,5] k (fun kq v1 v5 w' => ∃ (x1_1 : Int) (x5_1 : Int),v1 = .int .i64 x1_1∧v5 = .int .i64 x5_1∧Aside0 (Fp.l0 kq l0 x1_1 x5_1=some r)∧Aside0 (kq≤k)∧Aside0 (Below w.heap.size w w'))
 case atStart => exact ⟨(a1),(0),(by first|rfl|(simp;done)|(simp [*];done)),(by first|rfl|(simp;done)|(simp [*];done)),H',⟨ye _⟩,⟨by repeat (with_reducible first|exact HB.out|apply za|apply zb|apply zc)⟩⟩
 case round =>
  clear H'
  try clear p2
  obtain ⟨x1_1,x5_1,rfl,rfl,HA,HK1,HB⟩:=hrel
  cases gk with
  | zero => exact absurd HA.out (by simp [Fp.l0])
  | succ k1 =>
   have H:=HA.out;clear HA;simp only [Fp.l0] at H
   by_cases c3 : x5_1<(l0.length : Int)
   ·
    rw [if_pos c3] at H
    exact absurd H (by simp)
   rw [if_neg c3] at H;have c3b0 : decide (x5_1<(l0.length : Int))=false:=decide_eq_false c3;clear c3;obtain rfl:=zU H
   go_wp2
   go_ret
   exact ⟨by first|rfl|(simp [yt,yu] <;> rfl)|(simp [*,yt,yu] <;> rfl),by repeat (with_reducible first|exact HB.out|apply za|apply zb|apply zc)⟩


def Fo.l0 : Nat→List (S82)→Int→Int→Option (Int)
 | 0,_,_,_ => none
 | k + 1,x0,x1,x5 => if x5<(x0.length : Int) then (none) else (some x1)
def Fo.f (k : Nat) (l0 : List (S82)) (a1 : Int) : Option (Int):=Fo.l0 k l0 a1 0
theorem Fo.mono_l : ∀ k,(∀ y0 y1 y2,LeO (Fo.l0 k y0 y1 y2) (Fo.l0 (k + 1) y0 y1 y2))
 | 0 => fun _ _ _ r h => by simp [Fo.l0] at h
 | k + 1 => by
  have ih0:=Fo.mono_l k;intro y0 y1 y2;unfold Fo.l0
  repeat' first|(with_reducible first|exact ih0 _ _ _|exact zQ _|exact zN _|refine zP ?_ ?_|refine zO ?_ (fun _ => ?_))|refine zP ?_ ?_|refine zO ?_ (fun _ => ?_)
theorem Fo.mono : ∀ a0 a1 k,LeO (Fo.f k a0 a1) (Fo.f (k + 1) a0 a1):=by
 intro a0 a1 k;have ih0:=Fo.mono_l k;unfold Fo.f
 repeat' first|(with_reducible first|exact ih0 _ _ _|exact zQ _|exact zN _|refine zP ?_ ?_|refine zO ?_ (fun _ => ?_))|refine zP ?_ ?_|refine zO ?_ (fun _ => ?_)
set_option maxHeartbeats 8000000 in
set_option maxRecDepth 100000 in
theorem Fo.calls (k : Nat) (A0 : Option Addr) (c0 : Nat) (l0 : List (S82)) (a1 : Int) (r : Int) (w : World) (hr0 : Kd.C k82 w A0 l0.length l0) (hc0 : l0.length≤c0) (h : Fo.f k l0 a1=some r) :
  Calls Try.prog 40 #[.slice A0 l0.length c0,.int .i64 a1] w fun e w' => e = .returned (.int .i64 r)∧Below w.heap.size w w':=by
 have HR0:=zh hr0;have HC0:=zh hc0;clear hr0 hc0;have HB:=zh (Below.refl w.heap.size w);have H : (Fo.l0 k l0 a1 0)=some r:=h;clear h;have H':=zh H;clear H
 go_enter Try.func40,Try.ntmps40
 go_wp2
 go_loopg [1,5] k (fun kq v1 v5 w' => ∃ (x1_1 : Int) (x5_1 : Int),v1 = .int .i64 x1_1∧v5 = .int .i64 x5_1∧Aside0 (Fo.l0 kq l0 x1_1 x5_1=some r)∧Aside0 (kq≤k)∧Aside0 (Below w.heap.size w w'))
 case atStart => exact ⟨(a1),(0),(by first|rfl|(simp;done)|(simp [*];done)),(by first|rfl|(simp;done)|(simp [*];done)),H',⟨ye _⟩,⟨by repeat (with_reducible first|exact HB.out|apply za|apply zb|apply zc)⟩⟩
 case round =>
  clear H'
  try clear p2
  obtain ⟨x1_1,x5_1,rfl,rfl,HA,HK1,HB⟩:=hrel
  cases gk with
  | zero => exact absurd HA.out (by simp [Fo.l0])
  | succ k1 =>
   have H:=HA.out;clear HA;simp only [Fo.l0] at H
   by_cases c3 : x5_1<(l0.length : Int)
   ·
    rw [if_pos c3] at H
    exact absurd H (by simp)
   rw [if_neg c3] at H;have c3b0 : decide (x5_1<(l0.length : Int))=false:=decide_eq_false c3;clear c3;obtain rfl:=zU H
   go_wp2
   go_ret
   exact ⟨by first|rfl|(simp [yt,yu] <;> rfl)|(simp [*,yt,yu] <;> rfl),by repeat (with_reducible first|exact HB.out|apply za|apply zb|apply zc)⟩


def Fu.f (k : Nat) (l0_0 : List (S62)) (l0_1 : List (S78)) (l0_2 : List (S82)) (a0_3 : Int) (a1 : Int) : Option (Int×(List (S62))):=(Fb.f k l0_0 a1).bind fun bt364 => ((Fp.f k l0_1 bt364.1).bind fun t366 => ((Fo.f k l0_2 t366).bind fun t367 => (some (t367,bt364.2))))
theorem Fu.mono : ∀ a0 a1 a2 a3 a4 k,LeO (Fu.f k a0 a1 a2 a3 a4) (Fu.f (k + 1) a0 a1 a2 a3 a4):=by
 intro a0 a1 a2 a3 a4 k;unfold Fu.f
 repeat' first|(with_reducible first|exact Fb.mono _ _ _|exact Fp.mono _ _ _|exact Fo.mono _ _ _|exact zQ _|exact zN _|refine zP ?_ ?_|refine zO ?_ (fun _ => ?_))|refine zP ?_ ?_|refine zO ?_ (fun _ => ?_)
set_option maxHeartbeats 4000000 in
set_option maxRecDepth 100000 in
theorem Fu.calls (k : Nat) (P0_0_ : Nat→Prop) (u9000_ : Value) (l0_0 : List (S62)) (A0_1 : Option Addr) (c0_1 : Nat) (l0_1 : List (S78)) (A0_2 : Option Addr) (c0_2 : Nat) (l0_2 : List (S82)) (a0_3 : Int) (a1 : Int) (r1 : Int) (r2 : List (S62)) (w0 w : World) (hB : Below w0.heap.size w0 w) (ho0_0 : Kd.R k62 62 w w0.heap.size P0_0_ u9000_ l0_0) (hr0_1 : ∀ W_,Kept w W_ (fun k_ => P0_0_ k_)→Kd.C k78 W_ A0_1 l0_1.length l0_1) (hc0_1 : l0_1.length≤c0_1) (hr0_2 : ∀ W_,Kept w W_ (fun k_ => P0_0_ k_)→Kd.C k82 W_ A0_2 l0_2.length l0_2) (hc0_2 : l0_2.length≤c0_2) (h : Fu.f k l0_0 l0_1 l0_2 a0_3 a1=some (r1,r2)) :
  Calls Try.prog 23 #[.agg #[u9000_,.slice A0_1 l0_1.length c0_1,.slice A0_2 l0_2.length c0_2,.int .i64 a0_3],.int .i64 a1] w fun e w' => e = .returned (.int .i64 r1)∧Kd.R k62 62 w' w0.heap.size (fun k_ => (P0_0_ k_∨w.heap.size≤k_)) u9000_ r2∧Below w0.heap.size w0 w' ∧ Kept w w' (fun k_ => P0_0_ k_):=by
 have hu43:=Try.underlying43;unfold Fu.f at h;obtain ⟨⟨t364,t365⟩,A3,h⟩:=zT.mp h;obtain ⟨t366,A4,h⟩:=zT.mp h;obtain ⟨t367,A5,h⟩:=zT.mp h;simp only [Option.some.injEq,Prod.mk.injEq] at h;obtain ⟨rfl,rfl⟩:=h;have hP:=zM (ok':=fun k_ => P0_0_ k_∧k_<w.heap.size) (Kd.R_bound ho0_0) (fun k_ hk => ⟨hk.1,hk.2.2.1⟩);obtain ⟨Ao,co,rfl⟩:=yk ho0_0
 go_enter Try.func23,Try.ntmps23
 go_wp2_with fail
 go_at_call 38
 refine (Fb.calls k (fun k_ => P0_0_ k_∧k_<w.heap.size) _ l0_0 a1 t364 t365 w0 _ (za hB _) (zm hP _) A3).mono ?_;rintro e w1 ⟨rfl,hR1,hB1,hK1⟩;have hKw : Kept w w1 (fun k_ => P0_0_ k_):=((Kept.refl w _).alloc _).then_ hK1 (fun k_ hk => .inl hk.1);have B1 : w1.heap[w.heap.size]? = some (.cells #[.slice Ao l0_0.length co,.slice A0_1 l0_1.length c0_1,.slice A0_2 l0_2.length c0_2,.int .i64 a0_3] 43 (0,0)):=blk_kept (blk_new w _) hK1 (fun hk => Nat.lt_irrefl _ hk.2);have q0:=zz B1 0;have q1:=zz B1 1;have q2:=zz B1 2;have q3:=zz B1 3
 go_wp2_with fail
 go_at_call 39
 refine (Fp.calls k A0_1 c0_1 l0_1 t364 t366 _ (hr0_1 _ hKw) hc0_1 A4).mono ?_;rintro e w2 ⟨rfl,hb2⟩;have B2:=zD B1 hb2;have r0:=zz B2 0;have r1':=zz B2 1;have r2':=zz B2 2;have r3:=zz B2 3
 go_wp2_with fail
 go_at_call 40
 refine (Fo.calls k A0_2 c0_2 l0_2 t366 t367 _ (hr0_2 _ (hKw.below hb2)) hc0_2 A5).mono ?_;rintro e w3 ⟨rfl,hb3⟩
 go_wp2
 go_ret
 refine ⟨by first|rfl|(simp;done),?_,zC (zC hB1 hb2) hb3,(hKw.below hb2).below hb3⟩;refine yg (yg (zM hR1 (fun k_ hk => ?_)) hb2) hb3;rcases hk with hk|hk
 ·
  exact .inl hk.1
 right;simp at hk;omega


def Fg.l0 : Nat→List (S100)→Int→Int→Option (Int)
 | 0,_,_,_ => none
 | k + 1,x0,x1,x5 => if x5<(x0.length : Int) then (none) else (some x1)
def Fg.f (k : Nat) (l0 : List (S100)) (a1 : Int) : Option (Int):=Fg.l0 k l0 a1 0
theorem Fg.mono_l : ∀ k,(∀ y0 y1 y2,LeO (Fg.l0 k y0 y1 y2) (Fg.l0 (k + 1) y0 y1 y2))
 | 0 => fun _ _ _ r h => by simp [Fg.l0] at h
 | k + 1 => by
  have ih0:=Fg.mono_l k;intro y0 y1 y2;unfold Fg.l0
  repeat' first|(with_reducible first|exact ih0 _ _ _|exact zQ _|exact zN _|refine zP ?_ ?_|refine zO ?_ (fun _ => ?_))|refine zP ?_ ?_|refine zO ?_ (fun _ => ?_)
theorem Fg.mono : ∀ a0 a1 k,LeO (Fg.f k a0 a1) (Fg.f (k + 1) a0 a1):=by
 intro a0 a1 k;have ih0:=Fg.mono_l k;unfold Fg.f
 repeat' first|(with_reducible first|exact ih0 _ _ _|exact zQ _|exact zN _|refine zP ?_ ?_|refine zO ?_ (fun _ => ?_))|refine zP ?_ ?_|refine zO ?_ (fun _ => ?_)
set_option maxHeartbeats 8000000 in
set_option maxRecDepth 100000 in
theorem Fg.calls (k : Nat) (A0 : Option Addr) (c0 : Nat) (l0 : List (S100)) (a1 : Int) (r : Int) (w : World) (hr0 : Kd.C k100 w A0 l0.length l0) (hc0 : l0.length≤c0) (h : Fg.f k l0 a1=some r) :
  Calls Try.prog 58 #[.slice A0 l0.length c0,.int .i64 a1] w fun e w' => e = .returned (.int .i64 r)∧Below w.heap.size w w':=by
 have HR0:=zh hr0;have HC0:=zh hc0;clear hr0 hc0;have HB:=zh (Below.refl w.heap.size w);have H : (Fg.l0 k l0 a1 0)=some r:=h;clear h;have H':=zh H;clear H
 go_enter Try.func58,Try.ntmps58
 go_wp2
 go_loopg [1,5] k (fun kq v1 v5 w' => ∃ (x1_1 : Int) (x5_1 : Int),v1 = .int .i64 x1_1∧v5 = .int .i64 x5_1∧Aside0 (Fg.l0 kq l0 x1_1 x5_1=some r)∧Aside0 (kq≤k)∧Aside0 (Below w.heap.size w w'))
 case atStart => exact ⟨(a1),(0),(by first|rfl|(simp;done)|(simp [*];done)),(by first|rfl|(simp;done)|(simp [*];done)),H',⟨ye _⟩,⟨by repeat (with_reducible first|exact HB.out|apply za|apply zb|apply zc)⟩⟩
 case round =>
  clear H'
  try clear p2
  obtain ⟨x1_1,x5_1,rfl,rfl,HA,HK1,HB⟩:=hrel
  cases gk with
  | zero => exact absurd HA.out (by simp [Fg.l0])
  | succ k1 =>
   have H:=HA.out;clear HA;simp only [Fg.l0] at H
   by_cases c3 : x5_1<(l0.length : Int)
   ·
    rw [if_pos c3] at H
    exact absurd H (by simp)
   rw [if_neg c3] at H;have c3b0 : decide (x5_1<(l0.length : Int))=false:=decide_eq_false c3;clear c3;obtain rfl:=zU H
   go_wp2
   go_ret
   exact ⟨by first|rfl|(simp [yt,yu] <;> rfl)|(simp [*,yt,yu] <;> rfl),by repeat (with_reducible first|exact HB.out|apply za|apply zb|apply zc)⟩


def Fh.l0 : Nat→List (S104)→Int→Int→Option (Int)
 | 0,_,_,_ => none
 | k + 1,x0,x1,x5 => if x5<(x0.length : Int) then (none) else (some x1)
def Fh.f (k : Nat) (l0 : List (S104)) (a1 : Int) : Option (Int):=Fh.l0 k l0 a1 0
theorem Fh.mono_l : ∀ k,(∀ y0 y1 y2,LeO (Fh.l0 k y0 y1 y2) (Fh.l0 (k + 1) y0 y1 y2))
 | 0 => fun _ _ _ r h => by simp [Fh.l0] at h
 | k + 1 => by
  have ih0:=Fh.mono_l k;intro y0 y1 y2;unfold Fh.l0
  repeat' first|(with_reducible first|exact ih0 _ _ _|exact zQ _|exact zN _|refine zP ?_ ?_|refine zO ?_ (fun _ => ?_))|refine zP ?_ ?_|refine zO ?_ (fun _ => ?_)
theorem Fh.mono : ∀ a0 a1 k,LeO (Fh.f k a0 a1) (Fh.f (k + 1) a0 a1):=by
 intro a0 a1 k;have ih0:=Fh.mono_l k;unfold Fh.f
 repeat' first|(with_reducible first|exact ih0 _ _ _|exact zQ _|exact zN _|refine zP ?_ ?_|refine zO ?_ (fun _ => ?_))|refine zP ?_ ?_|refine zO ?_ (fun _ => ?_)
set_option maxHeartbeats 8000000 in
set_option maxRecDepth 100000 in
theorem Fh.calls (k : Nat) (A0 : Option Addr) (c0 : Nat) (l0 : List (S104)) (a1 : Int) (r : Int) (w : World) (hr0 : Kd.C k104 w A0 l0.length l0) (hc0 : l0.length≤c0) (h : Fh.f k l0 a1=some r) :
  Calls Try.prog 59 #[.slice A0 l0.length c0,.int .i64 a1] w fun e w' => e = .returned (.int .i64 r)∧Below w.heap.size w w':=by
 have HR0:=zh hr0;have HC0:=zh hc0;clear hr0 hc0;have HB:=zh (Below.refl w.heap.size w);have H : (Fh.l0 k l0 a1 0)=some r:=h;clear h;have H':=zh H;clear H
 go_enter Try.func59,Try.ntmps59
 go_wp2
 go_loopg [1,5] k (fun kq v1 v5 w' => ∃ (x1_1 : Int) (x5_1 : Int),v1 = .int .i64 x1_1∧v5 = .int .i64 x5_1∧Aside0 (Fh.l0 kq l0 x1_1 x5_1=some r)∧Aside0 (kq≤k)∧Aside0 (Below w.heap.size w w'))
 case atStart => exact ⟨(a1),(0),(by first|rfl|(simp;done)|(simp [*];done)),(by first|rfl|(simp;done)|(simp [*];done)),H',⟨ye _⟩,⟨by repeat (with_reducible first|exact HB.out|apply za|apply zb|apply zc)⟩⟩
 case round =>
  clear H'
  try clear p2
  obtain ⟨x1_1,x5_1,rfl,rfl,HA,HK1,HB⟩:=hrel
  cases gk with
  | zero => exact absurd HA.out (by simp [Fh.l0])
  | succ k1 =>
   have H:=HA.out;clear HA;simp only [Fh.l0] at H
   by_cases c3 : x5_1<(l0.length : Int)
   ·
    rw [if_pos c3] at H
    exact absurd H (by simp)
   rw [if_neg c3] at H;have c3b0 : decide (x5_1<(l0.length : Int))=false:=decide_eq_false c3;clear c3;obtain rfl:=zU H
   go_wp2
   go_ret
   exact ⟨by first|rfl|(simp [yt,yu] <;> rfl)|(simp [*,yt,yu] <;> rfl),by repeat (with_reducible first|exact HB.out|apply za|apply zb|apply zc)⟩


def F2.l0 : Nat→List (S62)→Int→Int→Option (Int)
 | 0,_,_,_ => none
 | k + 1,x0,x1,x5 => if x5<(x0.length : Int) then (if 0≤x5 then ((F4.f k x1).bind fun t378 => (if ((rd_T62 x0 x5).f0).toList=t378.toList then ((Fg.f k ((rd_T62 x0 x5).f1) (wrap64 (x1 + 1))).bind fun t380 => (if t380<0 then (some (-1)) else ((Fh.f k ((rd_T62 x0 x5).f2) t380).bind fun t382 => (if t382<0 then (some (-1)) else (F2.l0 k x0 t382 (wrap64 (x5 + 1))))))) else (some (-1)))) else (none)) else (some x1)
def F2.f (k : Nat) (l0 : List (S62)) (a1 : Int) : Option (Int):=F2.l0 k l0 a1 0
theorem F2.mono_l : ∀ k,(∀ y0 y1 y2,LeO (F2.l0 k y0 y1 y2) (F2.l0 (k + 1) y0 y1 y2))
 | 0 => fun _ _ _ r h => by simp [F2.l0] at h
 | k + 1 => by
  have ih0:=F2.mono_l k;intro y0 y1 y2;unfold F2.l0
  repeat' first|(with_reducible first|exact ih0 _ _ _|exact F4.mono _ _|exact Fg.mono _ _ _|exact Fh.mono _ _ _|exact zQ _|exact zN _|refine zP ?_ ?_|refine zO ?_ (fun _ => ?_))|refine zP ?_ ?_|refine zO ?_ (fun _ => ?_)
theorem F2.mono : ∀ a0 a1 k,LeO (F2.f k a0 a1) (F2.f (k + 1) a0 a1):=by
 intro a0 a1 k;have ih0:=F2.mono_l k;unfold F2.f
 repeat' first|(with_reducible first|exact ih0 _ _ _|exact F4.mono _ _|exact Fg.mono _ _ _|exact Fh.mono _ _ _|exact zQ _|exact zN _|refine zP ?_ ?_|refine zO ?_ (fun _ => ?_))|refine zP ?_ ?_|refine zO ?_ (fun _ => ?_)
def F2.T4 : Bool×List (List Nat×List Nat):=(true,[([],[]),([],[]),([0,1],[0,1]),([2],[2]),([3],[3]),([],[]),([5],[5]),([4,6],[4,6])])
def F2.B4 : List Nat:=[0,0,3,7,15,0,32,127]
theorem F2.tab4 : rtab .any (opsOf Try.f41 4)=F2.T4:=by kernel_rfl
theorem F2.bits4 : waitsOk F2.T4.2 F2.B4=true:=by kernel_rfl
set_option maxHeartbeats 8000000 in
set_option maxRecDepth 100000 in
theorem F2.calls (k : Nat) (A0 : Option Addr) (c0 : Nat) (l0 : List (S62)) (a1 : Int) (r : Int) (w : World) (hr0 : Kd.C k62 w A0 l0.length l0) (hc0 : l0.length≤c0) (h : F2.f k l0 a1=some r) :
  Calls Try.prog 41 #[.slice A0 l0.length c0,.int .i64 a1] w fun e w' => e = .returned (.int .i64 r)∧Below w.heap.size w w':=by
 have HR0:=zh hr0;have HC0:=zh hc0;clear hr0 hc0;have HB:=zh (Below.refl w.heap.size w);have H : (F2.l0 k l0 a1 0)=some r:=h;clear h;have H':=zh H;clear H
 go_enter Try.func41,Try.ntmps41
 go_wp2
 go_loopg [1,5] k (fun kq v1 v5 w' => ∃ (x1_1 : Int) (x5_1 : Int),v1 = .int .i64 x1_1∧v5 = .int .i64 x5_1∧Aside0 (F2.l0 kq l0 x1_1 x5_1=some r)∧Aside0 (kq≤k)∧Aside0 (Below w.heap.size w w'))
 case atStart => exact ⟨(a1),(0),(by first|rfl|(simp;done)|(simp [*];done)),(by first|rfl|(simp;done)|(simp [*];done)),H',⟨ye _⟩,⟨by repeat (with_reducible first|exact HB.out|apply za|apply zb|apply zc)⟩⟩
 case round =>
  clear H'
  try clear p2
  obtain ⟨x1_1,x5_1,rfl,rfl,HA,HK1,HB⟩:=hrel
  cases gk with
  | zero => exact absurd HA.out (by simp [F2.l0])
  | succ k1 =>
   have H:=HA.out;clear HA;simp only [F2.l0] at H
   by_cases c3 : x5_1<(l0.length : Int)
   ·
    rw [if_pos c3] at H
    have c3b0 : decide (x5_1<(l0.length : Int))=true:=decide_eq_true c3;clear c3
    by_cases c4 : 0≤x5_1
    ·
     rw [if_pos c4] at H
     have c4b0 : decide (0≤x5_1)=true:=decide_eq_true c4;clear c4;replace H:=zT.mp H;obtain ⟨t378,A50,H⟩:=H;replace H : (if ((rd_T62 l0 x5_1).f0).toList=t378.toList then ((Fg.f k1 ((rd_T62 l0 x5_1).f1) (wrap64 (x1_1 + 1))).bind fun t380 => (if t380<0 then (some (-1)) else ((Fh.f k1 ((rd_T62 l0 x5_1).f2) t380).bind fun t382 => (if t382<0 then (some (-1)) else (F2.l0 k1 l0 t382 (wrap64 (x5_1 + 1))))))) else (some (-1)))=some r:=H;have A5:=zh A50;clear A50
     by_cases c6 : ((rd_T62 l0 x5_1).f0).toList=t378.toList
     ·
      rw [if_pos c6] at H
      have c6b0 : (((rd_T62 l0 x5_1).f0).toList == t378.toList)=true:=ya.mpr c6;have c6b1 : (((rd_T62 l0 x5_1).f0).toList != t378.toList)=false:=zX.mpr c6;clear c6;replace H:=zT.mp H;obtain ⟨t380,A70,H⟩:=H;replace H : (if t380<0 then (some (-1)) else ((Fh.f k1 ((rd_T62 l0 x5_1).f2) t380).bind fun t382 => (if t382<0 then (some (-1)) else (F2.l0 k1 l0 t382 (wrap64 (x5_1 + 1))))))=some r:=H;have A7:=zh A70;clear A70
      by_cases c8 : t380<0
      ·
       rw [if_pos c8] at H
       have c8b0 : decide (t380<0)=true:=decide_eq_true c8;clear c8;obtain rfl:=zU H
       try go_wp2
       replace HB:=zh (zc HB.out);have p377 : 0≤(x5_1 : Int):=zy (by first|(with_reducible assumption)|assumption);have q377 : x5_1<(l0.length : Int):=zy (by first|(with_reducible assumption)|assumption);obtain ⟨ad377,A377_1,c377_1,A377_2,c377_2,e377,hx377_0,hx377_1,hx377_2,hl377_1,hi377_1,hl377_2,hi377_2⟩:=at_T62 HR0.out x5_1 p377 q377;have hw377_2:=hx377_2;have hw377_1:=hx377_1;have hw377_0:=hx377_0
       cases e377
       replace hx377_0:=(HB.out.cell (zl w _ hx377_0)).trans hx377_0;replace hx377_1:=(HB.out.cell (zl w _ hx377_1)).trans hx377_1;replace hx377_2:=(HB.out.cell (zl w _ hx377_2)).trans hx377_2;have HR377_1:=zh hi377_1;have HC377_1:=zh hl377_1;clear hi377_1 hl377_1;have HR377_2:=zh hi377_2;have HC377_2:=zh hl377_2;clear hi377_2 hl377_2;replace p377:=eq_true p377;replace q377:=eq_true q377;refine start_ (n:=8) (S:=fun w' => w'.cell? (ad377.add ((x5_1).toNat * 3))=some (.string ((rd_T62 l0 x5_1).f0))∧w'.cell? ⟨(ad377.add ((x5_1).toNat * 3)).block,(ad377.add ((x5_1).toNat * 3)).off + 1,none⟩=some (.slice A377_1 ((rd_T62 l0 x5_1).f1).length c377_1)∧w'.cell? ⟨(ad377.add ((x5_1).toNat * 3)).block,(ad377.add ((x5_1).toNat * 3)).off + 2,none⟩=some (.slice A377_2 ((rd_T62 l0 x5_1).f2).length c377_2)) (ds:=[]) (bm_ 0 8) (by kernel_rfl) rfl rfl ⟨((HB.out.cell (zl w _ hw377_0)).trans hw377_0),((HB.out.cell (zl w _ hw377_1)).trans hw377_1),((HB.out.cell (zl w _ hw377_2)).trans hw377_2)⟩ (fun hHeld => ?_);refine with_tabW F2.tab4 F2.bits4 (fun HT_ HW_ => ?_);generalize wr.drew=w9 at HB HR377_1 HR377_2 hx377_0 hx377_1 hx377_2 hHeld ⊢;refine pure_ (i:=0) (N:=some 12) (v:=?_) (a':=?_) (bm_ 1 8) rfl rfl (any_of HT_.out (by kernel_rfl)) (fun _ _ _ h => h) (Or.inl ⟨by rfl,?_⟩) ?_ ?_;rotate_left
       ·
        intro w'
        go_simp
        with_reducible rfl
       rotate_left
       ·
        simp only [Act.put,zi,zj,zk,zG,zH]
        rfl
       refine pure_ (i:=1) (N:=some 13) (v:=?_) (a':=?_) (bm_ 2 8) rfl rfl (any_of HT_.out (by kernel_rfl)) (fun _ _ _ h => h) (Or.inl ⟨by rfl,?_⟩) ?_ ?_;rotate_left
       ·
        intro w'
        go_simp
        with_reducible rfl
       rotate_left
       ·
        simp only [Act.put,zi,zj,zk,zG,zH]
        rfl
       refine pure_ (i:=2) (N:=some 14) (v:=?_) (a':=?_) (bm_ 3 8) rfl rfl (any_of HT_.out (by kernel_rfl)) (fun _ _ _ h => h) (Or.inl ⟨by rfl,?_⟩) ?_ ?_;rotate_left
       ·
        intro w'
        go_simp
        with_reducible rfl
       rotate_left
       ·
        simp only [Act.put,zi,zj,zk,zG,zH]
        rfl
       refine pure_ (i:=3) (N:=some 15) (v:=?_) (a':=?_) (bm_ 4 8) rfl rfl (any_of HT_.out (by kernel_rfl)) (fun _ _ _ h => h) (Or.inl ⟨by rfl,?_⟩) ?_ ?_;rotate_left
       ·
        intro w'
        go_simp
        with_reducible rfl
       rotate_left
       ·
        simp only [Act.put,zi,zj,zk,zG,zH]
        rfl
       refine pure_ (i:=5) (N:=some 17) (v:=?_) (a':=?_) #[true,true,true,true,false,true,false,false] rfl rfl (any_of HT_.out (by kernel_rfl)) (fun _ _ _ h => h) (Or.inl ⟨by rfl,?_⟩) ?_ ?_;rotate_left
       ·
        intro w'
        go_simp
        with_reducible rfl
       rotate_left
       ·
        simp only [Act.put,zi,zj,zk,zG,zH]
        rfl
       refine take_ (i:=4) (N:=some 16) (v:=?_) (a':=?_) (bm_ 6 8) rfl rfl (yo HT_.out HW_.out (by kernel_rfl)) (fun _ _ _ h => h) (Or.inl ⟨by rfl,?_⟩) hHeld ?_ ?_;rotate_left
       ·
        rintro w' ⟨s0,s1,s2⟩
        go_simp
        with_reducible rfl
       rotate_left
       ·
        simp only [Act.put,zi,zj,zk,zG,zH]
        rfl
       refine one_ (i:=6) (N:=some 18) (bm_ 7 8) rfl rfl (one_of HT_.out (by kernel_rfl)) (by decide) (fun K hK => ?_);refine goes_ Try.func37 (by kernel_rfl) rfl #[.int .i64 x1_1] (by rfl) rfl rfl (by (try simp only [zt,zu,zv]);first|done|rfl|(simp only [zw,zx];rfl)|(simp only [yr,ys,zV,zW];rfl)) ?_
       with_reducible refine (F4.calls k1  x1_1 t378 _ A5.out).mono ?_
       rintro e w10 ⟨rfl,hb⟩;refine ⟨_,rfl,?_⟩;replace HB:=zh (zC (by repeat (with_reducible first|exact HB.out|apply za|apply zb|apply zc)) hb);(try clear hb);(try clear hb2);(try clear hk);(try clear hi);refine hK.out _ _ ⟨((HB.out.cell (zl w _ hw377_0)).trans hw377_0),((HB.out.cell (zl w _ hw377_1)).trans hw377_1),((HB.out.cell (zl w _ hw377_2)).trans hw377_2)⟩ (fun hHeld => ?_);clear hK K;refine norm_ (a':=?_) ?_ ?_;rotate_left
       ·
        show Act.put _ (some 18) _=_
        simp only [Act.put,zi,zj,zk,zG,zH]
        rfl
       refine pure_ (i:=7) (N:=some 19) (v:=?_) (a':=?_) (bm_ 8 8) rfl rfl (any_of HT_.out (by kernel_rfl)) (fun _ _ _ h => h) (Or.inl ⟨by rfl,?_⟩) ?_ ?_;rotate_left
       ·
        intro w'
        go_simp
        with_reducible rfl
       rotate_left
       ·
        simp only [Act.put,zi,zj,zk,zG,zH]
        rfl
       refine done_ (done_of HT_.out (by kernel_rfl)) ?_;have p379 : 0≤(x5_1 : Int):=zy (by first|(with_reducible assumption)|assumption);have q379 : x5_1<(l0.length : Int):=zy (by first|(with_reducible assumption)|assumption);obtain ⟨ad379,A379_1,c379_1,A379_2,c379_2,e379,hx379_0,hx379_1,hx379_2,hl379_1,hi379_1,hl379_2,hi379_2⟩:=at_T62 HR0.out x5_1 p379 q379;obtain rfl : ad377=ad379:=(by injection e379);replace hx379_0:=(HB.out.cell (zl w _ hx379_0)).trans hx379_0;replace hx379_1:=(HB.out.cell (zl w _ hx379_1)).trans hx379_1;replace hx379_2:=(HB.out.cell (zl w _ hx379_2)).trans hx379_2;have HR379_1:=zh hi379_1;have HC379_1:=zh hl379_1;clear hi379_1 hl379_1;have HR379_2:=zh hi379_2;have HC379_2:=zh hl379_2;clear hi379_2 hl379_2;replace p379:=eq_true p379;replace q379:=eq_true q379
       try go_wp2_with (first|((with_reducible refine zJ (f:=58) rfl ?_);refine yj (some 28) rfl rfl Try.func58 (by kernel_rfl) rfl #[.slice A377_1 ((rd_T62 l0 x5_1).f1).length c377_1,.int .i64 (wrap64 (x1_1 + 1))] rfl (by (try simp only [zt,zu,zv]);first|done|rfl|(simp only [zw,zx];rfl)|(simp only [yr,ys,zV,zW];rfl)) ?_;(with_reducible refine (Fg.calls k1  _ _ ((rd_T62 l0 x5_1).f1) (wrap64 (x1_1 + 1)) t380 _ ?side1 ?side2 A7.out).mono ?_);(case side1 => repeat (first|exact (Kd.C_below HR377_1.out HB.out)|(with_reducible refine Kd.C_alloc ?_ _)|(with_reducible refine Kd.C_drewN ?_ _)|(with_reducible refine Kd.C_drew ?_)));(case side2 => exact HC377_1.out);rintro e w11 ⟨rfl,hb⟩;refine ⟨_,rfl,?_⟩;replace HB:=zh (zC (by repeat (with_reducible first|exact HB.out|apply za|apply zb|apply zc)) hb);(try clear hb);(try clear hb2);(try clear hk);(try clear hi)))
       go_ret
       exact ⟨by first|rfl|(simp [yt,yu] <;> rfl)|(simp [*,yt,yu] <;> rfl),by repeat (with_reducible first|exact HB.out|apply za|apply zb|apply zc)⟩
      rw [if_neg c8] at H;have c8b0 : decide (t380<0)=false:=decide_eq_false c8;clear c8;replace H:=zT.mp H;obtain ⟨t382,A120,H⟩:=H;replace H : (if t382<0 then (some (-1)) else (F2.l0 k1 l0 t382 (wrap64 (x5_1 + 1))))=some r:=H;have A12:=zh A120;clear A120
      by_cases c13 : t382<0
      ·
       rw [if_pos c13] at H
       have c13b0 : decide (t382<0)=true:=decide_eq_true c13;clear c13;obtain rfl:=zU H
       try go_wp2
       replace HB:=zh (zc HB.out);have p377 : 0≤(x5_1 : Int):=zy (by first|(with_reducible assumption)|assumption);have q377 : x5_1<(l0.length : Int):=zy (by first|(with_reducible assumption)|assumption);obtain ⟨ad377,A377_1,c377_1,A377_2,c377_2,e377,hx377_0,hx377_1,hx377_2,hl377_1,hi377_1,hl377_2,hi377_2⟩:=at_T62 HR0.out x5_1 p377 q377;have hw377_2:=hx377_2;have hw377_1:=hx377_1;have hw377_0:=hx377_0
       cases e377
       replace hx377_0:=(HB.out.cell (zl w _ hx377_0)).trans hx377_0;replace hx377_1:=(HB.out.cell (zl w _ hx377_1)).trans hx377_1;replace hx377_2:=(HB.out.cell (zl w _ hx377_2)).trans hx377_2;have HR377_1:=zh hi377_1;have HC377_1:=zh hl377_1;clear hi377_1 hl377_1;have HR377_2:=zh hi377_2;have HC377_2:=zh hl377_2;clear hi377_2 hl377_2;replace p377:=eq_true p377;replace q377:=eq_true q377;refine start_ (n:=8) (S:=fun w' => w'.cell? (ad377.add ((x5_1).toNat * 3))=some (.string ((rd_T62 l0 x5_1).f0))∧w'.cell? ⟨(ad377.add ((x5_1).toNat * 3)).block,(ad377.add ((x5_1).toNat * 3)).off + 1,none⟩=some (.slice A377_1 ((rd_T62 l0 x5_1).f1).length c377_1)∧w'.cell? ⟨(ad377.add ((x5_1).toNat * 3)).block,(ad377.add ((x5_1).toNat * 3)).off + 2,none⟩=some (.slice A377_2 ((rd_T62 l0 x5_1).f2).length c377_2)) (ds:=[]) (bm_ 0 8) (by kernel_rfl) rfl rfl ⟨((HB.out.cell (zl w _ hw377_0)).trans hw377_0),((HB.out.cell (zl w _ hw377_1)).trans hw377_1),((HB.out.cell (zl w _ hw377_2)).trans hw377_2)⟩ (fun hHeld => ?_);refine with_tabW F2.tab4 F2.bits4 (fun HT_ HW_ => ?_);generalize wr.drew=w14 at HB HR377_1 HR377_2 hx377_0 hx377_1 hx377_2 hHeld ⊢;refine pure_ (i:=0) (N:=some 12) (v:=?_) (a':=?_) (bm_ 1 8) rfl rfl (any_of HT_.out (by kernel_rfl)) (fun _ _ _ h => h) (Or.inl ⟨by rfl,?_⟩) ?_ ?_;rotate_left
       ·
        intro w'
        go_simp
        with_reducible rfl
       rotate_left
       ·
        simp only [Act.put,zi,zj,zk,zG,zH]
        rfl
       refine pure_ (i:=1) (N:=some 13) (v:=?_) (a':=?_) (bm_ 2 8) rfl rfl (any_of HT_.out (by kernel_rfl)) (fun _ _ _ h => h) (Or.inl ⟨by rfl,?_⟩) ?_ ?_;rotate_left
       ·
        intro w'
        go_simp
        with_reducible rfl
       rotate_left
       ·
        simp only [Act.put,zi,zj,zk,zG,zH]
        rfl
       refine pure_ (i:=2) (N:=some 14) (v:=?_) (a':=?_) (bm_ 3 8) rfl rfl (any_of HT_.out (by kernel_rfl)) (fun _ _ _ h => h) (Or.inl ⟨by rfl,?_⟩) ?_ ?_;rotate_left
       ·
        intro w'
        go_simp
        with_reducible rfl
       rotate_left
       ·
        simp only [Act.put,zi,zj,zk,zG,zH]
        rfl
       refine pure_ (i:=3) (N:=some 15) (v:=?_) (a':=?_) (bm_ 4 8) rfl rfl (any_of HT_.out (by kernel_rfl)) (fun _ _ _ h => h) (Or.inl ⟨by rfl,?_⟩) ?_ ?_;rotate_left
       ·
        intro w'
        go_simp
        with_reducible rfl
       rotate_left
       ·
        simp only [Act.put,zi,zj,zk,zG,zH]
        rfl
       refine pure_ (i:=5) (N:=some 17) (v:=?_) (a':=?_) #[true,true,true,true,false,true,false,false] rfl rfl (any_of HT_.out (by kernel_rfl)) (fun _ _ _ h => h) (Or.inl ⟨by rfl,?_⟩) ?_ ?_;rotate_left
       ·
        intro w'
        go_simp
        with_reducible rfl
       rotate_left
       ·
        simp only [Act.put,zi,zj,zk,zG,zH]
        rfl
       refine take_ (i:=4) (N:=some 16) (v:=?_) (a':=?_) (bm_ 6 8) rfl rfl (yo HT_.out HW_.out (by kernel_rfl)) (fun _ _ _ h => h) (Or.inl ⟨by rfl,?_⟩) hHeld ?_ ?_;rotate_left
       ·
        rintro w' ⟨s0,s1,s2⟩
        go_simp
        with_reducible rfl
       rotate_left
       ·
        simp only [Act.put,zi,zj,zk,zG,zH]
        rfl
       refine one_ (i:=6) (N:=some 18) (bm_ 7 8) rfl rfl (one_of HT_.out (by kernel_rfl)) (by decide) (fun K hK => ?_);refine goes_ Try.func37 (by kernel_rfl) rfl #[.int .i64 x1_1] (by rfl) rfl rfl (by (try simp only [zt,zu,zv]);first|done|rfl|(simp only [zw,zx];rfl)|(simp only [yr,ys,zV,zW];rfl)) ?_
       with_reducible refine (F4.calls k1  x1_1 t378 _ A5.out).mono ?_
       rintro e w15 ⟨rfl,hb⟩;refine ⟨_,rfl,?_⟩;replace HB:=zh (zC (by repeat (with_reducible first|exact HB.out|apply za|apply zb|apply zc)) hb);(try clear hb);(try clear hb2);(try clear hk);(try clear hi);refine hK.out _ _ ⟨((HB.out.cell (zl w _ hw377_0)).trans hw377_0),((HB.out.cell (zl w _ hw377_1)).trans hw377_1),((HB.out.cell (zl w _ hw377_2)).trans hw377_2)⟩ (fun hHeld => ?_);clear hK K;refine norm_ (a':=?_) ?_ ?_;rotate_left
       ·
        show Act.put _ (some 18) _=_
        simp only [Act.put,zi,zj,zk,zG,zH]
        rfl
       refine pure_ (i:=7) (N:=some 19) (v:=?_) (a':=?_) (bm_ 8 8) rfl rfl (any_of HT_.out (by kernel_rfl)) (fun _ _ _ h => h) (Or.inl ⟨by rfl,?_⟩) ?_ ?_;rotate_left
       ·
        intro w'
        go_simp
        with_reducible rfl
       rotate_left
       ·
        simp only [Act.put,zi,zj,zk,zG,zH]
        rfl
       refine done_ (done_of HT_.out (by kernel_rfl)) ?_;have p379 : 0≤(x5_1 : Int):=zy (by first|(with_reducible assumption)|assumption);have q379 : x5_1<(l0.length : Int):=zy (by first|(with_reducible assumption)|assumption);obtain ⟨ad379,A379_1,c379_1,A379_2,c379_2,e379,hx379_0,hx379_1,hx379_2,hl379_1,hi379_1,hl379_2,hi379_2⟩:=at_T62 HR0.out x5_1 p379 q379;obtain rfl : ad377=ad379:=(by injection e379);replace hx379_0:=(HB.out.cell (zl w _ hx379_0)).trans hx379_0;replace hx379_1:=(HB.out.cell (zl w _ hx379_1)).trans hx379_1;replace hx379_2:=(HB.out.cell (zl w _ hx379_2)).trans hx379_2;have HR379_1:=zh hi379_1;have HC379_1:=zh hl379_1;clear hi379_1 hl379_1;have HR379_2:=zh hi379_2;have HC379_2:=zh hl379_2;clear hi379_2 hl379_2;replace p379:=eq_true p379;replace q379:=eq_true q379
       try go_wp2_with (first|((with_reducible refine zJ (f:=58) rfl ?_);refine yj (some 28) rfl rfl Try.func58 (by kernel_rfl) rfl #[.slice A377_1 ((rd_T62 l0 x5_1).f1).length c377_1,.int .i64 (wrap64 (x1_1 + 1))] rfl (by (try simp only [zt,zu,zv]);first|done|rfl|(simp only [zw,zx];rfl)|(simp only [yr,ys,zV,zW];rfl)) ?_;(with_reducible refine (Fg.calls k1  _ _ ((rd_T62 l0 x5_1).f1) (wrap64 (x1_1 + 1)) t380 _ ?side1 ?side2 A7.out).mono ?_);(case side1 => repeat (first|exact (Kd.C_below HR377_1.out HB.out)|(with_reducible refine Kd.C_alloc ?_ _)|(with_reducible refine Kd.C_drewN ?_ _)|(with_reducible refine Kd.C_drew ?_)));(case side2 => exact HC377_1.out);rintro e w16 ⟨rfl,hb⟩;refine ⟨_,rfl,?_⟩;replace HB:=zh (zC (by repeat (with_reducible first|exact HB.out|apply za|apply zb|apply zc)) hb);(try clear hb);(try clear hb2);(try clear hk);(try clear hi);have p381 : 0≤(x5_1 : Int):=zy (by first|(with_reducible assumption)|assumption);have q381 : x5_1<(l0.length : Int):=zy (by first|(with_reducible assumption)|assumption);obtain ⟨ad381,A377_1,c377_1,A377_2,c377_2,e381,hx381_0,hx381_1,hx381_2,hl381_1,hi381_1,hl381_2,hi381_2⟩:=at_T62 HR0.out x5_1 p381 q381;obtain rfl : ad377=ad381:=(by injection e381);replace hx381_0:=(HB.out.cell (zl w _ hx381_0)).trans hx381_0;replace hx381_1:=(HB.out.cell (zl w _ hx381_1)).trans hx381_1;replace hx381_2:=(HB.out.cell (zl w _ hx381_2)).trans hx381_2;have HR377_1:=zh hi381_1;have HC377_1:=zh hl381_1;clear hi381_1 hl381_1;have HR377_2:=zh hi381_2;have HC377_2:=zh hl381_2;clear hi381_2 hl381_2;replace p381:=eq_true p381;replace q381:=eq_true q381)|((with_reducible refine zJ (f:=59) rfl ?_);refine yj (some 37) rfl rfl Try.func59 (by kernel_rfl) rfl #[.slice A377_2 ((rd_T62 l0 x5_1).f2).length c377_2,.int .i64 t380] rfl (by (try simp only [zt,zu,zv]);first|done|rfl|(simp only [zw,zx];rfl)|(simp only [yr,ys,zV,zW];rfl)) ?_;(with_reducible refine (Fh.calls k1  _ _ ((rd_T62 l0 x5_1).f2) t380 t382 _ ?side1 ?side2 A12.out).mono ?_);(case side1 => repeat (first|exact (Kd.C_below HR377_2.out HB.out)|(with_reducible refine Kd.C_alloc ?_ _)|(with_reducible refine Kd.C_drewN ?_ _)|(with_reducible refine Kd.C_drew ?_)));(case side2 => exact HC377_2.out);rintro e w17 ⟨rfl,hb⟩;refine ⟨_,rfl,?_⟩;replace HB:=zh (zC (by repeat (with_reducible first|exact HB.out|apply za|apply zb|apply zc)) hb);(try clear hb);(try clear hb2);(try clear hk);(try clear hi)))
       go_ret
       exact ⟨by first|rfl|(simp [yt,yu] <;> rfl)|(simp [*,yt,yu] <;> rfl),by repeat (with_reducible first|exact HB.out|apply za|apply zb|apply zc)⟩
      rw [if_neg c13] at H;have c13b0 : decide (t382<0)=false:=decide_eq_false c13;clear c13;have H':=zh H;clear H
      try go_wp2
      replace HB:=zh (zc HB.out);have p377 : 0≤(x5_1 : Int):=zy (by first|(with_reducible assumption)|assumption);have q377 : x5_1<(l0.length : Int):=zy (by first|(with_reducible assumption)|assumption);obtain ⟨ad377,A377_1,c377_1,A377_2,c377_2,e377,hx377_0,hx377_1,hx377_2,hl377_1,hi377_1,hl377_2,hi377_2⟩:=at_T62 HR0.out x5_1 p377 q377;have hw377_2:=hx377_2;have hw377_1:=hx377_1;have hw377_0:=hx377_0
      cases e377
      replace hx377_0:=(HB.out.cell (zl w _ hx377_0)).trans hx377_0;replace hx377_1:=(HB.out.cell (zl w _ hx377_1)).trans hx377_1;replace hx377_2:=(HB.out.cell (zl w _ hx377_2)).trans hx377_2;have HR377_1:=zh hi377_1;have HC377_1:=zh hl377_1;clear hi377_1 hl377_1;have HR377_2:=zh hi377_2;have HC377_2:=zh hl377_2;clear hi377_2 hl377_2;replace p377:=eq_true p377;replace q377:=eq_true q377;refine start_ (n:=8) (S:=fun w' => w'.cell? (ad377.add ((x5_1).toNat * 3))=some (.string ((rd_T62 l0 x5_1).f0))∧w'.cell? ⟨(ad377.add ((x5_1).toNat * 3)).block,(ad377.add ((x5_1).toNat * 3)).off + 1,none⟩=some (.slice A377_1 ((rd_T62 l0 x5_1).f1).length c377_1)∧w'.cell? ⟨(ad377.add ((x5_1).toNat * 3)).block,(ad377.add ((x5_1).toNat * 3)).off + 2,none⟩=some (.slice A377_2 ((rd_T62 l0 x5_1).f2).length c377_2)) (ds:=[]) (bm_ 0 8) (by kernel_rfl) rfl rfl ⟨((HB.out.cell (zl w _ hw377_0)).trans hw377_0),((HB.out.cell (zl w _ hw377_1)).trans hw377_1),((HB.out.cell (zl w _ hw377_2)).trans hw377_2)⟩ (fun hHeld => ?_);refine with_tabW F2.tab4 F2.bits4 (fun HT_ HW_ => ?_);generalize wr.drew=w18 at HB HR377_1 HR377_2 hx377_0 hx377_1 hx377_2 hHeld ⊢;refine pure_ (i:=0) (N:=some 12) (v:=?_) (a':=?_) (bm_ 1 8) rfl rfl (any_of HT_.out (by kernel_rfl)) (fun _ _ _ h => h) (Or.inl ⟨by rfl,?_⟩) ?_ ?_;rotate_left
      ·
       intro w'
       go_simp
       with_reducible rfl
      rotate_left
      ·
       simp only [Act.put,zi,zj,zk,zG,zH]
       rfl
      refine pure_ (i:=1) (N:=some 13) (v:=?_) (a':=?_) (bm_ 2 8) rfl rfl (any_of HT_.out (by kernel_rfl)) (fun _ _ _ h => h) (Or.inl ⟨by rfl,?_⟩) ?_ ?_;rotate_left
      ·
       intro w'
       go_simp
       with_reducible rfl
      rotate_left
      ·
       simp only [Act.put,zi,zj,zk,zG,zH]
       rfl
      refine pure_ (i:=2) (N:=some 14) (v:=?_) (a':=?_) (bm_ 3 8) rfl rfl (any_of HT_.out (by kernel_rfl)) (fun _ _ _ h => h) (Or.inl ⟨by rfl,?_⟩) ?_ ?_;rotate_left
      ·
       intro w'
       go_simp
       with_reducible rfl
      rotate_left
      ·
       simp only [Act.put,zi,zj,zk,zG,zH]
       rfl
      refine pure_ (i:=3) (N:=some 15) (v:=?_) (a':=?_) (bm_ 4 8) rfl rfl (any_of HT_.out (by kernel_rfl)) (fun _ _ _ h => h) (Or.inl ⟨by rfl,?_⟩) ?_ ?_;rotate_left
      ·
       intro w'
       go_simp
       with_reducible rfl
      rotate_left
      ·
       simp only [Act.put,zi,zj,zk,zG,zH]
       rfl
      refine pure_ (i:=5) (N:=some 17) (v:=?_) (a':=?_) #[true,true,true,true,false,true,false,false] rfl rfl (any_of HT_.out (by kernel_rfl)) (fun _ _ _ h => h) (Or.inl ⟨by rfl,?_⟩) ?_ ?_;rotate_left
      ·
       intro w'
       go_simp
       with_reducible rfl
      rotate_left
      ·
       simp only [Act.put,zi,zj,zk,zG,zH]
       rfl
      refine take_ (i:=4) (N:=some 16) (v:=?_) (a':=?_) (bm_ 6 8) rfl rfl (yo HT_.out HW_.out (by kernel_rfl)) (fun _ _ _ h => h) (Or.inl ⟨by rfl,?_⟩) hHeld ?_ ?_;rotate_left
      ·
       rintro w' ⟨s0,s1,s2⟩
       go_simp
       with_reducible rfl
      rotate_left
      ·
       simp only [Act.put,zi,zj,zk,zG,zH]
       rfl
      refine one_ (i:=6) (N:=some 18) (bm_ 7 8) rfl rfl (one_of HT_.out (by kernel_rfl)) (by decide) (fun K hK => ?_);refine goes_ Try.func37 (by kernel_rfl) rfl #[.int .i64 x1_1] (by rfl) rfl rfl (by (try simp only [zt,zu,zv]);first|done|rfl|(simp only [zw,zx];rfl)|(simp only [yr,ys,zV,zW];rfl)) ?_
      with_reducible refine (F4.calls k1  x1_1 t378 _ A5.out).mono ?_
      rintro e w19 ⟨rfl,hb⟩;refine ⟨_,rfl,?_⟩;replace HB:=zh (zC (by repeat (with_reducible first|exact HB.out|apply za|apply zb|apply zc)) hb);(try clear hb);(try clear hb2);(try clear hk);(try clear hi);refine hK.out _ _ ⟨((HB.out.cell (zl w _ hw377_0)).trans hw377_0),((HB.out.cell (zl w _ hw377_1)).trans hw377_1),((HB.out.cell (zl w _ hw377_2)).trans hw377_2)⟩ (fun hHeld => ?_);clear hK K;refine norm_ (a':=?_) ?_ ?_;rotate_left
      ·
       show Act.put _ (some 18) _=_
       simp only [Act.put,zi,zj,zk,zG,zH]
       rfl
      refine pure_ (i:=7) (N:=some 19) (v:=?_) (a':=?_) (bm_ 8 8) rfl rfl (any_of HT_.out (by kernel_rfl)) (fun _ _ _ h => h) (Or.inl ⟨by rfl,?_⟩) ?_ ?_;rotate_left
      ·
       intro w'
       go_simp
       with_reducible rfl
      rotate_left
      ·
       simp only [Act.put,zi,zj,zk,zG,zH]
       rfl
      refine done_ (done_of HT_.out (by kernel_rfl)) ?_;have p379 : 0≤(x5_1 : Int):=zy (by first|(with_reducible assumption)|assumption);have q379 : x5_1<(l0.length : Int):=zy (by first|(with_reducible assumption)|assumption);obtain ⟨ad379,A379_1,c379_1,A379_2,c379_2,e379,hx379_0,hx379_1,hx379_2,hl379_1,hi379_1,hl379_2,hi379_2⟩:=at_T62 HR0.out x5_1 p379 q379;obtain rfl : ad377=ad379:=(by injection e379);replace hx379_0:=(HB.out.cell (zl w _ hx379_0)).trans hx379_0;replace hx379_1:=(HB.out.cell (zl w _ hx379_1)).trans hx379_1;replace hx379_2:=(HB.out.cell (zl w _ hx379_2)).trans hx379_2;have HR379_1:=zh hi379_1;have HC379_1:=zh hl379_1;clear hi379_1 hl379_1;have HR379_2:=zh hi379_2;have HC379_2:=zh hl379_2;clear hi379_2 hl379_2;replace p379:=eq_true p379;replace q379:=eq_true q379
      try go_wp2_with (first|((with_reducible refine zJ (f:=58) rfl ?_);refine yj (some 28) rfl rfl Try.func58 (by kernel_rfl) rfl #[.slice A377_1 ((rd_T62 l0 x5_1).f1).length c377_1,.int .i64 (wrap64 (x1_1 + 1))] rfl (by (try simp only [zt,zu,zv]);first|done|rfl|(simp only [zw,zx];rfl)|(simp only [yr,ys,zV,zW];rfl)) ?_;(with_reducible refine (Fg.calls k1  _ _ ((rd_T62 l0 x5_1).f1) (wrap64 (x1_1 + 1)) t380 _ ?side1 ?side2 A7.out).mono ?_);(case side1 => repeat (first|exact (Kd.C_below HR377_1.out HB.out)|(with_reducible refine Kd.C_alloc ?_ _)|(with_reducible refine Kd.C_drewN ?_ _)|(with_reducible refine Kd.C_drew ?_)));(case side2 => exact HC377_1.out);rintro e w20 ⟨rfl,hb⟩;refine ⟨_,rfl,?_⟩;replace HB:=zh (zC (by repeat (with_reducible first|exact HB.out|apply za|apply zb|apply zc)) hb);(try clear hb);(try clear hb2);(try clear hk);(try clear hi);have p381 : 0≤(x5_1 : Int):=zy (by first|(with_reducible assumption)|assumption);have q381 : x5_1<(l0.length : Int):=zy (by first|(with_reducible assumption)|assumption);obtain ⟨ad381,A377_1,c377_1,A377_2,c377_2,e381,hx381_0,hx381_1,hx381_2,hl381_1,hi381_1,hl381_2,hi381_2⟩:=at_T62 HR0.out x5_1 p381 q381;obtain rfl : ad377=ad381:=(by injection e381);replace hx381_0:=(HB.out.cell (zl w _ hx381_0)).trans hx381_0;replace hx381_1:=(HB.out.cell (zl w _ hx381_1)).trans hx381_1;replace hx381_2:=(HB.out.cell (zl w _ hx381_2)).trans hx381_2;have HR377_1:=zh hi381_1;have HC377_1:=zh hl381_1;clear hi381_1 hl381_1;have HR377_2:=zh hi381_2;have HC377_2:=zh hl381_2;clear hi381_2 hl381_2;replace p381:=eq_true p381;replace q381:=eq_true q381)|((with_reducible refine zJ (f:=59) rfl ?_);refine yj (some 37) rfl rfl Try.func59 (by kernel_rfl) rfl #[.slice A377_2 ((rd_T62 l0 x5_1).f2).length c377_2,.int .i64 t380] rfl (by (try simp only [zt,zu,zv]);first|done|rfl|(simp only [zw,zx];rfl)|(simp only [yr,ys,zV,zW];rfl)) ?_;(with_reducible refine (Fh.calls k1  _ _ ((rd_T62 l0 x5_1).f2) t380 t382 _ ?side1 ?side2 A12.out).mono ?_);(case side1 => repeat (first|exact (Kd.C_below HR377_2.out HB.out)|(with_reducible refine Kd.C_alloc ?_ _)|(with_reducible refine Kd.C_drewN ?_ _)|(with_reducible refine Kd.C_drew ?_)));(case side2 => exact HC377_2.out);rintro e w21 ⟨rfl,hb⟩;refine ⟨_,rfl,?_⟩;replace HB:=zh (zC (by repeat (with_reducible first|exact HB.out|apply za|apply zb|apply zc)) hb);(try clear hb);(try clear hb2);(try clear hk);(try clear hi)))
      go_roundg k1
      case measure => have:=HK1.out;omega
      case rel => exact ⟨(t382),(wrap64 (x5_1 + 1)),(by first|rfl|(simp;done)|(simp [*];done)),(by first|rfl|(simp;done)|(simp [*];done)),H',⟨by have:=HK1.out;omega⟩,⟨by repeat (with_reducible first|exact HB.out|apply za|apply zb|apply zc)⟩⟩
     rw [if_neg c6] at H;have c6b0 : (((rd_T62 l0 x5_1).f0).toList == t378.toList)=false:=zY.mpr c6;have c6b1 : (((rd_T62 l0 x5_1).f0).toList != t378.toList)=true:=zZ.mpr c6;obtain rfl:=zU H
     try go_wp2
     replace HB:=zh (zc HB.out);have p377 : 0≤(x5_1 : Int):=zy (by first|(with_reducible assumption)|assumption);have q377 : x5_1<(l0.length : Int):=zy (by first|(with_reducible assumption)|assumption);obtain ⟨ad377,A377_1,c377_1,A377_2,c377_2,e377,hx377_0,hx377_1,hx377_2,hl377_1,hi377_1,hl377_2,hi377_2⟩:=at_T62 HR0.out x5_1 p377 q377;have hw377_2:=hx377_2;have hw377_1:=hx377_1;have hw377_0:=hx377_0
     cases e377
     replace hx377_0:=(HB.out.cell (zl w _ hx377_0)).trans hx377_0;replace hx377_1:=(HB.out.cell (zl w _ hx377_1)).trans hx377_1;replace hx377_2:=(HB.out.cell (zl w _ hx377_2)).trans hx377_2;have HR377_1:=zh hi377_1;have HC377_1:=zh hl377_1;clear hi377_1 hl377_1;have HR377_2:=zh hi377_2;have HC377_2:=zh hl377_2;clear hi377_2 hl377_2;replace p377:=eq_true p377;replace q377:=eq_true q377;refine start_ (n:=8) (S:=fun w' => w'.cell? (ad377.add ((x5_1).toNat * 3))=some (.string ((rd_T62 l0 x5_1).f0))∧w'.cell? ⟨(ad377.add ((x5_1).toNat * 3)).block,(ad377.add ((x5_1).toNat * 3)).off + 1,none⟩=some (.slice A377_1 ((rd_T62 l0 x5_1).f1).length c377_1)∧w'.cell? ⟨(ad377.add ((x5_1).toNat * 3)).block,(ad377.add ((x5_1).toNat * 3)).off + 2,none⟩=some (.slice A377_2 ((rd_T62 l0 x5_1).f2).length c377_2)) (ds:=[]) (bm_ 0 8) (by kernel_rfl) rfl rfl ⟨((HB.out.cell (zl w _ hw377_0)).trans hw377_0),((HB.out.cell (zl w _ hw377_1)).trans hw377_1),((HB.out.cell (zl w _ hw377_2)).trans hw377_2)⟩ (fun hHeld => ?_);refine with_tabW F2.tab4 F2.bits4 (fun HT_ HW_ => ?_);generalize wr.drew=w22 at HB HR377_1 HR377_2 hx377_0 hx377_1 hx377_2 hHeld ⊢;refine pure_ (i:=0) (N:=some 12) (v:=?_) (a':=?_) (bm_ 1 8) rfl rfl (any_of HT_.out (by kernel_rfl)) (fun _ _ _ h => h) (Or.inl ⟨by rfl,?_⟩) ?_ ?_;rotate_left
     ·
      intro w'
      go_simp
      with_reducible rfl
     rotate_left
     ·
      simp only [Act.put,zi,zj,zk,zG,zH]
      rfl
     refine pure_ (i:=1) (N:=some 13) (v:=?_) (a':=?_) (bm_ 2 8) rfl rfl (any_of HT_.out (by kernel_rfl)) (fun _ _ _ h => h) (Or.inl ⟨by rfl,?_⟩) ?_ ?_;rotate_left
     ·
      intro w'
      go_simp
      with_reducible rfl
     rotate_left
     ·
      simp only [Act.put,zi,zj,zk,zG,zH]
      rfl
     refine pure_ (i:=2) (N:=some 14) (v:=?_) (a':=?_) (bm_ 3 8) rfl rfl (any_of HT_.out (by kernel_rfl)) (fun _ _ _ h => h) (Or.inl ⟨by rfl,?_⟩) ?_ ?_;rotate_left
     ·
      intro w'
      go_simp
      with_reducible rfl
     rotate_left
     ·
      simp only [Act.put,zi,zj,zk,zG,zH]
      rfl
     refine pure_ (i:=3) (N:=some 15) (v:=?_) (a':=?_) (bm_ 4 8) rfl rfl (any_of HT_.out (by kernel_rfl)) (fun _ _ _ h => h) (Or.inl ⟨by rfl,?_⟩) ?_ ?_;rotate_left
     ·
      intro w'
      go_simp
      with_reducible rfl
     rotate_left
     ·
      simp only [Act.put,zi,zj,zk,zG,zH]
      rfl
     refine pure_ (i:=5) (N:=some 17) (v:=?_) (a':=?_) #[true,true,true,true,false,true,false,false] rfl rfl (any_of HT_.out (by kernel_rfl)) (fun _ _ _ h => h) (Or.inl ⟨by rfl,?_⟩) ?_ ?_;rotate_left
     ·
      intro w'
      go_simp
      with_reducible rfl
     rotate_left
     ·
      simp only [Act.put,zi,zj,zk,zG,zH]
      rfl
     refine take_ (i:=4) (N:=some 16) (v:=?_) (a':=?_) (bm_ 6 8) rfl rfl (yo HT_.out HW_.out (by kernel_rfl)) (fun _ _ _ h => h) (Or.inl ⟨by rfl,?_⟩) hHeld ?_ ?_;rotate_left
     ·
      rintro w' ⟨s0,s1,s2⟩
      go_simp
      with_reducible rfl
     rotate_left
     ·
      simp only [Act.put,zi,zj,zk,zG,zH]
      rfl
     refine one_ (i:=6) (N:=some 18) (bm_ 7 8) rfl rfl (one_of HT_.out (by kernel_rfl)) (by decide) (fun K hK => ?_);refine goes_ Try.func37 (by kernel_rfl) rfl #[.int .i64 x1_1] (by rfl) rfl rfl (by (try simp only [zt,zu,zv]);first|done|rfl|(simp only [zw,zx];rfl)|(simp only [yr,ys,zV,zW];rfl)) ?_
     with_reducible refine (F4.calls k1  x1_1 t378 _ A5.out).mono ?_
     rintro e w23 ⟨rfl,hb⟩;refine ⟨_,rfl,?_⟩;replace HB:=zh (zC (by repeat (with_reducible first|exact HB.out|apply za|apply zb|apply zc)) hb);(try clear hb);(try clear hb2);(try clear hk);(try clear hi);refine hK.out _ _ ⟨((HB.out.cell (zl w _ hw377_0)).trans hw377_0),((HB.out.cell (zl w _ hw377_1)).trans hw377_1),((HB.out.cell (zl w _ hw377_2)).trans hw377_2)⟩ (fun hHeld => ?_);clear hK K;refine norm_ (a':=?_) ?_ ?_;rotate_left
     ·
      show Act.put _ (some 18) _=_
      simp only [Act.put,zi,zj,zk,zG,zH]
      rfl
     refine pure_ (i:=7) (N:=some 19) (v:=?_) (a':=?_) (bm_ 8 8) rfl rfl (any_of HT_.out (by kernel_rfl)) (fun _ _ _ h => h) (Or.inl ⟨by rfl,?_⟩) ?_ ?_;rotate_left
     ·
      intro w'
      go_simp
      with_reducible rfl
     rotate_left
     ·
      simp only [Act.put,zi,zj,zk,zG,zH]
      rfl
     refine done_ (done_of HT_.out (by kernel_rfl)) ?_
     try go_wp2
     go_ret
     exact ⟨by first|rfl|(simp [yt,yu] <;> rfl)|(simp [*,yt,yu] <;> rfl),by repeat (with_reducible first|exact HB.out|apply za|apply zb|apply zc)⟩
    rw [if_neg c4] at H;exact absurd H (by simp)
   rw [if_neg c3] at H;have c3b0 : decide (x5_1<(l0.length : Int))=false:=decide_eq_false c3;clear c3;obtain rfl:=zU H
   go_wp2
   go_ret
   exact ⟨by first|rfl|(simp [yt,yu] <;> rfl)|(simp [*,yt,yu] <;> rfl),by repeat (with_reducible first|exact HB.out|apply za|apply zb|apply zc)⟩


def Fj.l0 : Nat→List (S78)→Int→Int→Option (Int)
 | 0,_,_,_ => none
 | k + 1,x0,x1,x5 => if x5<(x0.length : Int) then (none) else (some x1)
def Fj.f (k : Nat) (l0 : List (S78)) (a1 : Int) : Option (Int):=Fj.l0 k l0 a1 0
theorem Fj.mono_l : ∀ k,(∀ y0 y1 y2,LeO (Fj.l0 k y0 y1 y2) (Fj.l0 (k + 1) y0 y1 y2))
 | 0 => fun _ _ _ r h => by simp [Fj.l0] at h
 | k + 1 => by
  have ih0:=Fj.mono_l k;intro y0 y1 y2;unfold Fj.l0
  repeat' first|(with_reducible first|exact ih0 _ _ _|exact zQ _|exact zN _|refine zP ?_ ?_|refine zO ?_ (fun _ => ?_))|refine zP ?_ ?_|refine zO ?_ (fun _ => ?_)
theorem Fj.mono : ∀ a0 a1 k,LeO (Fj.f k a0 a1) (Fj.f (k + 1) a0 a1):=by
 intro a0 a1 k;have ih0:=Fj.mono_l k;unfold Fj.f
 repeat' first|(with_reducible first|exact ih0 _ _ _|exact zQ _|exact zN _|refine zP ?_ ?_|refine zO ?_ (fun _ => ?_))|refine zP ?_ ?_|refine zO ?_ (fun _ => ?_)
set_option maxHeartbeats 8000000 in
set_option maxRecDepth 100000 in
theorem Fj.calls (k : Nat) (A0 : Option Addr) (c0 : Nat) (l0 : List (S78)) (a1 : Int) (r : Int) (w : World) (hr0 : Kd.C k78 w A0 l0.length l0) (hc0 : l0.length≤c0) (h : Fj.f k l0 a1=some r) :
  Calls Try.prog 42 #[.slice A0 l0.length c0,.int .i64 a1] w fun e w' => e = .returned (.int .i64 r)∧Below w.heap.size w w':=by
 have HR0:=zh hr0;have HC0:=zh hc0;clear hr0 hc0;have HB:=zh (Below.refl w.heap.size w);have H : (Fj.l0 k l0 a1 0)=some r:=h;clear h;have H':=zh H;clear H
 go_enter Try.func42,Try.ntmps42
 go_wp2
 go_loopg [1,5] k (fun kq v1 v5 w' => ∃ (x1_1 : Int) (x5_1 : Int),v1 = .int .i64 x1_1∧v5 = .int .i64 x5_1∧Aside0 (Fj.l0 kq l0 x1_1 x5_1=some r)∧Aside0 (kq≤k)∧Aside0 (Below w.heap.size w w'))
 case atStart => exact ⟨(a1),(0),(by first|rfl|(simp;done)|(simp [*];done)),(by first|rfl|(simp;done)|(simp [*];done)),H',⟨ye _⟩,⟨by repeat (with_reducible first|exact HB.out|apply za|apply zb|apply zc)⟩⟩
 case round =>
  clear H'
  try clear p2
  obtain ⟨x1_1,x5_1,rfl,rfl,HA,HK1,HB⟩:=hrel
  cases gk with
  | zero => exact absurd HA.out (by simp [Fj.l0])
  | succ k1 =>
   have H:=HA.out;clear HA;simp only [Fj.l0] at H
   by_cases c3 : x5_1<(l0.length : Int)
   ·
    rw [if_pos c3] at H
    exact absurd H (by simp)
   rw [if_neg c3] at H;have c3b0 : decide (x5_1<(l0.length : Int))=false:=decide_eq_false c3;clear c3;obtain rfl:=zU H
   go_wp2
   go_ret
   exact ⟨by first|rfl|(simp [yt,yu] <;> rfl)|(simp [*,yt,yu] <;> rfl),by repeat (with_reducible first|exact HB.out|apply za|apply zb|apply zc)⟩


def Fi.l0 : Nat→List (S82)→Int→Int→Option (Int)
 | 0,_,_,_ => none
 | k + 1,x0,x1,x5 => if x5<(x0.length : Int) then (none) else (some x1)
def Fi.f (k : Nat) (l0 : List (S82)) (a1 : Int) : Option (Int):=Fi.l0 k l0 a1 0
theorem Fi.mono_l : ∀ k,(∀ y0 y1 y2,LeO (Fi.l0 k y0 y1 y2) (Fi.l0 (k + 1) y0 y1 y2))
 | 0 => fun _ _ _ r h => by simp [Fi.l0] at h
 | k + 1 => by
  have ih0:=Fi.mono_l k;intro y0 y1 y2;unfold Fi.l0
  repeat' first|(with_reducible first|exact ih0 _ _ _|exact zQ _|exact zN _|refine zP ?_ ?_|refine zO ?_ (fun _ => ?_))|refine zP ?_ ?_|refine zO ?_ (fun _ => ?_)
theorem Fi.mono : ∀ a0 a1 k,LeO (Fi.f k a0 a1) (Fi.f (k + 1) a0 a1):=by
 intro a0 a1 k;have ih0:=Fi.mono_l k;unfold Fi.f
 repeat' first|(with_reducible first|exact ih0 _ _ _|exact zQ _|exact zN _|refine zP ?_ ?_|refine zO ?_ (fun _ => ?_))|refine zP ?_ ?_|refine zO ?_ (fun _ => ?_)
set_option maxHeartbeats 8000000 in
set_option maxRecDepth 100000 in
theorem Fi.calls (k : Nat) (A0 : Option Addr) (c0 : Nat) (l0 : List (S82)) (a1 : Int) (r : Int) (w : World) (hr0 : Kd.C k82 w A0 l0.length l0) (hc0 : l0.length≤c0) (h : Fi.f k l0 a1=some r) :
  Calls Try.prog 43 #[.slice A0 l0.length c0,.int .i64 a1] w fun e w' => e = .returned (.int .i64 r)∧Below w.heap.size w w':=by
 have HR0:=zh hr0;have HC0:=zh hc0;clear hr0 hc0;have HB:=zh (Below.refl w.heap.size w);have H : (Fi.l0 k l0 a1 0)=some r:=h;clear h;have H':=zh H;clear H
 go_enter Try.func43,Try.ntmps43
 go_wp2
 go_loopg [1,5] k (fun kq v1 v5 w' => ∃ (x1_1 : Int) (x5_1 : Int),v1 = .int .i64 x1_1∧v5 = .int .i64 x5_1∧Aside0 (Fi.l0 kq l0 x1_1 x5_1=some r)∧Aside0 (kq≤k)∧Aside0 (Below w.heap.size w w'))
 case atStart => exact ⟨(a1),(0),(by first|rfl|(simp;done)|(simp [*];done)),(by first|rfl|(simp;done)|(simp [*];done)),H',⟨ye _⟩,⟨by repeat (with_reducible first|exact HB.out|apply za|apply zb|apply zc)⟩⟩
 case round =>
  clear H'
  try clear p2
  obtain ⟨x1_1,x5_1,rfl,rfl,HA,HK1,HB⟩:=hrel
  cases gk with
  | zero => exact absurd HA.out (by simp [Fi.l0])
  | succ k1 =>
   have H:=HA.out;clear HA;simp only [Fi.l0] at H
   by_cases c3 : x5_1<(l0.length : Int)
   ·
    rw [if_pos c3] at H
    exact absurd H (by simp)
   rw [if_neg c3] at H;have c3b0 : decide (x5_1<(l0.length : Int))=false:=decide_eq_false c3;clear c3;obtain rfl:=zU H
   go_wp2
   go_ret
   exact ⟨by first|rfl|(simp [yt,yu] <;> rfl)|(simp [*,yt,yu] <;> rfl),by repeat (with_reducible first|exact HB.out|apply za|apply zb|apply zc)⟩


def Ft.f (k : Nat) (l0_0 : List (S62)) (l0_1 : List (S78)) (l0_2 : List (S82)) (a0_3 : Int) (a1 : Int) : Option (Int):=(F2.f k l0_0 a1).bind fun t418 => (if t418<0 then (some (-1)) else ((Fj.f k l0_1 t418).bind fun t419 => (if t419<0 then (some (-1)) else ((Fi.f k l0_2 t419).bind fun t420 => (if t420<0 then (some (-1)) else (some t420))))))
theorem Ft.mono : ∀ a0 a1 a2 a3 a4 k,LeO (Ft.f k a0 a1 a2 a3 a4) (Ft.f (k + 1) a0 a1 a2 a3 a4):=by
 intro a0 a1 a2 a3 a4 k;unfold Ft.f
 repeat' first|(with_reducible first|exact F2.mono _ _ _|exact Fj.mono _ _ _|exact Fi.mono _ _ _|exact zQ _|exact zN _|refine zP ?_ ?_|refine zO ?_ (fun _ => ?_))|refine zP ?_ ?_|refine zO ?_ (fun _ => ?_)
set_option maxHeartbeats 8000000 in
set_option maxRecDepth 100000 in
theorem Ft.calls (k : Nat) (A0_0 : Option Addr) (c0_0 : Nat) (l0_0 : List (S62)) (A0_1 : Option Addr) (c0_1 : Nat) (l0_1 : List (S78)) (A0_2 : Option Addr) (c0_2 : Nat) (l0_2 : List (S82)) (a0_3 : Int) (a1 : Int) (r : Int) (w : World) (hr0_0 : Kd.C k62 w A0_0 l0_0.length l0_0) (hc0_0 : l0_0.length≤c0_0) (hr0_1 : Kd.C k78 w A0_1 l0_1.length l0_1) (hc0_1 : l0_1.length≤c0_1) (hr0_2 : Kd.C k82 w A0_2 l0_2.length l0_2) (hc0_2 : l0_2.length≤c0_2) (h : Ft.f k l0_0 l0_1 l0_2 a0_3 a1=some r) :
  Calls Try.prog 24 #[.agg #[.slice A0_0 l0_0.length c0_0,.slice A0_1 l0_1.length c0_1,.slice A0_2 l0_2.length c0_2,.int .i64 a0_3],.int .i64 a1] w fun e w' => e = .returned (.int .i64 r)∧Below w.heap.size w w':=by
 have hu43:=Try.underlying43;have HR0_0:=zh hr0_0;have HC0_0:=zh hc0_0;clear hr0_0 hc0_0;have HR0_1:=zh hr0_1;have HC0_1:=zh hc0_1;clear hr0_1 hc0_1;have HR0_2:=zh hr0_2;have HC0_2:=zh hc0_2;clear hr0_2 hc0_2;have HB:=zh (Below.refl w.heap.size w);have H : ((F2.f k l0_0 a1).bind fun t418 => (if t418<0 then (some (-1)) else ((Fj.f k l0_1 t418).bind fun t419 => (if t419<0 then (some (-1)) else ((Fi.f k l0_2 t419).bind fun t420 => (if t420<0 then (some (-1)) else (some t420)))))))=some r:=h;clear h;replace H:=zT.mp H;obtain ⟨t418,A30,H⟩:=H;replace H : (if t418<0 then (some (-1)) else ((Fj.f k l0_1 t418).bind fun t419 => (if t419<0 then (some (-1)) else ((Fi.f k l0_2 t419).bind fun t420 => (if t420<0 then (some (-1)) else (some t420))))))=some r:=H;have A3:=zh A30;clear A30
 by_cases c4 : t418<0
 ·
  rw [if_pos c4] at H
  have c4b0 : decide (t418<0)=true:=decide_eq_true c4;clear c4;obtain rfl:=zU H
  go_enter Try.func24,Try.ntmps24
  go_wp2_with (first|((with_reducible refine zK (N:=2) rfl ?_);refine zI ?hg (N:=2) ?hd (cs:=#[.slice A0_0 l0_0.length c0_0,.slice A0_1 l0_1.length c0_1,.slice A0_2 l0_2.length c0_2,.int .i64 a0_3]) (t:=43) ?hr ?_;(case hd => rfl);(case hg => rfl);(case hr => first|(go_simp;done)|(go_simp;rfl));intro gb417 hg w5 hbox hb;have BK417:=zh (hbox);have GW417:=zh ((by rw [hg];exact (zB (by repeat (with_reducible first|exact HB.out|apply za|apply zb|apply zc))) : w.heap.size≤gb417));have GE417:=zh ((by rw [hg];exact (zB (by repeat (with_reducible first|exact HB.out|apply za|apply zb|apply zc))) : w.heap.size≤gb417));replace HB:=zh (zC (by repeat (with_reducible first|exact HB.out|apply za|apply zb|apply zc)) hb);clear hb hbox hg;have hcz6_0 : w5.cell? ⟨gb417,0,none⟩=some (.slice A0_0 l0_0.length c0_0):=(zz BK417.out 0).trans rfl;have hcz6_1 : w5.cell? ⟨gb417,1,none⟩=some (.slice A0_1 l0_1.length c0_1):=(zz BK417.out 1).trans rfl;have hcz6_2 : w5.cell? ⟨gb417,2,none⟩=some (.slice A0_2 l0_2.length c0_2):=(zz BK417.out 2).trans rfl;have hcz6_3 : w5.cell? ⟨gb417,3,none⟩=some (.int .i64 a0_3):=(zz BK417.out 3).trans rfl;have hfz6_0:=zA BK417.out 0;have hfz6_1:=zA BK417.out 1;have hfz6_2:=zA BK417.out 2;have hfz6_3:=zA BK417.out 3)|((with_reducible refine zJ (f:=41) rfl ?_);refine yj (some 8) rfl rfl Try.func41 (by kernel_rfl) rfl #[.slice A0_0 l0_0.length c0_0,.int .i64 a1] rfl (by (try simp only [zt,zu,zv]);first|done|rfl|(simp only [zw,zx];rfl)|(simp only [yr,ys,zV,zW];rfl)) ?_;(with_reducible refine (F2.calls k  _ _ l0_0 a1 t418 _ ?side1 ?side2 A3.out).mono ?_);(case side1 => repeat (first|exact (Kd.C_below HR0_0.out HB.out)|(with_reducible refine Kd.C_alloc ?_ _)|(with_reducible refine Kd.C_drewN ?_ _)|(with_reducible refine Kd.C_drew ?_)));(case side2 => exact HC0_0.out);rintro e w7 ⟨rfl,hb⟩;refine ⟨_,rfl,?_⟩;replace BK417:=zh (zD (g:=gb417) (o:=.cells #[.slice A0_0 l0_0.length c0_0,.slice A0_1 l0_1.length c0_1,.slice A0_2 l0_2.length c0_2,.int .i64 a0_3] 43 (0,0)) (by (with_reducible repeat (first|refine ze ?_ _|refine zf ?_|refine zg ?_ _));exact BK417.out) hb);replace HB:=zh (zC (by repeat (with_reducible first|exact HB.out|apply za|apply zb|apply zc|refine zd ?_ GE417.out)) hb);(try clear hb);(try clear hb2);(try clear hk);(try clear hi)))
  go_ret
  exact ⟨by first|rfl|(simp [yt,yu] <;> rfl)|(simp [*,yt,yu] <;> rfl),by repeat (with_reducible first|exact HB.out|apply za|apply zb|apply zc|refine zd ?_ GE417.out)⟩
 rw [if_neg c4] at H;have c4b0 : decide (t418<0)=false:=decide_eq_false c4;clear c4;replace H:=zT.mp H;obtain ⟨t419,A80,H⟩:=H;replace H : (if t419<0 then (some (-1)) else ((Fi.f k l0_2 t419).bind fun t420 => (if t420<0 then (some (-1)) else (some t420))))=some r:=H;have A8:=zh A80;clear A80
 by_cases c9 : t419<0
 ·
  rw [if_pos c9] at H
  have c9b0 : decide (t419<0)=true:=decide_eq_true c9;clear c9;obtain rfl:=zU H
  go_enter Try.func24,Try.ntmps24
  go_wp2_with (first|((with_reducible refine zK (N:=2) rfl ?_);refine zI ?hg (N:=2) ?hd (cs:=#[.slice A0_0 l0_0.length c0_0,.slice A0_1 l0_1.length c0_1,.slice A0_2 l0_2.length c0_2,.int .i64 a0_3]) (t:=43) ?hr ?_;(case hd => rfl);(case hg => rfl);(case hr => first|(go_simp;done)|(go_simp;rfl));intro gb417 hg w10 hbox hb;have BK417:=zh (hbox);have GW417:=zh ((by rw [hg];exact (zB (by repeat (with_reducible first|exact HB.out|apply za|apply zb|apply zc))) : w.heap.size≤gb417));have GE417:=zh ((by rw [hg];exact (zB (by repeat (with_reducible first|exact HB.out|apply za|apply zb|apply zc))) : w.heap.size≤gb417));replace HB:=zh (zC (by repeat (with_reducible first|exact HB.out|apply za|apply zb|apply zc)) hb);clear hb hbox hg;have hcz11_0 : w10.cell? ⟨gb417,0,none⟩=some (.slice A0_0 l0_0.length c0_0):=(zz BK417.out 0).trans rfl;have hcz11_1 : w10.cell? ⟨gb417,1,none⟩=some (.slice A0_1 l0_1.length c0_1):=(zz BK417.out 1).trans rfl;have hcz11_2 : w10.cell? ⟨gb417,2,none⟩=some (.slice A0_2 l0_2.length c0_2):=(zz BK417.out 2).trans rfl;have hcz11_3 : w10.cell? ⟨gb417,3,none⟩=some (.int .i64 a0_3):=(zz BK417.out 3).trans rfl;have hfz11_0:=zA BK417.out 0;have hfz11_1:=zA BK417.out 1;have hfz11_2:=zA BK417.out 2;have hfz11_3:=zA BK417.out 3)|((with_reducible refine zJ (f:=41) rfl ?_);refine yj (some 8) rfl rfl Try.func41 (by kernel_rfl) rfl #[.slice A0_0 l0_0.length c0_0,.int .i64 a1] rfl (by (try simp only [zt,zu,zv]);first|done|rfl|(simp only [zw,zx];rfl)|(simp only [yr,ys,zV,zW];rfl)) ?_;(with_reducible refine (F2.calls k  _ _ l0_0 a1 t418 _ ?side1 ?side2 A3.out).mono ?_);(case side1 => repeat (first|exact (Kd.C_below HR0_0.out HB.out)|(with_reducible refine Kd.C_alloc ?_ _)|(with_reducible refine Kd.C_drewN ?_ _)|(with_reducible refine Kd.C_drew ?_)));(case side2 => exact HC0_0.out);rintro e w12 ⟨rfl,hb⟩;refine ⟨_,rfl,?_⟩;replace BK417:=zh (zD (g:=gb417) (o:=.cells #[.slice A0_0 l0_0.length c0_0,.slice A0_1 l0_1.length c0_1,.slice A0_2 l0_2.length c0_2,.int .i64 a0_3] 43 (0,0)) (by (with_reducible repeat (first|refine ze ?_ _|refine zf ?_|refine zg ?_ _));exact BK417.out) hb);replace HB:=zh (zC (by repeat (with_reducible first|exact HB.out|apply za|apply zb|apply zc|refine zd ?_ GE417.out)) hb);(try clear hb);(try clear hb2);(try clear hk);(try clear hi);have hcz13_0 : w12.cell? ⟨gb417,0,none⟩=some (.slice A0_0 l0_0.length c0_0):=(zz BK417.out 0).trans rfl;have hcz13_1 : w12.cell? ⟨gb417,1,none⟩=some (.slice A0_1 l0_1.length c0_1):=(zz BK417.out 1).trans rfl;have hcz13_2 : w12.cell? ⟨gb417,2,none⟩=some (.slice A0_2 l0_2.length c0_2):=(zz BK417.out 2).trans rfl;have hcz13_3 : w12.cell? ⟨gb417,3,none⟩=some (.int .i64 a0_3):=(zz BK417.out 3).trans rfl;have hfz13_0:=zA BK417.out 0;have hfz13_1:=zA BK417.out 1;have hfz13_2:=zA BK417.out 2;have hfz13_3:=zA BK417.out 3)|((with_reducible refine zJ (f:=42) rfl ?_);refine yj (some 14) rfl rfl Try.func42 (by kernel_rfl) rfl #[.slice A0_1 l0_1.length c0_1,.int .i64 t418] rfl (by (try simp only [zt,zu,zv]);first|done|rfl|(simp only [zw,zx];rfl)|(simp only [yr,ys,zV,zW];rfl)) ?_;(with_reducible refine (Fj.calls k  _ _ l0_1 t418 t419 _ ?side1 ?side2 A8.out).mono ?_);(case side1 => repeat (first|exact (Kd.C_below HR0_1.out HB.out)|(with_reducible refine Kd.C_alloc ?_ _)|(with_reducible refine Kd.C_drewN ?_ _)|(with_reducible refine Kd.C_drew ?_)));(case side2 => exact HC0_1.out);rintro e w14 ⟨rfl,hb⟩;refine ⟨_,rfl,?_⟩;replace BK417:=zh (zD (g:=gb417) (o:=.cells #[.slice A0_0 l0_0.length c0_0,.slice A0_1 l0_1.length c0_1,.slice A0_2 l0_2.length c0_2,.int .i64 a0_3] 43 (0,0)) (by (with_reducible repeat (first|refine ze ?_ _|refine zf ?_|refine zg ?_ _));exact BK417.out) hb);replace HB:=zh (zC (by repeat (with_reducible first|exact HB.out|apply za|apply zb|apply zc|refine zd ?_ GE417.out)) hb);(try clear hb);(try clear hb2);(try clear hk);(try clear hi)))
  go_ret
  exact ⟨by first|rfl|(simp [yt,yu] <;> rfl)|(simp [*,yt,yu] <;> rfl),by repeat (with_reducible first|exact HB.out|apply za|apply zb|apply zc|refine zd ?_ GE417.out)⟩
 rw [if_neg c9] at H;have c9b0 : decide (t419<0)=false:=decide_eq_false c9;clear c9;replace H:=zT.mp H;obtain ⟨t420,A150,H⟩:=H;replace H : (if t420<0 then (some (-1)) else (some t420))=some r:=H;have A15:=zh A150;clear A150
 by_cases c16 : t420<0
 ·
  rw [if_pos c16] at H
  have c16b0 : decide (t420<0)=true:=decide_eq_true c16;clear c16;obtain rfl:=zU H
  go_enter Try.func24,Try.ntmps24
  go_wp2_with (first|((with_reducible refine zK (N:=2) rfl ?_);refine zI ?hg (N:=2) ?hd (cs:=#[.slice A0_0 l0_0.length c0_0,.slice A0_1 l0_1.length c0_1,.slice A0_2 l0_2.length c0_2,.int .i64 a0_3]) (t:=43) ?hr ?_;(case hd => rfl);(case hg => rfl);(case hr => first|(go_simp;done)|(go_simp;rfl));intro gb417 hg w17 hbox hb;have BK417:=zh (hbox);have GW417:=zh ((by rw [hg];exact (zB (by repeat (with_reducible first|exact HB.out|apply za|apply zb|apply zc))) : w.heap.size≤gb417));have GE417:=zh ((by rw [hg];exact (zB (by repeat (with_reducible first|exact HB.out|apply za|apply zb|apply zc))) : w.heap.size≤gb417));replace HB:=zh (zC (by repeat (with_reducible first|exact HB.out|apply za|apply zb|apply zc)) hb);clear hb hbox hg;have hcz18_0 : w17.cell? ⟨gb417,0,none⟩=some (.slice A0_0 l0_0.length c0_0):=(zz BK417.out 0).trans rfl;have hcz18_1 : w17.cell? ⟨gb417,1,none⟩=some (.slice A0_1 l0_1.length c0_1):=(zz BK417.out 1).trans rfl;have hcz18_2 : w17.cell? ⟨gb417,2,none⟩=some (.slice A0_2 l0_2.length c0_2):=(zz BK417.out 2).trans rfl;have hcz18_3 : w17.cell? ⟨gb417,3,none⟩=some (.int .i64 a0_3):=(zz BK417.out 3).trans rfl;have hfz18_0:=zA BK417.out 0;have hfz18_1:=zA BK417.out 1;have hfz18_2:=zA BK417.out 2;have hfz18_3:=zA BK417.out 3)|((with_reducible refine zJ (f:=41) rfl ?_);refine yj (some 8) rfl rfl Try.func41 (by kernel_rfl) rfl #[.slice A0_0 l0_0.length c0_0,.int .i64 a1] rfl (by (try simp only [zt,zu,zv]);first|done|rfl|(simp only [zw,zx];rfl)|(simp only [yr,ys,zV,zW];rfl)) ?_;(with_reducible refine (F2.calls k  _ _ l0_0 a1 t418 _ ?side1 ?side2 A3.out).mono ?_);(case side1 => repeat (first|exact (Kd.C_below HR0_0.out HB.out)|(with_reducible refine Kd.C_alloc ?_ _)|(with_reducible refine Kd.C_drewN ?_ _)|(with_reducible refine Kd.C_drew ?_)));(case side2 => exact HC0_0.out);rintro e w19 ⟨rfl,hb⟩;refine ⟨_,rfl,?_⟩;replace BK417:=zh (zD (g:=gb417) (o:=.cells #[.slice A0_0 l0_0.length c0_0,.slice A0_1 l0_1.length c0_1,.slice A0_2 l0_2.length c0_2,.int .i64 a0_3] 43 (0,0)) (by (with_reducible repeat (first|refine ze ?_ _|refine zf ?_|refine zg ?_ _));exact BK417.out) hb);replace HB:=zh (zC (by repeat (with_reducible first|exact HB.out|apply za|apply zb|apply zc|refine zd ?_ GE417.out)) hb);(try clear hb);(try clear hb2);(try clear hk);(try clear hi);have hcz20_0 : w19.cell? ⟨gb417,0,none⟩=some (.slice A0_0 l0_0.length c0_0):=(zz BK417.out 0).trans rfl;have hcz20_1 : w19.cell? ⟨gb417,1,none⟩=some (.slice A0_1 l0_1.length c0_1):=(zz BK417.out 1).trans rfl;have hcz20_2 : w19.cell? ⟨gb417,2,none⟩=some (.slice A0_2 l0_2.length c0_2):=(zz BK417.out 2).trans rfl;have hcz20_3 : w19.cell? ⟨gb417,3,none⟩=some (.int .i64 a0_3):=(zz BK417.out 3).trans rfl;have hfz20_0:=zA BK417.out 0;have hfz20_1:=zA BK417.out 1;have hfz20_2:=zA BK417.out 2;have hfz20_3:=zA BK417.out 3)|((with_reducible refine zJ (f:=42) rfl ?_);refine yj (some 14) rfl rfl Try.func42 (by kernel_rfl) rfl #[.slice A0_1 l0_1.length c0_1,.int .i64 t418] rfl (by (try simp only [zt,zu,zv]);first|done|rfl|(simp only [zw,zx];rfl)|(simp only [yr,ys,zV,zW];rfl)) ?_;(with_reducible refine (Fj.calls k  _ _ l0_1 t418 t419 _ ?side1 ?side2 A8.out).mono ?_);(case side1 => repeat (first|exact (Kd.C_below HR0_1.out HB.out)|(with_reducible refine Kd.C_alloc ?_ _)|(with_reducible refine Kd.C_drewN ?_ _)|(with_reducible refine Kd.C_drew ?_)));(case side2 => exact HC0_1.out);rintro e w21 ⟨rfl,hb⟩;refine ⟨_,rfl,?_⟩;replace BK417:=zh (zD (g:=gb417) (o:=.cells #[.slice A0_0 l0_0.length c0_0,.slice A0_1 l0_1.length c0_1,.slice A0_2 l0_2.length c0_2,.int .i64 a0_3] 43 (0,0)) (by (with_reducible repeat (first|refine ze ?_ _|refine zf ?_|refine zg ?_ _));exact BK417.out) hb);replace HB:=zh (zC (by repeat (with_reducible first|exact HB.out|apply za|apply zb|apply zc|refine zd ?_ GE417.out)) hb);(try clear hb);(try clear hb2);(try clear hk);(try clear hi);have hcz22_0 : w21.cell? ⟨gb417,0,none⟩=some (.slice A0_0 l0_0.length c0_0):=(zz BK417.out 0).trans rfl;have hcz22_1 : w21.cell? ⟨gb417,1,none⟩=some (.slice A0_1 l0_1.length c0_1):=(zz BK417.out 1).trans rfl;have hcz22_2 : w21.cell? ⟨gb417,2,none⟩=some (.slice A0_2 l0_2.length c0_2):=(zz BK417.out 2).trans rfl;have hcz22_3 : w21.cell? ⟨gb417,3,none⟩=some (.int .i64 a0_3):=(zz BK417.out 3).trans rfl;have hfz22_0:=zA BK417.out 0;have hfz22_1:=zA BK417.out 1;have hfz22_2:=zA BK417.out 2;have hfz22_3:=zA BK417.out 3)|((with_reducible refine zJ (f:=43) rfl ?_);refine yj (some 20) rfl rfl Try.func43 (by kernel_rfl) rfl #[.slice A0_2 l0_2.length c0_2,.int .i64 t419] rfl (by (try simp only [zt,zu,zv]);first|done|rfl|(simp only [zw,zx];rfl)|(simp only [yr,ys,zV,zW];rfl)) ?_;(with_reducible refine (Fi.calls k  _ _ l0_2 t419 t420 _ ?side1 ?side2 A15.out).mono ?_);(case side1 => repeat (first|exact (Kd.C_below HR0_2.out HB.out)|(with_reducible refine Kd.C_alloc ?_ _)|(with_reducible refine Kd.C_drewN ?_ _)|(with_reducible refine Kd.C_drew ?_)));(case side2 => exact HC0_2.out);rintro e w23 ⟨rfl,hb⟩;refine ⟨_,rfl,?_⟩;replace BK417:=zh (zD (g:=gb417) (o:=.cells #[.slice A0_0 l0_0.length c0_0,.slice A0_1 l0_1.length c0_1,.slice A0_2 l0_2.length c0_2,.int .i64 a0_3] 43 (0,0)) (by (with_reducible repeat (first|refine ze ?_ _|refine zf ?_|refine zg ?_ _));exact BK417.out) hb);replace HB:=zh (zC (by repeat (with_reducible first|exact HB.out|apply za|apply zb|apply zc|refine zd ?_ GE417.out)) hb);(try clear hb);(try clear hb2);(try clear hk);(try clear hi)))
  go_ret
  exact ⟨by first|rfl|(simp [yt,yu] <;> rfl)|(simp [*,yt,yu] <;> rfl),by repeat (with_reducible first|exact HB.out|apply za|apply zb|apply zc|refine zd ?_ GE417.out)⟩
 rw [if_neg c16] at H;have c16b0 : decide (t420<0)=false:=decide_eq_false c16;clear c16;obtain rfl:=zU H
 go_enter Try.func24,Try.ntmps24
 go_wp2_with (first|((with_reducible refine zK (N:=2) rfl ?_);refine zI ?hg (N:=2) ?hd (cs:=#[.slice A0_0 l0_0.length c0_0,.slice A0_1 l0_1.length c0_1,.slice A0_2 l0_2.length c0_2,.int .i64 a0_3]) (t:=43) ?hr ?_;(case hd => rfl);(case hg => rfl);(case hr => first|(go_simp;done)|(go_simp;rfl));intro gb417 hg w24 hbox hb;have BK417:=zh (hbox);have GW417:=zh ((by rw [hg];exact (zB (by repeat (with_reducible first|exact HB.out|apply za|apply zb|apply zc))) : w.heap.size≤gb417));have GE417:=zh ((by rw [hg];exact (zB (by repeat (with_reducible first|exact HB.out|apply za|apply zb|apply zc))) : w.heap.size≤gb417));replace HB:=zh (zC (by repeat (with_reducible first|exact HB.out|apply za|apply zb|apply zc)) hb);clear hb hbox hg;have hcz25_0 : w24.cell? ⟨gb417,0,none⟩=some (.slice A0_0 l0_0.length c0_0):=(zz BK417.out 0).trans rfl;have hcz25_1 : w24.cell? ⟨gb417,1,none⟩=some (.slice A0_1 l0_1.length c0_1):=(zz BK417.out 1).trans rfl;have hcz25_2 : w24.cell? ⟨gb417,2,none⟩=some (.slice A0_2 l0_2.length c0_2):=(zz BK417.out 2).trans rfl;have hcz25_3 : w24.cell? ⟨gb417,3,none⟩=some (.int .i64 a0_3):=(zz BK417.out 3).trans rfl;have hfz25_0:=zA BK417.out 0;have hfz25_1:=zA BK417.out 1;have hfz25_2:=zA BK417.out 2;have hfz25_3:=zA BK417.out 3)|((with_reducible refine zJ (f:=41) rfl ?_);refine yj (some 8) rfl rfl Try.func41 (by kernel_rfl) rfl #[.slice A0_0 l0_0.length c0_0,.int .i64 a1] rfl (by (try simp only [zt,zu,zv]);first|done|rfl|(simp only [zw,zx];rfl)|(simp only [yr,ys,zV,zW];rfl)) ?_;(with_reducible refine (F2.calls k  _ _ l0_0 a1 t418 _ ?side1 ?side2 A3.out).mono ?_);(case side1 => repeat (first|exact (Kd.C_below HR0_0.out HB.out)|(with_reducible refine Kd.C_alloc ?_ _)|(with_reducible refine Kd.C_drewN ?_ _)|(with_reducible refine Kd.C_drew ?_)));(case side2 => exact HC0_0.out);rintro e w26 ⟨rfl,hb⟩;refine ⟨_,rfl,?_⟩;replace BK417:=zh (zD (g:=gb417) (o:=.cells #[.slice A0_0 l0_0.length c0_0,.slice A0_1 l0_1.length c0_1,.slice A0_2 l0_2.length c0_2,.int .i64 a0_3] 43 (0,0)) (by (with_reducible repeat (first|refine ze ?_ _|refine zf ?_|refine zg ?_ _));exact BK417.out) hb);replace HB:=zh (zC (by repeat (with_reducible first|exact HB.out|apply za|apply zb|apply zc|refine zd ?_ GE417.out)) hb);(try clear hb);(try clear hb2);(try clear hk);(try clear hi);have hcz27_0 : w26.cell? ⟨gb417,0,none⟩=some (.slice A0_0 l0_0.length c0_0):=(zz BK417.out 0).trans rfl;have hcz27_1 : w26.cell? ⟨gb417,1,none⟩=some (.slice A0_1 l0_1.length c0_1):=(zz BK417.out 1).trans rfl;have hcz27_2 : w26.cell? ⟨gb417,2,none⟩=some (.slice A0_2 l0_2.length c0_2):=(zz BK417.out 2).trans rfl;have hcz27_3 : w26.cell? ⟨gb417,3,none⟩=some (.int .i64 a0_3):=(zz BK417.out 3).trans rfl;have hfz27_0:=zA BK417.out 0;have hfz27_1:=zA BK417.out 1;have hfz27_2:=zA BK417.out 2;have hfz27_3:=zA BK417.out 3)|((with_reducible refine zJ (f:=42) rfl ?_);refine yj (some 14) rfl rfl Try.func42 (by kernel_rfl) rfl #[.slice A0_1 l0_1.length c0_1,.int .i64 t418] rfl (by (try simp only [zt,zu,zv]);first|done|rfl|(simp only [zw,zx];rfl)|(simp only [yr,ys,zV,zW];rfl)) ?_;(with_reducible refine (Fj.calls k  _ _ l0_1 t418 t419 _ ?side1 ?side2 A8.out).mono ?_);(case side1 => repeat (first|exact (Kd.C_below HR0_1.out HB.out)|(with_reducible refine Kd.C_alloc ?_ _)|(with_reducible refine Kd.C_drewN ?_ _)|(with_reducible refine Kd.C_drew ?_)));(case side2 => exact HC0_1.out);rintro e w28 ⟨rfl,hb⟩;refine ⟨_,rfl,?_⟩;replace BK417:=zh (zD (g:=gb417) (o:=.cells #[.slice A0_0 l0_0.length c0_0,.slice A0_1 l0_1.length c0_1,.slice A0_2 l0_2.length c0_2,.int .i64 a0_3] 43 (0,0)) (by (with_reducible repeat (first|refine ze ?_ _|refine zf ?_|refine zg ?_ _));exact BK417.out) hb);replace HB:=zh (zC (by repeat (with_reducible first|exact HB.out|apply za|apply zb|apply zc|refine zd ?_ GE417.out)) hb);(try clear hb);(try clear hb2);(try clear hk);(try clear hi);have hcz29_0 : w28.cell? ⟨gb417,0,none⟩=some (.slice A0_0 l0_0.length c0_0):=(zz BK417.out 0).trans rfl;have hcz29_1 : w28.cell? ⟨gb417,1,none⟩=some (.slice A0_1 l0_1.length c0_1):=(zz BK417.out 1).trans rfl;have hcz29_2 : w28.cell? ⟨gb417,2,none⟩=some (.slice A0_2 l0_2.length c0_2):=(zz BK417.out 2).trans rfl;have hcz29_3 : w28.cell? ⟨gb417,3,none⟩=some (.int .i64 a0_3):=(zz BK417.out 3).trans rfl;have hfz29_0:=zA BK417.out 0;have hfz29_1:=zA BK417.out 1;have hfz29_2:=zA BK417.out 2;have hfz29_3:=zA BK417.out 3)|((with_reducible refine zJ (f:=43) rfl ?_);refine yj (some 20) rfl rfl Try.func43 (by kernel_rfl) rfl #[.slice A0_2 l0_2.length c0_2,.int .i64 t419] rfl (by (try simp only [zt,zu,zv]);first|done|rfl|(simp only [zw,zx];rfl)|(simp only [yr,ys,zV,zW];rfl)) ?_;(with_reducible refine (Fi.calls k  _ _ l0_2 t419 t420 _ ?side1 ?side2 A15.out).mono ?_);(case side1 => repeat (first|exact (Kd.C_below HR0_2.out HB.out)|(with_reducible refine Kd.C_alloc ?_ _)|(with_reducible refine Kd.C_drewN ?_ _)|(with_reducible refine Kd.C_drew ?_)));(case side2 => exact HC0_2.out);rintro e w30 ⟨rfl,hb⟩;refine ⟨_,rfl,?_⟩;replace BK417:=zh (zD (g:=gb417) (o:=.cells #[.slice A0_0 l0_0.length c0_0,.slice A0_1 l0_1.length c0_1,.slice A0_2 l0_2.length c0_2,.int .i64 a0_3] 43 (0,0)) (by (with_reducible repeat (first|refine ze ?_ _|refine zf ?_|refine zg ?_ _));exact BK417.out) hb);replace HB:=zh (zC (by repeat (with_reducible first|exact HB.out|apply za|apply zb|apply zc|refine zd ?_ GE417.out)) hb);(try clear hb);(try clear hb2);(try clear hk);(try clear hi)))
 go_ret
 exact ⟨by first|rfl|(simp [yt,yu] <;> rfl)|(simp [*,yt,yu] <;> rfl),by repeat (with_reducible first|exact HB.out|apply za|apply zb|apply zc|refine zd ?_ GE417.out)⟩

end Go.Proofs.Ytnppmokkdhgkgaa.Q
end
section
namespace Go.Proofs.Ytnppmokkdhgkgaa.Pure
open Go Go.RowKit Go.Proofs.Ytnppmokkdhgkgaa.Q Go.Proofs.YtnppmokkdhgkgaaW.PrintWords Go.Proofs.YtnppmokkdhgkgaaW.PrintLast Go.Proofs.YtnppmokkdhgkgaaW.PrintMore Go.Proofs.YtnppmokkdhgkgaaW.Pl
abbrev SCol:=S62
abbrev Sto:=List SCol×List S78×List S82×Int×Int
theorem rdS (l : List ByteArray) (i : Nat) (h : i<l.length) : rdOf ByteArray.empty l (i : Int)=l[i]:=rdOf_at _ l i h
noncomputable def cellS (i : Nat) : ByteArray:=mt (1 + (i : Int))
theorem mark_strings (l : List ByteArray) (hl : l.length≤1048576) : Eve (fun k => Fd.f k l 1) (1 + (l.length : Int),(List.range l.length).map cellS):=by
 simp only [Fd.f]
 refine ev_loop0 l (fun k (s : List ByteArray×Int) i => Fd.l0 k s.1 s.2 i) (fun _ _ _ => (1 + (l.length : Int),(List.range l.length).map cellS)) (fun i s => s.1.length=l.length∧s.2=1 + (i : Int) ∧ ∀ j,j<i→s.1[j]? = some (cellS j)) (fun s hs => ?_) (fun i hi s hs ih => ?_) (l,1) ⟨rfl,rfl,by intro j hj;omega⟩
 ·
  obtain ⟨h1,h2,h3⟩:=hs
  simp only [Fd.l0]
  exact Eve.ite (fun h => absurd h (by omega)) (fun _ => Eve.one.eq (by rw [h2,filled s.1 _ _ h1 h3]))
 ·
  obtain ⟨ys,x⟩:=s
  obtain ⟨h1,h2,h3⟩:=hs
  simp only at h1 h2 h3
  subst h2
  have e1 : wrap64 (1 + (i : Int) + 1)=1 + ((i + 1 : Nat) : Int):=by rw [w64 (by omega) (by omega)];omega
  simp only [Fd.l0,e1,Int.toNat_natCast,wi (show i≤9223372036854775806 by omega)]
  refine Eve.ite (fun _ => ?_) (fun h => absurd (by omega) h)
  refine Eve.bind (mt_tells _ (by omega) (by omega)) ?_
  refine Eve.ite (fun _ => ?_) (fun h => absurd (by omega) h)
  exact ih (ys.set i (cellS i),1 + ((i + 1 : Nat) : Int)) ⟨by simpa using h1,rfl,fill_next ys i cellS (by omega) h3⟩
def col (a : ByteArray) : SCol:=⟨a,[],[]⟩
def rise : Option ByteArray→List ByteArray→Int
 | _,[] => 0
 | p,a :: r => if nam a=true then (match p with|none => rise (some a) r|some q => if Op.bytesLess q.toList a.toList=true then rise (some a) r else 19) else 11
def prv (l : List ByteArray) (i : Nat) : Option ByteArray:=if i=0 then none else some (l.getD (i - 1) ByteArray.empty)
theorem prv_next (l : List ByteArray) (i : Nat) (h : i<l.length) : prv l (i + 1)=some l[i]:=by
 unfold prv
 rw [if_neg (by omega),Nat.add_sub_cancel,List.getD_eq_getElem?_getD,List.getElem?_eq_getElem h];rfl
theorem prv_at (l : List ByteArray) (i : Nat) (h : i<l.length) (h0 : 0<i) : prv l i=some (l[i - 1]'(by omega)):=by
 unfold prv
 rw [if_neg (by omega),List.getD_eq_getElem?_getD,List.getElem?_eq_getElem (by omega)];rfl
def fin (s : List SCol) (z : Int) : Sto:=if z=0 then (s,[],[],0,0) else ([],[],[],0,z)
def stoA (l : List ByteArray) : Sto:=if (l.length : Int) > 4096 then ([],[],[],0,2) else if decide (1≤(l.length : Int)) && decide ((l.length : Int)≤3) then fin (l.map col) (rise none l) else ([],[],[],0,6)
theorem in_s (a b c : Int) : Fw.f a b c=some (decide (b≤a) && decide (a≤c)):=by
 unfold Fw.f
 by_cases h : b≤a
 ·
  rw [if_pos h];simp [h]
 ·
  rw [if_neg h];simp [h]
theorem in_i (a b c : Int) : Fy.f a b c=some (decide (b≤a) && decide (a≤c)):=in_s a b c
theorem new_tells (l : List ByteArray) (hl : l.length≤1048576) : Eve (fun k => F5.f k l) (l.map col,[],[],0):=by
 simp only [F5.f]
 refine (ev_loop0 l (fun k (s : List SCol) i => F5.l0 k l i s [] [] 0) (fun _ s r => (s ++ r.map col,[],[],(0 : Int))) (fun i s => s.length=i) (fun s hs => ?_) (fun i hi s hs ih => ?_) [] rfl).eq (by simp)
 ·
  simp only [F5.l0]
  exact Eve.ite (fun h => absurd h (by omega)) (fun _ => Eve.one.eq (by simp))
 ·
  simp only [F5.l0,F02.f,Option.bind_some,rdS l i hi,wi (show i≤9223372036854775806 by omega)]
  refine Eve.ite (fun _ => ?_) (fun h => absurd (by omega) h)
  refine Eve.ite (fun _ => ?_) (fun h => absurd (by omega) h)
  refine Eve.ite (fun _ => ?_) (fun h => absurd (by omega) h)
  exact (ih (s ++ [col l[i]]) (by simp [hs])).eq (by simp only [List.append_assoc,List.map_cons,List.cons_append,List.nil_append])
theorem rise_ne (p : Option ByteArray) (a : ByteArray) (r : List ByteArray) (h : ¬ nam a=true) : rise p (a :: r)=11:=by simp only [rise,if_neg h]
theorem sto_spec (l : List ByteArray) (hs : ∀ x ∈ l,x.size≤1048576) : Eve (fun k => F8.f k l) (stoA l):=by
 simp only [F8.f,in_s,Option.bind_some]
 unfold stoA
 refine Eve.ite (fun h => Eve.one.eq (by rw [if_pos h])) (fun h => ?_)
 rw [if_neg h]
 refine Eve.ite (fun h2 => ?_) (fun h2 => Eve.one.eq (by rw [if_neg h2]))
 rw [if_pos h2]
 have hl : l.length≤1048576:=by omega
 refine ev_loop0 l (fun k (_ : Unit) i => F8.l0 k l i) (fun i _ r => fin (l.map col) (rise (prv l i) r)) (fun _ _ => True) (fun _ _ => ?_) (fun i hi _ _ ih => ?_) () trivial
 ·
  simp only [F8.l0]
  refine Eve.ite (fun h => absurd h (by omega)) (fun _ => ?_)
  exact Eve.bind (new_tells l hl) Eve.one
 ·
  have hx:=hs _ (List.getElem_mem hi)
  have hn:=ih () trivial
  rw [prv_next l i hi] at hn
  simp only [F8.l0,rdS l i hi,wi (show i≤9223372036854775806 by omega)]
  refine Eve.ite (fun _ => ?_) (fun h => absurd (by omega) h)
  refine Eve.ite (fun _ => ?_) (fun h => absurd (by omega) h)
  refine Eve.bind (nam_spec l[i] hx) ?_
  refine Eve.ite (fun h1 => ?_) (fun h1 => Eve.one.eq (by rw [rise_ne _ _ _ h1];rfl))
  refine Eve.ite (fun h0 => ?_) (fun h0 => ?_)
  ·
   have w : wrap64 ((i : Int) - 1)=((i - 1 : Nat) : Int):=by rw [w64 (by omega) (by omega)];omega
   rw [prv_at l i hi (by omega)]
   simp only [w,rdS l (i - 1) (by omega),rise,if_pos h1]
   refine Eve.ite (fun _ => ?_) (fun h => absurd (by omega) h)
   refine Eve.ite (fun _ => ?_) (fun h => absurd (by omega) h)
   exact Eve.ite (fun h3 => hn.eq (by rw [if_pos h3])) (fun h3 => Eve.one.eq (by rw [if_neg h3];rfl))
  ·
   obtain rfl : i=0:=by omega
   refine hn.eq ?_
   show _=fin _ (rise none _)
   simp only [rise,if_pos h1]
theorem sto_impl (l : List ByteArray) (hs : ∀ x ∈ l,x.size≤1048576) : Eve (fun k => F6.f k l) (stoA l):=by
 simp only [F6.f,in_i,Option.bind_some]
 unfold stoA
 refine Eve.ite (fun h => Eve.one.eq (by rw [if_pos h])) (fun h => ?_)
 rw [if_neg h]
 refine Eve.ite (fun h2 => ?_) (fun h2 => Eve.one.eq (by rw [if_neg h2]))
 rw [if_pos h2]
 have hl : l.length≤1048576:=by omega
 refine (ev_loop0 l (fun k (s : List SCol) i => F6.l0 k l l (l.length : Int) i s 0) (fun i s r => fin (s ++ r.map col) (rise (prv l i) r)) (fun i s => s.length=i) (fun s _ => ?_) (fun i hi s hI ih => ?_) [] rfl).eq (by simp [prv])
 ·
  simp only [F6.l0]
  refine Eve.ite (fun h => absurd h (by omega)) (fun _ => Eve.one.eq ?_)
  simp [rise,fin]
 ·
  have hx:=hs _ (List.getElem_mem hi)
  have hn:=ih (s ++ [col l[i]]) (by simp [hI])
  rw [prv_next l i hi,List.append_assoc] at hn
  simp only [F6.l0,rdS l i hi,wi (show i≤9223372036854775806 by omega)]
  refine Eve.ite (fun _ => ?_) (fun h => absurd (by omega) h)
  refine Eve.ite (fun _ => ?_) (fun h => absurd (by omega) h)
  refine Eve.ite (fun _ => ?_) (fun h => absurd (by omega) h)
  refine Eve.bind (nam_impl l[i] hx) ?_
  refine Eve.ite (fun h1 => ?_) (fun h1 => Eve.one.eq (by rw [rise_ne _ _ _ h1];rfl))
  refine Eve.ite (fun h0 => ?_) (fun h0 => ?_)
  ·
   have w : wrap64 ((i : Int) - 1)=((i - 1 : Nat) : Int):=by rw [w64 (by omega) (by omega)];omega
   rw [prv_at l i hi (by omega)]
   simp only [w,rdS l (i - 1) (by omega),rise,if_pos h1]
   refine Eve.ite (fun _ => ?_) (fun h => absurd (by omega) h)
   refine Eve.ite (fun _ => ?_) (fun h => absurd (by omega) h)
   refine Eve.ite (fun h3 => Eve.ite (fun _ => hn.eq (by rw [if_pos h3];rfl)) (fun h => absurd (by omega) h)) (fun h3 => Eve.one.eq (by rw [if_neg h3];rfl))
  ·
   refine Eve.ite (fun _ => ?_) (fun h => absurd (by omega) h)
   obtain rfl : i=0:=by omega
   refine hn.eq ?_
   show _=fin _ (rise none _)
   simp only [rise,if_pos h1]
   rfl
def Bare (l : List SCol) : Prop:=∀ x ∈ l,x.f1=[]∧x.f2=[]
theorem fin_bare (l : List ByteArray) (z : Int) : Bare (fin (l.map col) z).1∧(fin (l.map col) z).2.1=[]∧(fin (l.map col) z).2.2.1=[]∧(fin (l.map col) z).1.length≤l.length∧(fin (l.map col) z).2.2.2.1=0:=by
 unfold fin
 split
 ·
  refine ⟨fun x hx => ?_,rfl,rfl,by simp,rfl⟩
  obtain ⟨a,_,rfl⟩:=List.mem_map.1 hx
  exact ⟨rfl,rfl⟩
 ·
  exact ⟨fun x hx => by simp at hx,rfl,rfl,by simp,rfl⟩
theorem sto_bare (l : List ByteArray) (hl : l.length≤1048576) : Bare (stoA l).1∧(stoA l).2.1=[]∧(stoA l).2.2.1=[]∧(stoA l).1.length≤1048576:=by
 unfold stoA
 split
 ·
  exact ⟨fun x hx => by simp at hx,rfl,rfl,by simp⟩
 split
 ·
  obtain ⟨h1,h2,h3,h4,_⟩:=fin_bare l (rise none l)
  exact ⟨h1,h2,h3,by omega⟩
 ·
  exact ⟨fun x hx => by simp at hx,rfl,rfl,by simp⟩
theorem rdC (l : List SCol) (i : Nat) (h : i<l.length) : rd_T62 l (i : Int)=l[i]:=getD_at _ l i h
theorem eq_col (a : ByteArray) : Eve (fun k => F0.f k a [] [] a [] []) true:=by
 have h1 : Eve (fun k => Fl.f k [] []) true:=by
  simp only [Fl.f,List.length_nil,if_true]
  refine Eve.succ ?_
  simp only [Fl.l0,List.length_nil]
  exact Eve.ite (fun h => absurd h (by omega)) (fun _ => Eve.one)
 have h2 : Eve (fun k => Ff.f k [] []) true:=by
  simp only [Ff.f,List.length_nil,if_true]
  refine Eve.succ ?_
  simp only [Ff.l0,List.length_nil]
  exact Eve.ite (fun h => absurd h (by omega)) (fun _ => Eve.one)
 simp only [F0.f,if_true]
 refine Eve.bind h1 ?_
 simp only [if_true]
 refine Eve.bind h2 ?_
 simp only [if_true]
 exact Eve.one
theorem eq_cols (l : List SCol) (hb : Bare l) (hl : l.length≤1048576) : Eve (fun k => F3.f k l l) true:=by
 simp only [F3.f,if_true]
 have:=ev_all l (fun k i => F3.l0 k l l i) (fun _ => true) (by
  simp only [F3.l0]
  exact Eve.ite (fun h => absurd h (by omega)) (fun _ => Eve.one)) (fun i hi v ih => by
  obtain ⟨e1,e2⟩:=hb _ (List.getElem_mem hi)
  simp only [F3.l0,rdC l i hi,e1,e2,wi (show i≤9223372036854775806 by omega)]
  refine Eve.ite (fun _ => ?_) (fun h => absurd (by omega) h)
  refine Eve.ite (fun _ => ?_) (fun h => absurd (by omega) h)
  refine Eve.ite (fun _ => ?_) (fun h => absurd (by omega) h)
  refine Eve.bind (eq_col l[i].f0) ?_
  simp only [if_true,Bool.true_and]
  exact ih)
 exact this.eq (List.all_eq_true.2 (fun _ _ => rfl))
theorem eq_sto (l : List SCol) (c : Int) (hb : Bare l) (hl : l.length≤1048576) : Eve (fun k => Fs.f k l [] [] c l [] [] c) true:=by
 have h1 : Eve (fun k => Fc.f k [] []) true:=by
  simp only [Fc.f,List.length_nil,if_true]
  refine Eve.succ ?_
  simp only [Fc.l0,List.length_nil]
  exact Eve.ite (fun h => absurd h (by omega)) (fun _ => Eve.one)
 have h2 : Eve (fun k => Fa.f k [] []) true:=by
  simp only [Fa.f,List.length_nil,if_true]
  refine Eve.succ ?_
  simp only [Fa.l0,List.length_nil]
  exact Eve.ite (fun h => absurd h (by omega)) (fun _ => Eve.one)
 simp only [Fs.f,if_true]
 refine Eve.bind (eq_cols l hb hl) ?_
 simp only [if_true]
 refine Eve.bind h1 ?_
 simp only [if_true]
 refine Eve.bind h2 ?_
 simp only [if_true]
 exact Eve.one
noncomputable def cellC (i : Nat) : SCol:=⟨mt (1 + (i : Int)),[],[]⟩
theorem chain_mark (v : Int) : Eve (fun k => Fn.f k [] v) v:=by
 simp only [Fn.f]
 refine Eve.succ ?_
 simp only [Fn.l0,List.length_nil]
 exact Eve.ite (fun h => absurd h (by omega)) (fun _ => Eve.one)
theorem def_mark (v : Int) : Eve (fun k => Fk.f k [] v) v:=by
 simp only [Fk.f]
 refine Eve.succ ?_
 simp only [Fk.l0,List.length_nil]
 exact Eve.ite (fun h => absurd h (by omega)) (fun _ => Eve.one)
theorem mark_cols (l : List SCol) (hb : Bare l) (hl : l.length≤1048576) : Eve (fun k => Fb.f k l 1) (1 + (l.length : Int),(List.range l.length).map cellC):=by
 simp only [Fb.f]
 refine ev_loop0 l (fun k (s : List SCol×Int) i => Fb.l0 k s.1 s.2 i) (fun _ _ _ => (1 + (l.length : Int),(List.range l.length).map cellC)) (fun i s => s.1.length=l.length∧s.2=1 + (i : Int)∧Bare s.1 ∧ ∀ j,j<i→s.1[j]? = some (cellC j)) (fun s hs => ?_) (fun i hi s hs ih => ?_) (l,1) ⟨rfl,rfl,hb,by intro j hj;omega⟩
 ·
  obtain ⟨h1,h2,_,h3⟩:=hs
  simp only [Fb.l0]
  exact Eve.ite (fun h => absurd h (by omega)) (fun _ => Eve.one.eq (by rw [h2,filled s.1 _ _ h1 h3]))
 ·
  obtain ⟨ys,x⟩:=s
  obtain ⟨h1,h2,hbs,h3⟩:=hs
  simp only at h1 h2 h3 hbs
  subst h2
  have hy : i<ys.length:=by omega
  obtain ⟨e1,e2⟩:=hbs _ (List.getElem_mem hy)
  have e3 : wrap64 (1 + (i : Int) + 1)=1 + ((i + 1 : Nat) : Int):=by rw [w64 (by omega) (by omega)];omega
  have hr : rd_T62 (ys.set i (cellC i)) (i : Int)=cellC i:=by rw [rdC _ i (by simpa using hy),List.getElem_set_self]
  simp only [Fb.l0,Option.bind_some,Int.toNat_natCast,rdC ys i hy,e1,e2,e3,wi (show i≤9223372036854775806 by omega)]
  refine Eve.ite (fun _ => ?_) (fun h => absurd (by omega) h)
  refine Eve.bind (mt_tells _ (by omega) (by omega)) ?_
  refine Eve.ite (fun _ => ?_) (fun h => absurd (by omega) h)
  have hc : (⟨mt (1 + (i : Int)),[],[]⟩ : SCol)=cellC i:=rfl
  simp only [hc,hr]
  refine Eve.bind (chain_mark _) ?_
  refine Eve.bind (def_mark _) ?_
  refine ih (ys.set i (cellC i),1 + ((i + 1 : Nat) : Int)) ⟨by simpa using h1,rfl,fun x hx => ?_,fill_next ys i cellC hy h3⟩
  rcases List.mem_or_eq_of_mem_set hx with hx|rfl
  ·
   exact hbs x hx
  ·
   exact ⟨rfl,rfl⟩
theorem chain_held (v : Int) : Eve (fun k => Fg.f k [] v) v:=by
 simp only [Fg.f]
 refine Eve.succ ?_
 simp only [Fg.l0,List.length_nil]
 exact Eve.ite (fun h => absurd h (by omega)) (fun _ => Eve.one)
theorem def_held (v : Int) : Eve (fun k => Fh.f k [] v) v:=by
 simp only [Fh.f]
 refine Eve.succ ?_
 simp only [Fh.l0,List.length_nil]
 exact Eve.ite (fun h => absurd h (by omega)) (fun _ => Eve.one)
theorem held_cols (n : Nat) (hn : n≤1048576) : Eve (fun k => F2.f k ((List.range n).map cellC) 1) (1 + (n : Int)):=by
 have hlen : ((List.range n).map cellC).length=n:=by simp
 simp only [F2.f]
 refine ev_loop0 ((List.range n).map cellC) (fun k (s : Int) i => F2.l0 k ((List.range n).map cellC) s i) (fun _ _ _ => 1 + (n : Int)) (fun i s => s=1 + (i : Int)) (fun s hs => ?_) (fun i hi s hs ih => ?_) 1 rfl
 ·
  simp only [F2.l0]
  exact Eve.ite (fun h => absurd h (by omega)) (fun _ => Eve.one.eq (by rw [hs,hlen]))
 ·
  subst hs
  have hc : ((List.range n).map cellC)[i]=cellC i:=by simp
  have e1 : wrap64 (1 + (i : Int) + 1)=1 + ((i + 1 : Nat) : Int):=by rw [w64 (by omega) (by omega)];omega
  have c0 : (cellC i).f0=mt (1 + (i : Int)):=rfl
  have c1 : (cellC i).f1=[]:=rfl
  have c2 : (cellC i).f2=[]:=rfl
  simp only [F2.l0,e1,rdC _ i hi,hc,c0,c1,c2,wi (show i≤9223372036854775806 by omega)]
  refine Eve.ite (fun _ => ?_) (fun h => absurd (by omega) h)
  refine Eve.ite (fun _ => ?_) (fun h => absurd (by omega) h)
  refine Eve.bind (mt_tells _ (by omega) (by omega)) ?_
  refine Eve.ite (fun _ => ?_) (fun h => absurd rfl h)
  refine Eve.bind (chain_held _) ?_
  refine Eve.ite (fun h => absurd h (by omega)) (fun _ => ?_)
  refine Eve.bind (def_held _) ?_
  exact Eve.ite (fun h => absurd h (by omega)) (fun _ => ih _ rfl)
theorem mark_sto (l : List SCol) (c : Int) (hb : Bare l) (hl : l.length≤1048576) : Eve (fun k => Fu.f k l [] [] c 1) (1 + (l.length : Int),(List.range l.length).map cellC):=by
 have t : ∀ v : Int,Eve (fun k => Fp.f k [] v) v:=fun v => by
  simp only [Fp.f]
  refine Eve.succ ?_
  simp only [Fp.l0,List.length_nil]
  exact Eve.ite (fun h => absurd h (by omega)) (fun _ => Eve.one)
 have d : ∀ v : Int,Eve (fun k => Fo.f k [] v) v:=fun v => by
  simp only [Fo.f]
  refine Eve.succ ?_
  simp only [Fo.l0,List.length_nil]
  exact Eve.ite (fun h => absurd h (by omega)) (fun _ => Eve.one)
 simp only [Fu.f]
 refine Eve.bind (mark_cols l hb hl) ?_
 refine Eve.bind (t _) ?_
 exact Eve.bind (d _) Eve.one
theorem held_sto (n : Nat) (c : Int) (hn : n≤1048576) : Eve (fun k => Ft.f k ((List.range n).map cellC) [] [] c 1) (1 + (n : Int)):=by
 have t : ∀ v : Int,Eve (fun k => Fj.f k [] v) v:=fun v => by
  simp only [Fj.f]
  refine Eve.succ ?_
  simp only [Fj.l0,List.length_nil]
  exact Eve.ite (fun h => absurd h (by omega)) (fun _ => Eve.one)
 have d : ∀ v : Int,Eve (fun k => Fi.f k [] v) v:=fun v => by
  simp only [Fi.f]
  refine Eve.succ ?_
  simp only [Fi.l0,List.length_nil]
  exact Eve.ite (fun h => absurd h (by omega)) (fun _ => Eve.one)
 simp only [Ft.f]
 refine Eve.bind (held_cols n hn) ?_
 refine Eve.ite (fun h => absurd h (by omega)) (fun _ => ?_)
 refine Eve.bind (t _) ?_
 refine Eve.ite (fun h => absurd h (by omega)) (fun _ => ?_)
 refine Eve.bind (d _) ?_
 exact Eve.ite (fun h => absurd h (by omega)) (fun _ => Eve.one)
theorem store_all (l : List ByteArray) (hl : l.length≤9223372036854775807) (hg : ∀ x ∈ l,x.size≤9223372036854775807) :
  ∃ (k : Nat) (s : Int),Fe.f k l 1048576=some s∧(s<0∨(¬ s<0 ∧ ∃ (c cc : List SCol) (n z m1 mm : Int) (l2 : List ByteArray),
   F9.f k l=some l∧F8.f k l=some (c,[],[],n,z)∧F6.f k l=some (c,[],[],n,z) ∧
   Fs.f k c [] [] n c [] [] n=some true∧Fm.f k l l=some true∧Fd.f k l 1=some (m1,l2) ∧ ¬ m1<0 ∧
   Fu.f k c [] [] n 1=some (mm,cc)∧Ft.f k cc [] [] n 1=some mm ∧ ¬ mm<0)):=by
 obtain ⟨k0,hsz⟩:=Eve.of (fun k (hk : l.length<k) => szStringS_tells l hl hg (left:=1048576) (by omega) (by omega) hk)
 by_cases h : (1048576 : Int) - l.length<0
 ·
  rw [if_pos h] at hsz;exact ⟨k0,_,hsz k0 (Nat.le_refl _),.inl (by omega)⟩
 rw [if_neg h,less_is _ _ _ (by omega)] at hsz
 by_cases h2 : (1048576 : Int) - l.length<total ByteArray.size l
 ·
  rw [if_pos h2] at hsz;exact ⟨k0,_,hsz k0 (Nat.le_refl _),.inl (by omega)⟩
 rw [if_neg h2] at hsz
 obtain ⟨k2,hto⟩:=Eve.of (n:=l.length) (fun k (hk : l.length<k) => toStringS_tells l (by omega) hk)
 obtain ⟨k6,hsame⟩:=Eve.of (n:=l.length) (fun k (hk : l.length<k) => eqStringS_self l (by omega) hk)
 have hs : ∀ x ∈ l,x.size≤1048576:=fun x hx => by
  have:=total_le ByteArray.size l x hx
  omega
 have h1:=sto_spec l hs
 have h3:=sto_impl l hs
 obtain ⟨hb,e1,e2,hz⟩:=sto_bare l (by omega)
 generalize stoA l=s at h1 h3 hb e1 e2 hz
 obtain ⟨c,t,d,n,z⟩:=s
 simp only at hb e1 e2 hz
 subst e1
 subst e2
 obtain ⟨k5,heq⟩:=eq_sto c n hb hz
 obtain ⟨k3,h1⟩:=h1
 obtain ⟨k4,h3⟩:=h3
 obtain ⟨k7,hms⟩:=mark_strings l (by omega)
 obtain ⟨k8,hmk⟩:=mark_sto c n hb hz
 obtain ⟨k9,hhd⟩:=held_sto c.length n hz
 refine ⟨k0 + k2 + k3 + k4 + k5 + k6 + k7 + k8 + k9,_,hsz _ (by omega),.inr ⟨by omega,c,_,n,z,_,_,_,hto _ (by omega),h1 _ (by omega),h3 _ (by omega),heq _ (by omega),hsame _ (by omega),hms _ (by omega),by omega,hmk _ (by omega),hhd _ (by omega),by omega⟩⟩
end Go.Proofs.Ytnppmokkdhgkgaa.Pure
end
section
namespace Go.Proofs.Ytnppmokkdhgkgaa.Q
open Go.RowKit Go.Proofs.YtnppmokkdhgkgaaW.PrintWords Go.Proofs.YtnppmokkdhgkgaaW.PrintLast Go.Proofs.YtnppmokkdhgkgaaW.PrintMore
set_option linter.unusedVariables false
set_option linter.unusedSimpArgs false
theorem C_empty {α : Type} (d : Kd α) (w : World) (A : Option Addr) : d.C w A ([] : List α).length []:=⟨rfl,by simp,fun h => absurd h (by simp)⟩
theorem R_in {α : Type} {d : Kd α} {e : Nat} {w : World} {base : Nat} {ok : Nat→Prop} {v : Value} {xs : List α} (h : d.R e w base ok v xs) : d.R e w base (fun k => base≤k∧k<w.heap.size) v xs :=
 Kd.R_mono (Kd.R_bound h) (fun k hk => ⟨hk.2.1,hk.2.2.1⟩)
theorem cellB {w : World} {g : Nat} {t : TypeId} {cs : Array Value} (h : w.heap[g]? = some (.cells cs t (0,0))) (o : Obj) (i : Nat) : (w.alloc o).cell? ⟨g,i,none⟩=cs[i]?:=blk_cell (blk_alloc h o) i
set_option maxHeartbeats 8000000 in
set_option maxRecDepth 100000 in
theorem store_law (k : Nat) (A0 : Option Addr) (c0 : Nat) (l : List ByteArray) (W : World) (hr0 : Kd.C Kd.string W A0 l.length l) (hc0 : l.length≤c0) (s : Int) (c cc : List S62) (n z m1 mm : Int) (l2 : List ByteArray)
  (h1 : Fe.f k l 1048576=some s) (hs : ¬ s<0) (h2 : F9.f k l=some l) (h3 : F8.f k l=some (c,[],[],n,z)) (h4 : F6.f k l=some (c,[],[],n,z))
  (h5 : Fs.f k c [] [] n c [] [] n=some true) (h6 : Fm.f k l l=some true) (h7 : Fd.f k l 1=some (m1,l2)) (hm1 : ¬ m1<0)
  (h8 : Fu.f k c [] [] n 1=some (mm,cc)) (h9 : Ft.f k cc [] [] n 1=some mm) (hmm : ¬ mm<0) :
  Calls Try.prog 5 #[.slice A0 l.length c0] W fun e w' => e = .returned (.bool true)∧Below W.heap.size W w':=by
 have hu43:=Try.underlying43
 have hs' : decide (s<0)=false:=decide_eq_false hs
 have hm1' : decide (m1<0)=false:=decide_eq_false hm1
 have hmm' : decide (mm<0)=false:=decide_eq_false hmm
 go_enter Try.func5,Try.ntmps5
 go_wp2_with fail
 go_at_call 16
 refine (Fe.calls k A0 c0 l 1048576 s _ hr0 hc0 h1).mono ?_
 rintro e w1 ⟨rfl,hd1⟩
 have hb1:=hd1.below
 have hr1:=Kd.C_below hr0 hb1
 go_wp2_with fail
 go_at_call 18
 refine (F9.calls k A0 c0 l l _ hr1 hc0 h2).mono ?_
 rintro e w2 ⟨va,rfl,hRa,hb2⟩
 obtain ⟨Aa,ca,rfl,hca,hCa⟩:=Kd.R_reads hRa
 have hr2:=Kd.C_below hr1 hb2
 go_wp2_with fail
 go_at_call 17
 refine (F8.calls k Aa ca l c [] [] n z _ hCa hca h3).mono ?_
 rintro e w3 ⟨vs0,vs1,vs2,rfl,hS0,hS1,hS2,hb3⟩
 have hS:=R_in hS0
 obtain ⟨As0,cs0,rfl,hcs0,_⟩:=Kd.R_reads hS0
 obtain ⟨As1,cs1,rfl,hcs1,_⟩:=Kd.R_reads hS1
 obtain ⟨As2,cs2,rfl,hcs2,_⟩:=Kd.R_reads hS2
 have hr3:=Kd.C_below hr2 hb3
 have lt3 : w2.heap.size≤w3.heap.size:=hb3.size
 go_wp2_with fail
 go_at_call 18
 refine (F9.calls k A0 c0 l l _ (Kd.C_below hr3 (below_alloc (Below.refl _ _) _)) hc0 h2).mono ?_
 rintro e w4 ⟨vx,rfl,hRx,hb4⟩
 have hX:=R_in hRx
 obtain ⟨Ax,cx,rfl,hcx,hCx⟩:=Kd.R_reads hRx
 have hr4:=Kd.C_below (Kd.C_below hr3 (below_alloc (Below.refl _ _) _)) hb4
 have hS4:=Kd.R_below (Kd.R_alloc hS (.cells #[.slice As0 c.length cs0,.slice As1 0 cs1,.slice As2 0 cs2,.int .i64 n] 43)) hb4
 have B4 : w4.heap[w3.heap.size]? = some (.cells #[.slice As0 c.length cs0,.slice As1 0 cs1,.slice As2 0 cs2,.int .i64 n] 43 (0,0)):=blk_below (blk_new w3 _) hb4
 have lt4 : w3.heap.size<w4.heap.size:=blk_lt B4
 go_wp2_with fail
 go_at_call 19
 refine (F6.calls k Ax cx l c [] [] n z _ hCx hcx h4).mono ?_
 rintro e w5 ⟨vg0,vg1,vg2,rfl,hG0,hG1,hG2,hb5⟩
 have hG:=R_in hG0
 obtain ⟨Ag0,cg0,rfl,hcg0,hCg⟩:=Kd.R_reads hG0
 obtain ⟨Ag1,cg1,rfl,hcg1,_⟩:=Kd.R_reads hG1
 obtain ⟨Ag2,cg2,rfl,hcg2,_⟩:=Kd.R_reads hG2
 have hr5:=Kd.C_below hr4 hb5
 have hS5:=Kd.R_below hS4 hb5
 have hX5:=Kd.R_below hX hb5
 have B5:=blk_below B4 hb5
 have lt5 : w4.heap.size≤w5.heap.size:=hb5.size
 have q0:=cellB B5 (.cells #[.slice Ag0 c.length cg0,.slice Ag1 0 cg1,.slice Ag2 0 cg2,.int .i64 n] 43) 0
 have q1:=cellB B5 (.cells #[.slice Ag0 c.length cg0,.slice Ag1 0 cg1,.slice Ag2 0 cg2,.int .i64 n] 43) 1
 have q2:=cellB B5 (.cells #[.slice Ag0 c.length cg0,.slice Ag1 0 cg1,.slice Ag2 0 cg2,.int .i64 n] 43) 2
 have q3:=cellB B5 (.cells #[.slice Ag0 c.length cg0,.slice Ag1 0 cg1,.slice Ag2 0 cg2,.int .i64 n] 43) 3
 have hSr:=Kd.R_alloc hS5 (.cells #[.slice Ag0 c.length cg0,.slice Ag1 0 cg1,.slice Ag2 0 cg2,.int .i64 n] 43)
 have hGr:=Kd.R_alloc hG (.cells #[.slice Ag0 c.length cg0,.slice Ag1 0 cg1,.slice Ag2 0 cg2,.int .i64 n] 43)
 have hCs : Kd.C k62 (w5.alloc (.cells #[.slice Ag0 c.length cg0,.slice Ag1 0 cg1,.slice Ag2 0 cg2,.int .i64 n] 43)) As0 c.length c:=by
  obtain ⟨A',c',e',_,hC'⟩:=Kd.R_reads hSr
  injection e' with e1 _ _
  subst e1
  exact hC'
 have hCg6 : Kd.C k62 (w5.alloc (.cells #[.slice Ag0 c.length cg0,.slice Ag1 0 cg1,.slice Ag2 0 cg2,.int .i64 n] 43)) Ag0 c.length c:=by
  obtain ⟨A',c',e',_,hC'⟩:=Kd.R_reads hGr
  injection e' with e1 _ _
  subst e1
  exact hC'
 go_wp2_with fail
 go_at_call 20
 refine (Fs.calls k Ag0 cg0 c Ag1 cg1 [] Ag2 cg2 [] n As0 cs0 c As1 cs1 [] As2 cs2 [] n true _ hCg6 hcg0 (C_empty _ _ _) (Nat.zero_le _) (C_empty _ _ _) (Nat.zero_le _) hCs hcs0 (C_empty _ _ _) (Nat.zero_le _) (C_empty _ _ _) (Nat.zero_le _) h5).mono ?_
 rintro e w6 ⟨rfl,hb6⟩
 have hr6:=Kd.C_below (Kd.C_below hr5 (below_alloc (Below.refl _ _) _)) hb6
 have hS6:=Kd.R_below hSr hb6
 have hG6:=Kd.R_below hGr hb6
 have hX6:=Kd.R_below (Kd.R_alloc hX5 (.cells #[.slice Ag0 c.length cg0,.slice Ag1 0 cg1,.slice Ag2 0 cg2,.int .i64 n] 43)) hb6
 have B6:=blk_below (blk_alloc B5 (.cells #[.slice Ag0 c.length cg0,.slice Ag1 0 cg1,.slice Ag2 0 cg2,.int .i64 n] 43)) hb6
 have D6 : w6.heap[w5.heap.size]? = some (.cells #[.slice Ag0 c.length cg0,.slice Ag1 0 cg1,.slice Ag2 0 cg2,.int .i64 n] 43 (0,0)):=blk_below (blk_new w5 _) hb6
 have lt6 : w5.heap.size<w6.heap.size:=blk_lt D6
 go_wp2_with fail
 go_at_call 18
 refine (F9.calls k A0 c0 l l _ hr6 hc0 h2).mono ?_
 rintro e w7 ⟨vy,rfl,hRy,hb7⟩
 obtain ⟨Ay,cy,rfl,hcy,hCy⟩:=Kd.R_reads hRy
 have hr7:=Kd.C_below hr6 hb7
 have hS7:=Kd.R_below hS6 hb7
 have hG7:=Kd.R_below hG6 hb7
 have hX7:=Kd.R_below hX6 hb7
 have B7:=blk_below B6 hb7
 have D7:=blk_below D6 hb7
 have lt7 : w6.heap.size≤w7.heap.size:=hb7.size
 have hCx7 : Kd.C Kd.string w7 Ax l.length l:=by
  obtain ⟨A',c',e',_,hC'⟩:=Kd.R_reads hX7
  injection e' with e1 _ _
  subst e1
  exact hC'
 go_wp2_with fail
 go_at_call 21
 refine (Fm.calls k Ax cx l Ay cy l true _ hCx7 hcx hCy hcy h6).mono ?_
 rintro e w8 ⟨rfl,hd8⟩
 have hb8:=hd8.below
 have hr8:=Kd.C_below hr7 hb8
 have hS8:=Kd.R_below hS7 hb8
 have hG8:=Kd.R_below hG7 hb8
 have hX8:=Kd.R_below hX7 hb8
 have B8:=blk_below B7 hb8
 have D8:=blk_below D7 hb8
 have lt8 : w7.heap.size≤w8.heap.size:=hb8.size
 go_wp2_with fail
 have HB8 : Below (w3.alloc (.cells #[.slice As0 c.length cs0,.slice As1 0 cs1,.slice As2 0 cs2,.int .i64 n] 43)).heap.size (w3.alloc (.cells #[.slice As0 c.length cs0,.slice As1 0 cs1,.slice As2 0 cs2,.int .i64 n] 43)) w8:=below_step (below_step (below_step (below_step (below_step hb4 hb5) (below_alloc (Below.refl _ _) (.cells #[.slice Ag0 c.length cg0,.slice Ag1 0 cg1,.slice Ag2 0 cg2,.int .i64 n] 43))) hb6) hb7) hb8
 go_at_call 22
 refine (Fd.calls k _ _ l 1 m1 l2 (w3.alloc (.cells #[.slice As0 c.length cs0,.slice As1 0 cs1,.slice As2 0 cs2,.int .i64 n] 43)) w8 HB8 hX8 h7).mono ?_
 rintro e w9 ⟨rfl,_,HB9,hK9⟩
 have hz : (w3.alloc (.cells #[.slice As0 c.length cs0,.slice As1 0 cs1,.slice As2 0 cs2,.int .i64 n] 43)).heap.size=w3.heap.size + 1:=by simp
 have dG : ∀ j,(w4.heap.size≤j∧j<w5.heap.size) → ¬ ((w3.alloc (.cells #[.slice As0 c.length cs0,.slice As1 0 cs1,.slice As2 0 cs2,.int .i64 n] 43)).heap.size≤j∧j<w4.heap.size):=fun j hj hj2 => by omega
 have hG9:=Kd.R_kept hG8 hK9 dG
 have hS9:=Kd.R_below (Kd.R_alloc hS (.cells #[.slice As0 c.length cs0,.slice As1 0 cs1,.slice As2 0 cs2,.int .i64 n] 43)) HB9
 have B9:=blk_below (blk_new w3 (.cells #[.slice As0 c.length cs0,.slice As1 0 cs1,.slice As2 0 cs2,.int .i64 n] 43)) HB9
 have D9:=blk_kept D8 hK9 (fun hj => by omega)
 have hW3 : Below W.heap.size W w3:=below_step (below_step hb1 hb2) hb3
 have hW9 : Below W.heap.size W w9:=below_step (below_step hW3 (below_alloc (Below.refl _ _) (.cells #[.slice As0 c.length cs0,.slice As1 0 cs1,.slice As2 0 cs2,.int .i64 n] 43))) HB9
 have hr9:=Kd.C_below hr0 hW9
 have lt9 : w8.heap.size≤w9.heap.size:=hK9.1
 have p0:=blk_cell B9 0
 have p1:=blk_cell B9 1
 have p2:=blk_cell B9 2
 have p3:=blk_cell B9 3
 have d0:=blk_cell D9 0
 have d1:=blk_cell D9 1
 have d2:=blk_cell D9 2
 have d3:=blk_cell D9 3
 go_wp2_with fail
 go_at_call 20
 refine (Fs.calls k Ag0 cg0 c Ag1 cg1 [] Ag2 cg2 [] n As0 cs0 c As1 cs1 [] As2 cs2 [] n true _ (Kd.R_reads' hG9).2.2 hcg0 (C_empty _ _ _) (Nat.zero_le _) (C_empty _ _ _) (Nat.zero_le _) (Kd.R_reads' hS9).2.2 hcs0 (C_empty _ _ _) (Nat.zero_le _) (C_empty _ _ _) (Nat.zero_le _) h5).mono ?_
 rintro e w10 ⟨rfl,hb10⟩
 have hr10:=Kd.C_below hr9 hb10
 have hS10:=Kd.R_below hS9 hb10
 have hG10:=Kd.R_below hG9 hb10
 have B10:=blk_below B9 hb10
 have D10:=blk_below D9 hb10
 have lt10 : w9.heap.size≤w10.heap.size:=hb10.size
 clear p0 p1 p2 p3 d0 d1 d2 d3
 have d0:=blk_cell D10 0
 have d1:=blk_cell D10 1
 have d2:=blk_cell D10 2
 have d3:=blk_cell D10 3
 go_wp2_with fail
 have HB10 : Below (w3.alloc (.cells #[.slice As0 c.length cs0,.slice As1 0 cs1,.slice As2 0 cs2,.int .i64 n] 43)).heap.size (w3.alloc (.cells #[.slice As0 c.length cs0,.slice As1 0 cs1,.slice As2 0 cs2,.int .i64 n] 43)) w10:=below_step HB9 hb10
 go_at_call 23
 refine (Fu.calls k _ _ c Ag1 cg1 [] Ag2 cg2 [] n 1 mm cc (w3.alloc (.cells #[.slice As0 c.length cs0,.slice As1 0 cs1,.slice As2 0 cs2,.int .i64 n] 43)) w10 HB10 (Kd.R_lower hG10 (by omega)) (fun _ _ => C_empty _ _ _) (Nat.zero_le _) (fun _ _ => C_empty _ _ _) (Nat.zero_le _) h8).mono ?_
 rintro e w11 ⟨rfl,hG11,HB11,hK11⟩
 have hlen : cc.length=c.length:=((Kd.R_reads' hG11).1).symm
 have hS11:=Kd.R_below (Kd.R_alloc hS (.cells #[.slice As0 c.length cs0,.slice As1 0 cs1,.slice As2 0 cs2,.int .i64 n] 43)) HB11
 have B11:=blk_below (blk_new w3 (.cells #[.slice As0 c.length cs0,.slice As1 0 cs1,.slice As2 0 cs2,.int .i64 n] 43)) HB11
 have D11:=blk_kept D10 hK11 (fun hj => by omega)
 have hW11 : Below W.heap.size W w11:=below_step (below_step hW3 (below_alloc (Below.refl _ _) (.cells #[.slice As0 c.length cs0,.slice As1 0 cs1,.slice As2 0 cs2,.int .i64 n] 43))) HB11
 have hr11:=Kd.C_below hr0 hW11
 have lt11 : w10.heap.size≤w11.heap.size:=hK11.1
 clear d0 d1 d2 d3
 have d0:=blk_cell D11 0
 have d1:=blk_cell D11 1
 have d2:=blk_cell D11 2
 have d3:=blk_cell D11 3
 go_wp2_with fail
 go_at_call 24
 rw [← hlen] at hG11 hcg0 ⊢
 refine (Ft.calls k Ag0 cg0 cc Ag1 cg1 [] Ag2 cg2 [] n 1 mm _ (Kd.R_reads' hG11).2.2 hcg0 (C_empty _ _ _) (Nat.zero_le _) (C_empty _ _ _) (Nat.zero_le _) h9).mono ?_
 rintro e w12 ⟨rfl,hb12⟩
 have hr12:=Kd.C_below hr11 hb12
 have hS12:=Kd.R_below hS11 hb12
 have B12:=blk_below B11 hb12
 have lt12 : w11.heap.size≤w12.heap.size:=hb12.size
 go_wp2_with fail
 go_at_call 18
 refine (F9.calls k A0 c0 l l _ hr12 hc0 h2).mono ?_
 rintro e w13 ⟨vh,rfl,hRh,hb13⟩
 obtain ⟨Ah,ch,rfl,hch,hCh⟩:=Kd.R_reads hRh
 have hr13:=Kd.C_below hr12 hb13
 have hS13:=Kd.R_below hS12 hb13
 have B13:=blk_below B12 hb13
 have lt13 : w12.heap.size≤w13.heap.size:=hb13.size
 go_wp2_with fail
 go_at_call 19
 refine (F6.calls k Ah ch l c [] [] n z _ hCh hch h4).mono ?_
 rintro e w14 ⟨vh0,vh1,vh2,rfl,hH0,hH1,hH2,hb14⟩
 obtain ⟨Ah0,ch0,rfl,hch0,hCh0⟩:=Kd.R_reads hH0
 obtain ⟨Ah1,ch1,rfl,hch1,_⟩:=Kd.R_reads hH1
 obtain ⟨Ah2,ch2,rfl,hch2,_⟩:=Kd.R_reads hH2
 have hS14:=Kd.R_below hS13 hb14
 have B14:=blk_below B13 hb14
 have lt14 : w13.heap.size≤w14.heap.size:=hb14.size
 have e0:=cellB B14 (.cells #[.slice Ah0 c.length ch0,.slice Ah1 0 ch1,.slice Ah2 0 ch2,.int .i64 n] 43) 0
 have e1:=cellB B14 (.cells #[.slice Ah0 c.length ch0,.slice Ah1 0 ch1,.slice Ah2 0 ch2,.int .i64 n] 43) 1
 have e2:=cellB B14 (.cells #[.slice Ah0 c.length ch0,.slice Ah1 0 ch1,.slice Ah2 0 ch2,.int .i64 n] 43) 2
 have e3:=cellB B14 (.cells #[.slice Ah0 c.length ch0,.slice Ah1 0 ch1,.slice Ah2 0 ch2,.int .i64 n] 43) 3
 go_wp2_with fail
 go_at_call 20
 refine (Fs.calls k Ah0 ch0 c Ah1 ch1 [] Ah2 ch2 [] n As0 cs0 c As1 cs1 [] As2 cs2 [] n true _ (Kd.C_alloc hCh0 _) hch0 (C_empty _ _ _) (Nat.zero_le _) (C_empty _ _ _) (Nat.zero_le _) (Kd.R_reads' (Kd.R_alloc hS14 (.cells #[.slice Ah0 c.length ch0,.slice Ah1 0 ch1,.slice Ah2 0 ch2,.int .i64 n] 43))).2.2 hcs0 (C_empty _ _ _) (Nat.zero_le _) (C_empty _ _ _) (Nat.zero_le _) h5).mono ?_
 rintro e w15 ⟨rfl,hb15⟩
 have D15:=blk_below (blk_alloc (blk_below (blk_below (blk_below D11 hb12) hb13) hb14) (.cells #[.slice Ah0 c.length ch0,.slice Ah1 0 ch1,.slice Ah2 0 ch2,.int .i64 n] 43)) hb15
 have hG15:=Kd.R_below (Kd.R_alloc (Kd.R_below (Kd.R_below (Kd.R_below hG11 hb12) hb13) hb14) (.cells #[.slice Ah0 c.length ch0,.slice Ah1 0 ch1,.slice Ah2 0 ch2,.int .i64 n] 43)) hb15
 clear d0 d1 d2 d3 e0 e1 e2 e3
 have d0:=blk_cell D15 0
 have d1:=blk_cell D15 1
 have d2:=blk_cell D15 2
 have d3:=blk_cell D15 3
 go_wp2_with fail
 go_at_call 24
 rw [← hlen]
 refine (Ft.calls k Ag0 cg0 cc Ag1 cg1 [] Ag2 cg2 [] n 1 mm _ (Kd.R_reads' hG15).2.2 hcg0 (C_empty _ _ _) (Nat.zero_le _) (C_empty _ _ _) (Nat.zero_le _) h9).mono ?_
 rintro e w16 ⟨rfl,hb16⟩
 go_wp2
 go_ret
 exact ⟨rfl,below_step (below_step (below_step (below_step (below_step (below_step hW11 hb12) hb13) hb14) (below_alloc (Below.refl _ _) _)) hb15) hb16⟩
set_option maxHeartbeats 4000000 in
set_option maxRecDepth 100000 in
theorem store_small (k : Nat) (A0 : Option Addr) (c0 : Nat) (l : List ByteArray) (W : World) (hr0 : Kd.C Kd.string W A0 l.length l) (hc0 : l.length≤c0) (s : Int)
  (h1 : Fe.f k l 1048576=some s) (hs : s<0) :
  Calls Try.prog 5 #[.slice A0 l.length c0] W fun e w' => e = .returned (.bool true)∧Below W.heap.size W w':=by
 have hs' : decide (s<0)=true:=decide_eq_true hs
 go_enter Try.func5,Try.ntmps5
 go_wp2_with fail
 go_at_call 16
 refine (Fe.calls k A0 c0 l 1048576 s _ hr0 hc0 h1).mono ?_
 rintro e w1 ⟨rfl,hd1⟩
 go_wp2
 go_ret
 exact ⟨rfl,hd1.below⟩
theorem store_walk (A0 : Option Addr) (c0 : Nat) (l : List ByteArray) (W : World) (hr0 : Kd.C Kd.string W A0 l.length l) (hc0 : l.length≤c0) (hl : l.length≤9223372036854775807) (hg : ∀ x ∈ l,x.size≤9223372036854775807) :
  Calls Try.prog 5 #[.slice A0 l.length c0] W fun e w' => e = .returned (.bool true)∧Below W.heap.size W w':=by
 obtain ⟨k,s,h1,hs|⟨hs,c,cc,n,z,m1,mm,l2,h2,h3,h4,h5,h6,h7,hm1,h8,h9,hmm⟩⟩:=Pure.store_all l hl hg
 ·
  exact store_small k A0 c0 l W hr0 hc0 s h1 hs
 ·
  exact store_law k A0 c0 l W hr0 hc0 s c cc n z m1 mm l2 h1 hs h2 h3 h4 h5 h6 h7 hm1 h8 h9 hmm
end Go.Proofs.Ytnppmokkdhgkgaa.Q
end
section
namespace Go.Proofs.YtnppmokkdhgkgaaW.PrintOpen
open Go.RowKit Go.ChangeShapes Go.WideShapes Go.ChangeAt Go.Proofs.YtnppmokkdhgkgaaW.PrintWords
def Opens {α : Type} (P : Program) (d : Kd α) (t : TypeId) (good : α→Prop) : Prop :=
 ∀ (H : Type) (enc : TypeId×Value→H) (w : World) (base : Nat) (spare : Nat→Bool) (held : Bool) (fuel : Nat) (cs : List Value) (x : DataW H×List MemPlace),
  DataW.trod enc P w base spare held fuel t cs=some x → ∃ a,d.K w a cs∧good a
variable {P : Program}
theorem opens_string {t : TypeId} (ht : P.underlying t=some .string) : Opens P Kd.string t (fun s => s.size≤9223372036854775807):=by
 intro H enc w base spare held fuel cs x h;obtain ⟨s,hcs,_,hs⟩:=DataW.trod_string ht h;exact ⟨s,hcs,by unfold maxLen at hs;exact hs⟩
theorem opens_slice {α : Type} {t e : TypeId} {d : Kd α} {g : α→Prop} (ht : P.underlying t=some (.slice e)) (hc : P.cellsOf e=d.sz) (he : Opens P d e g) :
  Opens P (Kd.slice e d) t (fun l => l.length≤9223372036854775807 ∧ ∀ x ∈ l,g x):=by
 intro H enc w base spare held fuel cs x h;rcases Deep.open_slice ht h with ⟨rfl,_⟩|⟨a,len,cap,m,n,D,Pl,rfl,_,hl,hm,hmm,_,hx⟩
 ·
  exact ⟨[],⟨none,0,rfl,Nat.le_refl _,rfl,by simp,fun h0 => absurd h0 (by simp)⟩,by simp,by simp⟩
 have hlm : len≤m:=by rw [hmm];split <;> omega
 have hall : ∀ i : Fin len,∃ v : α×List Value,w.cells? base (a.add (i.1 * P.cellsOf e)) (P.cellsOf e)=some v.2∧d.K w v.1 v.2∧g v.1:=fun i => by
  obtain ⟨cs',h1,h2⟩:=hx i.1 (by have:=i.2;omega);obtain ⟨a',hk,hg⟩:=he H enc w base spare held n cs' _ h2;exact ⟨(a',cs'),h1,hk,hg⟩
 obtain ⟨V,hV⟩:=Classical.axiomOfChoice hall;have hmax : len≤9223372036854775807:=by unfold maxLen at hm;omega
 have hlen : (List.ofFn fun i => (V i).1).length=len:=List.length_ofFn;refine ⟨List.ofFn fun i => (V i).1,⟨some a,cap,by rw [hlen],by rw [hlen];exact hl,rfl,by rw [hlen];exact hmax,fun _ => ⟨a,rfl,?_⟩⟩,by rw [hlen];exact hmax,?_⟩
 ·
  intro j p hj
  have hjl : j<len:=by
   have:=(List.getElem?_eq_some_iff.1 hj).1
   omega
  rw [List.getElem?_ofFn,dif_pos hjl] at hj;obtain rfl:=Option.some.inj hj;obtain ⟨h1,h2,_⟩:=hV ⟨j,hjl⟩;obtain ⟨_,hlen2,hcell⟩:=World.cells?_some h1;refine ⟨(V ⟨j,hjl⟩).2,by rw [← hc];exact hlen2,h2,fun q u hu => ?_⟩
  have hq : q<P.cellsOf e:=by
   have:=(List.getElem?_eq_some_iff.1 hu).1
   omega
  have h3:=hcell q hq;rw [Deep.add_add,hu,hc] at h3;exact h3
 intro x hx;obtain ⟨i,rfl⟩:=List.mem_ofFn.1 hx;exact (hV i).2.2
def OpensF {α : Type} (P : Program) (d : Kd α) (fs : List Field) (off : Nat) (good : α→Prop) : Prop :=
 ∀ (H : Type) (enc : TypeId×Value→H) (w : World) (base : Nat) (spare : Nat→Bool) (held : Bool) (fuel : Nat) (cs : List Value),off + d.sz≤cs.length →
  (∀ f ∈ fs,∃ x,DataW.trod enc P w base spare held fuel f.type ((cs.drop f.offset).take (P.cellsOf f.type))=some x) → ∃ a,d.K w a ((cs.drop off).take d.sz)∧good a
theorem arg_slice {α : Type} {d : Kd α} {t e : TypeId} {g : List α→Prop} {H : Type} {enc : TypeId×Value→H} {w : World} {base b0 : Nat} {spare : Nat→Bool} {held : Bool} {r : Reach} {v : Value} {dd : DataW H} {p : List MemPlace}
  (ht : P.underlying t=some (.slice e)) (h : Opens P (Kd.slice e d) t g) (hv : Value.okWide P w r b0 t v) (hd : DataW.Trod enc P w base spare held t v dd p) :
  ∃ (l : List α) (A : Option Addr) (c : Nat),v = .slice A l.length c∧l.length≤c∧Kd.C d w A l.length l∧g l:=by
 obtain ⟨a,len,cap,rfl⟩:=okWide_slice ht hv;obtain ⟨fuel,hf⟩:=hd;obtain ⟨l,⟨A,c,he,hl,hc⟩,hg⟩:=h H enc w base spare held fuel _ _ hf;simp [Value.cells] at he;obtain ⟨rfl,rfl,rfl⟩:=he;exact ⟨l,a,cap,rfl,hl,hc,hg⟩
end Go.Proofs.YtnppmokkdhgkgaaW.PrintOpen
end
section
namespace Go.Proofs.Ytnppmokkdhgkgaa.fnExactNewStore
open Go.ChangeShapes Go.WideShapes Go.ChangeAt Go.RowKit Go.Proofs.YtnppmokkdhgkgaaW.PrintWords Go.Proofs.YtnppmokkdhgkgaaW.PrintOpen Go.Proofs.Ytnppmokkdhgkgaa.Q
open Go.ChangeMaps (open_string shut_string)
set_option linter.unusedVariables false
theorem own : ownKnob Try.prog.godebug=none:=by kernel_rfl
theorem laidOut : laidOutB Try.prog=true:=by kernel_rfl
set_option maxRecDepth 100000 in
theorem lifted (os : Os) (started : os.Started) (H : Type) (enc : TypeId×Value→H) :
  ReturnsInHanded {} Try.checked os 5 .any (Rows.fnExactNewStoreSpec.pre6 enc Try.prog Try.f5 Rows.fnExactNewStoreRow.domain false) (Rows.fnExactNewStoreSpec.post enc Try.prog Try.f5 false true false false):=by
 refine returnsInHanded_of_change_sized (C:=Try.checked) own started (by kernel_rfl) Try.func5
  (ChangeSpec.witness6 (enc:=enc) (C:=Try.checked) false ⟨#[],#[.slice none 0 0],[]⟩ 8 (by kernel_rfl) (by kernel_rfl) (by kernel_rfl) (by kernel_rfl)) ?_
 intro W base args ds gs before hval0 hW hcnd hsz0 _
 have hval : ∀ (j : Nat) t v,Try.f5.params[j]? = some t→args[j]? = some v→Value.okWide Try.prog W .any base t v:=hval0
 have hW':=hW
 obtain ⟨p,q,hA0,hV,rfl,hfz,hnd⟩:=hW
 have hA : DataW.TrodAll enc Try.prog W 0 (fun _ => true) true Try.f5.params.toList args.toList ds p:=hA0
 rw [Try.params5] at hA hval
 obtain ⟨v0,vs0,d0,ds0,p0,q0,hargs,rfl,rfl,h0,r0⟩:=trodAll_cons hA
 obtain ⟨rfl,rfl,rfl⟩:=trodAll_nil r0
 obtain rfl : args = #[v0]:=by cases args;simp_all
 obtain ⟨rfl,rfl⟩:=trodVars_none hV
 have t0:=h0
 have lt0 : ∀ x ∈ p0,x.block<W.heap.size:=by obtain ⟨m,hm⟩:=t0;exact DataW.trod_lt m _ _ _ hm
 obtain ⟨x0,A0,c0,rfl,hl0,hc0,g0⟩:=arg_slice Try.underlying37 (opens_slice Try.underlying37 (by kernel_rfl) (opens_string Try.underlying9)) (hval 0 37 v0 rfl rfl) h0
 clear hA0 hval0 hsz0
 refine (store_walk A0 c0 x0 W hc0 hl0 g0.1 g0.2).mono fun e W' ⟨he,bel0⟩ => ?_
 have bel : Below W.heap.size W W':=bel0
 subst he
 exact ⟨_,rfl,_,_,_,[],_,[],hW',trodAll_mk1 (shut_bool Try.underlying4 _),(trodAll_cons_mk (Below.trod laidOut (by kernel_rfl) (of_decide_eq_true (by kernel_rfl)) t0 bel lt0) trodAll_mk0),rfl,bel.frame _,fun h => by cases h⟩
theorem over : Rows.fnExactNewStoreRow.holds Try.pinned (OpenSpec.ofChange Rows.fnExactNewStoreSpec) :=
 OpenClaim.holds_of_wide 5 Try.f5 rfl rfl rfl rfl rfl rfl rfl ⟨rfl,rfl,rfl,rfl,rfl⟩ rfl rfl rfl rfl rfl (by kernel_rfl) Try.func5 (by kernel_rfl)
  (of_decide_eq_true (by kernel_rfl)) (by unfold Func.isWrapper;first|(rw [if_pos (by decide +kernel)];kernel_rfl)|(rw [if_neg (by decide +kernel)];exact ⟨rfl,rfl⟩))
  (fun os started H enc _ => lifted os started H enc)
theorem proved : Rows.FnExactNewStoreSaid:=over
#print axioms proved
end Go.Proofs.Ytnppmokkdhgkgaa.fnExactNewStore
namespace Go.Proofs.Ytnppmokkdhgkgaa
theorem fnExactNewStore_holds : Rows.FnExactNewStoreSaid:=fnExactNewStore.proved
end Go.Proofs.Ytnppmokkdhgkgaa
end
