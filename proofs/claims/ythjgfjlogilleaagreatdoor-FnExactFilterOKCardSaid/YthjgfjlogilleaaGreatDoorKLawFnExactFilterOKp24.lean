/- Texts of this claim, merged by a program of this session. -/
import Derived.Test.YthjgfjlogilleaaGreatDoorKLawFnExactFilterOKp22
import Derived.Test.YthjgfjlogilleaaGreatDoorKLawFnExactFilterOKp23
section
namespace Go.Proofs.YthjgfjlogilleaaGreatDoor.Q
open Go.RowKit Go.Proofs.YthjgfjlogilleaaGreatDoorW.PrintWords Go.Proofs.YthjgfjlogilleaaGreatDoorW.PrintLast Go.Proofs.YthjgfjlogilleaaGreatDoorW.PrintMore
attribute [local go_sem] max2_int min2_int max_two min_two max_three min_three max_four min_four max2_str min2_str str_geq str_gtr str_leq   -- for this text's walks alone
set_option linter.unusedVariables false
set_option linter.unusedSimpArgs false

def laws_toClauseS.l0 : Nat→List (S61)→List (S46)→Int→Option ((List (S46)))
 | 0,_,_,_ => none
 | k + 1,x0,x3,x4 => if x4<(x0.length : Int) then (if 0≤x4 then ((laws_toClause.f k ((rd_T61 x0 x4).f0)).bind fun t231 => (if x4<(x3.length : Int) then (laws_toClauseS.l0 k x0 (x3.set (x4 : Int).toNat (⟨t231⟩ : S46)) (wrap64 (x4 + 1))) else (none))) else (none)) else (some x3)
def laws_toClauseS.f (k : Nat) (l0 : List (S61)) : Option ((List (S46))):=if 0≤(l0.length : Int) then (if ((l0.length : Int) : Int).toNat≤11728124029610 then (laws_toClauseS.l0 k l0 (List.replicate ((l0.length : Int) : Int).toNat z46) 0) else (none)) else (none)
theorem laws_toClauseS.mono_l : ∀ k,(∀ y0 y1 y2,LeO (laws_toClauseS.l0 k y0 y1 y2) (laws_toClauseS.l0 (k + 1) y0 y1 y2))
 | 0 => fun _ _ _ r h => by simp [laws_toClauseS.l0] at h
 | k + 1 => by
  have ih0:=laws_toClauseS.mono_l k;intro y0 y1 y2;unfold laws_toClauseS.l0
  repeat' first|(with_reducible exact ih0 _ _ _)|(with_reducible exact laws_toClause.mono _ _)|(with_reducible exact zQ _)|(with_reducible exact zN _)|(with_reducible refine zP ?_ ?_)|(with_reducible refine zO ?_ (fun _ => ?_))|refine zP ?_ ?_|refine zO ?_ (fun _ => ?_)
theorem laws_toClauseS.mono : ∀ a0 k,LeO (laws_toClauseS.f k a0) (laws_toClauseS.f (k + 1) a0):=by
 intro a0 k;have ih0:=laws_toClauseS.mono_l k;unfold laws_toClauseS.f
 repeat' first|(with_reducible exact ih0 _ _ _)|(with_reducible exact laws_toClause.mono _ _)|(with_reducible exact zQ _)|(with_reducible exact zN _)|(with_reducible refine zP ?_ ?_)|(with_reducible refine zO ?_ (fun _ => ?_))|refine zP ?_ ?_|refine zO ?_ (fun _ => ?_)
set_option maxHeartbeats 8000000 in
set_option maxRecDepth 100000 in
theorem laws_toClauseS.calls (k : Nat) (A0 : Option Addr) (c0 : Nat) (l0 : List (S61)) (r : List (S46)) (w : World) (hr0 : Kd.C k61 w A0 l0.length l0) (hc0 : l0.length≤c0) (h : laws_toClauseS.f k l0=some r) :
  Calls Tryz.prog 18 #[.slice A0 l0.length c0] w fun e w' => ∃ v0_ : Value,e = .returned (v0_)∧Kd.S k46 46 w' w.heap.size (fun _ => True) v0_ r∧Below w.heap.size w w':=by
 have hu61:=Tryz.underlying61;have hu46:=Tryz.underlying46;have HR0:=zh hr0;have HC0:=zh hc0;clear hr0 hc0;have HB:=zh (Below.refl w.heap.size w);have H : (if 0≤(l0.length : Int) then (if ((l0.length : Int) : Int).toNat≤11728124029610 then (laws_toClauseS.l0 k l0 (List.replicate ((l0.length : Int) : Int).toNat z46) 0) else (none)) else (none))=some r:=h;clear h
 by_cases c2 : 0≤(l0.length : Int)
 ·
  rw [if_pos c2] at H
  have c2b0:=eq_true c2;have c2b1 : decide (0≤(l0.length : Int))=true:=decide_eq_true c2;clear c2
  by_cases c3 : ((l0.length : Int) : Int).toNat≤11728124029610
  ·
   rw [if_pos c3] at H
   have c3b0:=eq_true c3;have c3b1 : decide (((l0.length : Int) : Int).toNat≤11728124029610)=true:=decide_eq_true c3;clear c3;obtain ⟨y227,hy227⟩ : ∃ y_ : List (S46),y_=(List.replicate ((l0.length : Int) : Int).toNat z46):=⟨_,rfl⟩;replace H : (laws_toClauseS.l0 k l0 y227 0)=some r:=by first|(rw [hy227];with_reducible exact H)|(have H2_:=(Option.bind_some _ _).symm.trans H;rw [hy227];with_reducible exact H2_)|(have H2_:=(Option.bind_some _ _).symm.trans H;with_reducible exact H2_)|with_reducible exact H|(rw [hy227];exact H)|exact H
   have Ny227:=zh hy227;clear hy227;have H':=zh H;clear H
   go_enter Tryz.func18,Tryz.ntmps18
   go_wp2_with (first|((with_reducible refine zK (N:=7) rfl ?_);refine Kd.S_make k46 _ 46 rfl (N:=7) rfl 27 _ _ rfl (l0.length : Int) rfl rfl Tryz.underlying27 (.agg #[(.slice none 0 0)]) 24 info46 rfl (by decide) (by omega) z46 (ok:=fun _ => True) (okp:=fun _ => True) (k46_mkM _ _ _ z46 (Kd.R_nil _ _ _ _ _)) (fun _ hk => hk) trivial (zy (by first|(with_reducible assumption)|assumption)) (Nat.le_trans (Nat.mul_le_mul_right _ (zy (by first|(with_reducible assumption)|assumption) : (l0.length : Int).toNat≤11728124029610)) (by omega)) (Below.refl _ _) (ye _) ?_;intro v228 w4 ho5 hb hg_ hnew_;clear hg_ hnew_;(first|rw [← Ny227.out] at ho5|(simp only [Int.reduceToNat] at ho5;rw [← Ny227.out] at ho5));have HO229:=zh (Kd.S_lower ho5 (zB (by repeat (with_reducible first|exact HB.out|apply za|apply zb|apply zc))));replace HB:=zh (zC (by repeat (with_reducible first|exact HB.out|apply za|apply zb|apply zc)) hb);clear hb ho5))
   go_loopg [4] k (fun kq v4 w' => ∃ (x3_1 : List (S46)) (x4_1 : Int),v4 = .int .i64 x4_1∧Aside0 (laws_toClauseS.l0 kq l0 x3_1 x4_1=some r)∧Aside0 (kq≤k)∧Aside0 (Kd.S k46 46 w' w.heap.size (fun _ => True) v228 x3_1)∧Aside0 (Below w.heap.size w w'))
   case atStart => exact ⟨(y227),(0),(by first|rfl|(simp;done)|(simp [*];done)),H',⟨ye _⟩,⟨by (with_reducible repeat (first|apply Kd.S_alloc|apply Kd.S_drewN|apply Kd.S_drew));exact HO229.out⟩,⟨by repeat (with_reducible first|exact HB.out|apply za|apply zb|apply zc)⟩⟩
   case round =>
    clear H'
    try clear c1
    try clear c2
    try clear c2b0
    try clear c2b1
    try clear p2
    try clear c3
    try clear c3b0
    try clear c3b1
    obtain ⟨x3_1,x4_1,rfl,HA,HK1,HO_3,HB⟩:=hrel
    cases gk with
    | zero => exact absurd HA.out (by simp [laws_toClauseS.l0])
    | succ k1 =>
     have H:=HA.out;clear HA;simp only [laws_toClauseS.l0] at H
     by_cases c6 : x4_1<(l0.length : Int)
     ·
      rw [if_pos c6] at H
      have c6b0 : decide (x4_1<(l0.length : Int))=true:=decide_eq_true c6;clear c6
      by_cases c7 : 0≤x4_1
      ·
       rw [if_pos c7] at H
       have c7b0 : decide (0≤x4_1)=true:=decide_eq_true c7;clear c7;replace H:=zT.mp H;obtain ⟨t231,A80,H⟩:=H;replace H : (if x4_1<(x3_1.length : Int) then (laws_toClauseS.l0 k1 l0 (x3_1.set (x4_1 : Int).toNat (⟨t231⟩ : S46)) (wrap64 (x4_1 + 1))) else (none))=some r:=H;have A8:=zh A80;clear A80
       by_cases c9 : x4_1<(x3_1.length : Int)
       ·
        rw [if_pos c9] at H
        have c9b0 : decide (x4_1<(x3_1.length : Int))=true:=decide_eq_true c9;clear c9;obtain ⟨y234,hy234⟩ : ∃ y_ : List (S46),y_=(x3_1.set (x4_1 : Int).toNat (⟨t231⟩ : S46)):=⟨_,rfl⟩;replace H : (laws_toClauseS.l0 k1 l0 y234 (wrap64 (x4_1 + 1)))=some r:=by first|(rw [hy234];with_reducible exact H)|(have H2_:=(Option.bind_some _ _).symm.trans H;rw [hy234];with_reducible exact H2_)|(have H2_:=(Option.bind_some _ _).symm.trans H;with_reducible exact H2_)|with_reducible exact H|(rw [hy234];exact H)|exact H
        have Ny234:=zh hy234;clear hy234;have H':=zh H;clear H;have p230 : 0≤(x4_1 : Int):=zy (by first|(with_reducible assumption)|assumption);have q230 : x4_1<(l0.length : Int):=zy (by first|(with_reducible assumption)|assumption);obtain ⟨ad230,A230_0,c230_0,e230,hx230_0,hl230_0,hi230_0⟩:=at_T61 HR0.out x4_1 p230 q230
        cases e230
        replace hx230_0:=(HB.out.cell (zl w _ hx230_0)).trans hx230_0;have HR230_0:=zh hi230_0;have HC230_0:=zh hl230_0;clear hi230_0 hl230_0;replace p230:=eq_true p230;replace q230:=eq_true q230
        go_wp2_with (first|((with_reducible refine zJ (f:=31) rfl ?_);refine yj (some 20) rfl rfl Tryz.func31 (by kernel_rfl) rfl #[.agg #[.slice A230_0 ((rd_T61 l0 x4_1).f0).length c230_0]] rfl (by (try simp only [zt,zu,zv]);first|done|rfl|(simp only [zw,zx];rfl)|(simp only [yr,ys,zV,zW];rfl)) ?_;(with_reducible refine (laws_toClause.calls k1  _ _ ((rd_T61 l0 x4_1).f0) t231 _ ?side1 ?side2 A8.out).mono ?_);(case side1 => repeat (first|exact (Kd.C_below HR230_0.out HB.out)|(with_reducible refine Kd.C_alloc ?_ _)|(with_reducible refine Kd.C_drewN ?_ _)|(with_reducible refine Kd.C_drew ?_)));(case side2 => exact HC230_0.out);rintro e w11 ⟨v232,rfl,ho0,hb⟩;refine ⟨_,rfl,?_⟩;replace HO_3:=zh (Kd.S_elder' (by (with_reducible repeat (first|apply Kd.S_alloc|apply Kd.S_drewN|apply Kd.S_drew));exact HO_3.out) (Kd.R_base ho0) hb);have HO233:=zh (yy ho0 (zB (by repeat (with_reducible first|exact HB.out|apply za|apply zb|apply zc))));replace HB:=zh (zC (by repeat (with_reducible first|exact HB.out|apply za|apply zb|apply zc)) hb);(try clear hb);(try clear hb2);(try clear hk);(try clear hi);(try clear ho0);have p10 : 0≤(x4_1 : Int):=zy (by first|(with_reducible assumption)|assumption);have q10 : (x4_1 : Int)<((x3_1.length : Int) : Int):=zy (by first|(with_reducible assumption)|assumption);obtain ⟨go10,co10,eo10,gb10,gl10,cl10,HG10⟩:=Kd.S_form HO_3.out (by omega);(first|cases eo10|(injection eo10 with ea_ en_ ec_;(first|subst ea_|(injection ea_ with ea_;subst ea_));subst ec_;clear en_));have GB10:=zh gb10;have GG10:=zh HG10;clear gb10 gl10 HG10;obtain ⟨_,ce10,hcl10,hM10,hcc10,hfr10,_,_⟩:=Kd.S_elem HO_3.out z46 (x4_1 : Int) p10 q10;obtain ⟨ve10_0,rfl,ge10_0⟩:=k46_openM hM10;have hx10_0:=hcc10 0 _ rfl;have hf10_0:=hfr10 0;(try simp only [show (k46).sz=1 from rfl,Nat.mul_one,Nat.add_zero] at hx10_0);(try simp only [show (k46).sz=1 from rfl,Nat.mul_one,Nat.add_zero] at hf10_0);clear hcl10 hcc10 hfr10 hM10;replace p10:=eq_true p10;replace q10:=eq_true q10;obtain ⟨Ao12,co12,eo12⟩:=yk HO233.out;subst eo12;have n_:=zh (Kd.S_mono (ok':=(fun k_ => some k_≠(.slice Ao12 t231.length co12 : Value).ownBlock)) HO_3.out (fun k_ hk => hk.2));clear HO_3;have HO_3:=n_;clear n_;have HX13:=zh (show Kd.S k46 46 w11 w.heap.size (fun k_ => ((fun _ => True)) k_ ∧ ¬ ((fun k_ => some k_=(.slice Ao12 t231.length co12 : Value).ownBlock)) k_) (.slice (some ⟨go10,0,none⟩) x3_1.length co10) x3_1 from (by (with_reducible repeat (first|apply Kd.S_alloc|apply Kd.S_drewN|apply Kd.S_drew));exact Kd.S_mono HO_3.out (fun k_ hk => ⟨trivial,fun e_ => hk e_⟩)));obtain ⟨oki13,ce13,hcl13,hM13,hcc13,hfr13,hoki13,hH13⟩:=Kd.S_elem HX13.out z46 (x4_1 : Int) (zy (by first|(with_reducible assumption)|assumption)) (by have h_ : (x4_1 : Int)<((x3_1.length : Int) : Int):=zy (by first|(with_reducible assumption)|assumption);first|exact h_|(have e_:=(Kd.S_reads' HO_3.out).1;omega)|simpa using h_);obtain ⟨ve13_0,rfl,ge13_0⟩:=k46_openM hM13;have HP13:=Kd.S_seg hH13 (zy (by first|(with_reducible assumption)|assumption)) (by have h_ : (x4_1 : Int)<((x3_1.length : Int) : Int):=zy (by first|(with_reducible assumption)|assumption);first|exact h_|(have e_:=(Kd.S_reads' HO_3.out).1;omega)|simpa using h_) (seg:=[.slice Ao12 t231.length co12]) (j:=0) (show 1≤1 from by decide) (x':=(⟨t231⟩ : S46)) (k46_mkM _ _ _ (⟨t231⟩ : S46) (zM (Kd.R_tight rfl (zM (ok':=fun k_ => ((fun _ => True)) k_∧k_≠go10) (Kd.R_apart' (HO233.out) (Kd.S_typed HO_3.out) (by decide)) (fun k_ hk => ⟨trivial,fun e_ => (hk.2) (by rw [e_];rfl)⟩))) (fun _ h_ => Or.inr (h_)))) (fun _ hk => hk) (fun k_ hk_ => ((zM (ok':=fun k_ => ((fun _ => True)) k_∧k_≠go10) (Kd.R_apart' (HO233.out) (Kd.S_typed HO_3.out) (by decide)) (fun k_ hk => ⟨trivial,fun e_ => (hk.2) (by rw [e_];rfl)⟩))).1 k_ hk_.symm);have hx13_0:=hcc13 0 _ rfl;(try simp only [show (k46).sz=1 from rfl,Nat.mul_one,Nat.add_zero] at hx13_0);have hf13_0:=hfr13 0;(try simp only [show (k46).sz=1 from rfl,Nat.mul_one,Nat.add_zero] at hf13_0);clear hcl13 hcc13 hfr13 hM13 hoki13 hH13;(try simp only [show (k46).sz=1 from rfl,Nat.mul_one,Nat.add_zero] at HP13))|((with_reducible refine gate_store (t:=46) (p:=21) rfl ?_);refine store_event (t:=46) (p:=21) (v:=?vo_w14) (w1:=(w11.setCell ⟨go10,(x4_1 : Int).toNat,none⟩ (.slice Ao12 t231.length co12))) ?hg ?ho ?hn ?hr ?_;(case ho => rfl);(case hg => rfl);(case hn => rfl);(case hr => first|(go_simp;done)|(go_simp;rfl));intro w14 hw;have hg : w11.grownBy w14 (some go10):=(by rw [hw];exact HP13.2);have hp_ : Kd.S k46 46 w14 w.heap.size (fun _ => True) (.slice (some ⟨go10,0,none⟩) x3_1.length co10) y234:=(by rw [hw,Ny234.out];exact HP13.1);clear HP13;replace HO_3:=zh (hp_);replace HB:=zh ((by rw [hw];exact zd (HB.out) GB10.out : Below w.heap.size w w14));clear HO233 hg hw hp_))
        go_roundg k1
        case measure => have:=HK1.out;omega
        case rel => exact ⟨(y234),(wrap64 (x4_1 + 1)),(by first|rfl|(simp;done)|(simp [*];done)),H',⟨by have:=HK1.out;omega⟩,⟨by (with_reducible repeat (first|apply Kd.S_alloc|apply Kd.S_drewN|apply Kd.S_drew));exact HO_3.out⟩,⟨by repeat (with_reducible first|exact HB.out|apply za|apply zb|apply zc)⟩⟩
       rw [if_neg c9] at H;exact absurd H (by simp)
      rw [if_neg c7] at H;exact absurd H (by simp)
     rw [if_neg c6] at H;have c6b0 : decide (x4_1<(l0.length : Int))=false:=decide_eq_false c6;clear c6;obtain rfl:=zU H
     go_wp2
     go_ret
     exact ⟨_,by first|rfl|(simp [yt,yu] <;> rfl)|(simp [*,yt,yu] <;> rfl),by (with_reducible repeat (first|apply Kd.S_alloc|apply Kd.S_drewN|apply Kd.S_drew));exact HO_3.out,by repeat (with_reducible first|exact HB.out|apply za|apply zb|apply zc)⟩
  rw [if_neg c3] at H;exact absurd H (by simp)
 rw [if_neg c2] at H;exact absurd H (by simp)

end Go.Proofs.YthjgfjlogilleaaGreatDoor.Q
end
section
namespace Go.Proofs.YthjgfjlogilleaaGreatDoor.Q
open Go.RowKit Go.Proofs.YthjgfjlogilleaaGreatDoorW.PrintWords Go.Proofs.YthjgfjlogilleaaGreatDoorW.PrintLast Go.Proofs.YthjgfjlogilleaaGreatDoorW.PrintMore
attribute [local go_sem] max2_int min2_int max_two min_two max_three min_three max_four min_four max2_str min2_str str_geq str_gtr str_leq   -- for this text's walks alone
set_option linter.unusedVariables false
set_option linter.unusedSimpArgs false

def laws_toFilter.f (k : Nat) (l0_0 : List (S61)) : Option ((List (S46))):=(laws_toClauseS.f k l0_0).bind fun t238 => (some t238)
theorem laws_toFilter.mono : ∀ a0 k,LeO (laws_toFilter.f k a0) (laws_toFilter.f (k + 1) a0):=by
 intro a0 k;unfold laws_toFilter.f
 repeat' first|(with_reducible exact laws_toClauseS.mono _ _)|(with_reducible exact zQ _)|(with_reducible exact zN _)|(with_reducible refine zP ?_ ?_)|(with_reducible refine zO ?_ (fun _ => ?_))|refine zP ?_ ?_|refine zO ?_ (fun _ => ?_)
set_option maxHeartbeats 8000000 in
set_option maxRecDepth 100000 in
theorem laws_toFilter.calls (k : Nat) (A0_0 : Option Addr) (c0_0 : Nat) (l0_0 : List (S61)) (r : List (S46)) (w : World) (hr0_0 : Kd.C k61 w A0_0 l0_0.length l0_0) (hc0_0 : l0_0.length≤c0_0) (h : laws_toFilter.f k l0_0=some r) :
  Calls Tryz.prog 7 #[.agg #[.slice A0_0 l0_0.length c0_0]] w fun e w' => ∃ v0_ : Value,e = .returned (.agg #[v0_])∧Kd.S k46 46 w' w.heap.size (fun _ => True) v0_ r∧Below w.heap.size w w':=by
 have hu24:=Tryz.underlying24;have hu29:=Tryz.underlying29;have HR0_0:=zh hr0_0;have HC0_0:=zh hc0_0;clear hr0_0 hc0_0;have HB:=zh (Below.refl w.heap.size w);have H : ((laws_toClauseS.f k l0_0).bind fun t238 => (some t238))=some r:=h;clear h;replace H:=zT.mp H;obtain ⟨t238,A20,H⟩:=H;replace H : (some t238)=some r:=H;have A2:=zh A20;clear A20;obtain rfl:=zU H
 go_enter Tryz.func7,Tryz.ntmps7
 go_wp2_with (first|((with_reducible refine zK (N:=1) rfl ?_);refine zI ?hg (N:=1) ?hd (cs:=#[.slice A0_0 l0_0.length c0_0]) (t:=24) ?hr ?_;(case hd => rfl);(case hg => rfl);(case hr => first|(go_simp;done)|(go_simp;rfl));intro gb235 hg w3 hbox hb;have BK235:=zh (hbox);have GW235:=zh ((by rw [hg];exact (zB (by repeat (with_reducible first|exact HB.out|apply za|apply zb|apply zc))) : w.heap.size≤gb235));have GE235:=zh ((by rw [hg];exact (zB (by repeat (with_reducible first|exact HB.out|apply za|apply zb|apply zc))) : w.heap.size≤gb235));replace HB:=zh (zC (by repeat (with_reducible first|exact HB.out|apply za|apply zb|apply zc)) hb);clear hb hbox hg)|((with_reducible refine zK (N:=2) rfl ?_);refine zI ?hg (N:=2) ?hd (cs:=#[.slice none 0 0]) (t:=29) ?hr ?_;(case hd => rfl);(case hg => rfl);(case hr => first|(go_simp;done)|(go_simp;rfl));intro gb236 hg w4 hbox hb;have BK236:=zh (hbox);have GW236:=zh ((by rw [hg];exact (zB (by repeat (with_reducible first|exact HB.out|apply za|apply zb|apply zc|refine zd ?_ GE235.out))) : w.heap.size≤gb236));have GE236:=zh ((by rw [hg];exact (zB (by repeat (with_reducible first|exact HB.out|apply za|apply zb|apply zc|refine zd ?_ GE235.out))) : w.heap.size≤gb236));replace HB:=zh (zC (by repeat (with_reducible first|exact HB.out|apply za|apply zb|apply zc|refine zd ?_ GE235.out)) hb);have NB235_236:=zh ((by rw [hg];exact yc (yi (g:=gb235) (o:=.cells #[.slice A0_0 l0_0.length c0_0] 24 (0,0)) (by (with_reducible repeat (first|refine ze ?_ _|refine zf ?_|refine zg ?_ _));exact BK235.out)) : gb235≠gb236));have NB236_235:=zh ((by rw [hg];exact yd (yi (g:=gb235) (o:=.cells #[.slice A0_0 l0_0.length c0_0] 24 (0,0)) (by (with_reducible repeat (first|refine ze ?_ _|refine zf ?_|refine zg ?_ _));exact BK235.out)) : gb236≠gb235));replace BK235:=zh (zD (g:=gb235) (o:=.cells #[.slice A0_0 l0_0.length c0_0] 24 (0,0)) (by (with_reducible repeat (first|refine ze ?_ _|refine zf ?_|refine zg ?_ _));exact BK235.out) hb);clear hb hbox hg)|((with_reducible refine zK (N:=3) rfl ?_);refine zI ?hg (N:=3) ?hd (cs:=#[.slice none 0 0]) (t:=29) ?hr ?_;(case hd => rfl);(case hg => rfl);(case hr => first|(go_simp;done)|(go_simp;rfl));intro gb237 hg w5 hbox hb;have BK237:=zh (hbox);have GW237:=zh ((by rw [hg];exact (zB (by repeat (with_reducible first|exact HB.out|apply za|apply zb|apply zc|refine zd ?_ GE235.out|refine zd ?_ GE236.out))) : w.heap.size≤gb237));have GE237:=zh ((by rw [hg];exact (zB (by repeat (with_reducible first|exact HB.out|apply za|apply zb|apply zc|refine zd ?_ GE235.out|refine zd ?_ GE236.out))) : w.heap.size≤gb237));replace HB:=zh (zC (by repeat (with_reducible first|exact HB.out|apply za|apply zb|apply zc|refine zd ?_ GE235.out|refine zd ?_ GE236.out)) hb);have NB235_237:=zh ((by rw [hg];exact yc (yi (g:=gb235) (o:=.cells #[.slice A0_0 l0_0.length c0_0] 24 (0,0)) (by (with_reducible repeat (first|refine ze ?_ _|refine zf ?_|refine zg ?_ _));exact BK235.out)) : gb235≠gb237));have NB237_235:=zh ((by rw [hg];exact yd (yi (g:=gb235) (o:=.cells #[.slice A0_0 l0_0.length c0_0] 24 (0,0)) (by (with_reducible repeat (first|refine ze ?_ _|refine zf ?_|refine zg ?_ _));exact BK235.out)) : gb237≠gb235));replace BK235:=zh (zD (g:=gb235) (o:=.cells #[.slice A0_0 l0_0.length c0_0] 24 (0,0)) (by (with_reducible repeat (first|refine ze ?_ _|refine zf ?_|refine zg ?_ _));exact BK235.out) hb);have NB236_237:=zh ((by rw [hg];exact yc (yi (g:=gb236) (o:=.cells #[.slice none 0 0] 29 (0,0)) (by (with_reducible repeat (first|refine ze ?_ _|refine zf ?_|refine zg ?_ _));exact BK236.out)) : gb236≠gb237));have NB237_236:=zh ((by rw [hg];exact yd (yi (g:=gb236) (o:=.cells #[.slice none 0 0] 29 (0,0)) (by (with_reducible repeat (first|refine ze ?_ _|refine zf ?_|refine zg ?_ _));exact BK236.out)) : gb237≠gb236));replace BK236:=zh (zD (g:=gb236) (o:=.cells #[.slice none 0 0] 29 (0,0)) (by (with_reducible repeat (first|refine ze ?_ _|refine zf ?_|refine zg ?_ _));exact BK236.out) hb);clear hb hbox hg;have hnb6:=NB235_236.out;have hnc6:=NB236_235.out;have hnb7:=NB235_237.out;have hnc7:=NB237_235.out;have hcz8_0 : w5.cell? ⟨gb235,0,none⟩=some (.slice A0_0 l0_0.length c0_0):=(zz BK235.out 0).trans rfl;have hfz8_0:=zA BK235.out 0)|((with_reducible refine zJ (f:=18) rfl ?_);refine yj (some 6) rfl rfl Tryz.func18 (by kernel_rfl) rfl #[.slice A0_0 l0_0.length c0_0] rfl (by (try simp only [zt,zu,zv]);first|done|rfl|(simp only [zw,zx];rfl)|(simp only [yr,ys,zV,zW];rfl)) ?_;(with_reducible refine (laws_toClauseS.calls k  _ _ l0_0 t238 _ ?side1 ?side2 A2.out).mono ?_);(case side1 => repeat (first|exact (Kd.C_below HR0_0.out HB.out)|(with_reducible refine Kd.C_alloc ?_ _)|(with_reducible refine Kd.C_drewN ?_ _)|(with_reducible refine Kd.C_drew ?_)));(case side2 => exact HC0_0.out);rintro e w9 ⟨v239,rfl,ho0,hb⟩;refine ⟨_,rfl,?_⟩;have HO240:=zh (Kd.S_lower ho0 (zB (by repeat (with_reducible first|exact HB.out|apply za|apply zb|apply zc|refine zd ?_ GE235.out|refine zd ?_ GE236.out|refine zd ?_ GE237.out))));replace BK235:=zh (zD (g:=gb235) (o:=.cells #[.slice A0_0 l0_0.length c0_0] 24 (0,0)) (by (with_reducible repeat (first|refine ze ?_ _|refine zf ?_|refine zg ?_ _));exact BK235.out) hb);replace BK236:=zh (zD (g:=gb236) (o:=.cells #[.slice none 0 0] 29 (0,0)) (by (with_reducible repeat (first|refine ze ?_ _|refine zf ?_|refine zg ?_ _));exact BK236.out) hb);replace BK237:=zh (zD (g:=gb237) (o:=.cells #[.slice none 0 0] 29 (0,0)) (by (with_reducible repeat (first|refine ze ?_ _|refine zf ?_|refine zg ?_ _));exact BK237.out) hb);replace HB:=zh (zC (by repeat (with_reducible first|exact HB.out|apply za|apply zb|apply zc|refine zd ?_ GE235.out|refine zd ?_ GE236.out|refine zd ?_ GE237.out)) hb);(try clear hb);(try clear hb2);(try clear hk);(try clear hi);(try clear ho0);obtain ⟨Ao10,co10,eo10⟩:=Kd.S_slice HO240.out;subst eo10;have hnb11:=NB237_236.out;have hnc11:=NB236_237.out;have hcz12_0 : w9.cell? ⟨gb237,0,none⟩=some (.slice none 0 0):=(zz BK237.out 0).trans rfl;have hfz12_0:=zA BK237.out 0;have hcz13_0 : w9.cell? ⟨gb236,0,none⟩=some (.slice none 0 0):=(zz BK236.out 0).trans rfl;have hfz13_0:=zA BK236.out 0))
 refine bodyPost_ret (results_cell_row rfl _ _ gb236 29 #[.slice Ao10 t238.length co10] (0,0) _ rfl (by (with_reducible repeat (first|refine ze ?_ _|refine zf ?_|refine zg ?_ _));refine zL (cs:=#[.slice none 0 0]) ?_ 0 _ rfl;(with_reducible repeat (first|refine ze ?_ _|refine zf ?_|refine zg ?_ _));refine zS ?_ NB236_237.out _;(with_reducible repeat (first|refine ze ?_ _|refine zf ?_|refine zg ?_ _));exact BK236.out) Tryz.underlying29 rfl (by kernel_rfl)) rfl ?_;exact ⟨_,by first|rfl|(simp [yt,yu] <;> rfl)|(simp [*,yt,yu] <;> rfl),by (with_reducible repeat (first|apply Kd.S_alloc|apply Kd.S_drewN|apply Kd.S_drew));exact Kd.S_mono (Kd.S_far (p:=⟨gb236,0,none⟩) (Kd.S_far (p:=⟨gb237,0,none⟩) (Kd.S_types (Kd.S_types HO240.out BK237.out (by decide)) BK236.out (by decide)) (fun _ hk => hk.1.2) (.slice Ao10 t238.length co10)) (fun _ hk => hk.2) (.slice Ao10 t238.length co10)) (fun _ hk => trivial),by repeat (with_reducible first|exact HB.out|apply za|apply zb|apply zc|refine zd ?_ GE235.out|refine zd ?_ GE236.out|refine zd ?_ GE237.out)⟩

end Go.Proofs.YthjgfjlogilleaaGreatDoor.Q
end
section
namespace Go.Proofs.YthjgfjlogilleaaGreatDoor.Q
open Go.RowKit Go.Proofs.YthjgfjlogilleaaGreatDoorW.PrintWords Go.Proofs.YthjgfjlogilleaaGreatDoorW.PrintLast Go.Proofs.YthjgfjlogilleaaGreatDoorW.PrintMore
attribute [local go_sem] max2_int min2_int max_two min_two max_three min_three max_four min_four max2_str min2_str str_geq str_gtr str_leq   -- for this text's walks alone
set_option linter.unusedVariables false
set_option linter.unusedSimpArgs false

def impl_inRange.f (a0 : Int) (a1 : Int) (a2 : Int) : Option (Bool):=if a1≤a0 then (some (decide (a0≤a2))) else (some false)
set_option maxHeartbeats 8000000 in
set_option maxRecDepth 100000 in
theorem impl_inRange.calls (a0 : Int) (a1 : Int) (a2 : Int) (r : Bool) (w : World) (h : impl_inRange.f a0 a1 a2=some r) :
  Calls Tryz.prog 19 #[.int .i64 a0,.int .i64 a1,.int .i64 a2] w fun e w' => e = .returned (.bool r)∧Drawn0 w w':=by
 have H : (if a1≤a0 then (some (decide (a0≤a2))) else (some false))=some r:=h;clear h
 by_cases c4 : a1≤a0
 ·
  rw [if_pos c4] at H
  have c4b0 : decide (a1≤a0)=true:=decide_eq_true c4;clear c4;obtain rfl:=zU H
  go_enter Tryz.func19,Tryz.ntmps19
  go_wp2
  go_ret
  exact ⟨by first|rfl|(simp;done)|(simp [*];done),by repeat (first|exact yp _|apply yq)⟩
 rw [if_neg c4] at H;have c4b0 : decide (a1≤a0)=false:=decide_eq_false c4;clear c4;obtain rfl:=zU H
 go_enter Tryz.func19,Tryz.ntmps19
 go_wp2
 go_ret
 exact ⟨by first|rfl|(simp;done)|(simp [*];done),by repeat (first|exact yp _|apply yq)⟩

end Go.Proofs.YthjgfjlogilleaaGreatDoor.Q
end
section
namespace Go.Proofs.YthjgfjlogilleaaGreatDoor.Q
open Go.RowKit Go.Proofs.YthjgfjlogilleaaGreatDoorW.PrintWords Go.Proofs.YthjgfjlogilleaaGreatDoorW.PrintLast Go.Proofs.YthjgfjlogilleaaGreatDoorW.PrintMore
attribute [local go_sem] max2_int min2_int max_two min_two max_three min_three max_four min_four max2_str min2_str str_geq str_gtr str_leq
set_option linter.unusedVariables false
set_option linter.unusedSimpArgs false

def strings_Split.f (a0 : ByteArray) (a1 : ByteArray) : Option (List ByteArray):=if a1.size=1 then (if a0.size<4294967281 then (some (pieces a0 a1)) else (none)) else (none)
theorem strings_Split.calls (a0 : ByteArray) (a1 : ByteArray) (r : List ByteArray) (w : World) (h : strings_Split.f a0 a1=some r) :
  Calls Tryz.prog 43 #[.string a0,.string a1] w fun e w' => ∃ v0_ : Value,e = .returned (v0_)∧Kd.R Kd.string 9 w' w.heap.size (fun _ => True) v0_ r∧Below w.heap.size w w':=by
 unfold strings_Split.f at h
 by_cases h0 : a1.size=1
 ·
  rw [if_pos h0] at h
  by_cases h1 : a0.size<4294967281
  ·
   rw [if_pos h1] at h
   obtain rfl:=zU h;obtain ⟨c,rfl⟩:=Lib.one_byte a1 h0;exact split_one a0 c w h1
  rw [if_neg h1] at h;exact absurd h (by simp)
 rw [if_neg h0] at h;exact absurd h (by simp)

end Go.Proofs.YthjgfjlogilleaaGreatDoor.Q
end
section
namespace Go.Proofs.YthjgfjlogilleaaGreatDoor.Q
open Go.RowKit Go.Proofs.YthjgfjlogilleaaGreatDoorW.PrintWords Go.Proofs.YthjgfjlogilleaaGreatDoorW.PrintLast Go.Proofs.YthjgfjlogilleaaGreatDoorW.PrintMore
attribute [local go_sem] max2_int min2_int max_two min_two max_three min_three max_four min_four max2_str min2_str str_geq str_gtr str_leq   -- for this text's walks alone
set_option linter.unusedVariables false
set_option linter.unusedSimpArgs false

def impl_isLetter.f (a0 : Int) : Option (Bool):=if a0 ≥ 97 then (if a0≤122 then (some true) else (if a0 ≥ 65 then (if a0≤90 then (some true) else (some (a0 == 95))) else (some (a0 == 95)))) else (if a0 ≥ 65 then (if a0≤90 then (some true) else (some (a0 == 95))) else (some (a0 == 95)))
set_option maxHeartbeats 8000000 in
set_option maxRecDepth 100000 in
theorem impl_isLetter.calls (a0 : Int) (r : Bool) (w : World) (h : impl_isLetter.f a0=some r) :
  Calls Tryz.prog 49 #[.int .u8 a0] w fun e w' => e = .returned (.bool r)∧Drawn0 w w':=by
 have H : (if a0 ≥ 97 then (if a0≤122 then (some true) else (if a0 ≥ 65 then (if a0≤90 then (some true) else (some (a0 == 95))) else (some (a0 == 95)))) else (if a0 ≥ 65 then (if a0≤90 then (some true) else (some (a0 == 95))) else (some (a0 == 95))))=some r:=h;clear h
 by_cases c2 : a0 ≥ 97
 ·
  rw [if_pos c2] at H
  have c2b0 : decide (97≤a0)=true:=decide_eq_true c2;clear c2
  by_cases c3 : a0≤122
  ·
   rw [if_pos c3] at H
   have c3b0 : decide (a0≤122)=true:=decide_eq_true c3;clear c3;obtain rfl:=zU H
   go_enter Tryz.func49,Tryz.ntmps49
   go_wp2
   go_ret
   exact ⟨by first|rfl|(simp;done)|(simp [*];done),by repeat (first|exact yp _|apply yq)⟩
  rw [if_neg c3] at H;have c3b0 : decide (a0≤122)=false:=decide_eq_false c3;clear c3
  by_cases c4 : a0 ≥ 65
  ·
   rw [if_pos c4] at H
   have c4b0 : decide (65≤a0)=true:=decide_eq_true c4;clear c4
   by_cases c5 : a0≤90
   ·
    rw [if_pos c5] at H
    have c5b0 : decide (a0≤90)=true:=decide_eq_true c5;clear c5;obtain rfl:=zU H
    go_enter Tryz.func49,Tryz.ntmps49
    go_wp2
    go_ret
    exact ⟨by first|rfl|(simp;done)|(simp [*];done),by repeat (first|exact yp _|apply yq)⟩
   rw [if_neg c5] at H;have c5b0 : decide (a0≤90)=false:=decide_eq_false c5;clear c5;obtain rfl:=zU H
   go_enter Tryz.func49,Tryz.ntmps49
   go_wp2
   go_ret
   exact ⟨by first|rfl|(simp;done)|(simp [*];done),by repeat (first|exact yp _|apply yq)⟩
  rw [if_neg c4] at H;have c4b0 : decide (65≤a0)=false:=decide_eq_false c4;clear c4;obtain rfl:=zU H
  go_enter Tryz.func49,Tryz.ntmps49
  go_wp2
  go_ret
  exact ⟨by first|rfl|(simp;done)|(simp [*];done),by repeat (first|exact yp _|apply yq)⟩
 rw [if_neg c2] at H;have c2b0 : decide (97≤a0)=false:=decide_eq_false c2;clear c2
 by_cases c6 : a0 ≥ 65
 ·
  rw [if_pos c6] at H
  have c6b0 : decide (65≤a0)=true:=decide_eq_true c6;clear c6
  by_cases c7 : a0≤90
  ·
   rw [if_pos c7] at H
   have c7b0 : decide (a0≤90)=true:=decide_eq_true c7;clear c7;obtain rfl:=zU H
   go_enter Tryz.func49,Tryz.ntmps49
   go_wp2
   go_ret
   exact ⟨by first|rfl|(simp;done)|(simp [*];done),by repeat (first|exact yp _|apply yq)⟩
  rw [if_neg c7] at H;have c7b0 : decide (a0≤90)=false:=decide_eq_false c7;clear c7;obtain rfl:=zU H
  go_enter Tryz.func49,Tryz.ntmps49
  go_wp2
  go_ret
  exact ⟨by first|rfl|(simp;done)|(simp [*];done),by repeat (first|exact yp _|apply yq)⟩
 rw [if_neg c6] at H;have c6b0 : decide (65≤a0)=false:=decide_eq_false c6;clear c6;obtain rfl:=zU H
 go_enter Tryz.func49,Tryz.ntmps49
 go_wp2
 go_ret
 exact ⟨by first|rfl|(simp;done)|(simp [*];done),by repeat (first|exact yp _|apply yq)⟩

end Go.Proofs.YthjgfjlogilleaaGreatDoor.Q
end
section
namespace Go.Proofs.YthjgfjlogilleaaGreatDoor.Q
open Go.RowKit Go.Proofs.YthjgfjlogilleaaGreatDoorW.PrintWords Go.Proofs.YthjgfjlogilleaaGreatDoorW.PrintLast Go.Proofs.YthjgfjlogilleaaGreatDoorW.PrintMore
attribute [local go_sem] max2_int min2_int max_two min_two max_three min_three max_four min_four max2_str min2_str str_geq str_gtr str_leq   -- for this text's walks alone
set_option linter.unusedVariables false
set_option linter.unusedSimpArgs false

def impl_isDigit.f (a0 : Int) : Option (Bool):=if a0 ≥ 48 then (some (decide (a0≤57))) else (some false)
set_option maxHeartbeats 8000000 in
set_option maxRecDepth 100000 in
theorem impl_isDigit.calls (a0 : Int) (r : Bool) (w : World) (h : impl_isDigit.f a0=some r) :
  Calls Tryz.prog 50 #[.int .u8 a0] w fun e w' => e = .returned (.bool r)∧Drawn0 w w':=by
 have H : (if a0 ≥ 48 then (some (decide (a0≤57))) else (some false))=some r:=h;clear h
 by_cases c2 : a0 ≥ 48
 ·
  rw [if_pos c2] at H
  have c2b0 : decide (48≤a0)=true:=decide_eq_true c2;clear c2;obtain rfl:=zU H
  go_enter Tryz.func50,Tryz.ntmps50
  go_wp2
  go_ret
  exact ⟨by first|rfl|(simp;done)|(simp [*];done),by repeat (first|exact yp _|apply yq)⟩
 rw [if_neg c2] at H;have c2b0 : decide (48≤a0)=false:=decide_eq_false c2;clear c2;obtain rfl:=zU H
 go_enter Tryz.func50,Tryz.ntmps50
 go_wp2
 go_ret
 exact ⟨by first|rfl|(simp;done)|(simp [*];done),by repeat (first|exact yp _|apply yq)⟩

end Go.Proofs.YthjgfjlogilleaaGreatDoor.Q
end
section
namespace Go.Proofs.YthjgfjlogilleaaGreatDoor.Q
open Go.RowKit Go.Proofs.YthjgfjlogilleaaGreatDoorW.PrintWords Go.Proofs.YthjgfjlogilleaaGreatDoorW.PrintLast Go.Proofs.YthjgfjlogilleaaGreatDoorW.PrintMore
attribute [local go_sem] max2_int min2_int max_two min_two max_three min_three max_four min_four max2_str min2_str str_geq str_gtr str_leq   -- for this text's walks alone
set_option linter.unusedVariables false
set_option linter.unusedSimpArgs false

def impl_NameOK.l0 : Nat→ByteArray→Int→Int→Option (Bool)
 | 0,_,_,_ => none
 | k + 1,x0,x5,x6 => if x6<x5 then (if 0≤x6 then (if x6<(x0.size : Int) then ((impl_isLetter.f (bt x0 x6)).bind fun t242 => (if t242=true then (impl_NameOK.l0 k x0 x5 (wrap64 (x6 + 1))) else ((impl_isDigit.f (bt x0 x6)).bind fun t243 => (if t243=true then (if x6=0 then (some false) else (impl_NameOK.l0 k x0 x5 (wrap64 (x6 + 1)))) else (some false))))) else (none)) else (none)) else ((impl_inRange.f (x0.size : Int) 1 40).bind fun t241 => (some t241))
def impl_NameOK.f (k : Nat) (a0 : ByteArray) : Option (Bool):=impl_NameOK.l0 k a0 (a0.size : Int) 0
theorem impl_NameOK.mono_l : ∀ k,(∀ y0 y1 y2,LeO (impl_NameOK.l0 k y0 y1 y2) (impl_NameOK.l0 (k + 1) y0 y1 y2))
 | 0 => fun _ _ _ r h => by simp [impl_NameOK.l0] at h
 | k + 1 => by
  have ih0:=impl_NameOK.mono_l k;intro y0 y1 y2;unfold impl_NameOK.l0
  repeat' first|(with_reducible exact ih0 _ _ _)|(with_reducible exact zQ _)|(with_reducible exact zN _)|(with_reducible refine zP ?_ ?_)|(with_reducible refine zO ?_ (fun _ => ?_))|refine zP ?_ ?_|refine zO ?_ (fun _ => ?_)
theorem impl_NameOK.mono : ∀ a0 k,LeO (impl_NameOK.f k a0) (impl_NameOK.f (k + 1) a0):=by
 intro a0 k;have ih0:=impl_NameOK.mono_l k;unfold impl_NameOK.f
 repeat' first|(with_reducible exact ih0 _ _ _)|(with_reducible exact zQ _)|(with_reducible exact zN _)|(with_reducible refine zP ?_ ?_)|(with_reducible refine zO ?_ (fun _ => ?_))|refine zP ?_ ?_|refine zO ?_ (fun _ => ?_)
set_option maxHeartbeats 8000000 in
set_option maxRecDepth 100000 in
theorem impl_NameOK.calls (k : Nat) (a0 : ByteArray) (r : Bool) (w : World) (h : impl_NameOK.f k a0=some r) :
  Calls Tryz.prog 38 #[.string a0] w fun e w' => e = .returned (.bool r)∧Drawn0 w w':=by
 have H : (impl_NameOK.l0 k a0 (a0.size : Int) 0)=some r:=h;clear h;have H':=zh H;clear H
 go_enter Tryz.func38,Tryz.ntmps38
 go_wp2
 go_loopg [6] k (fun kq v6 w' => ∃ (x6_1 : Int),v6 = .int .i64 x6_1∧Aside0 (impl_NameOK.l0 kq a0 (a0.size : Int) x6_1=some r)∧Aside0 (kq≤k)∧Drawn0 w w')
 case atStart => exact ⟨(0),(by first|rfl|(simp;done)|(simp [*];done)),H',⟨ye _⟩,by repeat (first|exact yp _|apply yq)⟩
 case round =>
  clear H';obtain ⟨x6_1,rfl,HA,HK1,⟨m1,rfl⟩⟩:=hrel
  cases gk with
  | zero => exact absurd HA.out (by simp [impl_NameOK.l0])
  | succ k1 =>
   have H:=HA.out;clear HA;simp only [impl_NameOK.l0] at H
   by_cases c2 : x6_1<(a0.size : Int)
   ·
    rw [if_pos c2] at H
    have c2b0 : decide (x6_1<(a0.size : Int))=true:=decide_eq_true c2;clear c2
    by_cases c3 : 0≤x6_1
    ·
     rw [if_pos c3] at H
     have c3b0 : decide (0≤x6_1)=true:=decide_eq_true c3;clear c3
     by_cases c4 : x6_1<(a0.size : Int)
     ·
      rw [if_pos c4] at H
      have c4b0 : decide (x6_1<(a0.size : Int))=true:=decide_eq_true c4;clear c4;replace H:=zT.mp H;obtain ⟨t242,A60,H⟩:=H;replace H : (if t242=true then (impl_NameOK.l0 k1 a0 (a0.size : Int) (wrap64 (x6_1 + 1))) else ((impl_isDigit.f (bt a0 x6_1)).bind fun t243 => (if t243=true then (if x6_1=0 then (some false) else (impl_NameOK.l0 k1 a0 (a0.size : Int) (wrap64 (x6_1 + 1)))) else (some false))))=some r:=H;have A6:=zh A60;clear A60
      by_cases c7 : t242=true
      ·
       subst c7
       have H1 : (impl_NameOK.l0 k1 a0 (a0.size : Int) (wrap64 (x6_1 + 1)))=some r:=by rw [if_pos rfl] at H;exact H
       clear H;have H:=H1;clear H1;have H':=zh H;clear H;have p5 : 0≤(x6_1 : Int):=zy (by first|(with_reducible assumption)|assumption);have q5 : x6_1<(a0.size : Int):=zy (by first|(with_reducible assumption)|assumption);have hx5:=bt_at a0 x6_1;replace p5:=eq_true p5;replace q5:=eq_true q5
       go_wp2_with (first|((with_reducible refine zJ (f:=49) rfl ?_);refine yj (some 12) rfl rfl Tryz.func49 (by kernel_rfl) rfl #[.int .u8 (bt a0 x6_1)] rfl (by (try simp only [zt,zu,zv]);first|done|rfl|(simp only [zw,zx];rfl)|(simp only [yr,ys,zV,zW];rfl)) ?_;(with_reducible refine (impl_isLetter.calls  (bt a0 x6_1) true _ A6.out).mono ?_);rintro e w' ⟨rfl,⟨nd,rfl⟩⟩;refine ⟨_,rfl,?_⟩))
       go_roundg k1
       case measure => have:=HK1.out;omega
       case rel => exact ⟨(wrap64 (x6_1 + 1)),(by first|rfl|(simp;done)|(simp [*];done)),H',⟨by have:=HK1.out;omega⟩,by repeat (first|exact yp _|apply yq)⟩
      replace c7:=yb.mpr c7;subst c7;have H1 : ((impl_isDigit.f (bt a0 x6_1)).bind fun t243 => (if t243=true then (if x6_1=0 then (some false) else (impl_NameOK.l0 k1 a0 (a0.size : Int) (wrap64 (x6_1 + 1)))) else (some false)))=some r:=by rw [if_neg (show ¬ (false=true) by decide)] at H;exact H
      clear H;have H:=H1;clear H1;replace H:=zT.mp H;obtain ⟨t243,A90,H⟩:=H;replace H : (if t243=true then (if x6_1=0 then (some false) else (impl_NameOK.l0 k1 a0 (a0.size : Int) (wrap64 (x6_1 + 1)))) else (some false))=some r:=H;have A9:=zh A90;clear A90
      by_cases c10 : t243=true
      ·
       subst c10
       have H1 : (if x6_1=0 then (some false) else (impl_NameOK.l0 k1 a0 (a0.size : Int) (wrap64 (x6_1 + 1))))=some r:=by rw [if_pos rfl] at H;exact H
       clear H;have H:=H1;clear H1
       by_cases c11 : x6_1=0
       ·
        rw [if_pos c11] at H
        have c11b0 : (x6_1 == 0)=true:=ya.mpr c11;have c11b1 : (x6_1 != 0)=false:=zX.mpr c11;clear c11;obtain rfl:=zU H;have p5 : 0≤(x6_1 : Int):=zy (by first|(with_reducible assumption)|assumption);have q5 : x6_1<(a0.size : Int):=zy (by first|(with_reducible assumption)|assumption);have hx5:=bt_at a0 x6_1;replace p5:=eq_true p5;replace q5:=eq_true q5
        go_wp2_with (first|((with_reducible refine zJ (f:=49) rfl ?_);refine yj (some 12) rfl rfl Tryz.func49 (by kernel_rfl) rfl #[.int .u8 (bt a0 x6_1)] rfl (by (try simp only [zt,zu,zv]);first|done|rfl|(simp only [zw,zx];rfl)|(simp only [yr,ys,zV,zW];rfl)) ?_;(with_reducible refine (impl_isLetter.calls  (bt a0 x6_1) false _ A6.out).mono ?_);rintro e w' ⟨rfl,⟨nd,rfl⟩⟩;refine ⟨_,rfl,?_⟩;have p8 : 0≤(x6_1 : Int):=zy (by first|(with_reducible assumption)|assumption);have q8 : x6_1<(a0.size : Int):=zy (by first|(with_reducible assumption)|assumption);have hx8:=bt_at a0 x6_1;replace p8:=eq_true p8;replace q8:=eq_true q8)|(go_at_call 50;(with_reducible refine (impl_isDigit.calls  (bt a0 x6_1) true _ A9.out).mono ?_);rintro e w' ⟨rfl,⟨nd,rfl⟩⟩))
        go_ret
        exact ⟨by first|rfl|(simp;done)|(simp [*];done),by repeat (first|exact yp _|apply yq)⟩
       rw [if_neg c11] at H;have c11b0 : (x6_1 == 0)=false:=zY.mpr c11;have c11b1 : (x6_1 != 0)=true:=zZ.mpr c11;have H':=zh H;clear H;have p5 : 0≤(x6_1 : Int):=zy (by first|(with_reducible assumption)|assumption);have q5 : x6_1<(a0.size : Int):=zy (by first|(with_reducible assumption)|assumption);have hx5:=bt_at a0 x6_1;replace p5:=eq_true p5;replace q5:=eq_true q5
       go_wp2_with (first|((with_reducible refine zJ (f:=49) rfl ?_);refine yj (some 12) rfl rfl Tryz.func49 (by kernel_rfl) rfl #[.int .u8 (bt a0 x6_1)] rfl (by (try simp only [zt,zu,zv]);first|done|rfl|(simp only [zw,zx];rfl)|(simp only [yr,ys,zV,zW];rfl)) ?_;(with_reducible refine (impl_isLetter.calls  (bt a0 x6_1) false _ A6.out).mono ?_);rintro e w' ⟨rfl,⟨nd,rfl⟩⟩;refine ⟨_,rfl,?_⟩;have p8 : 0≤(x6_1 : Int):=zy (by first|(with_reducible assumption)|assumption);have q8 : x6_1<(a0.size : Int):=zy (by first|(with_reducible assumption)|assumption);have hx8:=bt_at a0 x6_1;replace p8:=eq_true p8;replace q8:=eq_true q8)|(go_at_call 50;(with_reducible refine (impl_isDigit.calls  (bt a0 x6_1) true _ A9.out).mono ?_);rintro e w' ⟨rfl,⟨nd,rfl⟩⟩))
       go_roundg k1
       case measure => have:=HK1.out;omega
       case rel => exact ⟨(wrap64 (x6_1 + 1)),(by first|rfl|(simp;done)|(simp [*];done)),H',⟨by have:=HK1.out;omega⟩,by repeat (first|exact yp _|apply yq)⟩
      replace c10:=yb.mpr c10;subst c10;have H1 : (some false)=some r:=by rw [if_neg (show ¬ (false=true) by decide)] at H;exact H
      clear H;have H:=H1;clear H1;obtain rfl:=zU H;have p5 : 0≤(x6_1 : Int):=zy (by first|(with_reducible assumption)|assumption);have q5 : x6_1<(a0.size : Int):=zy (by first|(with_reducible assumption)|assumption);have hx5:=bt_at a0 x6_1;replace p5:=eq_true p5;replace q5:=eq_true q5
      go_wp2_with (first|((with_reducible refine zJ (f:=49) rfl ?_);refine yj (some 12) rfl rfl Tryz.func49 (by kernel_rfl) rfl #[.int .u8 (bt a0 x6_1)] rfl (by (try simp only [zt,zu,zv]);first|done|rfl|(simp only [zw,zx];rfl)|(simp only [yr,ys,zV,zW];rfl)) ?_;(with_reducible refine (impl_isLetter.calls  (bt a0 x6_1) false _ A6.out).mono ?_);rintro e w' ⟨rfl,⟨nd,rfl⟩⟩;refine ⟨_,rfl,?_⟩;have p8 : 0≤(x6_1 : Int):=zy (by first|(with_reducible assumption)|assumption);have q8 : x6_1<(a0.size : Int):=zy (by first|(with_reducible assumption)|assumption);have hx8:=bt_at a0 x6_1;replace p8:=eq_true p8;replace q8:=eq_true q8)|(go_at_call 50;(with_reducible refine (impl_isDigit.calls  (bt a0 x6_1) false _ A9.out).mono ?_);rintro e w' ⟨rfl,⟨nd,rfl⟩⟩))
      go_ret
      exact ⟨by first|rfl|(simp;done)|(simp [*];done),by repeat (first|exact yp _|apply yq)⟩
     rw [if_neg c4] at H;exact absurd H (by simp)
    rw [if_neg c3] at H;exact absurd H (by simp)
   rw [if_neg c2] at H;have c2b0 : decide (x6_1<(a0.size : Int))=false:=decide_eq_false c2;clear c2;replace H:=zT.mp H;obtain ⟨t241,A120,H⟩:=H;replace H : (some t241)=some r:=H;have A12:=zh A120;clear A120;obtain rfl:=zU H
   go_wp2_with (first|((with_reducible refine zJ (f:=19) rfl ?_);refine yj (some 28) rfl rfl Tryz.func19 (by kernel_rfl) rfl #[.int .i64 (a0.size : Int),.int .i64 1,.int .i64 40] rfl (by (try simp only [zt,zu,zv]);first|done|rfl|(simp only [zw,zx];rfl)|(simp only [yr,ys,zV,zW];rfl)) ?_;(with_reducible refine (impl_inRange.calls  (a0.size : Int) 1 40 t241 _ A12.out).mono ?_);rintro e w' ⟨rfl,⟨nd,rfl⟩⟩;refine ⟨_,rfl,?_⟩))
   go_ret
   exact ⟨by first|rfl|(simp;done)|(simp [*];done),by repeat (first|exact yp _|apply yq)⟩

end Go.Proofs.YthjgfjlogilleaaGreatDoor.Q
end
section
namespace Go.Proofs.YthjgfjlogilleaaGreatDoor.Q
open Go.RowKit Go.Proofs.YthjgfjlogilleaaGreatDoorW.PrintWords Go.Proofs.YthjgfjlogilleaaGreatDoorW.PrintLast Go.Proofs.YthjgfjlogilleaaGreatDoorW.PrintMore
attribute [local go_sem] max2_int min2_int max_two min_two max_three min_three max_four min_four max2_str min2_str str_geq str_gtr str_leq   -- for this text's walks alone
set_option linter.unusedVariables false
set_option linter.unusedSimpArgs false

def impl_isShort.f (k : Nat) (a0 : ByteArray) : Option (Bool):=if (a0.size : Int)≤12 then ((impl_NameOK.f k a0).bind fun t244 => (some t244)) else (some false)
theorem impl_isShort.mono : ∀ a0 k,LeO (impl_isShort.f k a0) (impl_isShort.f (k + 1) a0):=by
 intro a0 k;unfold impl_isShort.f
 repeat' first|(with_reducible exact impl_NameOK.mono _ _)|(with_reducible exact zQ _)|(with_reducible exact zN _)|(with_reducible refine zP ?_ ?_)|(with_reducible refine zO ?_ (fun _ => ?_))|refine zP ?_ ?_|refine zO ?_ (fun _ => ?_)
set_option maxHeartbeats 8000000 in
set_option maxRecDepth 100000 in
theorem impl_isShort.calls (k : Nat) (a0 : ByteArray) (r : Bool) (w : World) (h : impl_isShort.f k a0=some r) :
  Calls Tryz.prog 27 #[.string a0] w fun e w' => e = .returned (.bool r)∧Drawn0 w w':=by
 have H : (if (a0.size : Int)≤12 then ((impl_NameOK.f k a0).bind fun t244 => (some t244)) else (some false))=some r:=h;clear h
 by_cases c2 : (a0.size : Int)≤12
 ·
  rw [if_pos c2] at H
  have c2b0 : decide ((a0.size : Int)≤12)=true:=decide_eq_true c2;have c2b1 : decide (a0.size≤12)=true:=decide_eq_true (by omega);clear c2;replace H:=zT.mp H;obtain ⟨t244,A30,H⟩:=H;replace H : (some t244)=some r:=H;have A3:=zh A30;clear A30;obtain rfl:=zU H
  go_enter Tryz.func27,Tryz.ntmps27
  go_wp2_with (first|(go_at_call 38;(with_reducible refine (impl_NameOK.calls k  a0 t244 _ A3.out).mono ?_);rintro e w' ⟨rfl,⟨nd,rfl⟩⟩))
  go_ret
  exact ⟨by first|rfl|(simp;done)|(simp [*];done),by repeat (first|exact yp _|apply yq)⟩
 rw [if_neg c2] at H;have c2b0 : decide ((a0.size : Int)≤12)=false:=decide_eq_false c2;have c2b1 : decide (a0.size≤12)=false:=decide_eq_false (by omega);clear c2;obtain rfl:=zU H
 go_enter Tryz.func27,Tryz.ntmps27
 go_wp2
 go_ret
 exact ⟨by first|rfl|(simp;done)|(simp [*];done),by repeat (first|exact yp _|apply yq)⟩

end Go.Proofs.YthjgfjlogilleaaGreatDoor.Q
end
section
namespace Go.Proofs.YthjgfjlogilleaaGreatDoor.Q
open Go.RowKit Go.Proofs.YthjgfjlogilleaaGreatDoorW.PrintWords Go.Proofs.YthjgfjlogilleaaGreatDoorW.PrintLast Go.Proofs.YthjgfjlogilleaaGreatDoorW.PrintMore
attribute [local go_sem] max2_int min2_int max_two min_two max_three min_three max_four min_four max2_str min2_str str_geq str_gtr str_leq   -- for this text's walks alone
set_option linter.unusedVariables false
set_option linter.unusedSimpArgs false

def impl_PathOK_1.f (k : Nat) (a0 : ByteArray) : Option (Bool):=(impl_isShort.f k a0).bind fun t245 => (some (!t245))
theorem impl_PathOK_1.mono : ∀ a0 k,LeO (impl_PathOK_1.f k a0) (impl_PathOK_1.f (k + 1) a0):=by
 intro a0 k;unfold impl_PathOK_1.f
 repeat' first|(with_reducible exact impl_isShort.mono _ _)|(with_reducible exact zQ _)|(with_reducible exact zN _)|(with_reducible refine zP ?_ ?_)|(with_reducible refine zO ?_ (fun _ => ?_))|refine zP ?_ ?_|refine zO ?_ (fun _ => ?_)
set_option maxHeartbeats 8000000 in
set_option maxRecDepth 100000 in
theorem impl_PathOK_1.calls (k : Nat) (a0 : ByteArray) (r : Bool) (w : World) (h : impl_PathOK_1.f k a0=some r) :
  Calls Tryz.prog 45 #[.string a0] w fun e w' => e = .returned (.bool r)∧Drawn0 w w':=by
 have H : ((impl_isShort.f k a0).bind fun t245 => (some (!t245)))=some r:=h;clear h;replace H:=zT.mp H;obtain ⟨t245,A20,H⟩:=H;replace H : (some (!t245))=some r:=H;have A2:=zh A20;clear A20;obtain rfl:=zU H
 go_enter Tryz.func45,Tryz.ntmps45
 go_wp2_with (first|((with_reducible refine zJ (f:=27) rfl ?_);refine yj (some 4) rfl rfl Tryz.func27 (by kernel_rfl) rfl #[.string a0] rfl (by (try simp only [zt,zu,zv]);first|done|rfl|(simp only [zw,zx];rfl)|(simp only [yr,ys,zV,zW];rfl)) ?_;(with_reducible refine (impl_isShort.calls k  a0 t245 _ A2.out).mono ?_);rintro e w' ⟨rfl,⟨nd,rfl⟩⟩;refine ⟨_,rfl,?_⟩))
 go_ret
 exact ⟨by first|rfl|(simp;done)|(simp [*];done),by repeat (first|exact yp _|apply yq)⟩

end Go.Proofs.YthjgfjlogilleaaGreatDoor.Q
end
section
namespace Go.Proofs.YthjgfjlogilleaaGreatDoor.Q
open Go.RowKit Go.Proofs.YthjgfjlogilleaaGreatDoorW.PrintWords Go.Proofs.YthjgfjlogilleaaGreatDoorW.PrintLast Go.Proofs.YthjgfjlogilleaaGreatDoorW.PrintMore
attribute [local go_sem] max2_int min2_int max_two min_two max_three min_three max_four min_four max2_str min2_str str_geq str_gtr str_leq   -- for this text's walks alone
set_option linter.unusedVariables false
set_option linter.unusedSimpArgs false

def slices_IndexFunc_string_string_at_PathOK_1.l0 : Nat→List ByteArray→Int→Int→Option (Int)
 | 0,_,_,_ => none
 | k + 1,x0,x7,x8 => if x8<x7 then (if 0≤x8 then (if x8<(x0.length : Int) then ((impl_PathOK_1.f k (rdOf ByteArray.empty x0 x8)).bind fun t247 => (if t247=true then (some x8) else (slices_IndexFunc_string_string_at_PathOK_1.l0 k x0 x7 (wrap64 (x8 + 1))))) else (none)) else (none)) else (some (-1))
def slices_IndexFunc_string_string_at_PathOK_1.f (k : Nat) (l0 : List ByteArray)  : Option (Int):=slices_IndexFunc_string_string_at_PathOK_1.l0 k l0 (l0.length : Int) 0
theorem slices_IndexFunc_string_string_at_PathOK_1.mono_l : ∀ k,(∀ y0 y1 y2,LeO (slices_IndexFunc_string_string_at_PathOK_1.l0 k y0 y1 y2) (slices_IndexFunc_string_string_at_PathOK_1.l0 (k + 1) y0 y1 y2))
 | 0 => fun _ _ _ r h => by simp [slices_IndexFunc_string_string_at_PathOK_1.l0] at h
 | k + 1 => by
  have ih0:=slices_IndexFunc_string_string_at_PathOK_1.mono_l k;intro y0 y1 y2;unfold slices_IndexFunc_string_string_at_PathOK_1.l0
  repeat' first|(with_reducible exact ih0 _ _ _)|(with_reducible exact impl_PathOK_1.mono _ _)|(with_reducible exact zQ _)|(with_reducible exact zN _)|(with_reducible refine zP ?_ ?_)|(with_reducible refine zO ?_ (fun _ => ?_))|refine zP ?_ ?_|refine zO ?_ (fun _ => ?_)
theorem slices_IndexFunc_string_string_at_PathOK_1.mono : ∀ a0 k,LeO (slices_IndexFunc_string_string_at_PathOK_1.f k a0) (slices_IndexFunc_string_string_at_PathOK_1.f (k + 1) a0):=by
 intro a0 k;have ih0:=slices_IndexFunc_string_string_at_PathOK_1.mono_l k;unfold slices_IndexFunc_string_string_at_PathOK_1.f
 repeat' first|(with_reducible exact ih0 _ _ _)|(with_reducible exact impl_PathOK_1.mono _ _)|(with_reducible exact zQ _)|(with_reducible exact zN _)|(with_reducible refine zP ?_ ?_)|(with_reducible refine zO ?_ (fun _ => ?_))|refine zP ?_ ?_|refine zO ?_ (fun _ => ?_)
set_option maxHeartbeats 8000000 in
set_option maxRecDepth 100000 in
theorem slices_IndexFunc_string_string_at_PathOK_1.calls (k : Nat) (A0 : Option Addr) (c0 : Nat) (l0 : List ByteArray)  (r : Int) (w : World) (hr0 : Kd.C Kd.string w A0 l0.length l0) (hc0 : l0.length≤c0) (h : slices_IndexFunc_string_string_at_PathOK_1.f k l0=some r) :
  Calls Tryz.prog 56 #[.slice A0 l0.length c0,.func (.func 45) #[] #[]] w fun e w' => e = .returned (.int .i64 r)∧Drawn0 w w':=by
 have HR0:=zh hr0;have HC0:=zh hc0;clear hr0 hc0;have H : (slices_IndexFunc_string_string_at_PathOK_1.l0 k l0 (l0.length : Int) 0)=some r:=h;clear h;have H':=zh H;clear H
 go_enter Tryz.func56,Tryz.ntmps56
 go_wp2
 go_loopg [8] k (fun kq v8 w' => ∃ (x8_1 : Int),v8 = .int .i64 x8_1∧Aside0 (slices_IndexFunc_string_string_at_PathOK_1.l0 kq l0 (l0.length : Int) x8_1=some r)∧Aside0 (kq≤k)∧Drawn0 w w')
 case atStart => exact ⟨(0),(by first|rfl|(simp;done)|(simp [*];done)),H',⟨ye _⟩,by repeat (first|exact yp _|apply yq)⟩
 case round =>
  clear H'
  try clear p2
  obtain ⟨x8_1,rfl,HA,HK1,⟨m1,rfl⟩⟩:=hrel
  cases gk with
  | zero => exact absurd HA.out (by simp [slices_IndexFunc_string_string_at_PathOK_1.l0])
  | succ k1 =>
   have H:=HA.out;clear HA;simp only [slices_IndexFunc_string_string_at_PathOK_1.l0] at H
   by_cases c3 : x8_1<(l0.length : Int)
   ·
    rw [if_pos c3] at H
    have c3b0 : decide (x8_1<(l0.length : Int))=true:=decide_eq_true c3;clear c3
    by_cases c4 : 0≤x8_1
    ·
     rw [if_pos c4] at H
     have c4b0 : decide (0≤x8_1)=true:=decide_eq_true c4;clear c4
     by_cases c5 : x8_1<(l0.length : Int)
     ·
      rw [if_pos c5] at H
      have c5b0 : decide (x8_1<(l0.length : Int))=true:=decide_eq_true c5;clear c5;replace H:=zT.mp H;obtain ⟨t247,A60,H⟩:=H;replace H : (if t247=true then (some x8_1) else (slices_IndexFunc_string_string_at_PathOK_1.l0 k1 l0 (l0.length : Int) (wrap64 (x8_1 + 1))))=some r:=H;have A6:=zh A60;clear A60
      by_cases c7 : t247=true
      ·
       subst c7
       have H1 : (some x8_1)=some r:=by rw [if_pos rfl] at H;exact H
       clear H;have H:=H1;clear H1;obtain rfl:=zU H;have p246 : 0≤(x8_1 : Int):=zy (by first|(with_reducible assumption)|assumption);have q246 : x8_1<(l0.length : Int):=zy (by first|(with_reducible assumption)|assumption);obtain ⟨ad246,e246,hx246_0⟩:=Kd.at_string HR0.out x8_1 p246 q246
       cases e246
       replace p246:=eq_true p246;replace q246:=eq_true q246
       go_wp2_with (first|(go_at_call 45;(with_reducible refine (impl_PathOK_1.calls k1  (rdOf ByteArray.empty l0 x8_1) true _ A6.out).mono ?_);rintro e w' ⟨rfl,⟨nd,rfl⟩⟩))
       go_ret
       exact ⟨by first|rfl|(simp;done)|(simp [*];done),by repeat (first|exact yp _|apply yq)⟩
      replace c7:=yb.mpr c7;subst c7;have H1 : (slices_IndexFunc_string_string_at_PathOK_1.l0 k1 l0 (l0.length : Int) (wrap64 (x8_1 + 1)))=some r:=by rw [if_neg (show ¬ (false=true) by decide)] at H;exact H
      clear H;have H:=H1;clear H1;have H':=zh H;clear H;have p246 : 0≤(x8_1 : Int):=zy (by first|(with_reducible assumption)|assumption);have q246 : x8_1<(l0.length : Int):=zy (by first|(with_reducible assumption)|assumption);obtain ⟨ad246,e246,hx246_0⟩:=Kd.at_string HR0.out x8_1 p246 q246
      cases e246
      replace p246:=eq_true p246;replace q246:=eq_true q246
      go_wp2_with (first|(go_at_call 45;(with_reducible refine (impl_PathOK_1.calls k1  (rdOf ByteArray.empty l0 x8_1) false _ A6.out).mono ?_);rintro e w' ⟨rfl,⟨nd,rfl⟩⟩))
      go_roundg k1
      case measure => have:=HK1.out;omega
      case rel => exact ⟨(wrap64 (x8_1 + 1)),(by first|rfl|(simp;done)|(simp [*];done)),H',⟨by have:=HK1.out;omega⟩,by repeat (first|exact yp _|apply yq)⟩
     rw [if_neg c5] at H;exact absurd H (by simp)
    rw [if_neg c4] at H;exact absurd H (by simp)
   rw [if_neg c3] at H;have c3b0 : decide (x8_1<(l0.length : Int))=false:=decide_eq_false c3;clear c3;obtain rfl:=zU H
   go_wp2
   go_ret
   exact ⟨by first|rfl|(simp;done)|(simp [*];done),by repeat (first|exact yp _|apply yq)⟩

end Go.Proofs.YthjgfjlogilleaaGreatDoor.Q
end
section
namespace Go.Proofs.YthjgfjlogilleaaGreatDoor.Q
open Go.RowKit Go.Proofs.YthjgfjlogilleaaGreatDoorW.PrintWords Go.Proofs.YthjgfjlogilleaaGreatDoorW.PrintLast Go.Proofs.YthjgfjlogilleaaGreatDoorW.PrintMore
attribute [local go_sem] max2_int min2_int max_two min_two max_three min_three max_four min_four max2_str min2_str str_geq str_gtr str_leq   -- for this text's walks alone
set_option linter.unusedVariables false
set_option linter.unusedSimpArgs false

def slices_ContainsFunc_string_string_at_PathOK_1.f (k : Nat) (l0 : List ByteArray)  : Option (Bool):=(slices_IndexFunc_string_string_at_PathOK_1.f k l0).bind fun t248 => (some (decide (t248 ≥ 0)))
theorem slices_ContainsFunc_string_string_at_PathOK_1.mono : ∀ a0 k,LeO (slices_ContainsFunc_string_string_at_PathOK_1.f k a0) (slices_ContainsFunc_string_string_at_PathOK_1.f (k + 1) a0):=by
 intro a0 k;unfold slices_ContainsFunc_string_string_at_PathOK_1.f
 repeat' first|(with_reducible exact slices_IndexFunc_string_string_at_PathOK_1.mono _ _)|(with_reducible exact zQ _)|(with_reducible exact zN _)|(with_reducible refine zP ?_ ?_)|(with_reducible refine zO ?_ (fun _ => ?_))|refine zP ?_ ?_|refine zO ?_ (fun _ => ?_)
set_option maxHeartbeats 8000000 in
set_option maxRecDepth 100000 in
theorem slices_ContainsFunc_string_string_at_PathOK_1.calls (k : Nat) (A0 : Option Addr) (c0 : Nat) (l0 : List ByteArray)  (r : Bool) (w : World) (hr0 : Kd.C Kd.string w A0 l0.length l0) (hc0 : l0.length≤c0) (h : slices_ContainsFunc_string_string_at_PathOK_1.f k l0=some r) :
  Calls Tryz.prog 44 #[.slice A0 l0.length c0,.func (.func 45) #[] #[]] w fun e w' => e = .returned (.bool r)∧Drawn0 w w':=by
 have HR0:=zh hr0;have HC0:=zh hc0;clear hr0 hc0;have H : ((slices_IndexFunc_string_string_at_PathOK_1.f k l0).bind fun t248 => (some (decide (t248 ≥ 0))))=some r:=h;clear h;replace H:=zT.mp H;obtain ⟨t248,A30,H⟩:=H;replace H : (some (decide (t248 ≥ 0)))=some r:=H;have A3:=zh A30;clear A30;obtain rfl:=zU H
 go_enter Tryz.func44,Tryz.ntmps44
 go_wp2_with (first|((with_reducible refine zJ (f:=56) rfl ?_);refine yj (some 7) rfl rfl Tryz.func56 (by kernel_rfl) rfl #[.slice A0 l0.length c0,.func (.func 45) #[] #[]] rfl (by (try simp only [zt,zu,zv]);first|done|rfl|(simp only [zw,zx];rfl)|(simp only [yr,ys,zV,zW];rfl)) ?_;(with_reducible refine (slices_IndexFunc_string_string_at_PathOK_1.calls k  _ _ l0  t248 _ ?side1 ?side2 A3.out).mono ?_);(case side1 => repeat (first|exact HR0.out|(with_reducible refine Kd.C_alloc ?_ _)|(with_reducible refine Kd.C_drewN ?_ _)|(with_reducible refine Kd.C_drew ?_)));(case side2 => exact HC0.out);rintro e w' ⟨rfl,⟨nd,rfl⟩⟩;refine ⟨_,rfl,?_⟩))
 go_ret
 exact ⟨by first|rfl|(simp;done)|(simp [*];done),by repeat (first|exact yp _|apply yq)⟩

end Go.Proofs.YthjgfjlogilleaaGreatDoor.Q
end
section
namespace Go.Proofs.YthjgfjlogilleaaGreatDoor.Q
open Go.RowKit Go.Proofs.YthjgfjlogilleaaGreatDoorW.PrintWords Go.Proofs.YthjgfjlogilleaaGreatDoorW.PrintLast Go.Proofs.YthjgfjlogilleaaGreatDoorW.PrintMore
attribute [local go_sem] max2_int min2_int max_two min_two max_three min_three max_four min_four max2_str min2_str str_geq str_gtr str_leq   -- for this text's walks alone
set_option linter.unusedVariables false
set_option linter.unusedSimpArgs false

def impl_PathOK.f (k : Nat) (a0 : ByteArray) : Option (Bool):=(strings_Split.f a0 (⟨#[46]⟩ : ByteArray)).bind fun t249 => (if (a0.size : Int)≤50 then (if (t249.length : Int)≤4 then ((slices_ContainsFunc_string_string_at_PathOK_1.f k t249).bind fun t252 => (some (!t252))) else (some false)) else (some false))
theorem impl_PathOK.mono : ∀ a0 k,LeO (impl_PathOK.f k a0) (impl_PathOK.f (k + 1) a0):=by
 intro a0 k;unfold impl_PathOK.f
 repeat' first|(with_reducible exact slices_ContainsFunc_string_string_at_PathOK_1.mono _ _)|(with_reducible exact zQ _)|(with_reducible exact zN _)|(with_reducible refine zP ?_ ?_)|(with_reducible refine zO ?_ (fun _ => ?_))|refine zP ?_ ?_|refine zO ?_ (fun _ => ?_)
set_option maxHeartbeats 8000000 in
set_option maxRecDepth 100000 in
theorem impl_PathOK.calls (k : Nat) (a0 : ByteArray) (r : Bool) (w : World) (h : impl_PathOK.f k a0=some r) :
  Calls Tryz.prog 34 #[.string a0] w fun e w' => e = .returned (.bool r)∧Below w.heap.size w w':=by
 have HB:=zh (Below.refl w.heap.size w);have H : ((strings_Split.f a0 (⟨#[46]⟩ : ByteArray)).bind fun t249 => (if (a0.size : Int)≤50 then (if (t249.length : Int)≤4 then ((slices_ContainsFunc_string_string_at_PathOK_1.f k t249).bind fun t252 => (some (!t252))) else (some false)) else (some false)))=some r:=h;clear h;replace H:=zT.mp H;obtain ⟨t249,A20,H⟩:=H;replace H : (if (a0.size : Int)≤50 then (if (t249.length : Int)≤4 then ((slices_ContainsFunc_string_string_at_PathOK_1.f k t249).bind fun t252 => (some (!t252))) else (some false)) else (some false))=some r:=H;have A2:=zh A20;clear A20
 by_cases c3 : (a0.size : Int)≤50
 ·
  rw [if_pos c3] at H
  have c3b0 : decide ((a0.size : Int)≤50)=true:=decide_eq_true c3;have c3b1 : decide (a0.size≤50)=true:=decide_eq_true (by omega);clear c3
  by_cases c4 : (t249.length : Int)≤4
  ·
   rw [if_pos c4] at H
   have c4b0 : decide ((t249.length : Int)≤4)=true:=decide_eq_true c4;have c4b1 : decide (t249.length≤4)=true:=decide_eq_true (by omega);clear c4;replace H:=zT.mp H;obtain ⟨t252,A50,H⟩:=H;replace H : (some (!t252))=some r:=H;have A5:=zh A50;clear A50;obtain rfl:=zU H
   go_enter Tryz.func34,Tryz.ntmps34
   go_wp2_with (first|((with_reducible refine zJ (f:=43) rfl ?_);refine yj (some 5) rfl rfl Tryz.func43 (by kernel_rfl) rfl #[.string a0,.string (⟨#[46]⟩ : ByteArray)] rfl (by (try simp only [zt,zu,zv]);first|done|rfl|(simp only [zw,zx];rfl)|(simp only [yr,ys,zV,zW];rfl)) ?_;(with_reducible refine (strings_Split.calls  a0 (⟨#[46]⟩ : ByteArray) t249 _ A2.out).mono ?_);rintro e w6 ⟨v250,rfl,ho0,hb⟩;refine ⟨_,rfl,?_⟩;have HO251:=zh (yy ho0 (zB (by repeat (with_reducible first|exact HB.out|apply za|apply zb|apply zc))));replace HB:=zh (zC (by repeat (with_reducible first|exact HB.out|apply za|apply zb|apply zc)) hb);(try clear hb);(try clear hb2);(try clear hk);(try clear hi);(try clear ho0);obtain ⟨Ao7,co7,eo7⟩:=yk HO251.out;subst eo7)|(go_at_call 44;(with_reducible refine (slices_ContainsFunc_string_string_at_PathOK_1.calls k  _ _ t249  t252 _ ?side1 ?side2 A5.out).mono ?_);(case side1 => repeat (first|exact (yh HO251.out).2.2|(with_reducible refine Kd.C_alloc ?_ _)|(with_reducible refine Kd.C_drewN ?_ _)|(with_reducible refine Kd.C_drew ?_)));(case side2 => exact (yh HO251.out).2.1);rintro e w' ⟨rfl,⟨nd,rfl⟩⟩))
   go_ret
   exact ⟨by first|rfl|(simp [yt,yu] <;> rfl)|(simp [*,yt,yu] <;> rfl),by repeat (with_reducible first|exact HB.out|apply za|apply zb|apply zc)⟩
  rw [if_neg c4] at H;have c4b0 : decide ((t249.length : Int)≤4)=false:=decide_eq_false c4;have c4b1 : decide (t249.length≤4)=false:=decide_eq_false (by omega);clear c4;obtain rfl:=zU H
  go_enter Tryz.func34,Tryz.ntmps34
  go_wp2_with (first|((with_reducible refine zJ (f:=43) rfl ?_);refine yj (some 5) rfl rfl Tryz.func43 (by kernel_rfl) rfl #[.string a0,.string (⟨#[46]⟩ : ByteArray)] rfl (by (try simp only [zt,zu,zv]);first|done|rfl|(simp only [zw,zx];rfl)|(simp only [yr,ys,zV,zW];rfl)) ?_;(with_reducible refine (strings_Split.calls  a0 (⟨#[46]⟩ : ByteArray) t249 _ A2.out).mono ?_);rintro e w8 ⟨v250,rfl,ho0,hb⟩;refine ⟨_,rfl,?_⟩;have HO251:=zh (yy ho0 (zB (by repeat (with_reducible first|exact HB.out|apply za|apply zb|apply zc))));replace HB:=zh (zC (by repeat (with_reducible first|exact HB.out|apply za|apply zb|apply zc)) hb);(try clear hb);(try clear hb2);(try clear hk);(try clear hi);(try clear ho0);obtain ⟨Ao9,co9,eo9⟩:=yk HO251.out;subst eo9))
  go_ret
  exact ⟨by first|rfl|(simp [yt,yu] <;> rfl)|(simp [*,yt,yu] <;> rfl),by repeat (with_reducible first|exact HB.out|apply za|apply zb|apply zc)⟩
 rw [if_neg c3] at H;have c3b0 : decide ((a0.size : Int)≤50)=false:=decide_eq_false c3;have c3b1 : decide (a0.size≤50)=false:=decide_eq_false (by omega);clear c3;obtain rfl:=zU H
 go_enter Tryz.func34,Tryz.ntmps34
 go_wp2_with (first|((with_reducible refine zJ (f:=43) rfl ?_);refine yj (some 5) rfl rfl Tryz.func43 (by kernel_rfl) rfl #[.string a0,.string (⟨#[46]⟩ : ByteArray)] rfl (by (try simp only [zt,zu,zv]);first|done|rfl|(simp only [zw,zx];rfl)|(simp only [yr,ys,zV,zW];rfl)) ?_;(with_reducible refine (strings_Split.calls  a0 (⟨#[46]⟩ : ByteArray) t249 _ A2.out).mono ?_);rintro e w10 ⟨v250,rfl,ho0,hb⟩;refine ⟨_,rfl,?_⟩;have HO251:=zh (yy ho0 (zB (by repeat (with_reducible first|exact HB.out|apply za|apply zb|apply zc))));replace HB:=zh (zC (by repeat (with_reducible first|exact HB.out|apply za|apply zb|apply zc)) hb);(try clear hb);(try clear hb2);(try clear hk);(try clear hi);(try clear ho0)))
 go_ret
 exact ⟨by first|rfl|(simp [yt,yu] <;> rfl)|(simp [*,yt,yu] <;> rfl),by repeat (with_reducible first|exact HB.out|apply za|apply zb|apply zc)⟩

end Go.Proofs.YthjgfjlogilleaaGreatDoor.Q
end
section
namespace Go.Proofs.YthjgfjlogilleaaGreatDoor.Q
open Go.RowKit Go.Proofs.YthjgfjlogilleaaGreatDoorW.PrintWords Go.Proofs.YthjgfjlogilleaaGreatDoorW.PrintLast Go.Proofs.YthjgfjlogilleaaGreatDoorW.PrintMore
attribute [local go_sem] max2_int min2_int max_two min_two max_three min_three max_four min_four max2_str min2_str str_geq str_gtr str_leq   -- for this text's walks alone
set_option linter.unusedVariables false
set_option linter.unusedSimpArgs false

def impl_isNumber.f (a0 : Int) : Option (Bool):=(impl_inRange.f a0 (-1000000000000) 1000000000000).bind fun t253 => (some t253)
set_option maxHeartbeats 8000000 in
set_option maxRecDepth 100000 in
theorem impl_isNumber.calls (a0 : Int) (r : Bool) (w : World) (h : impl_isNumber.f a0=some r) :
  Calls Tryz.prog 57 #[.int .i64 a0] w fun e w' => e = .returned (.bool r)∧Drawn0 w w':=by
 have H : ((impl_inRange.f a0 (-1000000000000) 1000000000000).bind fun t253 => (some t253))=some r:=h;clear h;replace H:=zT.mp H;obtain ⟨t253,A20,H⟩:=H;replace H : (some t253)=some r:=H;have A2:=zh A20;clear A20;obtain rfl:=zU H
 go_enter Tryz.func57,Tryz.ntmps57
 go_wp2_with (first|((with_reducible refine zJ (f:=19) rfl ?_);refine yj (some 4) rfl rfl Tryz.func19 (by kernel_rfl) rfl #[.int .i64 a0,.int .i64 (-1000000000000),.int .i64 1000000000000] rfl (by (try simp only [zt,zu,zv]);first|done|rfl|(simp only [zw,zx];rfl)|(simp only [yr,ys,zV,zW];rfl)) ?_;(with_reducible refine (impl_inRange.calls  a0 (-1000000000000) 1000000000000 t253 _ A2.out).mono ?_);rintro e w' ⟨rfl,⟨nd,rfl⟩⟩;refine ⟨_,rfl,?_⟩))
 go_ret
 exact ⟨by first|rfl|(simp;done)|(simp [*];done),by repeat (first|exact yp _|apply yq)⟩

end Go.Proofs.YthjgfjlogilleaaGreatDoor.Q
end
section
namespace Go.Proofs.YthjgfjlogilleaaGreatDoor.Q
open Go.RowKit Go.Proofs.YthjgfjlogilleaaGreatDoorW.PrintWords Go.Proofs.YthjgfjlogilleaaGreatDoorW.PrintLast Go.Proofs.YthjgfjlogilleaaGreatDoorW.PrintMore
attribute [local go_sem] max2_int min2_int max_two min_two max_three min_three max_four min_four max2_str min2_str str_geq str_gtr str_leq
set_option linter.unusedVariables false
set_option linter.unusedSimpArgs false

def strings_Repeat.f (a0 : ByteArray) (a1 : Int) : Option (ByteArray):=if 0≤a1 then (if a0.size * a1.toNat≤140737488355328 then (if a1≤9223372036854775807 then (some ⟨(Lib.repeatL a0.data.toList a1.toNat).toArray⟩) else (none)) else (none)) else (none)
theorem strings_Repeat.calls (a0 : ByteArray) (a1 : Int) (r : ByteArray) (w : World) (h : strings_Repeat.f a0 a1=some r) :
  Calls Tryz.prog 87 #[.string a0,.int .i64 a1] w fun e w' => e = .returned (.string r)∧Below w.heap.size w w':=by
 unfold strings_Repeat.f at h
 by_cases h0 : 0≤a1
 ·
  rw [if_pos h0] at h
  by_cases h1 : a0.size * a1.toNat≤140737488355328
  ·
   rw [if_pos h1] at h
   by_cases h2 : a1≤9223372036854775807
   ·
    rw [if_pos h2] at h
    obtain rfl:=zU h;have:=Tryz.strings_Repeat a0 a1.toNat w (by omega) h1;rw [Int.toNat_of_nonneg h0] at this;exact this
   rw [if_neg h2] at h;exact absurd h (by simp)
  rw [if_neg h1] at h;exact absurd h (by simp)
 rw [if_neg h0] at h;exact absurd h (by simp)

end Go.Proofs.YthjgfjlogilleaaGreatDoor.Q
end
section
namespace Go.Proofs.YthjgfjlogilleaaGreatDoor.Q
open Go.RowKit Go.Proofs.YthjgfjlogilleaaGreatDoorW.PrintWords Go.Proofs.YthjgfjlogilleaaGreatDoorW.PrintLast Go.Proofs.YthjgfjlogilleaaGreatDoorW.PrintMore
attribute [local go_sem] max2_int min2_int max_two min_two max_three min_three max_four min_four max2_str min2_str str_geq str_gtr str_leq   -- for this text's walks alone
set_option linter.unusedVariables false
set_option linter.unusedSimpArgs false

def IsS110 (w0 W : World) (g : Nat) (f0 : ByteArray) (f1 : Bool) : Prop:=W.heap[g]? = some (.cells #[.string f0,.bool f1] 110 (0,0))∧w0.heap.size≤g
theorem IsS110.grown {w0 W : World} {g : Nat} {f0 : ByteArray} {f1 : Bool} {W1 : World} {row : Option Nat} (h : IsS110 w0 W g f0 f1) (hw : W.grownBy W1 row) (hne : some g≠row) : IsS110 w0 W1 g f0 f1:=by
 obtain ⟨hb,hg⟩:=h;exact ⟨yw hb hw hne,hg⟩
theorem IsS110.fresh {w0 W : World} {g : Nat} {f0 : ByteArray} {f1 : Bool} (h : IsS110 w0 W g f0 f1) : ∀ k,W.heap.size≤k→k≠g:=by
 obtain ⟨hb,hg⟩:=h;exact Kd.freshB hb
theorem IsS110.kept {w0 W : World} {g : Nat} {f0 : ByteArray} {f1 : Bool} {W1 : World} {S : Nat→Prop} (h : IsS110 w0 W g f0 f1) (hk : Kept W W1 S) (hne : ¬ S g) : IsS110 w0 W1 g f0 f1:=by
 obtain ⟨hb,hg⟩:=h;exact ⟨blk_kept hb hk hne,hg⟩
theorem IsS110.below {w0 W : World} {g : Nat} {f0 : ByteArray} {f1 : Bool} {W1 : World} (h : IsS110 w0 W g f0 f1) (hw : Below W.heap.size W W1) : IsS110 w0 W1 g f0 f1:=h.grown (grown_of_below hw none) (by simp)
theorem IsS110.alloc {w0 W : World} {g : Nat} {f0 : ByteArray} {f1 : Bool} (h : IsS110 w0 W g f0 f1) (o : Obj) : IsS110 w0 (W.alloc o) g f0 f1:=h.below (za (Below.refl _ _) o)
theorem IsS110.drewN {w0 W : World} {g : Nat} {f0 : ByteArray} {f1 : Bool} (h : IsS110 w0 W g f0 f1) (m : Nat) : IsS110 w0 (W.drewN m) g f0 f1:=h
theorem IsS110.drew {w0 W : World} {g : Nat} {f0 : ByteArray} {f1 : Bool} (h : IsS110 w0 W g f0 f1) : IsS110 w0 W.drew g f0 f1:=h
theorem IsS110.at_ {w0 W : World} {g : Nat} {f0 : ByteArray} {f1 : Bool} {w' : World} {m : Nat} (hq : W.drewN m=w') (h : IsS110 w0 W g f0 f1) : IsS110 w0 w' g f0 f1:=by subst hq;exact IsS110.drewN h m
theorem IsS110.apart {w0 W : World} {g : Nat} {f0 : ByteArray} {f1 : Bool} {α : Type} {d : Kd α} {e : Nat} {base : Nat} {ok : Nat→Prop} {v : Value} {xs : List α} (h : IsS110 w0 W g f0 f1) (ho : d.R e W base ok v xs) (ht : ∀ q,q ∈ e :: d.E→q≠110) : d.R e W base (fun k => ok k∧k≠g) v xs:=by
 obtain ⟨hb,hg⟩:=h;exact yf ho hb ht
theorem IsS110.own_ne {w0 W : World} {g : Nat} {f0 : ByteArray} {f1 : Bool} {α : Type} {d : Kd α} {e : Nat} {base : Nat} {ok : Nat→Prop} {v : Value} {xs : List α} (h : IsS110 w0 W g f0 f1) (ho : d.R e W base ok v xs) (ht : e≠110) : some g≠v.ownBlock:=by
 obtain ⟨hb,hg⟩:=h;exact Kd.R_ne ho hb ht
theorem IsS110.lt {w0 W : World} {g : Nat} {f0 : ByteArray} {f1 : Bool} (h : IsS110 w0 W g f0 f1) : g<W.heap.size:=by
 obtain ⟨hb,hg⟩:=h;exact yi hb
theorem IsS110.ge {w0 W : World} {g : Nat} {f0 : ByteArray} {f1 : Bool} (h : IsS110 w0 W g f0 f1) : w0.heap.size≤g:=by
 obtain ⟨hb,hg⟩:=h;exact hg
theorem IsS110.far {w0 W : World} {g : Nat} {f0 : ByteArray} {f1 : Bool} {p : Addr} (h : IsS110 w0 W g f0 f1) (hne : g≠p.block) (u : Value) : IsS110 w0 (W.setCell p u) g f0 f1:=by
 obtain ⟨hb,hg⟩:=h;exact ⟨zS hb hne u,hg⟩
theorem cellS110_0 {W : World} {g : Nat} {f0 : ByteArray} {f1 : Bool} (h : W.heap[g]? = some (.cells #[.string f0,.bool f1] 110 (0,0))) : W.cell? ⟨g,0,none⟩=some (.string f0):=(zz h 0).trans rfl
theorem IsS110.set_0 {w0 W : World} {g : Nat} {f0 : ByteArray} {f1 : Bool} (h : IsS110 w0 W g f0 f1) (x : ByteArray) : IsS110 w0 (W.setCell ⟨g,0,none⟩ (.string x)) g x f1:=by
 obtain ⟨hb,hg⟩:=h;exact ⟨by simpa using blk_set hb 0 (.string x),hg⟩
theorem cellS110_1 {W : World} {g : Nat} {f0 : ByteArray} {f1 : Bool} (h : W.heap[g]? = some (.cells #[.string f0,.bool f1] 110 (0,0))) : W.cell? ⟨g,1,none⟩=some (.bool f1):=(zz h 1).trans rfl
theorem IsS110.set_1 {w0 W : World} {g : Nat} {f0 : ByteArray} {f1 : Bool} (h : IsS110 w0 W g f0 f1) (x : Bool) : IsS110 w0 (W.setCell ⟨g,1,none⟩ (.bool x)) g f0 x:=by
 obtain ⟨hb,hg⟩:=h;exact ⟨by simpa using blk_set hb 1 (.bool x),hg⟩
theorem IsS110.new (w0 W : World) (f0 : ByteArray) (f1 : Bool) (hB : Below w0.heap.size w0 W) : IsS110 w0 (W.alloc (.cells #[.string f0,.bool f1] 110)) W.heap.size f0 f1:=⟨by simpa using heap_alloc_new W _,hB.size⟩

def impl_byteReader_take.f (s0_0 : ByteArray) (s0_1 : Bool) (a1 : Int) : Option (ByteArray×ByteArray×Bool):=if a1 > (s0_0.size : Int) then ((strings_Repeat.f (⟨#[0]⟩ : ByteArray) a1).bind fun t257 => (some (t257,s0_0,true))) else (if 0≤a1 then (if a1≤(s0_0.size : Int) then (some (s0_0.extract 0 (a1 : Int).toNat,s0_0.extract (a1 : Int).toNat s0_0.size,s0_1)) else (none)) else (none))
set_option maxHeartbeats 8000000 in
set_option maxRecDepth 100000 in
theorem impl_byteReader_take.calls (g : Nat) (s0_0 : ByteArray) (s0_1 : Bool) (a1 : Int) (r1 : ByteArray) (r2 : ByteArray) (r3 : Bool) (w0 w : World) (hI : IsS110 w0 w g s0_0 s0_1) (hB : Below w0.heap.size w0 w) (h : impl_byteReader_take.f s0_0 s0_1 a1=some (r1,r2,r3)) :
  Calls Tryz.prog 80 #[.pointer (some ⟨g,0,none⟩),.int .i64 a1] w fun e w' => e = .returned (.string r1)∧IsS110 w0 w' g r2 r3∧Below w0.heap.size w0 w' ∧ KeepBut w w' g none:=by
 have HI0:=zh hI;have HK:=zh (KeepBut.refl w g none);have HL:=zh hB.size;clear hI;have HW0:=zh hB.size;have HB:=zh hB;clear hB;have H : (if a1 > (s0_0.size : Int) then ((strings_Repeat.f (⟨#[0]⟩ : ByteArray) a1).bind fun t257 => (some (t257,s0_0,true))) else (if 0≤a1 then (if a1≤(s0_0.size : Int) then (some (s0_0.extract 0 (a1 : Int).toNat,s0_0.extract (a1 : Int).toNat s0_0.size,s0_1)) else (none)) else (none)))=some (r1,r2,r3):=h;clear h
 by_cases c3 : a1 > (s0_0.size : Int)
 ·
  rw [if_pos c3] at H
  have c3b0 : decide ((s0_0.size : Int)<a1)=true:=decide_eq_true c3;clear c3;replace H:=zT.mp H;obtain ⟨t257,A40,H⟩:=H;replace H : (some (t257,s0_0,true))=some (r1,r2,r3):=H;have A4:=zh A40;clear A40;simp only [Option.some.injEq,Prod.mk.injEq] at H;obtain ⟨rfl,rfl,rfl⟩:=H;obtain ⟨HGz5,hgz5⟩:=HI0.out;have hcz5_0:=cellS110_0 HGz5;have hcz5_1:=cellS110_1 HGz5;have hfz5_0:=zA HGz5 0;have hfz5_1:=zA HGz5 1;clear HGz5 hgz5
  go_enter Tryz.func80,Tryz.ntmps80
  go_wp2_with (first|((with_reducible refine zJ (f:=87) rfl ?_);refine yj (some 17) rfl rfl Tryz.func87 (by kernel_rfl) rfl #[.string (⟨#[0]⟩ : ByteArray),.int .i64 a1] rfl (by (try simp only [zt,zu,zv]);first|done|rfl|(simp only [zw,zx];rfl)|(simp only [yr,ys,zV,zW];rfl)) ?_;(with_reducible refine (strings_Repeat.calls  (⟨#[0]⟩ : ByteArray) a1 t257 _ A4.out).mono ?_);rintro e w6 ⟨rfl,hb⟩;refine ⟨_,rfl,?_⟩;replace HK:=zh (KeepBut.trans (by repeat (with_reducible first|exact HK.out|apply yl|apply ym|apply yx|apply yn)) (KeepBut.of_below hb g none) (.inl rfl));replace HB:=zh (zC (by repeat (with_reducible first|exact HB.out|apply za|apply zb|apply zc|refine zd ?_ (IsS110.ge HI0.out))) hb);replace HI0:=zh (IsS110.below (show IsS110 w0 (w.setCell ⟨g,1,none⟩ (.bool true)) g s0_0 true from by repeat (with_reducible first|exact HI0.out|apply IsS110.alloc|apply IsS110.drewN|apply IsS110.drew|apply IsS110.set_0|apply IsS110.set_1)) hb);(try clear hb);(try clear hb2);(try clear hk);(try clear hi)))
  go_ret
  exact ⟨by first|rfl|(simp [yt,yu] <;> rfl)|(simp [*,yt,yu] <;> rfl),by repeat (with_reducible first|exact HI0.out|apply IsS110.alloc|apply IsS110.drewN|apply IsS110.drew|apply IsS110.set_0|apply IsS110.set_1),by repeat (with_reducible first|exact HB.out|apply za|apply zb|apply zc|refine zd ?_ (IsS110.ge HI0.out)),by repeat (with_reducible first|exact HK.out|apply yl|apply ym|apply yx|apply yn)⟩
 rw [if_neg c3] at H;have c3b0 : decide ((s0_0.size : Int)<a1)=false:=decide_eq_false c3;clear c3
 by_cases c7 : 0≤a1
 ·
  rw [if_pos c7] at H
  have c7b0:=eq_true c7;have c7b1 : decide (0≤a1)=true:=decide_eq_true c7;clear c7
  by_cases c8 : a1≤(s0_0.size : Int)
  ·
   rw [if_pos c8] at H
   have c8b0:=eq_true c8;have c8b1 : decide (a1≤(s0_0.size : Int))=true:=decide_eq_true c8;clear c8;have c9b0:=eq_true (zy (by first|(with_reducible assumption)|assumption) : 0≤a1);have c10b0:=eq_true (zy (by first|(with_reducible assumption)|assumption) : a1≤(s0_0.size : Int));simp only [Option.some.injEq,Prod.mk.injEq] at H;obtain ⟨rfl,rfl,rfl⟩:=H;obtain ⟨HGz11,hgz11⟩:=HI0.out;have hcz11_0:=cellS110_0 HGz11;have hcz11_1:=cellS110_1 HGz11;have hfz11_0:=zA HGz11 0;have hfz11_1:=zA HGz11 1;clear HGz11 hgz11
   go_enter Tryz.func80,Tryz.ntmps80
   go_wp2
   go_ret
   exact ⟨by first|rfl|(simp [yt,yu] <;> rfl)|(simp [*,yt,yu] <;> rfl),by repeat (with_reducible first|exact HI0.out|apply IsS110.alloc|apply IsS110.drewN|apply IsS110.drew|apply IsS110.set_0|apply IsS110.set_1),by repeat (with_reducible first|exact HB.out|apply za|apply zb|apply zc|refine zd ?_ (IsS110.ge HI0.out)),by repeat (with_reducible first|exact HK.out|apply yl|apply ym|apply yx|apply yn)⟩
  rw [if_neg c8] at H;exact absurd H (by simp)
 rw [if_neg c7] at H;exact absurd H (by simp)

end Go.Proofs.YthjgfjlogilleaaGreatDoor.Q
end
section
namespace Go.Proofs.YthjgfjlogilleaaGreatDoor.Q
open Go.RowKit Go.Proofs.YthjgfjlogilleaaGreatDoorW.PrintWords Go.Proofs.YthjgfjlogilleaaGreatDoorW.PrintLast Go.Proofs.YthjgfjlogilleaaGreatDoorW.PrintMore
attribute [local go_sem] max2_int min2_int max_two min_two max_three min_three max_four min_four max2_str min2_str str_geq str_gtr str_leq   -- for this text's walks alone
set_option linter.unusedVariables false
set_option linter.unusedSimpArgs false

def impl_big.l0 : Nat→Int→List Int→Int→Int→Option (Int)
 | 0,_,_,_,_ => none
 | k + 1,x3,x6,x7,x8 => if x8<x7 then (if 0≤x8 then (if x8<(x6.length : Int) then (impl_big.l0 k (Go.bits .or .i64 (wrap64 (x3 * 256)) (wrap64 (rd x6 x8))) x6 x7 (wrap64 (x8 + 1))) else (none)) else (none)) else (some x3)
def impl_big.f (k : Nat) (l0 : List Int) : Option (Int):=impl_big.l0 k 0 l0 (l0.length : Int) 0
theorem impl_big.mono_l : ∀ k,(∀ y0 y1 y2 y3,LeO (impl_big.l0 k y0 y1 y2 y3) (impl_big.l0 (k + 1) y0 y1 y2 y3))
 | 0 => fun _ _ _ _ r h => by simp [impl_big.l0] at h
 | k + 1 => by
  have ih0:=impl_big.mono_l k;intro y0 y1 y2 y3;unfold impl_big.l0
  repeat' first|(with_reducible exact ih0 _ _ _ _)|(with_reducible exact zQ _)|(with_reducible exact zN _)|(with_reducible refine zP ?_ ?_)|(with_reducible refine zO ?_ (fun _ => ?_))|refine zP ?_ ?_|refine zO ?_ (fun _ => ?_)
theorem impl_big.mono : ∀ a0 k,LeO (impl_big.f k a0) (impl_big.f (k + 1) a0):=by
 intro a0 k;have ih0:=impl_big.mono_l k;unfold impl_big.f
 repeat' first|(with_reducible exact ih0 _ _ _ _)|(with_reducible exact zQ _)|(with_reducible exact zN _)|(with_reducible refine zP ?_ ?_)|(with_reducible refine zO ?_ (fun _ => ?_))|refine zP ?_ ?_|refine zO ?_ (fun _ => ?_)
set_option maxHeartbeats 8000000 in
set_option maxRecDepth 100000 in
theorem impl_big.calls (k : Nat) (A0 : Option Addr) (c0 : Nat) (l0 : List Int) (r : Int) (w : World) (hr0 : Kd.C (Kd.int .u8) w A0 l0.length l0) (hc0 : l0.length≤c0) (h : impl_big.f k l0=some r) :
  Calls Tryz.prog 88 #[.slice A0 l0.length c0] w fun e w' => e = .returned (.int .i64 r)∧Drawn0 w w':=by
 have HR0:=zh hr0;have HC0:=zh hc0;clear hr0 hc0;have H : (impl_big.l0 k 0 l0 (l0.length : Int) 0)=some r:=h;clear h;have H':=zh H;clear H
 go_enter Tryz.func88,Tryz.ntmps88
 go_wp2
 go_loopg [3,8] k (fun kq v3 v8 w' => ∃ (x3_1 : Int) (x8_1 : Int),v3 = .int .i64 x3_1∧v8 = .int .i64 x8_1∧Aside0 (impl_big.l0 kq x3_1 l0 (l0.length : Int) x8_1=some r)∧Aside0 (kq≤k)∧Drawn0 w w')
 case atStart => exact ⟨(0),(0),(by first|rfl|(simp;done)|(simp [*];done)),(by first|rfl|(simp;done)|(simp [*];done)),H',⟨ye _⟩,by repeat (first|exact yp _|apply yq)⟩
 case round =>
  clear H';obtain ⟨x3_1,x8_1,rfl,rfl,HA,HK1,⟨m1,rfl⟩⟩:=hrel
  cases gk with
  | zero => exact absurd HA.out (by simp [impl_big.l0])
  | succ k1 =>
   have H:=HA.out;clear HA;simp only [impl_big.l0] at H
   by_cases c2 : x8_1<(l0.length : Int)
   ·
    rw [if_pos c2] at H
    have c2b0 : decide (x8_1<(l0.length : Int))=true:=decide_eq_true c2;clear c2
    by_cases c3 : 0≤x8_1
    ·
     rw [if_pos c3] at H
     have c3b0 : decide (0≤x8_1)=true:=decide_eq_true c3;clear c3
     by_cases c4 : x8_1<(l0.length : Int)
     ·
      rw [if_pos c4] at H
      have c4b0 : decide (x8_1<(l0.length : Int))=true:=decide_eq_true c4;clear c4;have H':=zh H;clear H;have p258 : 0≤(x8_1 : Int):=zy (by first|(with_reducible assumption)|assumption);have q258 : x8_1<(l0.length : Int):=zy (by first|(with_reducible assumption)|assumption);obtain ⟨ad258,e258,hx258_0⟩:=Kd.at_int HR0.out x8_1 p258 q258
      cases e258
      replace p258:=eq_true p258;replace q258:=eq_true q258
      go_wp2
      go_roundg k1
      case measure => have:=HK1.out;omega
      case rel => exact ⟨(Go.bits .or .i64 (wrap64 (x3_1 * 256)) (wrap64 (rd l0 x8_1))),(wrap64 (x8_1 + 1)),(by first|rfl|(simp;done)|(simp [*];done)),(by first|rfl|(simp;done)|(simp [*];done)),H',⟨by have:=HK1.out;omega⟩,by repeat (first|exact yp _|apply yq)⟩
     rw [if_neg c4] at H;exact absurd H (by simp)
    rw [if_neg c3] at H;exact absurd H (by simp)
   rw [if_neg c2] at H;have c2b0 : decide (x8_1<(l0.length : Int))=false:=decide_eq_false c2;clear c2;obtain rfl:=zU H
   go_wp2
   go_ret
   exact ⟨by first|rfl|(simp;done)|(simp [*];done),by repeat (first|exact yp _|apply yq)⟩

end Go.Proofs.YthjgfjlogilleaaGreatDoor.Q
end
section
namespace Go.Proofs.YthjgfjlogilleaaGreatDoor.Q
open Go.RowKit Go.Proofs.YthjgfjlogilleaaGreatDoorW.PrintWords Go.Proofs.YthjgfjlogilleaaGreatDoorW.PrintLast Go.Proofs.YthjgfjlogilleaaGreatDoorW.PrintMore
attribute [local go_sem] max2_int min2_int max_two min_two max_three min_three max_four min_four max2_str min2_str str_geq str_gtr str_leq   -- for this text's walks alone
set_option linter.unusedVariables false
set_option linter.unusedSimpArgs false

def impl_byteReader_num.f (k : Nat) (s0_0 : ByteArray) (s0_1 : Bool) (a1 : Int) : Option (Int×ByteArray×Bool):=(impl_byteReader_take.f s0_0 s0_1 a1).bind fun bt259 => (if bt259.1.size≤9223372036854775807 then ((impl_big.f k (bytesOf bt259.1)).bind fun t265 => (some (t265,bt259.2.1,bt259.2.2))) else (none))
theorem impl_byteReader_num.mono : ∀ a0 a1 a2 k,LeO (impl_byteReader_num.f k a0 a1 a2) (impl_byteReader_num.f (k + 1) a0 a1 a2):=by
 intro a0 a1 a2 k;unfold impl_byteReader_num.f
 repeat' first|(with_reducible exact impl_big.mono _ _)|(with_reducible exact zQ _)|(with_reducible exact zN _)|(with_reducible refine zP ?_ ?_)|(with_reducible refine zO ?_ (fun _ => ?_))|refine zP ?_ ?_|refine zO ?_ (fun _ => ?_)
set_option maxHeartbeats 8000000 in
set_option maxRecDepth 100000 in
theorem impl_byteReader_num.calls (k : Nat) (g : Nat) (s0_0 : ByteArray) (s0_1 : Bool) (a1 : Int) (r1 : Int) (r2 : ByteArray) (r3 : Bool) (w0 w : World) (hI : IsS110 w0 w g s0_0 s0_1) (hB : Below w0.heap.size w0 w) (h : impl_byteReader_num.f k s0_0 s0_1 a1=some (r1,r2,r3)) :
  Calls Tryz.prog 81 #[.pointer (some ⟨g,0,none⟩),.int .i64 a1] w fun e w' => e = .returned (.int .i64 r1)∧IsS110 w0 w' g r2 r3∧Below w0.heap.size w0 w' ∧ KeepBut w w' g none:=by
 have HI0:=zh hI;have HK:=zh (KeepBut.refl w g none);have HL:=zh hB.size;clear hI;have HW0:=zh hB.size;have HB:=zh hB;clear hB;have H : ((impl_byteReader_take.f s0_0 s0_1 a1).bind fun bt259 => (if bt259.1.size≤9223372036854775807 then ((impl_big.f k (bytesOf bt259.1)).bind fun t265 => (some (t265,bt259.2.1,bt259.2.2))) else (none)))=some (r1,r2,r3):=h;clear h;replace H:=zT.mp H;obtain ⟨⟨t259,t260,t261⟩,A30,H⟩:=H;replace H : (if t259.size≤9223372036854775807 then ((impl_big.f k (bytesOf t259)).bind fun t265 => (some (t265,t260,t261))) else (none))=some (r1,r2,r3):=H;have A3:=zh A30;clear A30
 by_cases c4 : t259.size≤9223372036854775807
 ·
  rw [if_pos c4] at H
  have c4b0:=eq_true c4;have c4b1 : decide (t259.size≤9223372036854775807)=true:=decide_eq_true c4
  try have c4b2 : (9223372036854775807<t259.size)=False:=eq_false (Nat.not_lt.2 c4)
  clear c4;obtain ⟨y262,hy262⟩ : ∃ y_ : List Int,y_=(bytesOf t259):=⟨_,rfl⟩;replace H : ((impl_big.f k y262).bind fun t265 => (some (t265,t260,t261)))=some (r1,r2,r3):=by first|(rw [hy262];with_reducible exact H)|(have H2_:=(Option.bind_some _ _).symm.trans H;rw [hy262];with_reducible exact H2_)|(have H2_:=(Option.bind_some _ _).symm.trans H;with_reducible exact H2_)|with_reducible exact H|(rw [hy262];exact H)|exact H
  have Ny262:=zh hy262;clear hy262;replace H:=zT.mp H;obtain ⟨t265,A50,H⟩:=H;replace H : (some (t265,t260,t261))=some (r1,r2,r3):=H;have A5:=zh A50;clear A50;simp only [Option.some.injEq,Prod.mk.injEq] at H;obtain ⟨rfl,rfl,rfl⟩:=H
  go_enter Tryz.func81,Tryz.ntmps81
  go_wp2_with (first|((with_reducible refine zJ (f:=80) rfl ?_);refine yj (some 7) rfl rfl Tryz.func80 (by kernel_rfl) rfl #[.pointer (some ⟨g,0,none⟩),.int .i64 a1] rfl (by (try simp only [zt,zu,zv]);first|done|rfl|(simp only [zw,zx];rfl)|(simp only [yr,ys,zV,zW];rfl)) ?_;(with_reducible refine (impl_byteReader_take.calls  g s0_0 s0_1 a1 t259 t260 t261 w0 _ ?side1 ?side2 A3.out).mono ?_);(case side1 => repeat (with_reducible first|exact HI0.out|apply IsS110.alloc|apply IsS110.drewN|apply IsS110.drew|apply IsS110.set_0|apply IsS110.set_1));(case side2 => repeat (with_reducible first|exact HB.out|apply za|apply zb|apply zc|refine zd ?_ (IsS110.ge HI0.out)));rintro e w6 ⟨rfl,hi,hb,hk⟩;refine ⟨_,rfl,?_⟩;replace HK:=zh (KeepBut.trans (by repeat (with_reducible first|exact HK.out|apply yl|apply ym|apply yx|apply yn)) hk (.inl rfl));replace HB:=zh (hb);replace HI0:=zh (hi);(try clear hb);(try clear hb2);(try clear hk);(try clear hi))|((with_reducible refine zK (N:=8) rfl ?_);refine conv_event (base:=w6.heap.size) ?hg (N:=8) ?hd 9 117 5 t259 rfl ?hx Tryz.underlying9 Tryz.underlying117 Tryz.underlying5 (zy (by first|(with_reducible assumption)|assumption)) ?_;(case hd => rfl);(case hg => rfl);(case hx => first|(go_simp;done)|(go_simp;rfl)|rfl);intro v263 w7 ho8 hb;(first|rw [← Ny262.out] at ho8|(simp only [Int.reduceToNat] at ho8;rw [← Ny262.out] at ho8));have HO264:=zh (Kd.V_lower (Kd.V_mono (ok':=fun k_ => k_≠g) ho8 (fun k_ hk_ => (IsS110.fresh (by repeat (with_reducible first|exact HI0.out|apply IsS110.alloc|apply IsS110.drewN|apply IsS110.drew|apply IsS110.set_0|apply IsS110.set_1)) k_ hk_))) (keep_size (w:=w) (g:=g) (row:=none) (by repeat (with_reducible first|exact HK.out|apply yl|apply ym|apply yx|apply yn))));replace HK:=zh (KeepBut.trans (by repeat (with_reducible first|exact HK.out|apply yl|apply ym|apply yx|apply yn)) (KeepBut.of_below hb g none) (.inl rfl));replace HB:=zh (zC (by repeat (with_reducible first|exact HB.out|apply za|apply zb|apply zc|refine zd ?_ (IsS110.ge HI0.out))) hb);replace HI0:=zh (IsS110.below (by repeat (with_reducible first|exact HI0.out|apply IsS110.alloc|apply IsS110.drewN|apply IsS110.drew|apply IsS110.set_0|apply IsS110.set_1)) hb);clear hb ho8;obtain ⟨Ao9,co9,eo9⟩:=Kd.V_slice HO264.out;subst eo9)|((with_reducible refine zJ (f:=88) rfl ?_);refine yj (some 9) rfl rfl Tryz.func88 (by kernel_rfl) rfl #[.slice Ao9 y262.length co9] rfl (by (try simp only [zt,zu,zv]);first|done|rfl|(simp only [zw,zx];rfl)|(simp only [yr,ys,zV,zW];rfl)) ?_;(with_reducible refine (impl_big.calls k  _ _ y262 t265 _ ?side1 ?side2 A5.out).mono ?_);(case side1 => repeat (first|exact (Kd.V_reads' HO264.out).2.2|(with_reducible refine Kd.C_alloc ?_ _)|(with_reducible refine Kd.C_drewN ?_ _)|(with_reducible refine Kd.C_drew ?_)));(case side2 => exact (Kd.V_reads' HO264.out).2.1);rintro e w' ⟨rfl,⟨nd,rfl⟩⟩;refine ⟨_,rfl,?_⟩))
  go_ret
  exact ⟨by first|rfl|(simp [yt,yu] <;> rfl)|(simp [*,yt,yu] <;> rfl),by repeat (with_reducible first|exact HI0.out|apply IsS110.alloc|apply IsS110.drewN|apply IsS110.drew|apply IsS110.set_0|apply IsS110.set_1),by repeat (with_reducible first|exact HB.out|apply za|apply zb|apply zc|refine zd ?_ (IsS110.ge HI0.out)),by repeat (with_reducible first|exact HK.out|apply yl|apply ym|apply yx|apply yn)⟩
 rw [if_neg c4] at H;exact absurd H (by simp)

end Go.Proofs.YthjgfjlogilleaaGreatDoor.Q
end
section
namespace Go.Proofs.YthjgfjlogilleaaGreatDoor.Q
open Go.RowKit Go.Proofs.YthjgfjlogilleaaGreatDoorW.PrintWords Go.Proofs.YthjgfjlogilleaaGreatDoorW.PrintLast Go.Proofs.YthjgfjlogilleaaGreatDoorW.PrintMore
attribute [local go_sem] max2_int min2_int max_two min_two max_three min_three max_four min_four max2_str min2_str str_geq str_gtr str_leq   -- for this text's walks alone
set_option linter.unusedVariables false
set_option linter.unusedSimpArgs false

def impl_byteReader_value.j0 : Nat→Bool→ByteArray→Bool→Int→Int→ByteArray→Option (Int×Int×ByteArray×ByteArray×Bool)
 | 0,_,_,_,_,_,_ => none
 | k + 1,x20,x1000,x1001,x271000,x271001,x271002 => if x20=true then ((impl_byteReader_num.f k x1000 x1001 2).bind fun bt277 => ((impl_byteReader_take.f bt277.2.1 bt277.2.2 bt277.1).bind fun bt280 => (some (x271000,x271001,bt280.1,bt280.2.1,bt280.2.2)))) else (some (x271000,x271001,x271002,x1000,x1001))
def impl_byteReader_value.f (k : Nat) (s0_0 : ByteArray) (s0_1 : Bool) : Option (Int×Int×ByteArray×ByteArray×Bool):=(impl_byteReader_num.f k s0_0 s0_1 1).bind fun bt267 => (if bt267.1=1 then ((impl_byteReader_num.f k bt267.2.1 bt267.2.2 1).bind fun bt271 => (some (bt267.1,bt271.1,(⟨#[]⟩ : ByteArray),bt271.2.1,bt271.2.2))) else (if bt267.1=2 then ((impl_byteReader_num.f k bt267.2.1 bt267.2.2 8).bind fun bt274 => (some (bt267.1,wrap64 (bt274.1 - 4611686018427387904),(⟨#[]⟩ : ByteArray),bt274.2.1,bt274.2.2))) else (if bt267.1=3 then (impl_byteReader_value.j0 k (bt267.1 == 3) bt267.2.1 bt267.2.2 bt267.1 0 (⟨#[]⟩ : ByteArray)) else (if bt267.1=4 then (impl_byteReader_value.j0 k (bt267.1 == 4) bt267.2.1 bt267.2.2 bt267.1 0 (⟨#[]⟩ : ByteArray)) else (impl_byteReader_value.j0 k (bt267.1 == 5) bt267.2.1 bt267.2.2 bt267.1 0 (⟨#[]⟩ : ByteArray))))))
theorem impl_byteReader_value.mono_l : ∀ k,(∀ y0 y1 y2 y3 y4 y5,LeO (impl_byteReader_value.j0 k y0 y1 y2 y3 y4 y5) (impl_byteReader_value.j0 (k + 1) y0 y1 y2 y3 y4 y5))
 | 0 => fun _ _ _ _ _ _ r h => by simp [impl_byteReader_value.j0] at h
 | k + 1 => by
  have ih0:=impl_byteReader_value.mono_l k;intro y0 y1 y2 y3 y4 y5;unfold impl_byteReader_value.j0
  repeat' first|(with_reducible exact ih0 _ _ _ _ _ _)|(with_reducible exact impl_byteReader_num.mono _ _ _ _)|(with_reducible exact zQ _)|(with_reducible exact zN _)|(with_reducible refine zP ?_ ?_)|(with_reducible refine zO ?_ (fun _ => ?_))|refine zP ?_ ?_|refine zO ?_ (fun _ => ?_)
theorem impl_byteReader_value.mono : ∀ a0 a1 k,LeO (impl_byteReader_value.f k a0 a1) (impl_byteReader_value.f (k + 1) a0 a1):=by
 intro a0 a1 k;have ih0:=impl_byteReader_value.mono_l k;unfold impl_byteReader_value.f
 repeat' first|(with_reducible exact ih0 _ _ _ _ _ _)|(with_reducible exact impl_byteReader_num.mono _ _ _ _)|(with_reducible exact zQ _)|(with_reducible exact zN _)|(with_reducible refine zP ?_ ?_)|(with_reducible refine zO ?_ (fun _ => ?_))|refine zP ?_ ?_|refine zO ?_ (fun _ => ?_)
set_option maxHeartbeats 8000000 in
set_option maxRecDepth 100000 in
theorem impl_byteReader_value.calls (k : Nat) (g : Nat) (s0_0 : ByteArray) (s0_1 : Bool) (r1 : Int) (r2 : Int) (r3 : ByteArray) (r4 : ByteArray) (r5 : Bool) (w0 w : World) (hI : IsS110 w0 w g s0_0 s0_1) (hB : Below w0.heap.size w0 w) (h : impl_byteReader_value.f k s0_0 s0_1=some (r1,r2,r3,r4,r5)) :
  Calls Tryz.prog 79 #[.pointer (some ⟨g,0,none⟩)] w fun e w' => e = .returned (.agg #[.int .i64 r1,.int .i64 r2,.string r3])∧IsS110 w0 w' g r4 r5∧Below w0.heap.size w0 w' ∧ KeepBut w w' g none:=by
 have hu49:=Tryz.underlying49;have HI0:=zh hI;have HK:=zh (KeepBut.refl w g none);have HL:=zh hB.size;clear hI;have HW0:=zh hB.size;have HB:=zh hB;clear hB;have H : ((impl_byteReader_num.f k s0_0 s0_1 1).bind fun bt267 => (if bt267.1=1 then ((impl_byteReader_num.f k bt267.2.1 bt267.2.2 1).bind fun bt271 => (some (bt267.1,bt271.1,(⟨#[]⟩ : ByteArray),bt271.2.1,bt271.2.2))) else (if bt267.1=2 then ((impl_byteReader_num.f k bt267.2.1 bt267.2.2 8).bind fun bt274 => (some (bt267.1,wrap64 (bt274.1 - 4611686018427387904),(⟨#[]⟩ : ByteArray),bt274.2.1,bt274.2.2))) else (if bt267.1=3 then (impl_byteReader_value.j0 k (bt267.1 == 3) bt267.2.1 bt267.2.2 bt267.1 0 (⟨#[]⟩ : ByteArray)) else (if bt267.1=4 then (impl_byteReader_value.j0 k (bt267.1 == 4) bt267.2.1 bt267.2.2 bt267.1 0 (⟨#[]⟩ : ByteArray)) else (impl_byteReader_value.j0 k (bt267.1 == 5) bt267.2.1 bt267.2.2 bt267.1 0 (⟨#[]⟩ : ByteArray)))))))=some (r1,r2,r3,r4,r5):=h;clear h;replace H:=zT.mp H;obtain ⟨⟨t267,t268,t269⟩,A20,H⟩:=H;replace H : (if t267=1 then ((impl_byteReader_num.f k t268 t269 1).bind fun bt271 => (some (t267,bt271.1,(⟨#[]⟩ : ByteArray),bt271.2.1,bt271.2.2))) else (if t267=2 then ((impl_byteReader_num.f k t268 t269 8).bind fun bt274 => (some (t267,wrap64 (bt274.1 - 4611686018427387904),(⟨#[]⟩ : ByteArray),bt274.2.1,bt274.2.2))) else (if t267=3 then (impl_byteReader_value.j0 k (t267 == 3) t268 t269 t267 0 (⟨#[]⟩ : ByteArray)) else (if t267=4 then (impl_byteReader_value.j0 k (t267 == 4) t268 t269 t267 0 (⟨#[]⟩ : ByteArray)) else (impl_byteReader_value.j0 k (t267 == 5) t268 t269 t267 0 (⟨#[]⟩ : ByteArray))))))=some (r1,r2,r3,r4,r5):=H;have A2:=zh A20;clear A20
 by_cases c3 : t267=1
 ·
  rw [if_pos c3] at H
  have c3b0 : (t267 == 1)=true:=ya.mpr c3;have c3b1 : (t267 != 1)=false:=zX.mpr c3;clear c3;replace H:=zT.mp H;obtain ⟨⟨t271,t272,t273⟩,A40,H⟩:=H;replace H : (some (t267,t271,(⟨#[]⟩ : ByteArray),t272,t273))=some (r1,r2,r3,r4,r5):=H;have A4:=zh A40;clear A40;simp only [Option.some.injEq,Prod.mk.injEq] at H;obtain ⟨rfl,rfl,rfl,rfl,rfl⟩:=H
  go_enter Tryz.func79,Tryz.ntmps79
  go_wp2_with (first|((with_reducible refine zK (N:=2) rfl ?_);refine zI ?hg (N:=2) ?hd (cs:=#[.int .i64 0,.int .i64 0,.string (⟨#[]⟩ : ByteArray)]) (t:=49) ?hr ?_;(case hd => rfl);(case hg => rfl);(case hr => first|(go_simp;done)|(go_simp;rfl));intro gb266 hg w5 hbox hb;replace HB:=zh (zC (by repeat (with_reducible first|exact HB.out|apply za|apply zb|apply zc|refine zd ?_ (IsS110.ge HI0.out))) hb);have BK266:=zh (hbox);have GW266:=zh ((by rw [hg];exact (keep_size (w:=w) (g:=g) (row:=none) (by repeat (with_reducible first|exact HK.out|apply yl|apply ym|apply yx|apply yn))) : w.heap.size≤gb266));have GE266:=zh ((Nat.le_trans HW0.out (by rw [hg];exact (keep_size (w:=w) (g:=g) (row:=none) (by repeat (with_reducible first|exact HK.out|apply yl|apply ym|apply yx|apply yn))) : w.heap.size≤gb266) : w0.heap.size≤gb266));replace HK:=zh (KeepBut.trans (by repeat (with_reducible first|exact HK.out|apply yl|apply ym|apply yx|apply yn)) (KeepBut.of_below hb g none) (.inl rfl));have NB0_266:=zh ((by rw [hg];exact yc (IsS110.lt (show IsS110 w0 _ g s0_0 s0_1 from by repeat (with_reducible first|exact HI0.out|apply IsS110.alloc|apply IsS110.drewN|apply IsS110.drew|apply IsS110.set_0|apply IsS110.set_1))) : g≠gb266));have NB266_0:=zh ((by rw [hg];exact yd (IsS110.lt (show IsS110 w0 _ g s0_0 s0_1 from by repeat (with_reducible first|exact HI0.out|apply IsS110.alloc|apply IsS110.drewN|apply IsS110.drew|apply IsS110.set_0|apply IsS110.set_1))) : gb266≠g));replace HI0:=zh (IsS110.below (by repeat (with_reducible first|exact HI0.out|apply IsS110.alloc|apply IsS110.drewN|apply IsS110.drew|apply IsS110.set_0|apply IsS110.set_1)) hb);clear hb hbox hg)|((with_reducible refine zJ (f:=81) rfl ?_);refine yj (some 5) rfl rfl Tryz.func81 (by kernel_rfl) rfl #[.pointer (some ⟨g,0,none⟩),.int .i64 1] rfl (by (try simp only [zt,zu,zv]);first|done|rfl|(simp only [zw,zx];rfl)|(simp only [yr,ys,zV,zW];rfl)) ?_;(with_reducible refine (impl_byteReader_num.calls k  g s0_0 s0_1 1 t267 t268 t269 w0 _ ?side1 ?side2 A2.out).mono ?_);(case side1 => repeat (with_reducible first|exact HI0.out|apply IsS110.alloc|apply IsS110.drewN|apply IsS110.drew|apply IsS110.set_0|apply IsS110.set_1|refine IsS110.far ?_ NB0_266.out _));(case side2 => repeat (with_reducible first|exact HB.out|apply za|apply zb|apply zc|refine zd ?_ (IsS110.ge HI0.out)|refine zd ?_ GE266.out));rintro e w6 ⟨rfl,hi,hb,hk⟩;refine ⟨_,rfl,?_⟩;replace BK266:=zh (KeepBut.blk hk (g':=gb266) (o:=.cells #[.int .i64 0,.int .i64 0,.string (⟨#[]⟩ : ByteArray)] 49 (0,0)) (by (with_reducible repeat (first|refine ze ?_ _|refine zf ?_|refine zg ?_ _));exact BK266.out) NB266_0.out (by simp));replace HK:=zh (KeepBut.trans (by repeat (with_reducible first|exact HK.out|apply yl|apply ym|apply yx|apply yn|refine keep_far ?_ GW266.out _)) hk (.inl rfl));replace HB:=zh (hb);replace HI0:=zh (hi);(try clear hb);(try clear hb2);(try clear hk);(try clear hi))|((with_reducible refine zK (N:=3) rfl ?_);refine zI ?hg (N:=3) ?hd (cs:=#[.int .i64 0,.int .i64 0,.string (⟨#[]⟩ : ByteArray)]) (t:=49) ?hr ?_;(case hd => rfl);(case hg => rfl);(case hr => first|(go_simp;done)|(go_simp;rfl));intro gb270 hg w7 hbox hb;replace HB:=zh (zC (by repeat (with_reducible first|exact HB.out|apply za|apply zb|apply zc|refine zd ?_ (IsS110.ge HI0.out)|refine zd ?_ GE266.out)) hb);have BK270:=zh (hbox);have GW270:=zh ((by rw [hg];exact (keep_size (w:=w) (g:=g) (row:=none) (by repeat (with_reducible first|exact HK.out|apply yl|apply ym|apply yx|apply yn|refine keep_far ?_ GW266.out _))) : w.heap.size≤gb270));have GE270:=zh ((Nat.le_trans HW0.out (by rw [hg];exact (keep_size (w:=w) (g:=g) (row:=none) (by repeat (with_reducible first|exact HK.out|apply yl|apply ym|apply yx|apply yn|refine keep_far ?_ GW266.out _))) : w.heap.size≤gb270) : w0.heap.size≤gb270));replace HK:=zh (KeepBut.trans (by repeat (with_reducible first|exact HK.out|apply yl|apply ym|apply yx|apply yn|refine keep_far ?_ GW266.out _)) (KeepBut.of_below hb g none) (.inl rfl));have NB266_270:=zh ((by rw [hg];exact yc (yi (g:=gb266) (o:=.cells #[.int .i64 0,.int .i64 0,.string (⟨#[]⟩ : ByteArray)] 49 (0,0)) (by (with_reducible repeat (first|refine ze ?_ _|refine zf ?_|refine zg ?_ _));exact BK266.out)) : gb266≠gb270));have NB270_266:=zh ((by rw [hg];exact yd (yi (g:=gb266) (o:=.cells #[.int .i64 0,.int .i64 0,.string (⟨#[]⟩ : ByteArray)] 49 (0,0)) (by (with_reducible repeat (first|refine ze ?_ _|refine zf ?_|refine zg ?_ _));exact BK266.out)) : gb270≠gb266));replace BK266:=zh (zD (g:=gb266) (o:=.cells #[.int .i64 0,.int .i64 0,.string (⟨#[]⟩ : ByteArray)] 49 (0,0)) (by (with_reducible repeat (first|refine ze ?_ _|refine zf ?_|refine zg ?_ _));exact BK266.out) hb);have NB0_270:=zh ((by rw [hg];exact yc (IsS110.lt (show IsS110 w0 _ g t268 t269 from by repeat (with_reducible first|exact HI0.out|apply IsS110.alloc|apply IsS110.drewN|apply IsS110.drew|apply IsS110.set_0|apply IsS110.set_1|refine IsS110.far ?_ NB0_266.out _))) : g≠gb270));have NB270_0:=zh ((by rw [hg];exact yd (IsS110.lt (show IsS110 w0 _ g t268 t269 from by repeat (with_reducible first|exact HI0.out|apply IsS110.alloc|apply IsS110.drewN|apply IsS110.drew|apply IsS110.set_0|apply IsS110.set_1|refine IsS110.far ?_ NB0_266.out _))) : gb270≠g));replace HI0:=zh (IsS110.below (by repeat (with_reducible first|exact HI0.out|apply IsS110.alloc|apply IsS110.drewN|apply IsS110.drew|apply IsS110.set_0|apply IsS110.set_1|refine IsS110.far ?_ NB0_266.out _)) hb);clear hb hbox hg;have hnb8:=NB270_266.out;have hnc8:=NB266_270.out;have hnb9:=NB270_0.out;have hnc9:=NB0_270.out;have hcz10_0 : w7.cell? ⟨gb270,0,none⟩=some (.int .i64 0):=(zz BK270.out 0).trans rfl;have hcz10_1 : w7.cell? ⟨gb270,1,none⟩=some (.int .i64 0):=(zz BK270.out 1).trans rfl;have hcz10_2 : w7.cell? ⟨gb270,2,none⟩=some (.string (⟨#[]⟩ : ByteArray)):=(zz BK270.out 2).trans rfl;have hfz10_0:=zA BK270.out 0;have hfz10_1:=zA BK270.out 1;have hfz10_2:=zA BK270.out 2)|((with_reducible refine zJ (f:=81) rfl ?_);refine yj (some 12) rfl rfl Tryz.func81 (by kernel_rfl) rfl #[.pointer (some ⟨g,0,none⟩),.int .i64 1] rfl (by (try simp only [zt,zu,zv]);first|done|rfl|(simp only [zw,zx];rfl)|(simp only [yr,ys,zV,zW];rfl)) ?_;(with_reducible refine (impl_byteReader_num.calls k  g t268 t269 1 t271 t272 t273 w0 _ ?side1 ?side2 A4.out).mono ?_);(case side1 => repeat (with_reducible first|exact HI0.out|apply IsS110.alloc|apply IsS110.drewN|apply IsS110.drew|apply IsS110.set_0|apply IsS110.set_1|refine IsS110.far ?_ NB0_266.out _|refine IsS110.far ?_ NB0_270.out _));(case side2 => repeat (with_reducible first|exact HB.out|apply za|apply zb|apply zc|refine zd ?_ (IsS110.ge HI0.out)|refine zd ?_ GE266.out|refine zd ?_ GE270.out));rintro e w11 ⟨rfl,hi,hb,hk⟩;refine ⟨_,rfl,?_⟩;replace BK266:=zh (KeepBut.blk hk (g':=gb266) (o:=.cells #[.int .i64 0,.int .i64 0,.string (⟨#[]⟩ : ByteArray)] 49 (0,0)) (by (with_reducible repeat (first|refine ze ?_ _|refine zf ?_|refine zg ?_ _));refine zS ?_ NB266_270.out _;(with_reducible repeat (first|refine ze ?_ _|refine zf ?_|refine zg ?_ _));refine zS ?_ NB266_270.out _;(with_reducible repeat (first|refine ze ?_ _|refine zf ?_|refine zg ?_ _));refine zS ?_ NB266_270.out _;(with_reducible repeat (first|refine ze ?_ _|refine zf ?_|refine zg ?_ _));exact BK266.out) NB266_0.out (by simp));replace BK270:=zh (KeepBut.blk hk (g':=gb270) (o:=.cells #[.int .i64 t267,.int .i64 0,.string (⟨#[]⟩ : ByteArray)] 49 (0,0)) (by (with_reducible repeat (first|refine ze ?_ _|refine zf ?_|refine zg ?_ _));refine zL (cs:=#[.int .i64 t267,.int .i64 0,.string (⟨#[]⟩ : ByteArray)]) ?_ 2 _ rfl;(with_reducible repeat (first|refine ze ?_ _|refine zf ?_|refine zg ?_ _));refine zL (cs:=#[.int .i64 t267,.int .i64 0,.string (⟨#[]⟩ : ByteArray)]) ?_ 1 _ rfl;(with_reducible repeat (first|refine ze ?_ _|refine zf ?_|refine zg ?_ _));refine zL (cs:=#[.int .i64 0,.int .i64 0,.string (⟨#[]⟩ : ByteArray)]) ?_ 0 _ rfl;(with_reducible repeat (first|refine ze ?_ _|refine zf ?_|refine zg ?_ _));exact BK270.out) NB270_0.out (by simp));replace HK:=zh (KeepBut.trans (by repeat (with_reducible first|exact HK.out|apply yl|apply ym|apply yx|apply yn|refine keep_far ?_ GW266.out _|refine keep_far ?_ GW270.out _)) hk (.inl rfl));replace HB:=zh (hb);replace HI0:=zh (hi);(try clear hb);(try clear hb2);(try clear hk);(try clear hi);have hcz12_0 : w11.cell? ⟨gb270,0,none⟩=some (.int .i64 t267):=(zz BK270.out 0).trans rfl;have hcz12_1 : w11.cell? ⟨gb270,1,none⟩=some (.int .i64 0):=(zz BK270.out 1).trans rfl;have hcz12_2 : w11.cell? ⟨gb270,2,none⟩=some (.string (⟨#[]⟩ : ByteArray)):=(zz BK270.out 2).trans rfl;have hfz12_0:=zA BK270.out 0;have hfz12_1:=zA BK270.out 1;have hfz12_2:=zA BK270.out 2;have hnb13:=NB266_0.out;have hnc13:=NB0_266.out;have hcz14_0 : w11.cell? ⟨gb266,0,none⟩=some (.int .i64 0):=(zz BK266.out 0).trans rfl;have hcz14_1 : w11.cell? ⟨gb266,1,none⟩=some (.int .i64 0):=(zz BK266.out 1).trans rfl;have hcz14_2 : w11.cell? ⟨gb266,2,none⟩=some (.string (⟨#[]⟩ : ByteArray)):=(zz BK266.out 2).trans rfl;have hfz14_0:=zA BK266.out 0;have hfz14_1:=zA BK266.out 1;have hfz14_2:=zA BK266.out 2))
  refine bodyPost_ret (results_cell_row rfl _ _ gb266 49 #[.int .i64 t267,.int .i64 t271,.string (⟨#[]⟩ : ByteArray)] (0,0) _ rfl (by (with_reducible repeat (first|refine ze ?_ _|refine zf ?_|refine zg ?_ _));refine zL (cs:=#[.int .i64 t267,.int .i64 t271,.string (⟨#[]⟩ : ByteArray)]) ?_ 2 _ rfl;(with_reducible repeat (first|refine ze ?_ _|refine zf ?_|refine zg ?_ _));refine zL (cs:=#[.int .i64 t267,.int .i64 0,.string (⟨#[]⟩ : ByteArray)]) ?_ 1 _ rfl;(with_reducible repeat (first|refine ze ?_ _|refine zf ?_|refine zg ?_ _));refine zL (cs:=#[.int .i64 0,.int .i64 0,.string (⟨#[]⟩ : ByteArray)]) ?_ 0 _ rfl;(with_reducible repeat (first|refine ze ?_ _|refine zf ?_|refine zg ?_ _));refine zS ?_ NB266_270.out _;(with_reducible repeat (first|refine ze ?_ _|refine zf ?_|refine zg ?_ _));exact BK266.out) Tryz.underlying49 rfl (by kernel_rfl)) rfl ?_;exact ⟨by first|rfl|(simp [yt,yu] <;> rfl)|(simp [*,yt,yu] <;> rfl),by repeat (with_reducible first|exact HI0.out|apply IsS110.alloc|apply IsS110.drewN|apply IsS110.drew|apply IsS110.set_0|apply IsS110.set_1|refine IsS110.far ?_ NB0_266.out _|refine IsS110.far ?_ NB0_270.out _),by repeat (with_reducible first|exact HB.out|apply za|apply zb|apply zc|refine zd ?_ (IsS110.ge HI0.out)|refine zd ?_ GE266.out|refine zd ?_ GE270.out),by repeat (with_reducible first|exact HK.out|apply yl|apply ym|apply yx|apply yn|refine keep_far ?_ GW266.out _|refine keep_far ?_ GW270.out _)⟩
 rw [if_neg c3] at H;have c3b0 : (t267 == 1)=false:=zY.mpr c3;have c3b1 : (t267 != 1)=true:=zZ.mpr c3
 by_cases c15 : t267=2
 ·
  rw [if_pos c15] at H
  have c15b0 : (t267 == 2)=true:=ya.mpr c15;have c15b1 : (t267 != 2)=false:=zX.mpr c15;clear c15;replace H:=zT.mp H;obtain ⟨⟨t274,t275,t276⟩,A160,H⟩:=H;replace H : (some (t267,wrap64 (t274 - 4611686018427387904),(⟨#[]⟩ : ByteArray),t275,t276))=some (r1,r2,r3,r4,r5):=H;have A16:=zh A160;clear A160;simp only [Option.some.injEq,Prod.mk.injEq] at H;obtain ⟨rfl,rfl,rfl,rfl,rfl⟩:=H
  go_enter Tryz.func79,Tryz.ntmps79
  go_wp2_with (first|((with_reducible refine zK (N:=2) rfl ?_);refine zI ?hg (N:=2) ?hd (cs:=#[.int .i64 0,.int .i64 0,.string (⟨#[]⟩ : ByteArray)]) (t:=49) ?hr ?_;(case hd => rfl);(case hg => rfl);(case hr => first|(go_simp;done)|(go_simp;rfl));intro gb266 hg w17 hbox hb;replace HB:=zh (zC (by repeat (with_reducible first|exact HB.out|apply za|apply zb|apply zc|refine zd ?_ (IsS110.ge HI0.out))) hb);have BK266:=zh (hbox);have GW266:=zh ((by rw [hg];exact (keep_size (w:=w) (g:=g) (row:=none) (by repeat (with_reducible first|exact HK.out|apply yl|apply ym|apply yx|apply yn))) : w.heap.size≤gb266));have GE266:=zh ((Nat.le_trans HW0.out (by rw [hg];exact (keep_size (w:=w) (g:=g) (row:=none) (by repeat (with_reducible first|exact HK.out|apply yl|apply ym|apply yx|apply yn))) : w.heap.size≤gb266) : w0.heap.size≤gb266));replace HK:=zh (KeepBut.trans (by repeat (with_reducible first|exact HK.out|apply yl|apply ym|apply yx|apply yn)) (KeepBut.of_below hb g none) (.inl rfl));have NB0_266:=zh ((by rw [hg];exact yc (IsS110.lt (show IsS110 w0 _ g s0_0 s0_1 from by repeat (with_reducible first|exact HI0.out|apply IsS110.alloc|apply IsS110.drewN|apply IsS110.drew|apply IsS110.set_0|apply IsS110.set_1))) : g≠gb266));have NB266_0:=zh ((by rw [hg];exact yd (IsS110.lt (show IsS110 w0 _ g s0_0 s0_1 from by repeat (with_reducible first|exact HI0.out|apply IsS110.alloc|apply IsS110.drewN|apply IsS110.drew|apply IsS110.set_0|apply IsS110.set_1))) : gb266≠g));replace HI0:=zh (IsS110.below (by repeat (with_reducible first|exact HI0.out|apply IsS110.alloc|apply IsS110.drewN|apply IsS110.drew|apply IsS110.set_0|apply IsS110.set_1)) hb);clear hb hbox hg)|((with_reducible refine zJ (f:=81) rfl ?_);refine yj (some 5) rfl rfl Tryz.func81 (by kernel_rfl) rfl #[.pointer (some ⟨g,0,none⟩),.int .i64 1] rfl (by (try simp only [zt,zu,zv]);first|done|rfl|(simp only [zw,zx];rfl)|(simp only [yr,ys,zV,zW];rfl)) ?_;(with_reducible refine (impl_byteReader_num.calls k  g s0_0 s0_1 1 t267 t268 t269 w0 _ ?side1 ?side2 A2.out).mono ?_);(case side1 => repeat (with_reducible first|exact HI0.out|apply IsS110.alloc|apply IsS110.drewN|apply IsS110.drew|apply IsS110.set_0|apply IsS110.set_1|refine IsS110.far ?_ NB0_266.out _));(case side2 => repeat (with_reducible first|exact HB.out|apply za|apply zb|apply zc|refine zd ?_ (IsS110.ge HI0.out)|refine zd ?_ GE266.out));rintro e w18 ⟨rfl,hi,hb,hk⟩;refine ⟨_,rfl,?_⟩;replace BK266:=zh (KeepBut.blk hk (g':=gb266) (o:=.cells #[.int .i64 0,.int .i64 0,.string (⟨#[]⟩ : ByteArray)] 49 (0,0)) (by (with_reducible repeat (first|refine ze ?_ _|refine zf ?_|refine zg ?_ _));exact BK266.out) NB266_0.out (by simp));replace HK:=zh (KeepBut.trans (by repeat (with_reducible first|exact HK.out|apply yl|apply ym|apply yx|apply yn|refine keep_far ?_ GW266.out _)) hk (.inl rfl));replace HB:=zh (hb);replace HI0:=zh (hi);(try clear hb);(try clear hb2);(try clear hk);(try clear hi))|((with_reducible refine zK (N:=3) rfl ?_);refine zI ?hg (N:=3) ?hd (cs:=#[.int .i64 0,.int .i64 0,.string (⟨#[]⟩ : ByteArray)]) (t:=49) ?hr ?_;(case hd => rfl);(case hg => rfl);(case hr => first|(go_simp;done)|(go_simp;rfl));intro gb270 hg w19 hbox hb;replace HB:=zh (zC (by repeat (with_reducible first|exact HB.out|apply za|apply zb|apply zc|refine zd ?_ (IsS110.ge HI0.out)|refine zd ?_ GE266.out)) hb);have BK270:=zh (hbox);have GW270:=zh ((by rw [hg];exact (keep_size (w:=w) (g:=g) (row:=none) (by repeat (with_reducible first|exact HK.out|apply yl|apply ym|apply yx|apply yn|refine keep_far ?_ GW266.out _))) : w.heap.size≤gb270));have GE270:=zh ((Nat.le_trans HW0.out (by rw [hg];exact (keep_size (w:=w) (g:=g) (row:=none) (by repeat (with_reducible first|exact HK.out|apply yl|apply ym|apply yx|apply yn|refine keep_far ?_ GW266.out _))) : w.heap.size≤gb270) : w0.heap.size≤gb270));replace HK:=zh (KeepBut.trans (by repeat (with_reducible first|exact HK.out|apply yl|apply ym|apply yx|apply yn|refine keep_far ?_ GW266.out _)) (KeepBut.of_below hb g none) (.inl rfl));have NB266_270:=zh ((by rw [hg];exact yc (yi (g:=gb266) (o:=.cells #[.int .i64 0,.int .i64 0,.string (⟨#[]⟩ : ByteArray)] 49 (0,0)) (by (with_reducible repeat (first|refine ze ?_ _|refine zf ?_|refine zg ?_ _));exact BK266.out)) : gb266≠gb270));have NB270_266:=zh ((by rw [hg];exact yd (yi (g:=gb266) (o:=.cells #[.int .i64 0,.int .i64 0,.string (⟨#[]⟩ : ByteArray)] 49 (0,0)) (by (with_reducible repeat (first|refine ze ?_ _|refine zf ?_|refine zg ?_ _));exact BK266.out)) : gb270≠gb266));replace BK266:=zh (zD (g:=gb266) (o:=.cells #[.int .i64 0,.int .i64 0,.string (⟨#[]⟩ : ByteArray)] 49 (0,0)) (by (with_reducible repeat (first|refine ze ?_ _|refine zf ?_|refine zg ?_ _));exact BK266.out) hb);have NB0_270:=zh ((by rw [hg];exact yc (IsS110.lt (show IsS110 w0 _ g t268 t269 from by repeat (with_reducible first|exact HI0.out|apply IsS110.alloc|apply IsS110.drewN|apply IsS110.drew|apply IsS110.set_0|apply IsS110.set_1|refine IsS110.far ?_ NB0_266.out _))) : g≠gb270));have NB270_0:=zh ((by rw [hg];exact yd (IsS110.lt (show IsS110 w0 _ g t268 t269 from by repeat (with_reducible first|exact HI0.out|apply IsS110.alloc|apply IsS110.drewN|apply IsS110.drew|apply IsS110.set_0|apply IsS110.set_1|refine IsS110.far ?_ NB0_266.out _))) : gb270≠g));replace HI0:=zh (IsS110.below (by repeat (with_reducible first|exact HI0.out|apply IsS110.alloc|apply IsS110.drewN|apply IsS110.drew|apply IsS110.set_0|apply IsS110.set_1|refine IsS110.far ?_ NB0_266.out _)) hb);clear hb hbox hg;have hnb20:=NB270_266.out;have hnc20:=NB266_270.out;have hnb21:=NB270_0.out;have hnc21:=NB0_270.out;have hcz22_0 : w19.cell? ⟨gb270,0,none⟩=some (.int .i64 0):=(zz BK270.out 0).trans rfl;have hcz22_1 : w19.cell? ⟨gb270,1,none⟩=some (.int .i64 0):=(zz BK270.out 1).trans rfl;have hcz22_2 : w19.cell? ⟨gb270,2,none⟩=some (.string (⟨#[]⟩ : ByteArray)):=(zz BK270.out 2).trans rfl;have hfz22_0:=zA BK270.out 0;have hfz22_1:=zA BK270.out 1;have hfz22_2:=zA BK270.out 2)|((with_reducible refine zJ (f:=81) rfl ?_);refine yj (some 17) rfl rfl Tryz.func81 (by kernel_rfl) rfl #[.pointer (some ⟨g,0,none⟩),.int .i64 8] rfl (by (try simp only [zt,zu,zv]);first|done|rfl|(simp only [zw,zx];rfl)|(simp only [yr,ys,zV,zW];rfl)) ?_;(with_reducible refine (impl_byteReader_num.calls k  g t268 t269 8 t274 t275 t276 w0 _ ?side1 ?side2 A16.out).mono ?_);(case side1 => repeat (with_reducible first|exact HI0.out|apply IsS110.alloc|apply IsS110.drewN|apply IsS110.drew|apply IsS110.set_0|apply IsS110.set_1|refine IsS110.far ?_ NB0_266.out _|refine IsS110.far ?_ NB0_270.out _));(case side2 => repeat (with_reducible first|exact HB.out|apply za|apply zb|apply zc|refine zd ?_ (IsS110.ge HI0.out)|refine zd ?_ GE266.out|refine zd ?_ GE270.out));rintro e w23 ⟨rfl,hi,hb,hk⟩;refine ⟨_,rfl,?_⟩;replace BK266:=zh (KeepBut.blk hk (g':=gb266) (o:=.cells #[.int .i64 0,.int .i64 0,.string (⟨#[]⟩ : ByteArray)] 49 (0,0)) (by (with_reducible repeat (first|refine ze ?_ _|refine zf ?_|refine zg ?_ _));refine zS ?_ NB266_270.out _;(with_reducible repeat (first|refine ze ?_ _|refine zf ?_|refine zg ?_ _));refine zS ?_ NB266_270.out _;(with_reducible repeat (first|refine ze ?_ _|refine zf ?_|refine zg ?_ _));refine zS ?_ NB266_270.out _;(with_reducible repeat (first|refine ze ?_ _|refine zf ?_|refine zg ?_ _));exact BK266.out) NB266_0.out (by simp));replace BK270:=zh (KeepBut.blk hk (g':=gb270) (o:=.cells #[.int .i64 t267,.int .i64 0,.string (⟨#[]⟩ : ByteArray)] 49 (0,0)) (by (with_reducible repeat (first|refine ze ?_ _|refine zf ?_|refine zg ?_ _));refine zL (cs:=#[.int .i64 t267,.int .i64 0,.string (⟨#[]⟩ : ByteArray)]) ?_ 2 _ rfl;(with_reducible repeat (first|refine ze ?_ _|refine zf ?_|refine zg ?_ _));refine zL (cs:=#[.int .i64 t267,.int .i64 0,.string (⟨#[]⟩ : ByteArray)]) ?_ 1 _ rfl;(with_reducible repeat (first|refine ze ?_ _|refine zf ?_|refine zg ?_ _));refine zL (cs:=#[.int .i64 0,.int .i64 0,.string (⟨#[]⟩ : ByteArray)]) ?_ 0 _ rfl;(with_reducible repeat (first|refine ze ?_ _|refine zf ?_|refine zg ?_ _));exact BK270.out) NB270_0.out (by simp));replace HK:=zh (KeepBut.trans (by repeat (with_reducible first|exact HK.out|apply yl|apply ym|apply yx|apply yn|refine keep_far ?_ GW266.out _|refine keep_far ?_ GW270.out _)) hk (.inl rfl));replace HB:=zh (hb);replace HI0:=zh (hi);(try clear hb);(try clear hb2);(try clear hk);(try clear hi);have hcz24_0 : w23.cell? ⟨gb270,0,none⟩=some (.int .i64 t267):=(zz BK270.out 0).trans rfl;have hcz24_1 : w23.cell? ⟨gb270,1,none⟩=some (.int .i64 0):=(zz BK270.out 1).trans rfl;have hcz24_2 : w23.cell? ⟨gb270,2,none⟩=some (.string (⟨#[]⟩ : ByteArray)):=(zz BK270.out 2).trans rfl;have hfz24_0:=zA BK270.out 0;have hfz24_1:=zA BK270.out 1;have hfz24_2:=zA BK270.out 2;have hnb25:=NB266_0.out;have hnc25:=NB0_266.out;have hcz26_0 : w23.cell? ⟨gb266,0,none⟩=some (.int .i64 0):=(zz BK266.out 0).trans rfl;have hcz26_1 : w23.cell? ⟨gb266,1,none⟩=some (.int .i64 0):=(zz BK266.out 1).trans rfl;have hcz26_2 : w23.cell? ⟨gb266,2,none⟩=some (.string (⟨#[]⟩ : ByteArray)):=(zz BK266.out 2).trans rfl;have hfz26_0:=zA BK266.out 0;have hfz26_1:=zA BK266.out 1;have hfz26_2:=zA BK266.out 2))
  refine bodyPost_ret (results_cell_row rfl _ _ gb266 49 #[.int .i64 t267,.int .i64 (wrap64 (t274 - 4611686018427387904)),.string (⟨#[]⟩ : ByteArray)] (0,0) _ rfl (by (with_reducible repeat (first|refine ze ?_ _|refine zf ?_|refine zg ?_ _));refine zL (cs:=#[.int .i64 t267,.int .i64 (wrap64 (t274 - 4611686018427387904)),.string (⟨#[]⟩ : ByteArray)]) ?_ 2 _ rfl;(with_reducible repeat (first|refine ze ?_ _|refine zf ?_|refine zg ?_ _));refine zL (cs:=#[.int .i64 t267,.int .i64 0,.string (⟨#[]⟩ : ByteArray)]) ?_ 1 _ rfl;(with_reducible repeat (first|refine ze ?_ _|refine zf ?_|refine zg ?_ _));refine zL (cs:=#[.int .i64 0,.int .i64 0,.string (⟨#[]⟩ : ByteArray)]) ?_ 0 _ rfl;(with_reducible repeat (first|refine ze ?_ _|refine zf ?_|refine zg ?_ _));refine zS ?_ NB266_270.out _;(with_reducible repeat (first|refine ze ?_ _|refine zf ?_|refine zg ?_ _));exact BK266.out) Tryz.underlying49 rfl (by kernel_rfl)) rfl ?_;exact ⟨by first|rfl|(simp [yt,yu] <;> rfl)|(simp [*,yt,yu] <;> rfl),by repeat (with_reducible first|exact HI0.out|apply IsS110.alloc|apply IsS110.drewN|apply IsS110.drew|apply IsS110.set_0|apply IsS110.set_1|refine IsS110.far ?_ NB0_266.out _|refine IsS110.far ?_ NB0_270.out _),by repeat (with_reducible first|exact HB.out|apply za|apply zb|apply zc|refine zd ?_ (IsS110.ge HI0.out)|refine zd ?_ GE266.out|refine zd ?_ GE270.out),by repeat (with_reducible first|exact HK.out|apply yl|apply ym|apply yx|apply yn|refine keep_far ?_ GW266.out _|refine keep_far ?_ GW270.out _)⟩
 rw [if_neg c15] at H;have c15b0 : (t267 == 2)=false:=zY.mpr c15;have c15b1 : (t267 != 2)=true:=zZ.mpr c15;have HC27:=zh H;clear H
 go_enter Tryz.func79,Tryz.ntmps79
 go_upto_if 20 with (first|((with_reducible refine zK (N:=2) rfl ?_);refine zI ?hg (N:=2) ?hd (cs:=#[.int .i64 0,.int .i64 0,.string (⟨#[]⟩ : ByteArray)]) (t:=49) ?hr ?_;(case hd => rfl);(case hg => rfl);(case hr => first|(go_simp;done)|(go_simp;rfl));intro gb266 hg w28 hbox hb;replace HB:=zh (zC (by repeat (with_reducible first|exact HB.out|apply za|apply zb|apply zc|refine zd ?_ (IsS110.ge HI0.out))) hb);have BK266:=zh (hbox);have GW266:=zh ((by rw [hg];exact (keep_size (w:=w) (g:=g) (row:=none) (by repeat (with_reducible first|exact HK.out|apply yl|apply ym|apply yx|apply yn))) : w.heap.size≤gb266));have GE266:=zh ((Nat.le_trans HW0.out (by rw [hg];exact (keep_size (w:=w) (g:=g) (row:=none) (by repeat (with_reducible first|exact HK.out|apply yl|apply ym|apply yx|apply yn))) : w.heap.size≤gb266) : w0.heap.size≤gb266));replace HK:=zh (KeepBut.trans (by repeat (with_reducible first|exact HK.out|apply yl|apply ym|apply yx|apply yn)) (KeepBut.of_below hb g none) (.inl rfl));have NB0_266:=zh ((by rw [hg];exact yc (IsS110.lt (show IsS110 w0 _ g s0_0 s0_1 from by repeat (with_reducible first|exact HI0.out|apply IsS110.alloc|apply IsS110.drewN|apply IsS110.drew|apply IsS110.set_0|apply IsS110.set_1))) : g≠gb266));have NB266_0:=zh ((by rw [hg];exact yd (IsS110.lt (show IsS110 w0 _ g s0_0 s0_1 from by repeat (with_reducible first|exact HI0.out|apply IsS110.alloc|apply IsS110.drewN|apply IsS110.drew|apply IsS110.set_0|apply IsS110.set_1))) : gb266≠g));replace HI0:=zh (IsS110.below (by repeat (with_reducible first|exact HI0.out|apply IsS110.alloc|apply IsS110.drewN|apply IsS110.drew|apply IsS110.set_0|apply IsS110.set_1)) hb);clear hb hbox hg)|((with_reducible refine zJ (f:=81) rfl ?_);refine yj (some 5) rfl rfl Tryz.func81 (by kernel_rfl) rfl #[.pointer (some ⟨g,0,none⟩),.int .i64 1] rfl (by (try simp only [zt,zu,zv]);first|done|rfl|(simp only [zw,zx];rfl)|(simp only [yr,ys,zV,zW];rfl)) ?_;(with_reducible refine (impl_byteReader_num.calls k  g s0_0 s0_1 1 t267 t268 t269 w0 _ ?side1 ?side2 A2.out).mono ?_);(case side1 => repeat (with_reducible first|exact HI0.out|apply IsS110.alloc|apply IsS110.drewN|apply IsS110.drew|apply IsS110.set_0|apply IsS110.set_1|refine IsS110.far ?_ NB0_266.out _));(case side2 => repeat (with_reducible first|exact HB.out|apply za|apply zb|apply zc|refine zd ?_ (IsS110.ge HI0.out)|refine zd ?_ GE266.out));rintro e w29 ⟨rfl,hi,hb,hk⟩;refine ⟨_,rfl,?_⟩;replace BK266:=zh (KeepBut.blk hk (g':=gb266) (o:=.cells #[.int .i64 0,.int .i64 0,.string (⟨#[]⟩ : ByteArray)] 49 (0,0)) (by (with_reducible repeat (first|refine ze ?_ _|refine zf ?_|refine zg ?_ _));exact BK266.out) NB266_0.out (by simp));replace HK:=zh (KeepBut.trans (by repeat (with_reducible first|exact HK.out|apply yl|apply ym|apply yx|apply yn|refine keep_far ?_ GW266.out _)) hk (.inl rfl));replace HB:=zh (hb);replace HI0:=zh (hi);(try clear hb);(try clear hb2);(try clear hk);(try clear hi))|((with_reducible refine zK (N:=3) rfl ?_);refine zI ?hg (N:=3) ?hd (cs:=#[.int .i64 0,.int .i64 0,.string (⟨#[]⟩ : ByteArray)]) (t:=49) ?hr ?_;(case hd => rfl);(case hg => rfl);(case hr => first|(go_simp;done)|(go_simp;rfl));intro gb270 hg w30 hbox hb;replace HB:=zh (zC (by repeat (with_reducible first|exact HB.out|apply za|apply zb|apply zc|refine zd ?_ (IsS110.ge HI0.out)|refine zd ?_ GE266.out)) hb);have BK270:=zh (hbox);have GW270:=zh ((by rw [hg];exact (keep_size (w:=w) (g:=g) (row:=none) (by repeat (with_reducible first|exact HK.out|apply yl|apply ym|apply yx|apply yn|refine keep_far ?_ GW266.out _))) : w.heap.size≤gb270));have GE270:=zh ((Nat.le_trans HW0.out (by rw [hg];exact (keep_size (w:=w) (g:=g) (row:=none) (by repeat (with_reducible first|exact HK.out|apply yl|apply ym|apply yx|apply yn|refine keep_far ?_ GW266.out _))) : w.heap.size≤gb270) : w0.heap.size≤gb270));replace HK:=zh (KeepBut.trans (by repeat (with_reducible first|exact HK.out|apply yl|apply ym|apply yx|apply yn|refine keep_far ?_ GW266.out _)) (KeepBut.of_below hb g none) (.inl rfl));have NB266_270:=zh ((by rw [hg];exact yc (yi (g:=gb266) (o:=.cells #[.int .i64 0,.int .i64 0,.string (⟨#[]⟩ : ByteArray)] 49 (0,0)) (by (with_reducible repeat (first|refine ze ?_ _|refine zf ?_|refine zg ?_ _));exact BK266.out)) : gb266≠gb270));have NB270_266:=zh ((by rw [hg];exact yd (yi (g:=gb266) (o:=.cells #[.int .i64 0,.int .i64 0,.string (⟨#[]⟩ : ByteArray)] 49 (0,0)) (by (with_reducible repeat (first|refine ze ?_ _|refine zf ?_|refine zg ?_ _));exact BK266.out)) : gb270≠gb266));replace BK266:=zh (zD (g:=gb266) (o:=.cells #[.int .i64 0,.int .i64 0,.string (⟨#[]⟩ : ByteArray)] 49 (0,0)) (by (with_reducible repeat (first|refine ze ?_ _|refine zf ?_|refine zg ?_ _));exact BK266.out) hb);have NB0_270:=zh ((by rw [hg];exact yc (IsS110.lt (show IsS110 w0 _ g t268 t269 from by repeat (with_reducible first|exact HI0.out|apply IsS110.alloc|apply IsS110.drewN|apply IsS110.drew|apply IsS110.set_0|apply IsS110.set_1|refine IsS110.far ?_ NB0_266.out _))) : g≠gb270));have NB270_0:=zh ((by rw [hg];exact yd (IsS110.lt (show IsS110 w0 _ g t268 t269 from by repeat (with_reducible first|exact HI0.out|apply IsS110.alloc|apply IsS110.drewN|apply IsS110.drew|apply IsS110.set_0|apply IsS110.set_1|refine IsS110.far ?_ NB0_266.out _))) : gb270≠g));replace HI0:=zh (IsS110.below (by repeat (with_reducible first|exact HI0.out|apply IsS110.alloc|apply IsS110.drewN|apply IsS110.drew|apply IsS110.set_0|apply IsS110.set_1|refine IsS110.far ?_ NB0_266.out _)) hb);clear hb hbox hg;have hnb31:=NB270_266.out;have hnc31:=NB266_270.out;have hnb32:=NB270_0.out;have hnc32:=NB0_270.out;have hcz33_0 : w30.cell? ⟨gb270,0,none⟩=some (.int .i64 0):=(zz BK270.out 0).trans rfl;have hcz33_1 : w30.cell? ⟨gb270,1,none⟩=some (.int .i64 0):=(zz BK270.out 1).trans rfl;have hcz33_2 : w30.cell? ⟨gb270,2,none⟩=some (.string (⟨#[]⟩ : ByteArray)):=(zz BK270.out 2).trans rfl;have hfz33_0:=zA BK270.out 0;have hfz33_1:=zA BK270.out 1;have hfz33_2:=zA BK270.out 2))
 (try simp only [Act.put,zi,zj,zk])
 go_cut [20] (fun v20 wc => ∃ (kq : Nat) (x20_26 : Bool),v20 = .bool x20_26∧Aside0 (impl_byteReader_value.j0 kq x20_26 t268 t269 t267 0 (⟨#[]⟩ : ByteArray)=some (r1,r2,r3,r4,r5))∧Aside0 (kq≤k)∧Aside0 (wc.heap[gb266]? = some (.cells #[.int .i64 0,.int .i64 0,.string (⟨#[]⟩ : ByteArray)] 49 (0,0)))∧Aside0 (wc.heap[gb270]? = some (.cells #[.int .i64 t267,.int .i64 0,.string (⟨#[]⟩ : ByteArray)] 49 (0,0)))∧Aside0 (IsS110 w0 wc g t268 t269)∧Aside0 (KeepBut w wc g none)∧Aside0 (Below w0.heap.size w0 wc))
 case first =>
  have H:=HC27.out;clear HC27
  by_cases c34 : t267=3
  ·
   rw [if_pos c34] at H
   have c34b0 : (t267 == 3)=true:=ya.mpr c34;have c34b1 : (t267 != 3)=false:=zX.mpr c34;clear c34;(first|rw [c34b0]|(simp only [zG,zH];rw [c34b0])|skip);have H':=zh H;clear H
   go_wp2
   go_meet
   case rel => exact ⟨_,((t267 == 3)),(by first|rfl|(simp;done)|(simp [*];done)),H',⟨by first|omega|exact ye _⟩,⟨by (with_reducible repeat (first|refine ze ?_ _|refine zf ?_|refine zg ?_ _));refine zS ?_ NB266_270.out _;(with_reducible repeat (first|refine ze ?_ _|refine zf ?_|refine zg ?_ _));refine zS ?_ NB266_270.out _;(with_reducible repeat (first|refine ze ?_ _|refine zf ?_|refine zg ?_ _));refine zS ?_ NB266_270.out _;(with_reducible repeat (first|refine ze ?_ _|refine zf ?_|refine zg ?_ _));exact BK266.out⟩,⟨by (with_reducible repeat (first|refine ze ?_ _|refine zf ?_|refine zg ?_ _));refine zL (cs:=#[.int .i64 t267,.int .i64 0,.string (⟨#[]⟩ : ByteArray)]) ?_ 2 _ rfl;(with_reducible repeat (first|refine ze ?_ _|refine zf ?_|refine zg ?_ _));refine zL (cs:=#[.int .i64 t267,.int .i64 0,.string (⟨#[]⟩ : ByteArray)]) ?_ 1 _ rfl;(with_reducible repeat (first|refine ze ?_ _|refine zf ?_|refine zg ?_ _));refine zL (cs:=#[.int .i64 0,.int .i64 0,.string (⟨#[]⟩ : ByteArray)]) ?_ 0 _ rfl;(with_reducible repeat (first|refine ze ?_ _|refine zf ?_|refine zg ?_ _));exact BK270.out⟩,⟨by repeat (with_reducible first|exact HI0.out|apply IsS110.alloc|apply IsS110.drewN|apply IsS110.drew|apply IsS110.set_0|apply IsS110.set_1|refine IsS110.far ?_ NB0_266.out _|refine IsS110.far ?_ NB0_270.out _)⟩,⟨by repeat (with_reducible first|exact HK.out|apply yl|apply ym|apply yx|apply yn|refine keep_far ?_ GW266.out _|refine keep_far ?_ GW270.out _)⟩,⟨by repeat (with_reducible first|exact HB.out|apply za|apply zb|apply zc|refine zd ?_ (IsS110.ge HI0.out)|refine zd ?_ GE266.out|refine zd ?_ GE270.out)⟩⟩
  rw [if_neg c34] at H;have c34b0 : (t267 == 3)=false:=zY.mpr c34;have c34b1 : (t267 != 3)=true:=zZ.mpr c34;(first|rw [c34b0]|(simp only [zG,zH];rw [c34b0])|skip)
  by_cases c35 : t267=4
  ·
   rw [if_pos c35] at H
   have c35b0 : (t267 == 4)=true:=ya.mpr c35;have c35b1 : (t267 != 4)=false:=zX.mpr c35;clear c35;have H':=zh H;clear H
   go_wp2
   go_meet
   case rel => exact ⟨_,((t267 == 4)),(by first|rfl|(simp;done)|(simp [*];done)),H',⟨by first|omega|exact ye _⟩,⟨by (with_reducible repeat (first|refine ze ?_ _|refine zf ?_|refine zg ?_ _));refine zS ?_ NB266_270.out _;(with_reducible repeat (first|refine ze ?_ _|refine zf ?_|refine zg ?_ _));refine zS ?_ NB266_270.out _;(with_reducible repeat (first|refine ze ?_ _|refine zf ?_|refine zg ?_ _));refine zS ?_ NB266_270.out _;(with_reducible repeat (first|refine ze ?_ _|refine zf ?_|refine zg ?_ _));exact BK266.out⟩,⟨by (with_reducible repeat (first|refine ze ?_ _|refine zf ?_|refine zg ?_ _));refine zL (cs:=#[.int .i64 t267,.int .i64 0,.string (⟨#[]⟩ : ByteArray)]) ?_ 2 _ rfl;(with_reducible repeat (first|refine ze ?_ _|refine zf ?_|refine zg ?_ _));refine zL (cs:=#[.int .i64 t267,.int .i64 0,.string (⟨#[]⟩ : ByteArray)]) ?_ 1 _ rfl;(with_reducible repeat (first|refine ze ?_ _|refine zf ?_|refine zg ?_ _));refine zL (cs:=#[.int .i64 0,.int .i64 0,.string (⟨#[]⟩ : ByteArray)]) ?_ 0 _ rfl;(with_reducible repeat (first|refine ze ?_ _|refine zf ?_|refine zg ?_ _));exact BK270.out⟩,⟨by repeat (with_reducible first|exact HI0.out|apply IsS110.alloc|apply IsS110.drewN|apply IsS110.drew|apply IsS110.set_0|apply IsS110.set_1|refine IsS110.far ?_ NB0_266.out _|refine IsS110.far ?_ NB0_270.out _)⟩,⟨by repeat (with_reducible first|exact HK.out|apply yl|apply ym|apply yx|apply yn|refine keep_far ?_ GW266.out _|refine keep_far ?_ GW270.out _)⟩,⟨by repeat (with_reducible first|exact HB.out|apply za|apply zb|apply zc|refine zd ?_ (IsS110.ge HI0.out)|refine zd ?_ GE266.out|refine zd ?_ GE270.out)⟩⟩
  rw [if_neg c35] at H;have c35b0 : (t267 == 4)=false:=zY.mpr c35;have c35b1 : (t267 != 4)=true:=zZ.mpr c35;have H':=zh H;clear H
  go_wp2
  go_meet
  case rel => exact ⟨_,((t267 == 5)),(by first|rfl|(simp;done)|(simp [*];done)),H',⟨by first|omega|exact ye _⟩,⟨by (with_reducible repeat (first|refine ze ?_ _|refine zf ?_|refine zg ?_ _));refine zS ?_ NB266_270.out _;(with_reducible repeat (first|refine ze ?_ _|refine zf ?_|refine zg ?_ _));refine zS ?_ NB266_270.out _;(with_reducible repeat (first|refine ze ?_ _|refine zf ?_|refine zg ?_ _));refine zS ?_ NB266_270.out _;(with_reducible repeat (first|refine ze ?_ _|refine zf ?_|refine zg ?_ _));exact BK266.out⟩,⟨by (with_reducible repeat (first|refine ze ?_ _|refine zf ?_|refine zg ?_ _));refine zL (cs:=#[.int .i64 t267,.int .i64 0,.string (⟨#[]⟩ : ByteArray)]) ?_ 2 _ rfl;(with_reducible repeat (first|refine ze ?_ _|refine zf ?_|refine zg ?_ _));refine zL (cs:=#[.int .i64 t267,.int .i64 0,.string (⟨#[]⟩ : ByteArray)]) ?_ 1 _ rfl;(with_reducible repeat (first|refine ze ?_ _|refine zf ?_|refine zg ?_ _));refine zL (cs:=#[.int .i64 0,.int .i64 0,.string (⟨#[]⟩ : ByteArray)]) ?_ 0 _ rfl;(with_reducible repeat (first|refine ze ?_ _|refine zf ?_|refine zg ?_ _));exact BK270.out⟩,⟨by repeat (with_reducible first|exact HI0.out|apply IsS110.alloc|apply IsS110.drewN|apply IsS110.drew|apply IsS110.set_0|apply IsS110.set_1|refine IsS110.far ?_ NB0_266.out _|refine IsS110.far ?_ NB0_270.out _)⟩,⟨by repeat (with_reducible first|exact HK.out|apply yl|apply ym|apply yx|apply yn|refine keep_far ?_ GW266.out _|refine keep_far ?_ GW270.out _)⟩,⟨by repeat (with_reducible first|exact HB.out|apply za|apply zb|apply zc|refine zd ?_ (IsS110.ge HI0.out)|refine zd ?_ GE266.out|refine zd ?_ GE270.out)⟩⟩
 case rest =>
  clear HC27
  try clear c1
  try clear c2
  try clear p2
  try clear c3
  try clear c3b0
  try clear c3b1
  try clear p6
  try clear c7
  try clear c8
  try clear c9
  try clear c13
  try clear c15
  try clear c15b0
  try clear c15b1
  try clear c20
  try clear c21
  try clear c25
  try clear c31
  try clear c32
  try clear c34
  try clear c34b0
  try clear c34b1
  try clear c35
  try clear c35b0
  try clear c35b1
  try clear hcz10_0
  try clear hcz10_1
  try clear hcz10_2
  try clear hcz12_0
  try clear hcz12_1
  try clear hcz12_2
  try clear hcz14_0
  try clear hcz14_1
  try clear hcz14_2
  try clear hcz22_0
  try clear hcz22_1
  try clear hcz22_2
  try clear hcz24_0
  try clear hcz24_1
  try clear hcz24_2
  try clear hcz26_0
  try clear hcz26_1
  try clear hcz26_2
  try clear hcz33_0
  try clear hcz33_1
  try clear hcz33_2
  try clear hfz10_0
  try clear hfz10_1
  try clear hfz10_2
  try clear hfz12_0
  try clear hfz12_1
  try clear hfz12_2
  try clear hfz14_0
  try clear hfz14_1
  try clear hfz14_2
  try clear hfz22_0
  try clear hfz22_1
  try clear hfz22_2
  try clear hfz24_0
  try clear hfz24_1
  try clear hfz24_2
  try clear hfz26_0
  try clear hfz26_1
  try clear hfz26_2
  try clear hfz33_0
  try clear hfz33_1
  try clear hfz33_2
  obtain ⟨kq,x20_26,rfl,HA,HJ26,BK266,BK270,HI0,HK,HB⟩:=hcut
  cases kq with
  | zero => exact absurd HA.out (by simp [impl_byteReader_value.j0])
  | succ kj26 =>
   have H:=HA.out;clear HA;simp only [impl_byteReader_value.j0] at H
   by_cases c36 : x20_26=true
   ·
    subst c36
    have H1 : ((impl_byteReader_num.f kj26 t268 t269 2).bind fun bt277 => ((impl_byteReader_take.f bt277.2.1 bt277.2.2 bt277.1).bind fun bt280 => (some (t267,0,bt280.1,bt280.2.1,bt280.2.2))))=some (r1,r2,r3,r4,r5):=by rw [if_pos rfl] at H;exact H
    clear H;have H:=H1;clear H1;replace H:=zT.mp H;obtain ⟨⟨t277,t278,t279⟩,A370,H⟩:=H;replace H : ((impl_byteReader_take.f t278 t279 t277).bind fun bt280 => (some (t267,0,bt280.1,bt280.2.1,bt280.2.2)))=some (r1,r2,r3,r4,r5):=H;have A37:=zh A370;clear A370;replace H:=zT.mp H;obtain ⟨⟨t280,t281,t282⟩,A380,H⟩:=H;replace H : (some (t267,0,t280,t281,t282))=some (r1,r2,r3,r4,r5):=H;have A38:=zh A380;clear A380;simp only [Option.some.injEq,Prod.mk.injEq] at H;obtain ⟨rfl,rfl,rfl,rfl,rfl⟩:=H
    go_wp2_with (first|((with_reducible refine zJ (f:=81) rfl ?_);refine yj (some 26) rfl rfl Tryz.func81 (by kernel_rfl) rfl #[.pointer (some ⟨g,0,none⟩),.int .i64 2] rfl (by (try simp only [zt,zu,zv]);first|done|rfl|(simp only [zw,zx];rfl)|(simp only [yr,ys,zV,zW];rfl)) ?_;(with_reducible refine (impl_byteReader_num.calls kj26  g t268 t269 2 t277 t278 t279 w0 _ ?side1 ?side2 A37.out).mono ?_);(case side1 => repeat (with_reducible first|exact HI0.out|apply IsS110.alloc|apply IsS110.drewN|apply IsS110.drew|apply IsS110.set_0|apply IsS110.set_1|refine IsS110.far ?_ NB0_266.out _|refine IsS110.far ?_ NB0_270.out _));(case side2 => repeat (with_reducible first|exact HB.out|apply za|apply zb|apply zc|refine zd ?_ (IsS110.ge HI0.out)|refine zd ?_ GE266.out|refine zd ?_ GE270.out));rintro e w39 ⟨rfl,hi,hb,hk⟩;refine ⟨_,rfl,?_⟩;replace BK266:=zh (KeepBut.blk hk (g':=gb266) (o:=.cells #[.int .i64 0,.int .i64 0,.string (⟨#[]⟩ : ByteArray)] 49 (0,0)) (by (with_reducible repeat (first|refine ze ?_ _|refine zf ?_|refine zg ?_ _));exact BK266.out) NB266_0.out (by simp));replace BK270:=zh (KeepBut.blk hk (g':=gb270) (o:=.cells #[.int .i64 t267,.int .i64 0,.string (⟨#[]⟩ : ByteArray)] 49 (0,0)) (by (with_reducible repeat (first|refine ze ?_ _|refine zf ?_|refine zg ?_ _));exact BK270.out) NB270_0.out (by simp));replace HK:=zh (KeepBut.trans (by repeat (with_reducible first|exact HK.out|apply yl|apply ym|apply yx|apply yn|refine keep_far ?_ GW266.out _|refine keep_far ?_ GW270.out _)) hk (.inl rfl));replace HB:=zh (hb);replace HI0:=zh (hi);(try clear hb);(try clear hb2);(try clear hk);(try clear hi))|((with_reducible refine zJ (f:=80) rfl ?_);refine yj (some 27) rfl rfl Tryz.func80 (by kernel_rfl) rfl #[.pointer (some ⟨g,0,none⟩),.int .i64 t277] rfl (by (try simp only [zt,zu,zv]);first|done|rfl|(simp only [zw,zx];rfl)|(simp only [yr,ys,zV,zW];rfl)) ?_;(with_reducible refine (impl_byteReader_take.calls  g t278 t279 t277 t280 t281 t282 w0 _ ?side1 ?side2 A38.out).mono ?_);(case side1 => repeat (with_reducible first|exact HI0.out|apply IsS110.alloc|apply IsS110.drewN|apply IsS110.drew|apply IsS110.set_0|apply IsS110.set_1|refine IsS110.far ?_ NB0_266.out _|refine IsS110.far ?_ NB0_270.out _));(case side2 => repeat (with_reducible first|exact HB.out|apply za|apply zb|apply zc|refine zd ?_ (IsS110.ge HI0.out)|refine zd ?_ GE266.out|refine zd ?_ GE270.out));rintro e w40 ⟨rfl,hi,hb,hk⟩;refine ⟨_,rfl,?_⟩;replace BK266:=zh (KeepBut.blk hk (g':=gb266) (o:=.cells #[.int .i64 0,.int .i64 0,.string (⟨#[]⟩ : ByteArray)] 49 (0,0)) (by (with_reducible repeat (first|refine ze ?_ _|refine zf ?_|refine zg ?_ _));exact BK266.out) NB266_0.out (by simp));replace BK270:=zh (KeepBut.blk hk (g':=gb270) (o:=.cells #[.int .i64 t267,.int .i64 0,.string (⟨#[]⟩ : ByteArray)] 49 (0,0)) (by (with_reducible repeat (first|refine ze ?_ _|refine zf ?_|refine zg ?_ _));exact BK270.out) NB270_0.out (by simp));replace HK:=zh (KeepBut.trans (by repeat (with_reducible first|exact HK.out|apply yl|apply ym|apply yx|apply yn|refine keep_far ?_ GW266.out _|refine keep_far ?_ GW270.out _)) hk (.inl rfl));replace HB:=zh (hb);replace HI0:=zh (hi);(try clear hb);(try clear hb2);(try clear hk);(try clear hi);have hnb41:=NB270_266.out;have hnc41:=NB266_270.out;have hnb42:=NB270_0.out;have hnc42:=NB0_270.out;have hcz43_0 : w40.cell? ⟨gb270,0,none⟩=some (.int .i64 t267):=(zz BK270.out 0).trans rfl;have hcz43_1 : w40.cell? ⟨gb270,1,none⟩=some (.int .i64 0):=(zz BK270.out 1).trans rfl;have hcz43_2 : w40.cell? ⟨gb270,2,none⟩=some (.string (⟨#[]⟩ : ByteArray)):=(zz BK270.out 2).trans rfl;have hfz43_0:=zA BK270.out 0;have hfz43_1:=zA BK270.out 1;have hfz43_2:=zA BK270.out 2;have hnb44:=NB266_0.out;have hnc44:=NB0_266.out;have hcz45_0 : w40.cell? ⟨gb266,0,none⟩=some (.int .i64 0):=(zz BK266.out 0).trans rfl;have hcz45_1 : w40.cell? ⟨gb266,1,none⟩=some (.int .i64 0):=(zz BK266.out 1).trans rfl;have hcz45_2 : w40.cell? ⟨gb266,2,none⟩=some (.string (⟨#[]⟩ : ByteArray)):=(zz BK266.out 2).trans rfl;have hfz45_0:=zA BK266.out 0;have hfz45_1:=zA BK266.out 1;have hfz45_2:=zA BK266.out 2))
    refine bodyPost_ret (results_cell_row rfl _ _ gb266 49 #[.int .i64 t267,.int .i64 0,.string t280] (0,0) _ rfl (by (with_reducible repeat (first|refine ze ?_ _|refine zf ?_|refine zg ?_ _));refine zL (cs:=#[.int .i64 t267,.int .i64 0,.string (⟨#[]⟩ : ByteArray)]) ?_ 2 _ rfl;(with_reducible repeat (first|refine ze ?_ _|refine zf ?_|refine zg ?_ _));refine zL (cs:=#[.int .i64 t267,.int .i64 0,.string (⟨#[]⟩ : ByteArray)]) ?_ 1 _ rfl;(with_reducible repeat (first|refine ze ?_ _|refine zf ?_|refine zg ?_ _));refine zL (cs:=#[.int .i64 0,.int .i64 0,.string (⟨#[]⟩ : ByteArray)]) ?_ 0 _ rfl;(with_reducible repeat (first|refine ze ?_ _|refine zf ?_|refine zg ?_ _));refine zS ?_ NB266_270.out _;(with_reducible repeat (first|refine ze ?_ _|refine zf ?_|refine zg ?_ _));exact BK266.out) Tryz.underlying49 rfl (by kernel_rfl)) rfl ?_;exact ⟨by first|rfl|(simp [yt,yu] <;> rfl)|(simp [*,yt,yu] <;> rfl),by repeat (with_reducible first|exact HI0.out|apply IsS110.alloc|apply IsS110.drewN|apply IsS110.drew|apply IsS110.set_0|apply IsS110.set_1|refine IsS110.far ?_ NB0_266.out _|refine IsS110.far ?_ NB0_270.out _),by repeat (with_reducible first|exact HB.out|apply za|apply zb|apply zc|refine zd ?_ (IsS110.ge HI0.out)|refine zd ?_ GE266.out|refine zd ?_ GE270.out),by repeat (with_reducible first|exact HK.out|apply yl|apply ym|apply yx|apply yn|refine keep_far ?_ GW266.out _|refine keep_far ?_ GW270.out _)⟩
   replace c36:=yb.mpr c36;subst c36;have H1 : (some (t267,0,(⟨#[]⟩ : ByteArray),t268,t269))=some (r1,r2,r3,r4,r5):=by rw [if_neg (show ¬ (false=true) by decide)] at H;exact H
   clear H;have H:=H1;clear H1;simp only [Option.some.injEq,Prod.mk.injEq] at H;obtain ⟨rfl,rfl,rfl,rfl,rfl⟩:=H;have hnb46:=NB270_266.out;have hnc46:=NB266_270.out;have hnb47:=NB270_0.out;have hnc47:=NB0_270.out;have hcz48_0 : wc.cell? ⟨gb270,0,none⟩=some (.int .i64 t267):=(zz BK270.out 0).trans rfl;have hcz48_1 : wc.cell? ⟨gb270,1,none⟩=some (.int .i64 0):=(zz BK270.out 1).trans rfl;have hcz48_2 : wc.cell? ⟨gb270,2,none⟩=some (.string (⟨#[]⟩ : ByteArray)):=(zz BK270.out 2).trans rfl;have hfz48_0:=zA BK270.out 0;have hfz48_1:=zA BK270.out 1;have hfz48_2:=zA BK270.out 2;have hnb49:=NB266_0.out;have hnc49:=NB0_266.out;have hcz50_0 : wc.cell? ⟨gb266,0,none⟩=some (.int .i64 0):=(zz BK266.out 0).trans rfl;have hcz50_1 : wc.cell? ⟨gb266,1,none⟩=some (.int .i64 0):=(zz BK266.out 1).trans rfl;have hcz50_2 : wc.cell? ⟨gb266,2,none⟩=some (.string (⟨#[]⟩ : ByteArray)):=(zz BK266.out 2).trans rfl;have hfz50_0:=zA BK266.out 0;have hfz50_1:=zA BK266.out 1;have hfz50_2:=zA BK266.out 2
   go_wp2
   refine bodyPost_ret (results_cell_row rfl _ _ gb266 49 #[.int .i64 t267,.int .i64 0,.string (⟨#[]⟩ : ByteArray)] (0,0) _ rfl (by (with_reducible repeat (first|refine ze ?_ _|refine zf ?_|refine zg ?_ _));refine zL (cs:=#[.int .i64 t267,.int .i64 0,.string (⟨#[]⟩ : ByteArray)]) ?_ 2 _ rfl;(with_reducible repeat (first|refine ze ?_ _|refine zf ?_|refine zg ?_ _));refine zL (cs:=#[.int .i64 t267,.int .i64 0,.string (⟨#[]⟩ : ByteArray)]) ?_ 1 _ rfl;(with_reducible repeat (first|refine ze ?_ _|refine zf ?_|refine zg ?_ _));refine zL (cs:=#[.int .i64 0,.int .i64 0,.string (⟨#[]⟩ : ByteArray)]) ?_ 0 _ rfl;(with_reducible repeat (first|refine ze ?_ _|refine zf ?_|refine zg ?_ _));exact BK266.out) Tryz.underlying49 rfl (by kernel_rfl)) rfl ?_;exact ⟨by first|rfl|(simp [yt,yu] <;> rfl)|(simp [*,yt,yu] <;> rfl),by repeat (with_reducible first|exact HI0.out|apply IsS110.alloc|apply IsS110.drewN|apply IsS110.drew|apply IsS110.set_0|apply IsS110.set_1|refine IsS110.far ?_ NB0_266.out _|refine IsS110.far ?_ NB0_270.out _),by repeat (with_reducible first|exact HB.out|apply za|apply zb|apply zc|refine zd ?_ (IsS110.ge HI0.out)|refine zd ?_ GE266.out|refine zd ?_ GE270.out),by repeat (with_reducible first|exact HK.out|apply yl|apply ym|apply yx|apply yn|refine keep_far ?_ GW266.out _|refine keep_far ?_ GW270.out _)⟩

end Go.Proofs.YthjgfjlogilleaaGreatDoor.Q
end
section
namespace Go.Proofs.YthjgfjlogilleaaGreatDoor.Q
open Go.RowKit Go.Proofs.YthjgfjlogilleaaGreatDoorW.PrintWords Go.Proofs.YthjgfjlogilleaaGreatDoorW.PrintLast Go.Proofs.YthjgfjlogilleaaGreatDoorW.PrintMore
attribute [local go_sem] max2_int min2_int max_two min_two max_three min_three max_four min_four max2_str min2_str str_geq str_gtr str_leq   -- for this text's walks alone
set_option linter.unusedVariables false
set_option linter.unusedSimpArgs false

def impl_items.l0 : Nat→List (S49)→ByteArray→Bool→Option ((List (S49))×Bool)
 | 0,_,_,_ => none
 | k + 1,x5,x285000,x285001 => if x285000.toList=([] : List UInt8) then (some (x5,!x285001)) else (if x285001=true then (some (x5,!x285001)) else ((impl_byteReader_value.f k x285000 x285001).bind fun bt288 => (if x5.length<4398046511104 then (impl_items.l0 k (x5 ++ [(⟨bt288.1,bt288.2.1,bt288.2.2.1⟩ : S49)]) bt288.2.2.2.1 bt288.2.2.2.2) else (none))))
def impl_items.f (k : Nat) (a0_0 : Int) (a0_1 : Int) (a0_2 : ByteArray) : Option ((List (S49))×Bool):=impl_items.l0 k (([] : List (S49))) a0_2 false
theorem impl_items.mono_l : ∀ k,(∀ y0 y1 y2,LeO (impl_items.l0 k y0 y1 y2) (impl_items.l0 (k + 1) y0 y1 y2))
 | 0 => fun _ _ _ r h => by simp [impl_items.l0] at h
 | k + 1 => by
  have ih0:=impl_items.mono_l k;intro y0 y1 y2;unfold impl_items.l0
  repeat' first|(with_reducible exact ih0 _ _ _)|(with_reducible exact impl_byteReader_value.mono _ _ _)|(with_reducible exact zQ _)|(with_reducible exact zN _)|(with_reducible refine zP ?_ ?_)|(with_reducible refine zO ?_ (fun _ => ?_))|refine zP ?_ ?_|refine zO ?_ (fun _ => ?_)
theorem impl_items.mono : ∀ a0 a1 a2 k,LeO (impl_items.f k a0 a1 a2) (impl_items.f (k + 1) a0 a1 a2):=by
 intro a0 a1 a2 k;have ih0:=impl_items.mono_l k;unfold impl_items.f
 repeat' first|(with_reducible exact ih0 _ _ _)|(with_reducible exact impl_byteReader_value.mono _ _ _)|(with_reducible exact zQ _)|(with_reducible exact zN _)|(with_reducible refine zP ?_ ?_)|(with_reducible refine zO ?_ (fun _ => ?_))|refine zP ?_ ?_|refine zO ?_ (fun _ => ?_)
set_option maxHeartbeats 8000000 in
set_option maxRecDepth 100000 in
theorem impl_items.calls (k : Nat) (a0_0 : Int) (a0_1 : Int) (a0_2 : ByteArray) (r1 : List (S49)) (r2 : Bool) (w : World) (h : impl_items.f k a0_0 a0_1 a0_2=some (r1,r2)) :
  Calls Tryz.prog 70 #[.agg #[.int .i64 a0_0,.int .i64 a0_1,.string a0_2]] w fun e w' => ∃ v0_ : Value,e = .returned (.tuple #[v0_,.bool r2])∧Kd.R k49 49 w' w.heap.size (fun _ => True) v0_ r1∧Below w.heap.size w w':=by
 have hu49:=Tryz.underlying49;have hu110:=Tryz.underlying110;have HB:=zh (Below.refl w.heap.size w);have H : (impl_items.l0 k (([] : List (S49))) a0_2 false)=some (r1,r2):=h;clear h;obtain ⟨y285,hy285⟩ : ∃ y_ : List (S49),y_=(([] : List (S49))):=⟨_,rfl⟩;replace H : (impl_items.l0 k y285 a0_2 false)=some (r1,r2):=by first|(rw [hy285];with_reducible exact H)|(have H2_:=(Option.bind_some _ _).symm.trans H;rw [hy285];with_reducible exact H2_)|(have H2_:=(Option.bind_some _ _).symm.trans H;with_reducible exact H2_)|with_reducible exact H|(rw [hy285];exact H)|exact H
 have Ny285:=zh hy285;clear hy285;have H':=zh H;clear H
 go_enter Tryz.func70,Tryz.ntmps70
 go_wp2_with (first|((with_reducible refine zK (N:=1) rfl ?_);refine zI ?hg (N:=1) ?hd (cs:=#[.int .i64 a0_0,.int .i64 a0_1,.string a0_2]) (t:=49) ?hr ?_;(case hd => rfl);(case hg => rfl);(case hr => first|(go_simp;done)|(go_simp;rfl));intro gb283 hg w2 hbox hb;have BK283:=zh (hbox);have GW283:=zh ((by rw [hg];exact (zB (by repeat (with_reducible first|exact HB.out|apply za|apply zb|apply zc))) : w.heap.size≤gb283));have GE283:=zh ((by rw [hg];exact (zB (by repeat (with_reducible first|exact HB.out|apply za|apply zb|apply zc))) : w.heap.size≤gb283));replace HB:=zh (zC (by repeat (with_reducible first|exact HB.out|apply za|apply zb|apply zc)) hb);clear hb hbox hg;have hcz3_0 : w2.cell? ⟨gb283,0,none⟩=some (.int .i64 a0_0):=(zz BK283.out 0).trans rfl;have hcz3_1 : w2.cell? ⟨gb283,1,none⟩=some (.int .i64 a0_1):=(zz BK283.out 1).trans rfl;have hcz3_2 : w2.cell? ⟨gb283,2,none⟩=some (.string a0_2):=(zz BK283.out 2).trans rfl;have hfz3_0:=zA BK283.out 0;have hfz3_1:=zA BK283.out 1;have hfz3_2:=zA BK283.out 2)|((with_reducible refine zK (N:=9) rfl ?_);refine zI ?hg (N:=9) ?hd (cs:=#[.string a0_2,.bool false]) (t:=110) ?hr ?_;(case hd => rfl);(case hg => rfl);(case hr => first|(go_simp;done)|(go_simp;rfl));intro gb284 hg w4 hbox hb;have BK284:=zh (hbox);have GW284:=zh ((by rw [hg];exact (zB (by repeat (with_reducible first|exact HB.out|apply za|apply zb|apply zc|refine zd ?_ GE283.out))) : w.heap.size≤gb284));have GE284:=zh ((by rw [hg];exact (zB (by repeat (with_reducible first|exact HB.out|apply za|apply zb|apply zc|refine zd ?_ GE283.out))) : w.heap.size≤gb284));replace HB:=zh (zC (by repeat (with_reducible first|exact HB.out|apply za|apply zb|apply zc|refine zd ?_ GE283.out)) hb);have NB283_284:=zh ((by rw [hg];exact yc (yi (g:=gb283) (o:=.cells #[.int .i64 a0_0,.int .i64 a0_1,.string a0_2] 49 (0,0)) (by (with_reducible repeat (first|refine ze ?_ _|refine zf ?_|refine zg ?_ _));exact BK283.out)) : gb283≠gb284));have NB284_283:=zh ((by rw [hg];exact yd (yi (g:=gb283) (o:=.cells #[.int .i64 a0_0,.int .i64 a0_1,.string a0_2] 49 (0,0)) (by (with_reducible repeat (first|refine ze ?_ _|refine zf ?_|refine zg ?_ _));exact BK283.out)) : gb284≠gb283));replace BK283:=zh (zD (g:=gb283) (o:=.cells #[.int .i64 a0_0,.int .i64 a0_1,.string a0_2] 49 (0,0)) (by (with_reducible repeat (first|refine ze ?_ _|refine zf ?_|refine zg ?_ _));exact BK283.out) hb);clear hb hbox hg)|((with_reducible refine zK (N:=10) rfl ?_);refine Kd.R_lit k49 _ 49 ?hg (N:=10) ?hd (xs:=([] : List (S49))) (inner:=[]) (ok:=fun _ => True) (okp:=fun _ => True) ?hr ?hp (fun _ hk => hk) trivial (Below.refl _ _) (ye _) (by simp) ?_;(case hd => rfl);(case hg => rfl);(case hr => first|(go_simp;done)|(go_simp;rfl));(case hp => exact (Reps.none _ _));intro v286 w5 ho6 hb hg_ hnew_;clear hg_ hnew_;(first|rw [← Ny285.out] at ho6|(simp only [Int.reduceToNat] at ho6;rw [← Ny285.out] at ho6));have HO287:=zh (yy (Kd.R_newB ho6 (g:=gb283) (o:=.cells #[.int .i64 a0_0,.int .i64 a0_1,.string a0_2] 49 (0,0)) (by (with_reducible repeat (first|refine ze ?_ _|refine zf ?_|refine zg ?_ _));exact BK283.out)) (zB (by repeat (with_reducible first|exact HB.out|apply za|apply zb|apply zc|refine zd ?_ GE283.out|refine zd ?_ GE284.out))));replace BK283:=zh (zD (g:=gb283) (o:=.cells #[.int .i64 a0_0,.int .i64 a0_1,.string a0_2] 49 (0,0)) (by (with_reducible repeat (first|refine ze ?_ _|refine zf ?_|refine zg ?_ _));exact BK283.out) hb);replace BK284:=zh (zD (g:=gb284) (o:=.cells #[.string a0_2,.bool false] 110 (0,0)) (by (with_reducible repeat (first|refine ze ?_ _|refine zf ?_|refine zg ?_ _));exact BK284.out) hb);replace HB:=zh (zC (by repeat (with_reducible first|exact HB.out|apply za|apply zb|apply zc|refine zd ?_ GE283.out|refine zd ?_ GE284.out)) hb);clear hb ho6))
 repeat (go_quiet (first|((with_reducible refine zK (N:=1) rfl ?_);refine zI ?hg (N:=1) ?hd (cs:=#[.int .i64 a0_0,.int .i64 a0_1,.string a0_2]) (t:=49) ?hr ?_;(case hd => rfl);(case hg => rfl);(case hr => first|(go_simp;done)|(go_simp;rfl));intro gb283 hg w2 hbox hb;have BK283:=zh (hbox);have GW283:=zh ((by rw [hg];exact (zB (by repeat (with_reducible first|exact HB.out|apply za|apply zb|apply zc))) : w.heap.size≤gb283));have GE283:=zh ((by rw [hg];exact (zB (by repeat (with_reducible first|exact HB.out|apply za|apply zb|apply zc))) : w.heap.size≤gb283));replace HB:=zh (zC (by repeat (with_reducible first|exact HB.out|apply za|apply zb|apply zc)) hb);clear hb hbox hg;have hcz3_0 : w2.cell? ⟨gb283,0,none⟩=some (.int .i64 a0_0):=(zz BK283.out 0).trans rfl;have hcz3_1 : w2.cell? ⟨gb283,1,none⟩=some (.int .i64 a0_1):=(zz BK283.out 1).trans rfl;have hcz3_2 : w2.cell? ⟨gb283,2,none⟩=some (.string a0_2):=(zz BK283.out 2).trans rfl;have hfz3_0:=zA BK283.out 0;have hfz3_1:=zA BK283.out 1;have hfz3_2:=zA BK283.out 2)|((with_reducible refine zK (N:=9) rfl ?_);refine zI ?hg (N:=9) ?hd (cs:=#[.string a0_2,.bool false]) (t:=110) ?hr ?_;(case hd => rfl);(case hg => rfl);(case hr => first|(go_simp;done)|(go_simp;rfl));intro gb284 hg w4 hbox hb;have BK284:=zh (hbox);have GW284:=zh ((by rw [hg];exact (zB (by repeat (with_reducible first|exact HB.out|apply za|apply zb|apply zc|refine zd ?_ GE283.out))) : w.heap.size≤gb284));have GE284:=zh ((by rw [hg];exact (zB (by repeat (with_reducible first|exact HB.out|apply za|apply zb|apply zc|refine zd ?_ GE283.out))) : w.heap.size≤gb284));replace HB:=zh (zC (by repeat (with_reducible first|exact HB.out|apply za|apply zb|apply zc|refine zd ?_ GE283.out)) hb);have NB283_284:=zh ((by rw [hg];exact yc (yi (g:=gb283) (o:=.cells #[.int .i64 a0_0,.int .i64 a0_1,.string a0_2] 49 (0,0)) (by (with_reducible repeat (first|refine ze ?_ _|refine zf ?_|refine zg ?_ _));exact BK283.out)) : gb283≠gb284));have NB284_283:=zh ((by rw [hg];exact yd (yi (g:=gb283) (o:=.cells #[.int .i64 a0_0,.int .i64 a0_1,.string a0_2] 49 (0,0)) (by (with_reducible repeat (first|refine ze ?_ _|refine zf ?_|refine zg ?_ _));exact BK283.out)) : gb284≠gb283));replace BK283:=zh (zD (g:=gb283) (o:=.cells #[.int .i64 a0_0,.int .i64 a0_1,.string a0_2] 49 (0,0)) (by (with_reducible repeat (first|refine ze ?_ _|refine zf ?_|refine zg ?_ _));exact BK283.out) hb);clear hb hbox hg)|((with_reducible refine zK (N:=10) rfl ?_);refine Kd.R_lit k49 _ 49 ?hg (N:=10) ?hd (xs:=([] : List (S49))) (inner:=[]) (ok:=fun _ => True) (okp:=fun _ => True) ?hr ?hp (fun _ hk => hk) trivial (Below.refl _ _) (ye _) (by simp) ?_;(case hd => rfl);(case hg => rfl);(case hr => first|(go_simp;done)|(go_simp;rfl));(case hp => exact (Reps.none _ _));intro v286 w5 ho6 hb hg_ hnew_;clear hg_ hnew_;(first|rw [← Ny285.out] at ho6|(simp only [Int.reduceToNat] at ho6;rw [← Ny285.out] at ho6));have HO287:=zh (yy (Kd.R_newB ho6 (g:=gb283) (o:=.cells #[.int .i64 a0_0,.int .i64 a0_1,.string a0_2] 49 (0,0)) (by (with_reducible repeat (first|refine ze ?_ _|refine zf ?_|refine zg ?_ _));exact BK283.out)) (zB (by repeat (with_reducible first|exact HB.out|apply za|apply zb|apply zc|refine zd ?_ GE283.out|refine zd ?_ GE284.out))));replace BK283:=zh (zD (g:=gb283) (o:=.cells #[.int .i64 a0_0,.int .i64 a0_1,.string a0_2] 49 (0,0)) (by (with_reducible repeat (first|refine ze ?_ _|refine zf ?_|refine zg ?_ _));exact BK283.out) hb);replace BK284:=zh (zD (g:=gb284) (o:=.cells #[.string a0_2,.bool false] 110 (0,0)) (by (with_reducible repeat (first|refine ze ?_ _|refine zf ?_|refine zg ?_ _));exact BK284.out) hb);replace HB:=zh (zC (by repeat (with_reducible first|exact HB.out|apply za|apply zb|apply zc|refine zd ?_ GE283.out|refine zd ?_ GE284.out)) hb);clear hb ho6));try go_wp2_with (first|((with_reducible refine zK (N:=1) rfl ?_);refine zI ?hg (N:=1) ?hd (cs:=#[.int .i64 a0_0,.int .i64 a0_1,.string a0_2]) (t:=49) ?hr ?_;(case hd => rfl);(case hg => rfl);(case hr => first|(go_simp;done)|(go_simp;rfl));intro gb283 hg w2 hbox hb;have BK283:=zh (hbox);have GW283:=zh ((by rw [hg];exact (zB (by repeat (with_reducible first|exact HB.out|apply za|apply zb|apply zc))) : w.heap.size≤gb283));have GE283:=zh ((by rw [hg];exact (zB (by repeat (with_reducible first|exact HB.out|apply za|apply zb|apply zc))) : w.heap.size≤gb283));replace HB:=zh (zC (by repeat (with_reducible first|exact HB.out|apply za|apply zb|apply zc)) hb);clear hb hbox hg;have hcz3_0 : w2.cell? ⟨gb283,0,none⟩=some (.int .i64 a0_0):=(zz BK283.out 0).trans rfl;have hcz3_1 : w2.cell? ⟨gb283,1,none⟩=some (.int .i64 a0_1):=(zz BK283.out 1).trans rfl;have hcz3_2 : w2.cell? ⟨gb283,2,none⟩=some (.string a0_2):=(zz BK283.out 2).trans rfl;have hfz3_0:=zA BK283.out 0;have hfz3_1:=zA BK283.out 1;have hfz3_2:=zA BK283.out 2)|((with_reducible refine zK (N:=9) rfl ?_);refine zI ?hg (N:=9) ?hd (cs:=#[.string a0_2,.bool false]) (t:=110) ?hr ?_;(case hd => rfl);(case hg => rfl);(case hr => first|(go_simp;done)|(go_simp;rfl));intro gb284 hg w4 hbox hb;have BK284:=zh (hbox);have GW284:=zh ((by rw [hg];exact (zB (by repeat (with_reducible first|exact HB.out|apply za|apply zb|apply zc|refine zd ?_ GE283.out))) : w.heap.size≤gb284));have GE284:=zh ((by rw [hg];exact (zB (by repeat (with_reducible first|exact HB.out|apply za|apply zb|apply zc|refine zd ?_ GE283.out))) : w.heap.size≤gb284));replace HB:=zh (zC (by repeat (with_reducible first|exact HB.out|apply za|apply zb|apply zc|refine zd ?_ GE283.out)) hb);have NB283_284:=zh ((by rw [hg];exact yc (yi (g:=gb283) (o:=.cells #[.int .i64 a0_0,.int .i64 a0_1,.string a0_2] 49 (0,0)) (by (with_reducible repeat (first|refine ze ?_ _|refine zf ?_|refine zg ?_ _));exact BK283.out)) : gb283≠gb284));have NB284_283:=zh ((by rw [hg];exact yd (yi (g:=gb283) (o:=.cells #[.int .i64 a0_0,.int .i64 a0_1,.string a0_2] 49 (0,0)) (by (with_reducible repeat (first|refine ze ?_ _|refine zf ?_|refine zg ?_ _));exact BK283.out)) : gb284≠gb283));replace BK283:=zh (zD (g:=gb283) (o:=.cells #[.int .i64 a0_0,.int .i64 a0_1,.string a0_2] 49 (0,0)) (by (with_reducible repeat (first|refine ze ?_ _|refine zf ?_|refine zg ?_ _));exact BK283.out) hb);clear hb hbox hg)|((with_reducible refine zK (N:=10) rfl ?_);refine Kd.R_lit k49 _ 49 ?hg (N:=10) ?hd (xs:=([] : List (S49))) (inner:=[]) (ok:=fun _ => True) (okp:=fun _ => True) ?hr ?hp (fun _ hk => hk) trivial (Below.refl _ _) (ye _) (by simp) ?_;(case hd => rfl);(case hg => rfl);(case hr => first|(go_simp;done)|(go_simp;rfl));(case hp => exact (Reps.none _ _));intro v286 w5 ho6 hb hg_ hnew_;clear hg_ hnew_;(first|rw [← Ny285.out] at ho6|(simp only [Int.reduceToNat] at ho6;rw [← Ny285.out] at ho6));have HO287:=zh (yy (Kd.R_newB ho6 (g:=gb283) (o:=.cells #[.int .i64 a0_0,.int .i64 a0_1,.string a0_2] 49 (0,0)) (by (with_reducible repeat (first|refine ze ?_ _|refine zf ?_|refine zg ?_ _));exact BK283.out)) (zB (by repeat (with_reducible first|exact HB.out|apply za|apply zb|apply zc|refine zd ?_ GE283.out|refine zd ?_ GE284.out))));replace BK283:=zh (zD (g:=gb283) (o:=.cells #[.int .i64 a0_0,.int .i64 a0_1,.string a0_2] 49 (0,0)) (by (with_reducible repeat (first|refine ze ?_ _|refine zf ?_|refine zg ?_ _));exact BK283.out) hb);replace BK284:=zh (zD (g:=gb284) (o:=.cells #[.string a0_2,.bool false] 110 (0,0)) (by (with_reducible repeat (first|refine ze ?_ _|refine zf ?_|refine zg ?_ _));exact BK284.out) hb);replace HB:=zh (zC (by repeat (with_reducible first|exact HB.out|apply za|apply zb|apply zc|refine zd ?_ GE283.out|refine zd ?_ GE284.out)) hb);clear hb ho6)))
 go_loopg [5] k (fun kq v5 w' => ∃ (x5_1 : List (S49)) (x285000_1 : ByteArray) (x285001_1 : Bool),Aside0 (impl_items.l0 kq x5_1 x285000_1 x285001_1=some (r1,r2))∧Aside0 (kq≤k)∧Aside0 (Kd.R k49 49 w' w.heap.size (fun k_ => k_≠gb283) v5 x5_1)∧Aside0 (w'.heap[gb283]? = some (.cells #[.int .i64 a0_0,.int .i64 a0_1,.string a0_2] 49 (0,0)))∧Aside0 (w'.heap[gb284]? = some (.cells #[.string x285000_1,.bool x285001_1] 110 (0,0)))∧Aside0 (Below w.heap.size w w'))
 case atStart => exact ⟨(y285),(a0_2),(false),H',⟨ye _⟩,⟨by (with_reducible repeat (first|apply zm|apply zn|apply zo));exact zM HO287.out (fun _ hk => hk.2)⟩,⟨by (with_reducible repeat (first|refine ze ?_ _|refine zf ?_|refine zg ?_ _));exact BK283.out⟩,⟨by (with_reducible repeat (first|refine ze ?_ _|refine zf ?_|refine zg ?_ _));exact BK284.out⟩,⟨by repeat (with_reducible first|exact HB.out|apply za|apply zb|apply zc|refine zd ?_ GE283.out|refine zd ?_ GE284.out)⟩⟩
 case round =>
  clear H'
  try clear p2
  try clear hcz3_0
  try clear hcz3_1
  try clear hcz3_2
  try clear hfz3_0
  try clear hfz3_1
  try clear hfz3_2
  obtain ⟨x5_1,x285000_1,x285001_1,HA,HK1,HO_5,BK283,BK284,HB⟩:=hrel
  cases gk with
  | zero => exact absurd HA.out (by simp [impl_items.l0])
  | succ k1 =>
   have H:=HA.out;clear HA;simp only [impl_items.l0] at H
   by_cases c7 : x285000_1.toList=([] : List UInt8)
   ·
    rw [if_pos c7] at H
    have c7b0 : (x285000_1.toList == ([] : List UInt8))=true:=ya.mpr c7;have c7b1 : (x285000_1.toList != ([] : List UInt8))=false:=zX.mpr c7;clear c7;simp only [Option.some.injEq,Prod.mk.injEq] at H;obtain ⟨rfl,rfl⟩:=H;have hnb8:=NB284_283.out;have hnc8:=NB283_284.out;have hcz9_0 : wr.cell? ⟨gb284,0,none⟩=some (.string x285000_1):=(zz BK284.out 0).trans rfl;have hcz9_1 : wr.cell? ⟨gb284,1,none⟩=some (.bool x285001_1):=(zz BK284.out 1).trans rfl;have hfz9_0:=zA BK284.out 0;have hfz9_1:=zA BK284.out 1
    go_wp2
    repeat (go_quiet (fail);try go_wp2)
    go_ret2
    exact ⟨_,by first|rfl|(simp [yt,yu] <;> rfl)|(simp [*,yt,yu] <;> rfl),by (with_reducible repeat (first|apply zm|apply zn|apply zo));exact zM HO_5.out (fun _ hk => trivial),by repeat (with_reducible first|exact HB.out|apply za|apply zb|apply zc|refine zd ?_ GE283.out|refine zd ?_ GE284.out)⟩
   rw [if_neg c7] at H;have c7b0 : (x285000_1.toList == ([] : List UInt8))=false:=zY.mpr c7;have c7b1 : (x285000_1.toList != ([] : List UInt8))=true:=zZ.mpr c7
   by_cases c10 : x285001_1=true
   ·
    subst c10
    have H1 : (some (x5_1,!true))=some (r1,r2):=by rw [if_pos rfl] at H;exact H
    clear H;have H:=H1;clear H1;simp only [Option.some.injEq,Prod.mk.injEq] at H;obtain ⟨rfl,rfl⟩:=H;have hnb11:=NB284_283.out;have hnc11:=NB283_284.out;have hcz12_0 : wr.cell? ⟨gb284,0,none⟩=some (.string x285000_1):=(zz BK284.out 0).trans rfl;have hcz12_1 : wr.cell? ⟨gb284,1,none⟩=some (.bool true):=(zz BK284.out 1).trans rfl;have hfz12_0:=zA BK284.out 0;have hfz12_1:=zA BK284.out 1
    go_wp2
    repeat (go_quiet (fail);try go_wp2)
    go_ret2
    exact ⟨_,by first|rfl|(simp [yt,yu] <;> rfl)|(simp [*,yt,yu] <;> rfl),by (with_reducible repeat (first|apply zm|apply zn|apply zo));exact zM HO_5.out (fun _ hk => trivial),by repeat (with_reducible first|exact HB.out|apply za|apply zb|apply zc|refine zd ?_ GE283.out|refine zd ?_ GE284.out)⟩
   replace c10:=yb.mpr c10;subst c10;have H1 : ((impl_byteReader_value.f k1 x285000_1 false).bind fun bt288 => (if x5_1.length<4398046511104 then (impl_items.l0 k1 (x5_1 ++ [(⟨bt288.1,bt288.2.1,bt288.2.2.1⟩ : S49)]) bt288.2.2.2.1 bt288.2.2.2.2) else (none)))=some (r1,r2):=by rw [if_neg (show ¬ (false=true) by decide)] at H;exact H
   clear H;have H:=H1;clear H1;replace H:=zT.mp H;obtain ⟨⟨t288,t289,t290,t291,t292⟩,A130,H⟩:=H;replace H : (if x5_1.length<4398046511104 then (impl_items.l0 k1 (x5_1 ++ [(⟨t288,t289,t290⟩ : S49)]) t291 t292) else (none))=some (r1,r2):=H;have A13:=zh A130;clear A130
   by_cases c14 : x5_1.length<4398046511104
   ·
    rw [if_pos c14] at H
    have LMc14:=zh c14;clear c14;obtain ⟨y293,hy293⟩ : ∃ y_ : List (S49),y_=(x5_1 ++ [(⟨t288,t289,t290⟩ : S49)]):=⟨_,rfl⟩;replace H : (impl_items.l0 k1 y293 t291 t292)=some (r1,r2):=by first|(rw [hy293];with_reducible exact H)|(have H2_:=(Option.bind_some _ _).symm.trans H;rw [hy293];with_reducible exact H2_)|(have H2_:=(Option.bind_some _ _).symm.trans H;with_reducible exact H2_)|with_reducible exact H|(rw [hy293];exact H)|exact H
    have Ny293:=zh hy293;clear hy293;have H':=zh H;clear H;have hnb15:=NB284_283.out;have hnc15:=NB283_284.out;have hcz16_0 : wr.cell? ⟨gb284,0,none⟩=some (.string x285000_1):=(zz BK284.out 0).trans rfl;have hcz16_1 : wr.cell? ⟨gb284,1,none⟩=some (.bool false):=(zz BK284.out 1).trans rfl;have hfz16_0:=zA BK284.out 0;have hfz16_1:=zA BK284.out 1;have HI284:=zh (show IsS110 w wr gb284 x285000_1 false from ⟨BK284.out,GE284.out⟩)
    go_wp2_with (first|(go_at_call 79;(with_reducible refine (impl_byteReader_value.calls k1  gb284 x285000_1 false t288 t289 t290 t291 t292 w _ ?side1 ?side2 A13.out).mono ?_);(case side1 => repeat (with_reducible first|exact HI284.out|apply IsS110.alloc|apply IsS110.drewN|apply IsS110.drew|apply IsS110.set_0|apply IsS110.set_1|refine IsS110.far ?_ NB284_283.out _));(case side2 => repeat (with_reducible first|exact HB.out|apply za|apply zb|apply zc|refine zd ?_ (IsS110.ge HI284.out)|refine zd ?_ GE283.out));rintro e w17 ⟨rfl,hi,hb,hk⟩;replace HO_5:=zh (zM (Kd.R_keep (IsS110.apart (show IsS110 w _ gb284 x285000_1 false from by repeat (with_reducible first|exact HI284.out|apply IsS110.alloc|apply IsS110.drewN|apply IsS110.drew|apply IsS110.set_0|apply IsS110.set_1|refine IsS110.far ?_ NB284_283.out _)) (by (with_reducible repeat (first|apply zm|apply zn|apply zo));exact HO_5.out) (by decide)) hk (fun _ h => h.2)) (fun _ h => h.1));replace BK283:=zh (KeepBut.blk hk (g':=gb283) (o:=.cells #[.int .i64 a0_0,.int .i64 a0_1,.string a0_2] 49 (0,0)) (by (with_reducible repeat (first|refine ze ?_ _|refine zf ?_|refine zg ?_ _));exact BK283.out) NB283_284.out (by simp));replace HB:=zh (hb);replace BK284:=zh ((show _∧_ from hi).1);clear HI284;(try clear hb);(try clear hb2);(try clear hk);(try clear hi))|((with_reducible refine yB (b:=.append) (xs:=#[.tmp 23,.tmp 26]) rfl ?_);at_builtin;refine Kd.R_append k49 (w0:=w) w.heap.size rfl (.tmp 23) (.tmp 26) 80 49 (.agg #[(.int .i64 0),(.int .i64 0),(.string ⟨#[]⟩)]) 32 rfl Tryz.underlying80 info49 rfl (by decide) (by omega) u5 x5_1 (⟨t288,t289,t290⟩ : S49) [.int .i64 t288,.int .i64 t289,.string t290] (fun k_ => k_≠gb283) (fun _ => False) rfl rfl ?aP (fun _ hk => hk.elim) ?aF ?aO ?aB ?aS ?aL ?_;(case aP => exact k49_mkM _ _ _ (⟨t288,t289,t290⟩ : S49));(case aB => exact (by repeat (with_reducible first|exact HB.out|apply za|apply zb|apply zc|refine zd ?_ GE283.out|refine zd ?_ GE284.out)));(case aF => exact (fun k_ hk => Kd.freshB (g:=gb283) (o:=.cells #[.int .i64 a0_0,.int .i64 a0_1,.string a0_2] 49 (0,0)) (by (with_reducible repeat (first|refine ze ?_ _|refine zf ?_|refine zg ?_ _));exact BK283.out) k_ hk));(case aO => exact (by (with_reducible repeat (first|apply zm|apply zn|apply zo));exact HO_5.out));(case aS => exact (zB (by repeat (with_reducible first|exact HB.out|apply za|apply zb|apply zc|refine zd ?_ GE283.out|refine zd ?_ GE284.out))));(case aL => have:=LMc14.out;omega);intro v294 w18 ho hb hg hat;rw [← Ny293.out] at ho;replace BK283:=zh (yw (g:=gb283) (o:=.cells #[.int .i64 a0_0,.int .i64 a0_1,.string a0_2] 49 (0,0)) (by (with_reducible repeat (first|refine ze ?_ _|refine zf ?_|refine zg ?_ _));exact BK283.out) hg (yv HO_5.out (fun _ hk => hk)));replace BK284:=zh (yw (g:=gb284) (o:=.cells #[.string t291,.bool t292] 110 (0,0)) (by (with_reducible repeat (first|refine ze ?_ _|refine zf ?_|refine zg ?_ _));exact BK284.out) hg (Kd.R_ne HO_5.out BK284.out (by decide)));replace HB:=zh (hb);have HO295:=zh (ho);clear HO_5 ho hb hg hat))
    repeat (go_quiet (first|(go_at_call 79;(with_reducible refine (impl_byteReader_value.calls k1  gb284 x285000_1 false t288 t289 t290 t291 t292 w _ ?side1 ?side2 A13.out).mono ?_);(case side1 => repeat (with_reducible first|exact HI284.out|apply IsS110.alloc|apply IsS110.drewN|apply IsS110.drew|apply IsS110.set_0|apply IsS110.set_1|refine IsS110.far ?_ NB284_283.out _));(case side2 => repeat (with_reducible first|exact HB.out|apply za|apply zb|apply zc|refine zd ?_ (IsS110.ge HI284.out)|refine zd ?_ GE283.out));rintro e w17 ⟨rfl,hi,hb,hk⟩;replace HO_5:=zh (zM (Kd.R_keep (IsS110.apart (show IsS110 w _ gb284 x285000_1 false from by repeat (with_reducible first|exact HI284.out|apply IsS110.alloc|apply IsS110.drewN|apply IsS110.drew|apply IsS110.set_0|apply IsS110.set_1|refine IsS110.far ?_ NB284_283.out _)) (by (with_reducible repeat (first|apply zm|apply zn|apply zo));exact HO_5.out) (by decide)) hk (fun _ h => h.2)) (fun _ h => h.1));replace BK283:=zh (KeepBut.blk hk (g':=gb283) (o:=.cells #[.int .i64 a0_0,.int .i64 a0_1,.string a0_2] 49 (0,0)) (by (with_reducible repeat (first|refine ze ?_ _|refine zf ?_|refine zg ?_ _));exact BK283.out) NB283_284.out (by simp));replace HB:=zh (hb);replace BK284:=zh ((show _∧_ from hi).1);clear HI284;(try clear hb);(try clear hb2);(try clear hk);(try clear hi))|((with_reducible refine yB (b:=.append) (xs:=#[.tmp 23,.tmp 26]) rfl ?_);at_builtin;refine Kd.R_append k49 (w0:=w) w.heap.size rfl (.tmp 23) (.tmp 26) 80 49 (.agg #[(.int .i64 0),(.int .i64 0),(.string ⟨#[]⟩)]) 32 rfl Tryz.underlying80 info49 rfl (by decide) (by omega) u5 x5_1 (⟨t288,t289,t290⟩ : S49) [.int .i64 t288,.int .i64 t289,.string t290] (fun k_ => k_≠gb283) (fun _ => False) rfl rfl ?aP (fun _ hk => hk.elim) ?aF ?aO ?aB ?aS ?aL ?_;(case aP => exact k49_mkM _ _ _ (⟨t288,t289,t290⟩ : S49));(case aB => exact (by repeat (with_reducible first|exact HB.out|apply za|apply zb|apply zc|refine zd ?_ GE283.out|refine zd ?_ GE284.out)));(case aF => exact (fun k_ hk => Kd.freshB (g:=gb283) (o:=.cells #[.int .i64 a0_0,.int .i64 a0_1,.string a0_2] 49 (0,0)) (by (with_reducible repeat (first|refine ze ?_ _|refine zf ?_|refine zg ?_ _));exact BK283.out) k_ hk));(case aO => exact (by (with_reducible repeat (first|apply zm|apply zn|apply zo));exact HO_5.out));(case aS => exact (zB (by repeat (with_reducible first|exact HB.out|apply za|apply zb|apply zc|refine zd ?_ GE283.out|refine zd ?_ GE284.out))));(case aL => have:=LMc14.out;omega);intro v294 w18 ho hb hg hat;rw [← Ny293.out] at ho;replace BK283:=zh (yw (g:=gb283) (o:=.cells #[.int .i64 a0_0,.int .i64 a0_1,.string a0_2] 49 (0,0)) (by (with_reducible repeat (first|refine ze ?_ _|refine zf ?_|refine zg ?_ _));exact BK283.out) hg (yv HO_5.out (fun _ hk => hk)));replace BK284:=zh (yw (g:=gb284) (o:=.cells #[.string t291,.bool t292] 110 (0,0)) (by (with_reducible repeat (first|refine ze ?_ _|refine zf ?_|refine zg ?_ _));exact BK284.out) hg (Kd.R_ne HO_5.out BK284.out (by decide)));replace HB:=zh (hb);have HO295:=zh (ho);clear HO_5 ho hb hg hat));try go_wp2_with (first|(go_at_call 79;(with_reducible refine (impl_byteReader_value.calls k1  gb284 x285000_1 false t288 t289 t290 t291 t292 w _ ?side1 ?side2 A13.out).mono ?_);(case side1 => repeat (with_reducible first|exact HI284.out|apply IsS110.alloc|apply IsS110.drewN|apply IsS110.drew|apply IsS110.set_0|apply IsS110.set_1|refine IsS110.far ?_ NB284_283.out _));(case side2 => repeat (with_reducible first|exact HB.out|apply za|apply zb|apply zc|refine zd ?_ (IsS110.ge HI284.out)|refine zd ?_ GE283.out));rintro e w17 ⟨rfl,hi,hb,hk⟩;replace HO_5:=zh (zM (Kd.R_keep (IsS110.apart (show IsS110 w _ gb284 x285000_1 false from by repeat (with_reducible first|exact HI284.out|apply IsS110.alloc|apply IsS110.drewN|apply IsS110.drew|apply IsS110.set_0|apply IsS110.set_1|refine IsS110.far ?_ NB284_283.out _)) (by (with_reducible repeat (first|apply zm|apply zn|apply zo));exact HO_5.out) (by decide)) hk (fun _ h => h.2)) (fun _ h => h.1));replace BK283:=zh (KeepBut.blk hk (g':=gb283) (o:=.cells #[.int .i64 a0_0,.int .i64 a0_1,.string a0_2] 49 (0,0)) (by (with_reducible repeat (first|refine ze ?_ _|refine zf ?_|refine zg ?_ _));exact BK283.out) NB283_284.out (by simp));replace HB:=zh (hb);replace BK284:=zh ((show _∧_ from hi).1);clear HI284;(try clear hb);(try clear hb2);(try clear hk);(try clear hi))|((with_reducible refine yB (b:=.append) (xs:=#[.tmp 23,.tmp 26]) rfl ?_);at_builtin;refine Kd.R_append k49 (w0:=w) w.heap.size rfl (.tmp 23) (.tmp 26) 80 49 (.agg #[(.int .i64 0),(.int .i64 0),(.string ⟨#[]⟩)]) 32 rfl Tryz.underlying80 info49 rfl (by decide) (by omega) u5 x5_1 (⟨t288,t289,t290⟩ : S49) [.int .i64 t288,.int .i64 t289,.string t290] (fun k_ => k_≠gb283) (fun _ => False) rfl rfl ?aP (fun _ hk => hk.elim) ?aF ?aO ?aB ?aS ?aL ?_;(case aP => exact k49_mkM _ _ _ (⟨t288,t289,t290⟩ : S49));(case aB => exact (by repeat (with_reducible first|exact HB.out|apply za|apply zb|apply zc|refine zd ?_ GE283.out|refine zd ?_ GE284.out)));(case aF => exact (fun k_ hk => Kd.freshB (g:=gb283) (o:=.cells #[.int .i64 a0_0,.int .i64 a0_1,.string a0_2] 49 (0,0)) (by (with_reducible repeat (first|refine ze ?_ _|refine zf ?_|refine zg ?_ _));exact BK283.out) k_ hk));(case aO => exact (by (with_reducible repeat (first|apply zm|apply zn|apply zo));exact HO_5.out));(case aS => exact (zB (by repeat (with_reducible first|exact HB.out|apply za|apply zb|apply zc|refine zd ?_ GE283.out|refine zd ?_ GE284.out))));(case aL => have:=LMc14.out;omega);intro v294 w18 ho hb hg hat;rw [← Ny293.out] at ho;replace BK283:=zh (yw (g:=gb283) (o:=.cells #[.int .i64 a0_0,.int .i64 a0_1,.string a0_2] 49 (0,0)) (by (with_reducible repeat (first|refine ze ?_ _|refine zf ?_|refine zg ?_ _));exact BK283.out) hg (yv HO_5.out (fun _ hk => hk)));replace BK284:=zh (yw (g:=gb284) (o:=.cells #[.string t291,.bool t292] 110 (0,0)) (by (with_reducible repeat (first|refine ze ?_ _|refine zf ?_|refine zg ?_ _));exact BK284.out) hg (Kd.R_ne HO_5.out BK284.out (by decide)));replace HB:=zh (hb);have HO295:=zh (ho);clear HO_5 ho hb hg hat)))
    go_roundg k1
    case measure => have:=HK1.out;omega
    case rel => exact ⟨(y293),(t291),(t292),H',⟨by have:=HK1.out;omega⟩,⟨by (with_reducible repeat (first|apply zm|apply zn|apply zo));exact HO295.out⟩,⟨by (with_reducible repeat (first|refine ze ?_ _|refine zf ?_|refine zg ?_ _));exact BK283.out⟩,⟨by (with_reducible repeat (first|refine ze ?_ _|refine zf ?_|refine zg ?_ _));exact BK284.out⟩,⟨by repeat (with_reducible first|exact HB.out|apply za|apply zb|apply zc|refine zd ?_ GE283.out|refine zd ?_ GE284.out)⟩⟩
   rw [if_neg c14] at H;exact absurd H (by simp)

end Go.Proofs.YthjgfjlogilleaaGreatDoor.Q
end
section
namespace Go.Proofs.YthjgfjlogilleaaGreatDoor.Q
open Go.RowKit Go.Proofs.YthjgfjlogilleaaGreatDoorW.PrintWords Go.Proofs.YthjgfjlogilleaaGreatDoorW.PrintLast Go.Proofs.YthjgfjlogilleaaGreatDoorW.PrintMore
attribute [local go_sem] max2_int min2_int max_two min_two max_three min_three max_four min_four max2_str min2_str str_geq str_gtr str_leq   -- for this text's walks alone
set_option linter.unusedVariables false
set_option linter.unusedSimpArgs false

mutual
def impl_fields.l0 : Nat→List (S87)→ByteArray→Bool→Option ((List (S87))×Bool)
 | 0,_,_,_ => none
 | k + 1,x5,x298000,x298001 => if x298000.toList=([] : List UInt8) then (impl_fields.j1 k x5 false x298000 x298001) else (impl_fields.j1 k x5 (!x298001) x298000 x298001)
def impl_fields.j1 : Nat→List (S87)→Bool→ByteArray→Bool→Option ((List (S87))×Bool)
 | 0,_,_,_,_ => none
 | k + 1,x5,x22,x298000,x298001 => if x22=true then ((impl_byteReader_num.f k x298000 x298001 1).bind fun bt301 => ((impl_byteReader_take.f bt301.2.1 bt301.2.2 bt301.1).bind fun bt304 => ((impl_byteReader_value.f k bt304.2.1 bt304.2.2).bind fun bt307 => (if x5.length<2932031007402 then (impl_fields.l0 k (x5 ++ [(⟨bt304.1,(⟨bt307.1,bt307.2.1,bt307.2.2.1⟩ : S49)⟩ : S87)]) bt307.2.2.2.1 bt307.2.2.2.2) else (none))))) else (some (x5,!x298001))
end
def impl_fields.f (k : Nat) (a0_0 : Int) (a0_1 : Int) (a0_2 : ByteArray) : Option ((List (S87))×Bool):=impl_fields.l0 k (([] : List (S87))) a0_2 false
theorem impl_fields.mono_l : ∀ k,(∀ y0 y1 y2,LeO (impl_fields.l0 k y0 y1 y2) (impl_fields.l0 (k + 1) y0 y1 y2))∧(∀ y0 y1 y2 y3,LeO (impl_fields.j1 k y0 y1 y2 y3) (impl_fields.j1 (k + 1) y0 y1 y2 y3))
 | 0 => ⟨fun _ _ _ r h => by simp [impl_fields.l0] at h,fun _ _ _ _ r h => by simp [impl_fields.j1] at h⟩
 | k + 1 => by
  obtain ⟨ih0,ih1⟩:=impl_fields.mono_l k;refine ⟨?_,?_⟩
  ·
   intro y0 y1 y2
   unfold impl_fields.l0
   repeat' first|(with_reducible exact ih0 _ _ _)|(with_reducible exact ih1 _ _ _ _)|(with_reducible exact impl_byteReader_value.mono _ _ _)|(with_reducible exact impl_byteReader_num.mono _ _ _ _)|(with_reducible exact zQ _)|(with_reducible exact zN _)|(with_reducible refine zP ?_ ?_)|(with_reducible refine zO ?_ (fun _ => ?_))|refine zP ?_ ?_|refine zO ?_ (fun _ => ?_)
  intro y0 y1 y2 y3;unfold impl_fields.j1
  repeat' first|(with_reducible exact ih0 _ _ _)|(with_reducible exact ih1 _ _ _ _)|(with_reducible exact impl_byteReader_value.mono _ _ _)|(with_reducible exact impl_byteReader_num.mono _ _ _ _)|(with_reducible exact zQ _)|(with_reducible exact zN _)|(with_reducible refine zP ?_ ?_)|(with_reducible refine zO ?_ (fun _ => ?_))|refine zP ?_ ?_|refine zO ?_ (fun _ => ?_)
theorem impl_fields.mono : ∀ a0 a1 a2 k,LeO (impl_fields.f k a0 a1 a2) (impl_fields.f (k + 1) a0 a1 a2):=by
 intro a0 a1 a2 k;obtain ⟨ih0,ih1⟩:=impl_fields.mono_l k;unfold impl_fields.f
 repeat' first|(with_reducible exact ih0 _ _ _)|(with_reducible exact ih1 _ _ _ _)|(with_reducible exact impl_byteReader_value.mono _ _ _)|(with_reducible exact impl_byteReader_num.mono _ _ _ _)|(with_reducible exact zQ _)|(with_reducible exact zN _)|(with_reducible refine zP ?_ ?_)|(with_reducible refine zO ?_ (fun _ => ?_))|refine zP ?_ ?_|refine zO ?_ (fun _ => ?_)
set_option maxHeartbeats 8000000 in
set_option maxRecDepth 100000 in
theorem impl_fields.calls (k : Nat) (a0_0 : Int) (a0_1 : Int) (a0_2 : ByteArray) (r1 : List (S87)) (r2 : Bool) (w : World) (h : impl_fields.f k a0_0 a0_1 a0_2=some (r1,r2)) :
  Calls Tryz.prog 71 #[.agg #[.int .i64 a0_0,.int .i64 a0_1,.string a0_2]] w fun e w' => ∃ v0_ : Value,e = .returned (.tuple #[v0_,.bool r2])∧Kd.R k87 87 w' w.heap.size (fun _ => True) v0_ r1∧Below w.heap.size w w':=by
 have hu49:=Tryz.underlying49;have hu110:=Tryz.underlying110;have hu87:=Tryz.underlying87;have HB:=zh (Below.refl w.heap.size w);have H : (impl_fields.l0 k (([] : List (S87))) a0_2 false)=some (r1,r2):=h;clear h;obtain ⟨y298,hy298⟩ : ∃ y_ : List (S87),y_=(([] : List (S87))):=⟨_,rfl⟩;replace H : (impl_fields.l0 k y298 a0_2 false)=some (r1,r2):=by first|(rw [hy298];with_reducible exact H)|(have H2_:=(Option.bind_some _ _).symm.trans H;rw [hy298];with_reducible exact H2_)|(have H2_:=(Option.bind_some _ _).symm.trans H;with_reducible exact H2_)|with_reducible exact H|(rw [hy298];exact H)|exact H
 have Ny298:=zh hy298;clear hy298;have H':=zh H;clear H
 go_enter Tryz.func71,Tryz.ntmps71
 go_wp2_with (first|((with_reducible refine zK (N:=1) rfl ?_);refine zI ?hg (N:=1) ?hd (cs:=#[.int .i64 a0_0,.int .i64 a0_1,.string a0_2]) (t:=49) ?hr ?_;(case hd => rfl);(case hg => rfl);(case hr => first|(go_simp;done)|(go_simp;rfl));intro gb296 hg w2 hbox hb;have BK296:=zh (hbox);have GW296:=zh ((by rw [hg];exact (zB (by repeat (with_reducible first|exact HB.out|apply za|apply zb|apply zc))) : w.heap.size≤gb296));have GE296:=zh ((by rw [hg];exact (zB (by repeat (with_reducible first|exact HB.out|apply za|apply zb|apply zc))) : w.heap.size≤gb296));replace HB:=zh (zC (by repeat (with_reducible first|exact HB.out|apply za|apply zb|apply zc)) hb);clear hb hbox hg;have hcz3_0 : w2.cell? ⟨gb296,0,none⟩=some (.int .i64 a0_0):=(zz BK296.out 0).trans rfl;have hcz3_1 : w2.cell? ⟨gb296,1,none⟩=some (.int .i64 a0_1):=(zz BK296.out 1).trans rfl;have hcz3_2 : w2.cell? ⟨gb296,2,none⟩=some (.string a0_2):=(zz BK296.out 2).trans rfl;have hfz3_0:=zA BK296.out 0;have hfz3_1:=zA BK296.out 1;have hfz3_2:=zA BK296.out 2)|((with_reducible refine zK (N:=9) rfl ?_);refine zI ?hg (N:=9) ?hd (cs:=#[.string a0_2,.bool false]) (t:=110) ?hr ?_;(case hd => rfl);(case hg => rfl);(case hr => first|(go_simp;done)|(go_simp;rfl));intro gb297 hg w4 hbox hb;have BK297:=zh (hbox);have GW297:=zh ((by rw [hg];exact (zB (by repeat (with_reducible first|exact HB.out|apply za|apply zb|apply zc|refine zd ?_ GE296.out))) : w.heap.size≤gb297));have GE297:=zh ((by rw [hg];exact (zB (by repeat (with_reducible first|exact HB.out|apply za|apply zb|apply zc|refine zd ?_ GE296.out))) : w.heap.size≤gb297));replace HB:=zh (zC (by repeat (with_reducible first|exact HB.out|apply za|apply zb|apply zc|refine zd ?_ GE296.out)) hb);have NB296_297:=zh ((by rw [hg];exact yc (yi (g:=gb296) (o:=.cells #[.int .i64 a0_0,.int .i64 a0_1,.string a0_2] 49 (0,0)) (by (with_reducible repeat (first|refine ze ?_ _|refine zf ?_|refine zg ?_ _));exact BK296.out)) : gb296≠gb297));have NB297_296:=zh ((by rw [hg];exact yd (yi (g:=gb296) (o:=.cells #[.int .i64 a0_0,.int .i64 a0_1,.string a0_2] 49 (0,0)) (by (with_reducible repeat (first|refine ze ?_ _|refine zf ?_|refine zg ?_ _));exact BK296.out)) : gb297≠gb296));replace BK296:=zh (zD (g:=gb296) (o:=.cells #[.int .i64 a0_0,.int .i64 a0_1,.string a0_2] 49 (0,0)) (by (with_reducible repeat (first|refine ze ?_ _|refine zf ?_|refine zg ?_ _));exact BK296.out) hb);clear hb hbox hg)|((with_reducible refine zK (N:=10) rfl ?_);refine Kd.R_lit k87 _ 87 ?hg (N:=10) ?hd (xs:=([] : List (S87))) (inner:=[]) (ok:=fun _ => True) (okp:=fun _ => True) ?hr ?hp (fun _ hk => hk) trivial (Below.refl _ _) (ye _) (by simp) ?_;(case hd => rfl);(case hg => rfl);(case hr => first|(go_simp;done)|(go_simp;rfl));(case hp => exact (Reps.none _ _));intro v299 w5 ho6 hb hg_ hnew_;clear hg_ hnew_;(first|rw [← Ny298.out] at ho6|(simp only [Int.reduceToNat] at ho6;rw [← Ny298.out] at ho6));have HO300:=zh (yy ho6 (zB (by repeat (with_reducible first|exact HB.out|apply za|apply zb|apply zc|refine zd ?_ GE296.out|refine zd ?_ GE297.out))));replace BK296:=zh (zD (g:=gb296) (o:=.cells #[.int .i64 a0_0,.int .i64 a0_1,.string a0_2] 49 (0,0)) (by (with_reducible repeat (first|refine ze ?_ _|refine zf ?_|refine zg ?_ _));exact BK296.out) hb);replace BK297:=zh (zD (g:=gb297) (o:=.cells #[.string a0_2,.bool false] 110 (0,0)) (by (with_reducible repeat (first|refine ze ?_ _|refine zf ?_|refine zg ?_ _));exact BK297.out) hb);replace HB:=zh (zC (by repeat (with_reducible first|exact HB.out|apply za|apply zb|apply zc|refine zd ?_ GE296.out|refine zd ?_ GE297.out)) hb);clear hb ho6))
 repeat (go_quiet (first|((with_reducible refine zK (N:=1) rfl ?_);refine zI ?hg (N:=1) ?hd (cs:=#[.int .i64 a0_0,.int .i64 a0_1,.string a0_2]) (t:=49) ?hr ?_;(case hd => rfl);(case hg => rfl);(case hr => first|(go_simp;done)|(go_simp;rfl));intro gb296 hg w2 hbox hb;have BK296:=zh (hbox);have GW296:=zh ((by rw [hg];exact (zB (by repeat (with_reducible first|exact HB.out|apply za|apply zb|apply zc))) : w.heap.size≤gb296));have GE296:=zh ((by rw [hg];exact (zB (by repeat (with_reducible first|exact HB.out|apply za|apply zb|apply zc))) : w.heap.size≤gb296));replace HB:=zh (zC (by repeat (with_reducible first|exact HB.out|apply za|apply zb|apply zc)) hb);clear hb hbox hg;have hcz3_0 : w2.cell? ⟨gb296,0,none⟩=some (.int .i64 a0_0):=(zz BK296.out 0).trans rfl;have hcz3_1 : w2.cell? ⟨gb296,1,none⟩=some (.int .i64 a0_1):=(zz BK296.out 1).trans rfl;have hcz3_2 : w2.cell? ⟨gb296,2,none⟩=some (.string a0_2):=(zz BK296.out 2).trans rfl;have hfz3_0:=zA BK296.out 0;have hfz3_1:=zA BK296.out 1;have hfz3_2:=zA BK296.out 2)|((with_reducible refine zK (N:=9) rfl ?_);refine zI ?hg (N:=9) ?hd (cs:=#[.string a0_2,.bool false]) (t:=110) ?hr ?_;(case hd => rfl);(case hg => rfl);(case hr => first|(go_simp;done)|(go_simp;rfl));intro gb297 hg w4 hbox hb;have BK297:=zh (hbox);have GW297:=zh ((by rw [hg];exact (zB (by repeat (with_reducible first|exact HB.out|apply za|apply zb|apply zc|refine zd ?_ GE296.out))) : w.heap.size≤gb297));have GE297:=zh ((by rw [hg];exact (zB (by repeat (with_reducible first|exact HB.out|apply za|apply zb|apply zc|refine zd ?_ GE296.out))) : w.heap.size≤gb297));replace HB:=zh (zC (by repeat (with_reducible first|exact HB.out|apply za|apply zb|apply zc|refine zd ?_ GE296.out)) hb);have NB296_297:=zh ((by rw [hg];exact yc (yi (g:=gb296) (o:=.cells #[.int .i64 a0_0,.int .i64 a0_1,.string a0_2] 49 (0,0)) (by (with_reducible repeat (first|refine ze ?_ _|refine zf ?_|refine zg ?_ _));exact BK296.out)) : gb296≠gb297));have NB297_296:=zh ((by rw [hg];exact yd (yi (g:=gb296) (o:=.cells #[.int .i64 a0_0,.int .i64 a0_1,.string a0_2] 49 (0,0)) (by (with_reducible repeat (first|refine ze ?_ _|refine zf ?_|refine zg ?_ _));exact BK296.out)) : gb297≠gb296));replace BK296:=zh (zD (g:=gb296) (o:=.cells #[.int .i64 a0_0,.int .i64 a0_1,.string a0_2] 49 (0,0)) (by (with_reducible repeat (first|refine ze ?_ _|refine zf ?_|refine zg ?_ _));exact BK296.out) hb);clear hb hbox hg)|((with_reducible refine zK (N:=10) rfl ?_);refine Kd.R_lit k87 _ 87 ?hg (N:=10) ?hd (xs:=([] : List (S87))) (inner:=[]) (ok:=fun _ => True) (okp:=fun _ => True) ?hr ?hp (fun _ hk => hk) trivial (Below.refl _ _) (ye _) (by simp) ?_;(case hd => rfl);(case hg => rfl);(case hr => first|(go_simp;done)|(go_simp;rfl));(case hp => exact (Reps.none _ _));intro v299 w5 ho6 hb hg_ hnew_;clear hg_ hnew_;(first|rw [← Ny298.out] at ho6|(simp only [Int.reduceToNat] at ho6;rw [← Ny298.out] at ho6));have HO300:=zh (yy ho6 (zB (by repeat (with_reducible first|exact HB.out|apply za|apply zb|apply zc|refine zd ?_ GE296.out|refine zd ?_ GE297.out))));replace BK296:=zh (zD (g:=gb296) (o:=.cells #[.int .i64 a0_0,.int .i64 a0_1,.string a0_2] 49 (0,0)) (by (with_reducible repeat (first|refine ze ?_ _|refine zf ?_|refine zg ?_ _));exact BK296.out) hb);replace BK297:=zh (zD (g:=gb297) (o:=.cells #[.string a0_2,.bool false] 110 (0,0)) (by (with_reducible repeat (first|refine ze ?_ _|refine zf ?_|refine zg ?_ _));exact BK297.out) hb);replace HB:=zh (zC (by repeat (with_reducible first|exact HB.out|apply za|apply zb|apply zc|refine zd ?_ GE296.out|refine zd ?_ GE297.out)) hb);clear hb ho6));try go_wp2_with (first|((with_reducible refine zK (N:=1) rfl ?_);refine zI ?hg (N:=1) ?hd (cs:=#[.int .i64 a0_0,.int .i64 a0_1,.string a0_2]) (t:=49) ?hr ?_;(case hd => rfl);(case hg => rfl);(case hr => first|(go_simp;done)|(go_simp;rfl));intro gb296 hg w2 hbox hb;have BK296:=zh (hbox);have GW296:=zh ((by rw [hg];exact (zB (by repeat (with_reducible first|exact HB.out|apply za|apply zb|apply zc))) : w.heap.size≤gb296));have GE296:=zh ((by rw [hg];exact (zB (by repeat (with_reducible first|exact HB.out|apply za|apply zb|apply zc))) : w.heap.size≤gb296));replace HB:=zh (zC (by repeat (with_reducible first|exact HB.out|apply za|apply zb|apply zc)) hb);clear hb hbox hg;have hcz3_0 : w2.cell? ⟨gb296,0,none⟩=some (.int .i64 a0_0):=(zz BK296.out 0).trans rfl;have hcz3_1 : w2.cell? ⟨gb296,1,none⟩=some (.int .i64 a0_1):=(zz BK296.out 1).trans rfl;have hcz3_2 : w2.cell? ⟨gb296,2,none⟩=some (.string a0_2):=(zz BK296.out 2).trans rfl;have hfz3_0:=zA BK296.out 0;have hfz3_1:=zA BK296.out 1;have hfz3_2:=zA BK296.out 2)|((with_reducible refine zK (N:=9) rfl ?_);refine zI ?hg (N:=9) ?hd (cs:=#[.string a0_2,.bool false]) (t:=110) ?hr ?_;(case hd => rfl);(case hg => rfl);(case hr => first|(go_simp;done)|(go_simp;rfl));intro gb297 hg w4 hbox hb;have BK297:=zh (hbox);have GW297:=zh ((by rw [hg];exact (zB (by repeat (with_reducible first|exact HB.out|apply za|apply zb|apply zc|refine zd ?_ GE296.out))) : w.heap.size≤gb297));have GE297:=zh ((by rw [hg];exact (zB (by repeat (with_reducible first|exact HB.out|apply za|apply zb|apply zc|refine zd ?_ GE296.out))) : w.heap.size≤gb297));replace HB:=zh (zC (by repeat (with_reducible first|exact HB.out|apply za|apply zb|apply zc|refine zd ?_ GE296.out)) hb);have NB296_297:=zh ((by rw [hg];exact yc (yi (g:=gb296) (o:=.cells #[.int .i64 a0_0,.int .i64 a0_1,.string a0_2] 49 (0,0)) (by (with_reducible repeat (first|refine ze ?_ _|refine zf ?_|refine zg ?_ _));exact BK296.out)) : gb296≠gb297));have NB297_296:=zh ((by rw [hg];exact yd (yi (g:=gb296) (o:=.cells #[.int .i64 a0_0,.int .i64 a0_1,.string a0_2] 49 (0,0)) (by (with_reducible repeat (first|refine ze ?_ _|refine zf ?_|refine zg ?_ _));exact BK296.out)) : gb297≠gb296));replace BK296:=zh (zD (g:=gb296) (o:=.cells #[.int .i64 a0_0,.int .i64 a0_1,.string a0_2] 49 (0,0)) (by (with_reducible repeat (first|refine ze ?_ _|refine zf ?_|refine zg ?_ _));exact BK296.out) hb);clear hb hbox hg)|((with_reducible refine zK (N:=10) rfl ?_);refine Kd.R_lit k87 _ 87 ?hg (N:=10) ?hd (xs:=([] : List (S87))) (inner:=[]) (ok:=fun _ => True) (okp:=fun _ => True) ?hr ?hp (fun _ hk => hk) trivial (Below.refl _ _) (ye _) (by simp) ?_;(case hd => rfl);(case hg => rfl);(case hr => first|(go_simp;done)|(go_simp;rfl));(case hp => exact (Reps.none _ _));intro v299 w5 ho6 hb hg_ hnew_;clear hg_ hnew_;(first|rw [← Ny298.out] at ho6|(simp only [Int.reduceToNat] at ho6;rw [← Ny298.out] at ho6));have HO300:=zh (yy ho6 (zB (by repeat (with_reducible first|exact HB.out|apply za|apply zb|apply zc|refine zd ?_ GE296.out|refine zd ?_ GE297.out))));replace BK296:=zh (zD (g:=gb296) (o:=.cells #[.int .i64 a0_0,.int .i64 a0_1,.string a0_2] 49 (0,0)) (by (with_reducible repeat (first|refine ze ?_ _|refine zf ?_|refine zg ?_ _));exact BK296.out) hb);replace BK297:=zh (zD (g:=gb297) (o:=.cells #[.string a0_2,.bool false] 110 (0,0)) (by (with_reducible repeat (first|refine ze ?_ _|refine zf ?_|refine zg ?_ _));exact BK297.out) hb);replace HB:=zh (zC (by repeat (with_reducible first|exact HB.out|apply za|apply zb|apply zc|refine zd ?_ GE296.out|refine zd ?_ GE297.out)) hb);clear hb ho6)))
 go_loopg [5] k (fun kq v5 w' => ∃ (x5_1 : List (S87)) (x298000_1 : ByteArray) (x298001_1 : Bool),Aside0 (impl_fields.l0 kq x5_1 x298000_1 x298001_1=some (r1,r2))∧Aside0 (kq≤k)∧Aside0 (Kd.R k87 87 w' w.heap.size (fun _ => True) v5 x5_1)∧Aside0 (w'.heap[gb296]? = some (.cells #[.int .i64 a0_0,.int .i64 a0_1,.string a0_2] 49 (0,0)))∧Aside0 (w'.heap[gb297]? = some (.cells #[.string x298000_1,.bool x298001_1] 110 (0,0)))∧Aside0 (Below w.heap.size w w'))
 case atStart => exact ⟨(y298),(a0_2),(false),H',⟨ye _⟩,⟨by (with_reducible repeat (first|apply zm|apply zn|apply zo));exact HO300.out⟩,⟨by (with_reducible repeat (first|refine ze ?_ _|refine zf ?_|refine zg ?_ _));exact BK296.out⟩,⟨by (with_reducible repeat (first|refine ze ?_ _|refine zf ?_|refine zg ?_ _));exact BK297.out⟩,⟨by repeat (with_reducible first|exact HB.out|apply za|apply zb|apply zc|refine zd ?_ GE296.out|refine zd ?_ GE297.out)⟩⟩
 case round =>
  clear H'
  try clear p2
  try clear hcz3_0
  try clear hcz3_1
  try clear hcz3_2
  try clear hfz3_0
  try clear hfz3_1
  try clear hfz3_2
  obtain ⟨x5_1,x298000_1,x298001_1,HA,HK1,HO_5,BK296,BK297,HB⟩:=hrel
  cases gk with
  | zero => exact absurd HA.out (by simp [impl_fields.l0])
  | succ k1 =>
   have H:=HA.out;clear HA;simp only [impl_fields.l0] at H;have HC7:=zh H;clear H
   go_upto_region 2 with (fail)
   repeat (go_quiet (fail);go_upto_region 2 with (fail))
   go_cut [22] (fun v22 wc => ∃ (kq : Nat) (x22_6 : Bool),v22 = .bool x22_6∧Aside0 (impl_fields.j1 kq x5_1 x22_6 x298000_1 x298001_1=some (r1,r2))∧Aside0 (kq≤k1)∧Aside0 (Kd.R k87 87 wc w.heap.size (fun _ => True) u5 x5_1)∧Aside0 (wc.heap[gb296]? = some (.cells #[.int .i64 a0_0,.int .i64 a0_1,.string a0_2] 49 (0,0)))∧Aside0 (wc.heap[gb297]? = some (.cells #[.string x298000_1,.bool x298001_1] 110 (0,0)))∧Aside0 (Below w.heap.size w wc))
   case first =>
    have H:=HC7.out;clear HC7
    by_cases c8 : x298000_1.toList=([] : List UInt8)
    ·
     rw [if_pos c8] at H
     have c8b0 : (x298000_1.toList == ([] : List UInt8))=true:=ya.mpr c8;have c8b1 : (x298000_1.toList != ([] : List UInt8))=false:=zX.mpr c8;clear c8;(first|rw [c8b0]|(simp only [zG,zH];rw [c8b0])|skip);have H':=zh H;clear H;have hnb9:=NB297_296.out;have hnc9:=NB296_297.out;have hcz10_0 : wr.cell? ⟨gb297,0,none⟩=some (.string x298000_1):=(zz BK297.out 0).trans rfl;have hcz10_1 : wr.cell? ⟨gb297,1,none⟩=some (.bool x298001_1):=(zz BK297.out 1).trans rfl;have hfz10_0:=zA BK297.out 0;have hfz10_1:=zA BK297.out 1
     go_wp2
     repeat (go_quiet (fail);try go_wp2)
     go_meet
     case rel => exact ⟨_,(false),(by first|rfl|(simp;done)|(simp [*];done)),H',⟨by have:=HK1.out;first|omega|exact ye _⟩,⟨by (with_reducible repeat (first|apply zm|apply zn|apply zo));exact HO_5.out⟩,⟨by (with_reducible repeat (first|refine ze ?_ _|refine zf ?_|refine zg ?_ _));exact BK296.out⟩,⟨by (with_reducible repeat (first|refine ze ?_ _|refine zf ?_|refine zg ?_ _));exact BK297.out⟩,⟨by repeat (with_reducible first|exact HB.out|apply za|apply zb|apply zc|refine zd ?_ GE296.out|refine zd ?_ GE297.out)⟩⟩
    rw [if_neg c8] at H;have c8b0 : (x298000_1.toList == ([] : List UInt8))=false:=zY.mpr c8;have c8b1 : (x298000_1.toList != ([] : List UInt8))=true:=zZ.mpr c8;(first|rw [c8b0]|(simp only [zG,zH];rw [c8b0])|skip);have H':=zh H;clear H;have hnb11:=NB297_296.out;have hnc11:=NB296_297.out;have hcz12_0 : wr.cell? ⟨gb297,0,none⟩=some (.string x298000_1):=(zz BK297.out 0).trans rfl;have hcz12_1 : wr.cell? ⟨gb297,1,none⟩=some (.bool x298001_1):=(zz BK297.out 1).trans rfl;have hfz12_0:=zA BK297.out 0;have hfz12_1:=zA BK297.out 1
    go_wp2
    repeat (go_quiet (fail);try go_wp2)
    go_meet
    case rel => exact ⟨_,(!x298001_1),(by first|rfl|(simp;done)|(simp [*];done)),H',⟨by have:=HK1.out;first|omega|exact ye _⟩,⟨by (with_reducible repeat (first|apply zm|apply zn|apply zo));exact HO_5.out⟩,⟨by (with_reducible repeat (first|refine ze ?_ _|refine zf ?_|refine zg ?_ _));exact BK296.out⟩,⟨by (with_reducible repeat (first|refine ze ?_ _|refine zf ?_|refine zg ?_ _));exact BK297.out⟩,⟨by repeat (with_reducible first|exact HB.out|apply za|apply zb|apply zc|refine zd ?_ GE296.out|refine zd ?_ GE297.out)⟩⟩
   case rest =>
    clear HC7
    try clear c1
    try clear p2
    try clear c7
    try clear c8
    try clear c8b0
    try clear c8b1
    try clear c9
    try clear c11
    try clear hcz10_0
    try clear hcz10_1
    try clear hcz12_0
    try clear hcz12_1
    try clear hcz3_0
    try clear hcz3_1
    try clear hcz3_2
    try clear hfz10_0
    try clear hfz10_1
    try clear hfz12_0
    try clear hfz12_1
    try clear hfz3_0
    try clear hfz3_1
    try clear hfz3_2
    try clear p2
    obtain ⟨kq,x22_6,rfl,HA,HJ6,HO_5,BK296,BK297,HB⟩:=hcut
    cases kq with
    | zero => exact absurd HA.out (by simp [impl_fields.j1])
    | succ kj6 =>
     have H:=HA.out;clear HA;simp only [impl_fields.j1] at H
     by_cases c13 : x22_6=true
     ·
      subst c13
      have H1 : ((impl_byteReader_num.f kj6 x298000_1 x298001_1 1).bind fun bt301 => ((impl_byteReader_take.f bt301.2.1 bt301.2.2 bt301.1).bind fun bt304 => ((impl_byteReader_value.f kj6 bt304.2.1 bt304.2.2).bind fun bt307 => (if x5_1.length<2932031007402 then (impl_fields.l0 kj6 (x5_1 ++ [(⟨bt304.1,(⟨bt307.1,bt307.2.1,bt307.2.2.1⟩ : S49)⟩ : S87)]) bt307.2.2.2.1 bt307.2.2.2.2) else (none)))))=some (r1,r2):=by rw [if_pos rfl] at H;exact H
      clear H;have H:=H1;clear H1;replace H:=zT.mp H;obtain ⟨⟨t301,t302,t303⟩,A140,H⟩:=H;replace H : ((impl_byteReader_take.f t302 t303 t301).bind fun bt304 => ((impl_byteReader_value.f kj6 bt304.2.1 bt304.2.2).bind fun bt307 => (if x5_1.length<2932031007402 then (impl_fields.l0 kj6 (x5_1 ++ [(⟨bt304.1,(⟨bt307.1,bt307.2.1,bt307.2.2.1⟩ : S49)⟩ : S87)]) bt307.2.2.2.1 bt307.2.2.2.2) else (none))))=some (r1,r2):=H;have A14:=zh A140;clear A140;replace H:=zT.mp H;obtain ⟨⟨t304,t305,t306⟩,A150,H⟩:=H;replace H : ((impl_byteReader_value.f kj6 t305 t306).bind fun bt307 => (if x5_1.length<2932031007402 then (impl_fields.l0 kj6 (x5_1 ++ [(⟨t304,(⟨bt307.1,bt307.2.1,bt307.2.2.1⟩ : S49)⟩ : S87)]) bt307.2.2.2.1 bt307.2.2.2.2) else (none)))=some (r1,r2):=H;have A15:=zh A150;clear A150;replace H:=zT.mp H;obtain ⟨⟨t307,t308,t309,t310,t311⟩,A160,H⟩:=H;replace H : (if x5_1.length<2932031007402 then (impl_fields.l0 kj6 (x5_1 ++ [(⟨t304,(⟨t307,t308,t309⟩ : S49)⟩ : S87)]) t310 t311) else (none))=some (r1,r2):=H;have A16:=zh A160;clear A160
      by_cases c17 : x5_1.length<2932031007402
      ·
       rw [if_pos c17] at H
       have LMc17:=zh c17;clear c17;obtain ⟨y312,hy312⟩ : ∃ y_ : List (S87),y_=(x5_1 ++ [(⟨t304,(⟨t307,t308,t309⟩ : S49)⟩ : S87)]):=⟨_,rfl⟩;replace H : (impl_fields.l0 kj6 y312 t310 t311)=some (r1,r2):=by first|(rw [hy312];with_reducible exact H)|(have H2_:=(Option.bind_some _ _).symm.trans H;rw [hy312];with_reducible exact H2_)|(have H2_:=(Option.bind_some _ _).symm.trans H;with_reducible exact H2_)|with_reducible exact H|(rw [hy312];exact H)|exact H
       have Ny312:=zh hy312;clear hy312;have H':=zh H;clear H;have HI297:=zh (show IsS110 w wc gb297 x298000_1 x298001_1 from ⟨BK297.out,GE297.out⟩)
       go_wp2_with (first|(go_at_call 81;(with_reducible refine (impl_byteReader_num.calls kj6  gb297 x298000_1 x298001_1 1 t301 t302 t303 w _ ?side1 ?side2 A14.out).mono ?_);(case side1 => repeat (with_reducible first|exact HI297.out|apply IsS110.alloc|apply IsS110.drewN|apply IsS110.drew|apply IsS110.set_0|apply IsS110.set_1|refine IsS110.far ?_ NB297_296.out _));(case side2 => repeat (with_reducible first|exact HB.out|apply za|apply zb|apply zc|refine zd ?_ (IsS110.ge HI297.out)|refine zd ?_ GE296.out));rintro e w18 ⟨rfl,hi,hb,hk⟩;replace HO_5:=zh (zM (Kd.R_keep (IsS110.apart (show IsS110 w _ gb297 x298000_1 x298001_1 from by repeat (with_reducible first|exact HI297.out|apply IsS110.alloc|apply IsS110.drewN|apply IsS110.drew|apply IsS110.set_0|apply IsS110.set_1|refine IsS110.far ?_ NB297_296.out _)) (by (with_reducible repeat (first|apply zm|apply zn|apply zo));exact HO_5.out) (by decide)) hk (fun _ h => h.2)) (fun _ h => h.1));replace BK296:=zh (KeepBut.blk hk (g':=gb296) (o:=.cells #[.int .i64 a0_0,.int .i64 a0_1,.string a0_2] 49 (0,0)) (by (with_reducible repeat (first|refine ze ?_ _|refine zf ?_|refine zg ?_ _));exact BK296.out) NB296_297.out (by simp));replace HB:=zh (hb);replace BK297:=zh ((show _∧_ from hi).1);clear HI297;(try clear hb);(try clear hb2);(try clear hk);(try clear hi);have HI297:=zh (show IsS110 w w18 gb297 t302 t303 from ⟨BK297.out,GE297.out⟩))|(go_at_call 80;(with_reducible refine (impl_byteReader_take.calls  gb297 t302 t303 t301 t304 t305 t306 w _ ?side1 ?side2 A15.out).mono ?_);(case side1 => repeat (with_reducible first|exact HI297.out|apply IsS110.alloc|apply IsS110.drewN|apply IsS110.drew|apply IsS110.set_0|apply IsS110.set_1|refine IsS110.far ?_ NB297_296.out _));(case side2 => repeat (with_reducible first|exact HB.out|apply za|apply zb|apply zc|refine zd ?_ (IsS110.ge HI297.out)|refine zd ?_ GE296.out));rintro e w19 ⟨rfl,hi,hb,hk⟩;replace HO_5:=zh (zM (Kd.R_keep (IsS110.apart (show IsS110 w _ gb297 t302 t303 from by repeat (with_reducible first|exact HI297.out|apply IsS110.alloc|apply IsS110.drewN|apply IsS110.drew|apply IsS110.set_0|apply IsS110.set_1|refine IsS110.far ?_ NB297_296.out _)) (by (with_reducible repeat (first|apply zm|apply zn|apply zo));exact HO_5.out) (by decide)) hk (fun _ h => h.2)) (fun _ h => h.1));replace BK296:=zh (KeepBut.blk hk (g':=gb296) (o:=.cells #[.int .i64 a0_0,.int .i64 a0_1,.string a0_2] 49 (0,0)) (by (with_reducible repeat (first|refine ze ?_ _|refine zf ?_|refine zg ?_ _));exact BK296.out) NB296_297.out (by simp));replace HB:=zh (hb);replace BK297:=zh ((show _∧_ from hi).1);clear HI297;(try clear hb);(try clear hb2);(try clear hk);(try clear hi);have HI297:=zh (show IsS110 w w19 gb297 t305 t306 from ⟨BK297.out,GE297.out⟩))|(go_at_call 79;(with_reducible refine (impl_byteReader_value.calls kj6  gb297 t305 t306 t307 t308 t309 t310 t311 w _ ?side1 ?side2 A16.out).mono ?_);(case side1 => repeat (with_reducible first|exact HI297.out|apply IsS110.alloc|apply IsS110.drewN|apply IsS110.drew|apply IsS110.set_0|apply IsS110.set_1|refine IsS110.far ?_ NB297_296.out _));(case side2 => repeat (with_reducible first|exact HB.out|apply za|apply zb|apply zc|refine zd ?_ (IsS110.ge HI297.out)|refine zd ?_ GE296.out));rintro e w20 ⟨rfl,hi,hb,hk⟩;replace HO_5:=zh (zM (Kd.R_keep (IsS110.apart (show IsS110 w _ gb297 t305 t306 from by repeat (with_reducible first|exact HI297.out|apply IsS110.alloc|apply IsS110.drewN|apply IsS110.drew|apply IsS110.set_0|apply IsS110.set_1|refine IsS110.far ?_ NB297_296.out _)) (by (with_reducible repeat (first|apply zm|apply zn|apply zo));exact HO_5.out) (by decide)) hk (fun _ h => h.2)) (fun _ h => h.1));replace BK296:=zh (KeepBut.blk hk (g':=gb296) (o:=.cells #[.int .i64 a0_0,.int .i64 a0_1,.string a0_2] 49 (0,0)) (by (with_reducible repeat (first|refine ze ?_ _|refine zf ?_|refine zg ?_ _));exact BK296.out) NB296_297.out (by simp));replace HB:=zh (hb);replace BK297:=zh ((show _∧_ from hi).1);clear HI297;(try clear hb);(try clear hb2);(try clear hk);(try clear hi))|((with_reducible refine yB (b:=.append) (xs:=#[.tmp 23,.tmp 31]) rfl ?_);at_builtin;refine Kd.R_append k87 (w0:=w) w.heap.size rfl (.tmp 23) (.tmp 31) 83 87 (.agg #[(.string ⟨#[]⟩),(.int .i64 0),(.int .i64 0),(.string ⟨#[]⟩)]) 48 rfl Tryz.underlying83 info87 rfl (by decide) (by omega) u5 x5_1 (⟨t304,(⟨t307,t308,t309⟩ : S49)⟩ : S87) [.string t304,.int .i64 t307,.int .i64 t308,.string t309] (fun _ => True) (fun _ => False) rfl rfl ?aP (fun _ hk => hk.elim) ?aF ?aO ?aB ?aS ?aL ?_;(case aP => exact k87_mkM _ _ _ (⟨t304,(⟨t307,t308,t309⟩ : S49)⟩ : S87));(case aB => exact (by repeat (with_reducible first|exact HB.out|apply za|apply zb|apply zc|refine zd ?_ GE296.out|refine zd ?_ GE297.out)));(case aF => exact (fun _ _ => trivial));(case aO => exact (by (with_reducible repeat (first|apply zm|apply zn|apply zo));exact HO_5.out));(case aS => exact (zB (by repeat (with_reducible first|exact HB.out|apply za|apply zb|apply zc|refine zd ?_ GE296.out|refine zd ?_ GE297.out))));(case aL => have:=LMc17.out;omega);intro v313 w21 ho hb hg hat;rw [← Ny312.out] at ho;replace BK296:=zh (yw (g:=gb296) (o:=.cells #[.int .i64 a0_0,.int .i64 a0_1,.string a0_2] 49 (0,0)) (by (with_reducible repeat (first|refine ze ?_ _|refine zf ?_|refine zg ?_ _));exact BK296.out) hg (Kd.R_ne HO_5.out BK296.out (by decide)));replace BK297:=zh (yw (g:=gb297) (o:=.cells #[.string t310,.bool t311] 110 (0,0)) (by (with_reducible repeat (first|refine ze ?_ _|refine zf ?_|refine zg ?_ _));exact BK297.out) hg (Kd.R_ne HO_5.out BK297.out (by decide)));replace HB:=zh (hb);have HO314:=zh (ho);clear HO_5 ho hb hg hat))
       repeat (go_quiet (first|(go_at_call 81;(with_reducible refine (impl_byteReader_num.calls kj6  gb297 x298000_1 x298001_1 1 t301 t302 t303 w _ ?side1 ?side2 A14.out).mono ?_);(case side1 => repeat (with_reducible first|exact HI297.out|apply IsS110.alloc|apply IsS110.drewN|apply IsS110.drew|apply IsS110.set_0|apply IsS110.set_1|refine IsS110.far ?_ NB297_296.out _));(case side2 => repeat (with_reducible first|exact HB.out|apply za|apply zb|apply zc|refine zd ?_ (IsS110.ge HI297.out)|refine zd ?_ GE296.out));rintro e w18 ⟨rfl,hi,hb,hk⟩;replace HO_5:=zh (zM (Kd.R_keep (IsS110.apart (show IsS110 w _ gb297 x298000_1 x298001_1 from by repeat (with_reducible first|exact HI297.out|apply IsS110.alloc|apply IsS110.drewN|apply IsS110.drew|apply IsS110.set_0|apply IsS110.set_1|refine IsS110.far ?_ NB297_296.out _)) (by (with_reducible repeat (first|apply zm|apply zn|apply zo));exact HO_5.out) (by decide)) hk (fun _ h => h.2)) (fun _ h => h.1));replace BK296:=zh (KeepBut.blk hk (g':=gb296) (o:=.cells #[.int .i64 a0_0,.int .i64 a0_1,.string a0_2] 49 (0,0)) (by (with_reducible repeat (first|refine ze ?_ _|refine zf ?_|refine zg ?_ _));exact BK296.out) NB296_297.out (by simp));replace HB:=zh (hb);replace BK297:=zh ((show _∧_ from hi).1);clear HI297;(try clear hb);(try clear hb2);(try clear hk);(try clear hi);have HI297:=zh (show IsS110 w w18 gb297 t302 t303 from ⟨BK297.out,GE297.out⟩))|(go_at_call 80;(with_reducible refine (impl_byteReader_take.calls  gb297 t302 t303 t301 t304 t305 t306 w _ ?side1 ?side2 A15.out).mono ?_);(case side1 => repeat (with_reducible first|exact HI297.out|apply IsS110.alloc|apply IsS110.drewN|apply IsS110.drew|apply IsS110.set_0|apply IsS110.set_1|refine IsS110.far ?_ NB297_296.out _));(case side2 => repeat (with_reducible first|exact HB.out|apply za|apply zb|apply zc|refine zd ?_ (IsS110.ge HI297.out)|refine zd ?_ GE296.out));rintro e w19 ⟨rfl,hi,hb,hk⟩;replace HO_5:=zh (zM (Kd.R_keep (IsS110.apart (show IsS110 w _ gb297 t302 t303 from by repeat (with_reducible first|exact HI297.out|apply IsS110.alloc|apply IsS110.drewN|apply IsS110.drew|apply IsS110.set_0|apply IsS110.set_1|refine IsS110.far ?_ NB297_296.out _)) (by (with_reducible repeat (first|apply zm|apply zn|apply zo));exact HO_5.out) (by decide)) hk (fun _ h => h.2)) (fun _ h => h.1));replace BK296:=zh (KeepBut.blk hk (g':=gb296) (o:=.cells #[.int .i64 a0_0,.int .i64 a0_1,.string a0_2] 49 (0,0)) (by (with_reducible repeat (first|refine ze ?_ _|refine zf ?_|refine zg ?_ _));exact BK296.out) NB296_297.out (by simp));replace HB:=zh (hb);replace BK297:=zh ((show _∧_ from hi).1);clear HI297;(try clear hb);(try clear hb2);(try clear hk);(try clear hi);have HI297:=zh (show IsS110 w w19 gb297 t305 t306 from ⟨BK297.out,GE297.out⟩))|(go_at_call 79;(with_reducible refine (impl_byteReader_value.calls kj6  gb297 t305 t306 t307 t308 t309 t310 t311 w _ ?side1 ?side2 A16.out).mono ?_);(case side1 => repeat (with_reducible first|exact HI297.out|apply IsS110.alloc|apply IsS110.drewN|apply IsS110.drew|apply IsS110.set_0|apply IsS110.set_1|refine IsS110.far ?_ NB297_296.out _));(case side2 => repeat (with_reducible first|exact HB.out|apply za|apply zb|apply zc|refine zd ?_ (IsS110.ge HI297.out)|refine zd ?_ GE296.out));rintro e w20 ⟨rfl,hi,hb,hk⟩;replace HO_5:=zh (zM (Kd.R_keep (IsS110.apart (show IsS110 w _ gb297 t305 t306 from by repeat (with_reducible first|exact HI297.out|apply IsS110.alloc|apply IsS110.drewN|apply IsS110.drew|apply IsS110.set_0|apply IsS110.set_1|refine IsS110.far ?_ NB297_296.out _)) (by (with_reducible repeat (first|apply zm|apply zn|apply zo));exact HO_5.out) (by decide)) hk (fun _ h => h.2)) (fun _ h => h.1));replace BK296:=zh (KeepBut.blk hk (g':=gb296) (o:=.cells #[.int .i64 a0_0,.int .i64 a0_1,.string a0_2] 49 (0,0)) (by (with_reducible repeat (first|refine ze ?_ _|refine zf ?_|refine zg ?_ _));exact BK296.out) NB296_297.out (by simp));replace HB:=zh (hb);replace BK297:=zh ((show _∧_ from hi).1);clear HI297;(try clear hb);(try clear hb2);(try clear hk);(try clear hi))|((with_reducible refine yB (b:=.append) (xs:=#[.tmp 23,.tmp 31]) rfl ?_);at_builtin;refine Kd.R_append k87 (w0:=w) w.heap.size rfl (.tmp 23) (.tmp 31) 83 87 (.agg #[(.string ⟨#[]⟩),(.int .i64 0),(.int .i64 0),(.string ⟨#[]⟩)]) 48 rfl Tryz.underlying83 info87 rfl (by decide) (by omega) u5 x5_1 (⟨t304,(⟨t307,t308,t309⟩ : S49)⟩ : S87) [.string t304,.int .i64 t307,.int .i64 t308,.string t309] (fun _ => True) (fun _ => False) rfl rfl ?aP (fun _ hk => hk.elim) ?aF ?aO ?aB ?aS ?aL ?_;(case aP => exact k87_mkM _ _ _ (⟨t304,(⟨t307,t308,t309⟩ : S49)⟩ : S87));(case aB => exact (by repeat (with_reducible first|exact HB.out|apply za|apply zb|apply zc|refine zd ?_ GE296.out|refine zd ?_ GE297.out)));(case aF => exact (fun _ _ => trivial));(case aO => exact (by (with_reducible repeat (first|apply zm|apply zn|apply zo));exact HO_5.out));(case aS => exact (zB (by repeat (with_reducible first|exact HB.out|apply za|apply zb|apply zc|refine zd ?_ GE296.out|refine zd ?_ GE297.out))));(case aL => have:=LMc17.out;omega);intro v313 w21 ho hb hg hat;rw [← Ny312.out] at ho;replace BK296:=zh (yw (g:=gb296) (o:=.cells #[.int .i64 a0_0,.int .i64 a0_1,.string a0_2] 49 (0,0)) (by (with_reducible repeat (first|refine ze ?_ _|refine zf ?_|refine zg ?_ _));exact BK296.out) hg (Kd.R_ne HO_5.out BK296.out (by decide)));replace BK297:=zh (yw (g:=gb297) (o:=.cells #[.string t310,.bool t311] 110 (0,0)) (by (with_reducible repeat (first|refine ze ?_ _|refine zf ?_|refine zg ?_ _));exact BK297.out) hg (Kd.R_ne HO_5.out BK297.out (by decide)));replace HB:=zh (hb);have HO314:=zh (ho);clear HO_5 ho hb hg hat));try go_wp2_with (first|(go_at_call 81;(with_reducible refine (impl_byteReader_num.calls kj6  gb297 x298000_1 x298001_1 1 t301 t302 t303 w _ ?side1 ?side2 A14.out).mono ?_);(case side1 => repeat (with_reducible first|exact HI297.out|apply IsS110.alloc|apply IsS110.drewN|apply IsS110.drew|apply IsS110.set_0|apply IsS110.set_1|refine IsS110.far ?_ NB297_296.out _));(case side2 => repeat (with_reducible first|exact HB.out|apply za|apply zb|apply zc|refine zd ?_ (IsS110.ge HI297.out)|refine zd ?_ GE296.out));rintro e w18 ⟨rfl,hi,hb,hk⟩;replace HO_5:=zh (zM (Kd.R_keep (IsS110.apart (show IsS110 w _ gb297 x298000_1 x298001_1 from by repeat (with_reducible first|exact HI297.out|apply IsS110.alloc|apply IsS110.drewN|apply IsS110.drew|apply IsS110.set_0|apply IsS110.set_1|refine IsS110.far ?_ NB297_296.out _)) (by (with_reducible repeat (first|apply zm|apply zn|apply zo));exact HO_5.out) (by decide)) hk (fun _ h => h.2)) (fun _ h => h.1));replace BK296:=zh (KeepBut.blk hk (g':=gb296) (o:=.cells #[.int .i64 a0_0,.int .i64 a0_1,.string a0_2] 49 (0,0)) (by (with_reducible repeat (first|refine ze ?_ _|refine zf ?_|refine zg ?_ _));exact BK296.out) NB296_297.out (by simp));replace HB:=zh (hb);replace BK297:=zh ((show _∧_ from hi).1);clear HI297;(try clear hb);(try clear hb2);(try clear hk);(try clear hi);have HI297:=zh (show IsS110 w w18 gb297 t302 t303 from ⟨BK297.out,GE297.out⟩))|(go_at_call 80;(with_reducible refine (impl_byteReader_take.calls  gb297 t302 t303 t301 t304 t305 t306 w _ ?side1 ?side2 A15.out).mono ?_);(case side1 => repeat (with_reducible first|exact HI297.out|apply IsS110.alloc|apply IsS110.drewN|apply IsS110.drew|apply IsS110.set_0|apply IsS110.set_1|refine IsS110.far ?_ NB297_296.out _));(case side2 => repeat (with_reducible first|exact HB.out|apply za|apply zb|apply zc|refine zd ?_ (IsS110.ge HI297.out)|refine zd ?_ GE296.out));rintro e w19 ⟨rfl,hi,hb,hk⟩;replace HO_5:=zh (zM (Kd.R_keep (IsS110.apart (show IsS110 w _ gb297 t302 t303 from by repeat (with_reducible first|exact HI297.out|apply IsS110.alloc|apply IsS110.drewN|apply IsS110.drew|apply IsS110.set_0|apply IsS110.set_1|refine IsS110.far ?_ NB297_296.out _)) (by (with_reducible repeat (first|apply zm|apply zn|apply zo));exact HO_5.out) (by decide)) hk (fun _ h => h.2)) (fun _ h => h.1));replace BK296:=zh (KeepBut.blk hk (g':=gb296) (o:=.cells #[.int .i64 a0_0,.int .i64 a0_1,.string a0_2] 49 (0,0)) (by (with_reducible repeat (first|refine ze ?_ _|refine zf ?_|refine zg ?_ _));exact BK296.out) NB296_297.out (by simp));replace HB:=zh (hb);replace BK297:=zh ((show _∧_ from hi).1);clear HI297;(try clear hb);(try clear hb2);(try clear hk);(try clear hi);have HI297:=zh (show IsS110 w w19 gb297 t305 t306 from ⟨BK297.out,GE297.out⟩))|(go_at_call 79;(with_reducible refine (impl_byteReader_value.calls kj6  gb297 t305 t306 t307 t308 t309 t310 t311 w _ ?side1 ?side2 A16.out).mono ?_);(case side1 => repeat (with_reducible first|exact HI297.out|apply IsS110.alloc|apply IsS110.drewN|apply IsS110.drew|apply IsS110.set_0|apply IsS110.set_1|refine IsS110.far ?_ NB297_296.out _));(case side2 => repeat (with_reducible first|exact HB.out|apply za|apply zb|apply zc|refine zd ?_ (IsS110.ge HI297.out)|refine zd ?_ GE296.out));rintro e w20 ⟨rfl,hi,hb,hk⟩;replace HO_5:=zh (zM (Kd.R_keep (IsS110.apart (show IsS110 w _ gb297 t305 t306 from by repeat (with_reducible first|exact HI297.out|apply IsS110.alloc|apply IsS110.drewN|apply IsS110.drew|apply IsS110.set_0|apply IsS110.set_1|refine IsS110.far ?_ NB297_296.out _)) (by (with_reducible repeat (first|apply zm|apply zn|apply zo));exact HO_5.out) (by decide)) hk (fun _ h => h.2)) (fun _ h => h.1));replace BK296:=zh (KeepBut.blk hk (g':=gb296) (o:=.cells #[.int .i64 a0_0,.int .i64 a0_1,.string a0_2] 49 (0,0)) (by (with_reducible repeat (first|refine ze ?_ _|refine zf ?_|refine zg ?_ _));exact BK296.out) NB296_297.out (by simp));replace HB:=zh (hb);replace BK297:=zh ((show _∧_ from hi).1);clear HI297;(try clear hb);(try clear hb2);(try clear hk);(try clear hi))|((with_reducible refine yB (b:=.append) (xs:=#[.tmp 23,.tmp 31]) rfl ?_);at_builtin;refine Kd.R_append k87 (w0:=w) w.heap.size rfl (.tmp 23) (.tmp 31) 83 87 (.agg #[(.string ⟨#[]⟩),(.int .i64 0),(.int .i64 0),(.string ⟨#[]⟩)]) 48 rfl Tryz.underlying83 info87 rfl (by decide) (by omega) u5 x5_1 (⟨t304,(⟨t307,t308,t309⟩ : S49)⟩ : S87) [.string t304,.int .i64 t307,.int .i64 t308,.string t309] (fun _ => True) (fun _ => False) rfl rfl ?aP (fun _ hk => hk.elim) ?aF ?aO ?aB ?aS ?aL ?_;(case aP => exact k87_mkM _ _ _ (⟨t304,(⟨t307,t308,t309⟩ : S49)⟩ : S87));(case aB => exact (by repeat (with_reducible first|exact HB.out|apply za|apply zb|apply zc|refine zd ?_ GE296.out|refine zd ?_ GE297.out)));(case aF => exact (fun _ _ => trivial));(case aO => exact (by (with_reducible repeat (first|apply zm|apply zn|apply zo));exact HO_5.out));(case aS => exact (zB (by repeat (with_reducible first|exact HB.out|apply za|apply zb|apply zc|refine zd ?_ GE296.out|refine zd ?_ GE297.out))));(case aL => have:=LMc17.out;omega);intro v313 w21 ho hb hg hat;rw [← Ny312.out] at ho;replace BK296:=zh (yw (g:=gb296) (o:=.cells #[.int .i64 a0_0,.int .i64 a0_1,.string a0_2] 49 (0,0)) (by (with_reducible repeat (first|refine ze ?_ _|refine zf ?_|refine zg ?_ _));exact BK296.out) hg (Kd.R_ne HO_5.out BK296.out (by decide)));replace BK297:=zh (yw (g:=gb297) (o:=.cells #[.string t310,.bool t311] 110 (0,0)) (by (with_reducible repeat (first|refine ze ?_ _|refine zf ?_|refine zg ?_ _));exact BK297.out) hg (Kd.R_ne HO_5.out BK297.out (by decide)));replace HB:=zh (hb);have HO314:=zh (ho);clear HO_5 ho hb hg hat)))
       go_roundg kj6
       case measure => have:=HK1.out;have:=HJ6.out;omega
       case rel => exact ⟨(y312),(t310),(t311),H',⟨by have:=HK1.out;have:=HJ6.out;omega⟩,⟨by (with_reducible repeat (first|apply zm|apply zn|apply zo));exact HO314.out⟩,⟨by (with_reducible repeat (first|refine ze ?_ _|refine zf ?_|refine zg ?_ _));exact BK296.out⟩,⟨by (with_reducible repeat (first|refine ze ?_ _|refine zf ?_|refine zg ?_ _));exact BK297.out⟩,⟨by repeat (with_reducible first|exact HB.out|apply za|apply zb|apply zc|refine zd ?_ GE296.out|refine zd ?_ GE297.out)⟩⟩
      rw [if_neg c17] at H;exact absurd H (by simp)
     replace c13:=yb.mpr c13;subst c13;have H1 : (some (x5_1,!x298001_1))=some (r1,r2):=by rw [if_neg (show ¬ (false=true) by decide)] at H;exact H
     clear H;have H:=H1;clear H1;simp only [Option.some.injEq,Prod.mk.injEq] at H;obtain ⟨rfl,rfl⟩:=H;have hnb22:=NB297_296.out;have hnc22:=NB296_297.out;have hcz23_0 : wc.cell? ⟨gb297,0,none⟩=some (.string x298000_1):=(zz BK297.out 0).trans rfl;have hcz23_1 : wc.cell? ⟨gb297,1,none⟩=some (.bool x298001_1):=(zz BK297.out 1).trans rfl;have hfz23_0:=zA BK297.out 0;have hfz23_1:=zA BK297.out 1
     go_wp2
     repeat (go_quiet (fail);try go_wp2)
     go_ret2
     exact ⟨_,by first|rfl|(simp [yt,yu] <;> rfl)|(simp [*,yt,yu] <;> rfl),by (with_reducible repeat (first|apply zm|apply zn|apply zo));exact HO_5.out,by repeat (with_reducible first|exact HB.out|apply za|apply zb|apply zc|refine zd ?_ GE296.out|refine zd ?_ GE297.out)⟩

end Go.Proofs.YthjgfjlogilleaaGreatDoor.Q
end
