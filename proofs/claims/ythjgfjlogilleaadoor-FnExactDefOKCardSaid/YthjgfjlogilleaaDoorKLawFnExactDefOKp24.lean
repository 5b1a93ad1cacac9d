/- Texts of this claim, merged by a program of this session. -/
import Derived.Test.YthjgfjlogilleaaDoorKLawFnExactDefOKp23
section
namespace Go.Proofs.YthjgfjlogilleaaDoor.Q
open Go.RowKit Go.Proofs.YthjgfjlogilleaaDoorW.PrintWords Go.Proofs.YthjgfjlogilleaaDoorW.PrintLast Go.Proofs.YthjgfjlogilleaaDoorW.PrintMore
attribute [local go_sem] max2_int min2_int max_two min_two max_three min_three max_four min_four max2_str min2_str str_geq str_gtr str_leq
set_option linter.unusedVariables false
set_option linter.unusedSimpArgs false

def impl_items.l0 : Nat→List (S39)→ByteArray→Bool→Option ((List (S39))×Bool)
 | 0,_,_,_ => none
 | k + 1,x5,x307000,x307001 => if x307000.toList=([] : List UInt8) then (some (x5,!x307001)) else (if x307001=true then (some (x5,!x307001)) else ((impl_byteReader_value.f k x307000 x307001).bind fun bt310 => (if x5.length<4398046511104 then (impl_items.l0 k (x5 ++ [(⟨bt310.1,bt310.2.1,bt310.2.2.1⟩ : S39)]) bt310.2.2.2.1 bt310.2.2.2.2) else (none))))
def impl_items.f (k : Nat) (a0_0 : Int) (a0_1 : Int) (a0_2 : ByteArray) : Option ((List (S39))×Bool):=impl_items.l0 k (([] : List (S39))) a0_2 false
theorem impl_items.mono_l : ∀ k,(∀ y0 y1 y2,LeO (impl_items.l0 k y0 y1 y2) (impl_items.l0 (k + 1) y0 y1 y2))
 | 0 => fun _ _ _ r h => by simp [impl_items.l0] at h
 | k + 1 => by
  have ih0:=impl_items.mono_l k;intro y0 y1 y2;unfold impl_items.l0
  repeat' first|(with_reducible first|exact ih0 _ _ _|exact impl_byteReader_value.mono _ _ _|exact zQ _|exact zN _|refine zP ?_ ?_|refine zO ?_ (fun _ => ?_))|refine zP ?_ ?_|refine zO ?_ (fun _ => ?_)
theorem impl_items.mono : ∀ a0 a1 a2 k,LeO (impl_items.f k a0 a1 a2) (impl_items.f (k + 1) a0 a1 a2):=by
 intro a0 a1 a2 k;have ih0:=impl_items.mono_l k;unfold impl_items.f
 repeat' first|(with_reducible first|exact ih0 _ _ _|exact impl_byteReader_value.mono _ _ _|exact zQ _|exact zN _|refine zP ?_ ?_|refine zO ?_ (fun _ => ?_))|refine zP ?_ ?_|refine zO ?_ (fun _ => ?_)
set_option maxHeartbeats 8000000 in
set_option maxRecDepth 100000 in
theorem impl_items.calls (k : Nat) (a0_0 : Int) (a0_1 : Int) (a0_2 : ByteArray) (r1 : List (S39)) (r2 : Bool) (w : World) (h : impl_items.f k a0_0 a0_1 a0_2=some (r1,r2)) :
  Calls Tryd.prog 76 #[.agg #[.int .i64 a0_0,.int .i64 a0_1,.string a0_2]] w fun e w' => ∃ v0_ : Value,e = .returned (.tuple #[v0_,.bool r2])∧Kd.R k39 39 w' w.heap.size (fun _ => True) v0_ r1∧Below w.heap.size w w':=by
 have hu39:=Tryd.underlying39;have hu108:=Tryd.underlying108;have HB:=zh (Below.refl w.heap.size w);have H : (impl_items.l0 k (([] : List (S39))) a0_2 false)=some (r1,r2):=h;clear h;obtain ⟨y307,hy307⟩ : ∃ y_ : List (S39),y_=(([] : List (S39))):=⟨_,rfl⟩;replace H : (impl_items.l0 k y307 a0_2 false)=some (r1,r2):=by first|(rw [hy307];with_reducible exact H)|(have H2_:=(Option.bind_some _ _).symm.trans H;rw [hy307];with_reducible exact H2_)|(have H2_:=(Option.bind_some _ _).symm.trans H;with_reducible exact H2_)|with_reducible exact H|(rw [hy307];exact H)|exact H
 have Ny307:=zh hy307;clear hy307;have H':=zh H;clear H
 go_enter Tryd.func76,Tryd.ntmps76
 go_wp2_with (first|((with_reducible refine zK (N:=1) rfl ?_);refine zI ?hg (N:=1) ?hd (cs:=#[.int .i64 a0_0,.int .i64 a0_1,.string a0_2]) (t:=39) ?hr ?_;(case hd => rfl);(case hg => rfl);(case hr => first|(go_simp;done)|(go_simp;rfl));intro gb305 hg w2 hbox hb;have BK305:=zh (hbox);have GW305:=zh ((by rw [hg];exact (zB (by repeat (with_reducible first|exact HB.out|apply za|apply zb|apply zc))) : w.heap.size≤gb305));have GE305:=zh ((by rw [hg];exact (zB (by repeat (with_reducible first|exact HB.out|apply za|apply zb|apply zc))) : w.heap.size≤gb305));replace HB:=zh (zC (by repeat (with_reducible first|exact HB.out|apply za|apply zb|apply zc)) hb);clear hb hbox hg;have hcz3_0 : w2.cell? ⟨gb305,0,none⟩=some (.int .i64 a0_0):=(zz BK305.out 0).trans rfl;have hcz3_1 : w2.cell? ⟨gb305,1,none⟩=some (.int .i64 a0_1):=(zz BK305.out 1).trans rfl;have hcz3_2 : w2.cell? ⟨gb305,2,none⟩=some (.string a0_2):=(zz BK305.out 2).trans rfl;have hfz3_0:=zA BK305.out 0;have hfz3_1:=zA BK305.out 1;have hfz3_2:=zA BK305.out 2)|((with_reducible refine zK (N:=9) rfl ?_);refine zI ?hg (N:=9) ?hd (cs:=#[.string a0_2,.bool false]) (t:=108) ?hr ?_;(case hd => rfl);(case hg => rfl);(case hr => first|(go_simp;done)|(go_simp;rfl));intro gb306 hg w4 hbox hb;have BK306:=zh (hbox);have GW306:=zh ((by rw [hg];exact (zB (by repeat (with_reducible first|exact HB.out|apply za|apply zb|apply zc|refine zd ?_ GE305.out))) : w.heap.size≤gb306));have GE306:=zh ((by rw [hg];exact (zB (by repeat (with_reducible first|exact HB.out|apply za|apply zb|apply zc|refine zd ?_ GE305.out))) : w.heap.size≤gb306));replace HB:=zh (zC (by repeat (with_reducible first|exact HB.out|apply za|apply zb|apply zc|refine zd ?_ GE305.out)) hb);have NB305_306:=zh ((by rw [hg];exact yc (yi (g:=gb305) (o:=.cells #[.int .i64 a0_0,.int .i64 a0_1,.string a0_2] 39 (0,0)) (by (with_reducible repeat (first|refine ze ?_ _|refine zf ?_|refine zg ?_ _));exact BK305.out)) : gb305≠gb306));have NB306_305:=zh ((by rw [hg];exact yd (yi (g:=gb305) (o:=.cells #[.int .i64 a0_0,.int .i64 a0_1,.string a0_2] 39 (0,0)) (by (with_reducible repeat (first|refine ze ?_ _|refine zf ?_|refine zg ?_ _));exact BK305.out)) : gb306≠gb305));replace BK305:=zh (zD (g:=gb305) (o:=.cells #[.int .i64 a0_0,.int .i64 a0_1,.string a0_2] 39 (0,0)) (by (with_reducible repeat (first|refine ze ?_ _|refine zf ?_|refine zg ?_ _));exact BK305.out) hb);clear hb hbox hg)|((with_reducible refine zK (N:=10) rfl ?_);refine Kd.R_lit k39 _ 39 ?hg (N:=10) ?hd (xs:=([] : List (S39))) (inner:=[]) (ok:=fun _ => True) (okp:=fun _ => True) ?hr ?hp (fun _ hk => hk) trivial (Below.refl _ _) (ye _) (by simp) ?_;(case hd => rfl);(case hg => rfl);(case hr => first|(go_simp;done)|(go_simp;rfl));(case hp => exact (Reps.none _ _));intro v308 w5 ho6 hb hg_ hnew_;clear hg_ hnew_;(first|rw [← Ny307.out] at ho6|(simp only [Int.reduceToNat] at ho6;rw [← Ny307.out] at ho6));have HO309:=zh (yy (Kd.R_newB ho6 (g:=gb305) (o:=.cells #[.int .i64 a0_0,.int .i64 a0_1,.string a0_2] 39 (0,0)) (by (with_reducible repeat (first|refine ze ?_ _|refine zf ?_|refine zg ?_ _));exact BK305.out)) (zB (by repeat (with_reducible first|exact HB.out|apply za|apply zb|apply zc|refine zd ?_ GE305.out|refine zd ?_ GE306.out))));replace BK305:=zh (zD (g:=gb305) (o:=.cells #[.int .i64 a0_0,.int .i64 a0_1,.string a0_2] 39 (0,0)) (by (with_reducible repeat (first|refine ze ?_ _|refine zf ?_|refine zg ?_ _));exact BK305.out) hb);replace BK306:=zh (zD (g:=gb306) (o:=.cells #[.string a0_2,.bool false] 108 (0,0)) (by (with_reducible repeat (first|refine ze ?_ _|refine zf ?_|refine zg ?_ _));exact BK306.out) hb);replace HB:=zh (zC (by repeat (with_reducible first|exact HB.out|apply za|apply zb|apply zc|refine zd ?_ GE305.out|refine zd ?_ GE306.out)) hb);clear hb ho6))
 repeat (go_quiet (first|((with_reducible refine zK (N:=1) rfl ?_);refine zI ?hg (N:=1) ?hd (cs:=#[.int .i64 a0_0,.int .i64 a0_1,.string a0_2]) (t:=39) ?hr ?_;(case hd => rfl);(case hg => rfl);(case hr => first|(go_simp;done)|(go_simp;rfl));intro gb305 hg w2 hbox hb;have BK305:=zh (hbox);have GW305:=zh ((by rw [hg];exact (zB (by repeat (with_reducible first|exact HB.out|apply za|apply zb|apply zc))) : w.heap.size≤gb305));have GE305:=zh ((by rw [hg];exact (zB (by repeat (with_reducible first|exact HB.out|apply za|apply zb|apply zc))) : w.heap.size≤gb305));replace HB:=zh (zC (by repeat (with_reducible first|exact HB.out|apply za|apply zb|apply zc)) hb);clear hb hbox hg;have hcz3_0 : w2.cell? ⟨gb305,0,none⟩=some (.int .i64 a0_0):=(zz BK305.out 0).trans rfl;have hcz3_1 : w2.cell? ⟨gb305,1,none⟩=some (.int .i64 a0_1):=(zz BK305.out 1).trans rfl;have hcz3_2 : w2.cell? ⟨gb305,2,none⟩=some (.string a0_2):=(zz BK305.out 2).trans rfl;have hfz3_0:=zA BK305.out 0;have hfz3_1:=zA BK305.out 1;have hfz3_2:=zA BK305.out 2)|((with_reducible refine zK (N:=9) rfl ?_);refine zI ?hg (N:=9) ?hd (cs:=#[.string a0_2,.bool false]) (t:=108) ?hr ?_;(case hd => rfl);(case hg => rfl);(case hr => first|(go_simp;done)|(go_simp;rfl));intro gb306 hg w4 hbox hb;have BK306:=zh (hbox);have GW306:=zh ((by rw [hg];exact (zB (by repeat (with_reducible first|exact HB.out|apply za|apply zb|apply zc|refine zd ?_ GE305.out))) : w.heap.size≤gb306));have GE306:=zh ((by rw [hg];exact (zB (by repeat (with_reducible first|exact HB.out|apply za|apply zb|apply zc|refine zd ?_ GE305.out))) : w.heap.size≤gb306));replace HB:=zh (zC (by repeat (with_reducible first|exact HB.out|apply za|apply zb|apply zc|refine zd ?_ GE305.out)) hb);have NB305_306:=zh ((by rw [hg];exact yc (yi (g:=gb305) (o:=.cells #[.int .i64 a0_0,.int .i64 a0_1,.string a0_2] 39 (0,0)) (by (with_reducible repeat (first|refine ze ?_ _|refine zf ?_|refine zg ?_ _));exact BK305.out)) : gb305≠gb306));have NB306_305:=zh ((by rw [hg];exact yd (yi (g:=gb305) (o:=.cells #[.int .i64 a0_0,.int .i64 a0_1,.string a0_2] 39 (0,0)) (by (with_reducible repeat (first|refine ze ?_ _|refine zf ?_|refine zg ?_ _));exact BK305.out)) : gb306≠gb305));replace BK305:=zh (zD (g:=gb305) (o:=.cells #[.int .i64 a0_0,.int .i64 a0_1,.string a0_2] 39 (0,0)) (by (with_reducible repeat (first|refine ze ?_ _|refine zf ?_|refine zg ?_ _));exact BK305.out) hb);clear hb hbox hg)|((with_reducible refine zK (N:=10) rfl ?_);refine Kd.R_lit k39 _ 39 ?hg (N:=10) ?hd (xs:=([] : List (S39))) (inner:=[]) (ok:=fun _ => True) (okp:=fun _ => True) ?hr ?hp (fun _ hk => hk) trivial (Below.refl _ _) (ye _) (by simp) ?_;(case hd => rfl);(case hg => rfl);(case hr => first|(go_simp;done)|(go_simp;rfl));(case hp => exact (Reps.none _ _));intro v308 w5 ho6 hb hg_ hnew_;clear hg_ hnew_;(first|rw [← Ny307.out] at ho6|(simp only [Int.reduceToNat] at ho6;rw [← Ny307.out] at ho6));have HO309:=zh (yy (Kd.R_newB ho6 (g:=gb305) (o:=.cells #[.int .i64 a0_0,.int .i64 a0_1,.string a0_2] 39 (0,0)) (by (with_reducible repeat (first|refine ze ?_ _|refine zf ?_|refine zg ?_ _));exact BK305.out)) (zB (by repeat (with_reducible first|exact HB.out|apply za|apply zb|apply zc|refine zd ?_ GE305.out|refine zd ?_ GE306.out))));replace BK305:=zh (zD (g:=gb305) (o:=.cells #[.int .i64 a0_0,.int .i64 a0_1,.string a0_2] 39 (0,0)) (by (with_reducible repeat (first|refine ze ?_ _|refine zf ?_|refine zg ?_ _));exact BK305.out) hb);replace BK306:=zh (zD (g:=gb306) (o:=.cells #[.string a0_2,.bool false] 108 (0,0)) (by (with_reducible repeat (first|refine ze ?_ _|refine zf ?_|refine zg ?_ _));exact BK306.out) hb);replace HB:=zh (zC (by repeat (with_reducible first|exact HB.out|apply za|apply zb|apply zc|refine zd ?_ GE305.out|refine zd ?_ GE306.out)) hb);clear hb ho6));try go_wp2_with (first|((with_reducible refine zK (N:=1) rfl ?_);refine zI ?hg (N:=1) ?hd (cs:=#[.int .i64 a0_0,.int .i64 a0_1,.string a0_2]) (t:=39) ?hr ?_;(case hd => rfl);(case hg => rfl);(case hr => first|(go_simp;done)|(go_simp;rfl));intro gb305 hg w2 hbox hb;have BK305:=zh (hbox);have GW305:=zh ((by rw [hg];exact (zB (by repeat (with_reducible first|exact HB.out|apply za|apply zb|apply zc))) : w.heap.size≤gb305));have GE305:=zh ((by rw [hg];exact (zB (by repeat (with_reducible first|exact HB.out|apply za|apply zb|apply zc))) : w.heap.size≤gb305));replace HB:=zh (zC (by repeat (with_reducible first|exact HB.out|apply za|apply zb|apply zc)) hb);clear hb hbox hg;have hcz3_0 : w2.cell? ⟨gb305,0,none⟩=some (.int .i64 a0_0):=(zz BK305.out 0).trans rfl;have hcz3_1 : w2.cell? ⟨gb305,1,none⟩=some (.int .i64 a0_1):=(zz BK305.out 1).trans rfl;have hcz3_2 : w2.cell? ⟨gb305,2,none⟩=some (.string a0_2):=(zz BK305.out 2).trans rfl;have hfz3_0:=zA BK305.out 0;have hfz3_1:=zA BK305.out 1;have hfz3_2:=zA BK305.out 2)|((with_reducible refine zK (N:=9) rfl ?_);refine zI ?hg (N:=9) ?hd (cs:=#[.string a0_2,.bool false]) (t:=108) ?hr ?_;(case hd => rfl);(case hg => rfl);(case hr => first|(go_simp;done)|(go_simp;rfl));intro gb306 hg w4 hbox hb;have BK306:=zh (hbox);have GW306:=zh ((by rw [hg];exact (zB (by repeat (with_reducible first|exact HB.out|apply za|apply zb|apply zc|refine zd ?_ GE305.out))) : w.heap.size≤gb306));have GE306:=zh ((by rw [hg];exact (zB (by repeat (with_reducible first|exact HB.out|apply za|apply zb|apply zc|refine zd ?_ GE305.out))) : w.heap.size≤gb306));replace HB:=zh (zC (by repeat (with_reducible first|exact HB.out|apply za|apply zb|apply zc|refine zd ?_ GE305.out)) hb);have NB305_306:=zh ((by rw [hg];exact yc (yi (g:=gb305) (o:=.cells #[.int .i64 a0_0,.int .i64 a0_1,.string a0_2] 39 (0,0)) (by (with_reducible repeat (first|refine ze ?_ _|refine zf ?_|refine zg ?_ _));exact BK305.out)) : gb305≠gb306));have NB306_305:=zh ((by rw [hg];exact yd (yi (g:=gb305) (o:=.cells #[.int .i64 a0_0,.int .i64 a0_1,.string a0_2] 39 (0,0)) (by (with_reducible repeat (first|refine ze ?_ _|refine zf ?_|refine zg ?_ _));exact BK305.out)) : gb306≠gb305));replace BK305:=zh (zD (g:=gb305) (o:=.cells #[.int .i64 a0_0,.int .i64 a0_1,.string a0_2] 39 (0,0)) (by (with_reducible repeat (first|refine ze ?_ _|refine zf ?_|refine zg ?_ _));exact BK305.out) hb);clear hb hbox hg)|((with_reducible refine zK (N:=10) rfl ?_);refine Kd.R_lit k39 _ 39 ?hg (N:=10) ?hd (xs:=([] : List (S39))) (inner:=[]) (ok:=fun _ => True) (okp:=fun _ => True) ?hr ?hp (fun _ hk => hk) trivial (Below.refl _ _) (ye _) (by simp) ?_;(case hd => rfl);(case hg => rfl);(case hr => first|(go_simp;done)|(go_simp;rfl));(case hp => exact (Reps.none _ _));intro v308 w5 ho6 hb hg_ hnew_;clear hg_ hnew_;(first|rw [← Ny307.out] at ho6|(simp only [Int.reduceToNat] at ho6;rw [← Ny307.out] at ho6));have HO309:=zh (yy (Kd.R_newB ho6 (g:=gb305) (o:=.cells #[.int .i64 a0_0,.int .i64 a0_1,.string a0_2] 39 (0,0)) (by (with_reducible repeat (first|refine ze ?_ _|refine zf ?_|refine zg ?_ _));exact BK305.out)) (zB (by repeat (with_reducible first|exact HB.out|apply za|apply zb|apply zc|refine zd ?_ GE305.out|refine zd ?_ GE306.out))));replace BK305:=zh (zD (g:=gb305) (o:=.cells #[.int .i64 a0_0,.int .i64 a0_1,.string a0_2] 39 (0,0)) (by (with_reducible repeat (first|refine ze ?_ _|refine zf ?_|refine zg ?_ _));exact BK305.out) hb);replace BK306:=zh (zD (g:=gb306) (o:=.cells #[.string a0_2,.bool false] 108 (0,0)) (by (with_reducible repeat (first|refine ze ?_ _|refine zf ?_|refine zg ?_ _));exact BK306.out) hb);replace HB:=zh (zC (by repeat (with_reducible first|exact HB.out|apply za|apply zb|apply zc|refine zd ?_ GE305.out|refine zd ?_ GE306.out)) hb);clear hb ho6)))
 go_loopg [5] k (fun kq v5 w' => ∃ (x5_1 : List (S39)) (x307000_1 : ByteArray) (x307001_1 : Bool),Aside0 (impl_items.l0 kq x5_1 x307000_1 x307001_1=some (r1,r2))∧Aside0 (kq≤k)∧Aside0 (Kd.R k39 39 w' w.heap.size (fun k_ => k_≠gb305) v5 x5_1)∧Aside0 (w'.heap[gb305]? = some (.cells #[.int .i64 a0_0,.int .i64 a0_1,.string a0_2] 39 (0,0)))∧Aside0 (w'.heap[gb306]? = some (.cells #[.string x307000_1,.bool x307001_1] 108 (0,0)))∧Aside0 (Below w.heap.size w w'))
 case atStart => exact ⟨(y307),(a0_2),(false),H',⟨ye _⟩,⟨by (with_reducible repeat (first|apply zm|apply zn|apply zo));exact zM HO309.out (fun _ hk => hk.2)⟩,⟨by (with_reducible repeat (first|refine ze ?_ _|refine zf ?_|refine zg ?_ _));exact BK305.out⟩,⟨by (with_reducible repeat (first|refine ze ?_ _|refine zf ?_|refine zg ?_ _));exact BK306.out⟩,⟨by repeat (with_reducible first|exact HB.out|apply za|apply zb|apply zc|refine zd ?_ GE305.out|refine zd ?_ GE306.out)⟩⟩
 case round =>
  clear H'
  try clear p2
  try clear hcz3_0
  try clear hcz3_1
  try clear hcz3_2
  try clear hfz3_0
  try clear hfz3_1
  try clear hfz3_2
  obtain ⟨x5_1,x307000_1,x307001_1,HA,HK1,HO_5,BK305,BK306,HB⟩:=hrel
  cases gk with
  | zero => exact absurd HA.out (by simp [impl_items.l0])
  | succ k1 =>
   have H:=HA.out;clear HA;simp only [impl_items.l0] at H
   by_cases c7 : x307000_1.toList=([] : List UInt8)
   ·
    rw [if_pos c7] at H
    have c7b0 : (x307000_1.toList == ([] : List UInt8))=true:=ya.mpr c7;have c7b1 : (x307000_1.toList != ([] : List UInt8))=false:=zX.mpr c7;clear c7;simp only [Option.some.injEq,Prod.mk.injEq] at H;obtain ⟨rfl,rfl⟩:=H;have hnb8:=NB306_305.out;have hnc8:=NB305_306.out;have hcz9_0 : wr.cell? ⟨gb306,0,none⟩=some (.string x307000_1):=(zz BK306.out 0).trans rfl;have hcz9_1 : wr.cell? ⟨gb306,1,none⟩=some (.bool x307001_1):=(zz BK306.out 1).trans rfl;have hfz9_0:=zA BK306.out 0;have hfz9_1:=zA BK306.out 1
    go_wp2
    repeat (go_quiet (fail);try go_wp2)
    go_ret2
    exact ⟨_,by first|rfl|(simp [yt,yu] <;> rfl)|(simp [*,yt,yu] <;> rfl),by (with_reducible repeat (first|apply zm|apply zn|apply zo));exact zM HO_5.out (fun _ hk => trivial),by repeat (with_reducible first|exact HB.out|apply za|apply zb|apply zc|refine zd ?_ GE305.out|refine zd ?_ GE306.out)⟩
   rw [if_neg c7] at H;have c7b0 : (x307000_1.toList == ([] : List UInt8))=false:=zY.mpr c7;have c7b1 : (x307000_1.toList != ([] : List UInt8))=true:=zZ.mpr c7
   by_cases c10 : x307001_1=true
   ·
    subst c10
    have H1 : (some (x5_1,!true))=some (r1,r2):=by rw [if_pos rfl] at H;exact H
    clear H;have H:=H1;clear H1;simp only [Option.some.injEq,Prod.mk.injEq] at H;obtain ⟨rfl,rfl⟩:=H;have hnb11:=NB306_305.out;have hnc11:=NB305_306.out;have hcz12_0 : wr.cell? ⟨gb306,0,none⟩=some (.string x307000_1):=(zz BK306.out 0).trans rfl;have hcz12_1 : wr.cell? ⟨gb306,1,none⟩=some (.bool true):=(zz BK306.out 1).trans rfl;have hfz12_0:=zA BK306.out 0;have hfz12_1:=zA BK306.out 1
    go_wp2
    repeat (go_quiet (fail);try go_wp2)
    go_ret2
    exact ⟨_,by first|rfl|(simp [yt,yu] <;> rfl)|(simp [*,yt,yu] <;> rfl),by (with_reducible repeat (first|apply zm|apply zn|apply zo));exact zM HO_5.out (fun _ hk => trivial),by repeat (with_reducible first|exact HB.out|apply za|apply zb|apply zc|refine zd ?_ GE305.out|refine zd ?_ GE306.out)⟩
   replace c10:=yb.mpr c10;subst c10;have H1 : ((impl_byteReader_value.f k1 x307000_1 false).bind fun bt310 => (if x5_1.length<4398046511104 then (impl_items.l0 k1 (x5_1 ++ [(⟨bt310.1,bt310.2.1,bt310.2.2.1⟩ : S39)]) bt310.2.2.2.1 bt310.2.2.2.2) else (none)))=some (r1,r2):=by rw [if_neg (show ¬ (false=true) by decide)] at H;exact H
   clear H;have H:=H1;clear H1;replace H:=zT.mp H;obtain ⟨⟨t310,t311,t312,t313,t314⟩,A130,H⟩:=H;replace H : (if x5_1.length<4398046511104 then (impl_items.l0 k1 (x5_1 ++ [(⟨t310,t311,t312⟩ : S39)]) t313 t314) else (none))=some (r1,r2):=H;have A13:=zh A130;clear A130
   by_cases c14 : x5_1.length<4398046511104
   ·
    rw [if_pos c14] at H
    have LMc14:=zh c14;clear c14;obtain ⟨y315,hy315⟩ : ∃ y_ : List (S39),y_=(x5_1 ++ [(⟨t310,t311,t312⟩ : S39)]):=⟨_,rfl⟩;replace H : (impl_items.l0 k1 y315 t313 t314)=some (r1,r2):=by first|(rw [hy315];with_reducible exact H)|(have H2_:=(Option.bind_some _ _).symm.trans H;rw [hy315];with_reducible exact H2_)|(have H2_:=(Option.bind_some _ _).symm.trans H;with_reducible exact H2_)|with_reducible exact H|(rw [hy315];exact H)|exact H
    have Ny315:=zh hy315;clear hy315;have H':=zh H;clear H;have hnb15:=NB306_305.out;have hnc15:=NB305_306.out;have hcz16_0 : wr.cell? ⟨gb306,0,none⟩=some (.string x307000_1):=(zz BK306.out 0).trans rfl;have hcz16_1 : wr.cell? ⟨gb306,1,none⟩=some (.bool false):=(zz BK306.out 1).trans rfl;have hfz16_0:=zA BK306.out 0;have hfz16_1:=zA BK306.out 1;have HI306:=zh (show IsS108 w wr gb306 x307000_1 false from ⟨BK306.out,GE306.out⟩)
    go_wp2_with (first|(go_at_call 86;(with_reducible refine (impl_byteReader_value.calls k1  gb306 x307000_1 false t310 t311 t312 t313 t314 w _ ?side1 ?side2 A13.out).mono ?_);(case side1 => repeat (with_reducible first|exact HI306.out|apply IsS108.alloc|apply IsS108.drewN|apply IsS108.drew|apply IsS108.set_0|apply IsS108.set_1|refine IsS108.far ?_ NB306_305.out _));(case side2 => repeat (with_reducible first|exact HB.out|apply za|apply zb|apply zc|refine zd ?_ (IsS108.ge HI306.out)|refine zd ?_ GE305.out));rintro e w17 ⟨rfl,hi,hb,hk⟩;replace HO_5:=zh (zM (Kd.R_keep (IsS108.apart (show IsS108 w _ gb306 x307000_1 false from by repeat (with_reducible first|exact HI306.out|apply IsS108.alloc|apply IsS108.drewN|apply IsS108.drew|apply IsS108.set_0|apply IsS108.set_1|refine IsS108.far ?_ NB306_305.out _)) (by (with_reducible repeat (first|apply zm|apply zn|apply zo));exact HO_5.out) (by decide)) hk (fun _ h => h.2)) (fun _ h => h.1));replace BK305:=zh (KeepBut.blk hk (g':=gb305) (o:=.cells #[.int .i64 a0_0,.int .i64 a0_1,.string a0_2] 39 (0,0)) (by (with_reducible repeat (first|refine ze ?_ _|refine zf ?_|refine zg ?_ _));exact BK305.out) NB305_306.out (by simp));replace HB:=zh (hb);replace BK306:=zh ((show _∧_ from hi).1);clear HI306;(try clear hb);(try clear hb2);(try clear hk);(try clear hi))|((with_reducible refine yB (b:=.append) (xs:=#[.tmp 23,.tmp 26]) rfl ?_);at_builtin;refine Kd.R_append k39 (w0:=w) w.heap.size rfl (.tmp 23) (.tmp 26) 51 39 (.agg #[(.int .i64 0),(.int .i64 0),(.string ⟨#[]⟩)]) 32 rfl Tryd.underlying51 info39 rfl (by decide) (by omega) u5 x5_1 (⟨t310,t311,t312⟩ : S39) [.int .i64 t310,.int .i64 t311,.string t312] (fun k_ => k_≠gb305) (fun _ => False) rfl rfl ?aP (fun _ hk => hk.elim) ?aF ?aO ?aB ?aS ?aL ?_;(case aP => exact k39_mkM _ _ _ (⟨t310,t311,t312⟩ : S39));(case aB => exact (by repeat (with_reducible first|exact HB.out|apply za|apply zb|apply zc|refine zd ?_ GE305.out|refine zd ?_ GE306.out)));(case aF => exact (fun k_ hk => Kd.freshB (g:=gb305) (o:=.cells #[.int .i64 a0_0,.int .i64 a0_1,.string a0_2] 39 (0,0)) (by (with_reducible repeat (first|refine ze ?_ _|refine zf ?_|refine zg ?_ _));exact BK305.out) k_ hk));(case aO => exact (by (with_reducible repeat (first|apply zm|apply zn|apply zo));exact HO_5.out));(case aS => exact (zB (by repeat (with_reducible first|exact HB.out|apply za|apply zb|apply zc|refine zd ?_ GE305.out|refine zd ?_ GE306.out))));(case aL => have:=LMc14.out;omega);intro v316 w18 ho hb hg hat;rw [← Ny315.out] at ho;replace BK305:=zh (yw (g:=gb305) (o:=.cells #[.int .i64 a0_0,.int .i64 a0_1,.string a0_2] 39 (0,0)) (by (with_reducible repeat (first|refine ze ?_ _|refine zf ?_|refine zg ?_ _));exact BK305.out) hg (yv HO_5.out (fun _ hk => hk)));replace BK306:=zh (yw (g:=gb306) (o:=.cells #[.string t313,.bool t314] 108 (0,0)) (by (with_reducible repeat (first|refine ze ?_ _|refine zf ?_|refine zg ?_ _));exact BK306.out) hg (Kd.R_ne HO_5.out BK306.out (by decide)));replace HB:=zh (hb);have HO317:=zh (ho);clear HO_5 ho hb hg hat))
    repeat (go_quiet (first|(go_at_call 86;(with_reducible refine (impl_byteReader_value.calls k1  gb306 x307000_1 false t310 t311 t312 t313 t314 w _ ?side1 ?side2 A13.out).mono ?_);(case side1 => repeat (with_reducible first|exact HI306.out|apply IsS108.alloc|apply IsS108.drewN|apply IsS108.drew|apply IsS108.set_0|apply IsS108.set_1|refine IsS108.far ?_ NB306_305.out _));(case side2 => repeat (with_reducible first|exact HB.out|apply za|apply zb|apply zc|refine zd ?_ (IsS108.ge HI306.out)|refine zd ?_ GE305.out));rintro e w17 ⟨rfl,hi,hb,hk⟩;replace HO_5:=zh (zM (Kd.R_keep (IsS108.apart (show IsS108 w _ gb306 x307000_1 false from by repeat (with_reducible first|exact HI306.out|apply IsS108.alloc|apply IsS108.drewN|apply IsS108.drew|apply IsS108.set_0|apply IsS108.set_1|refine IsS108.far ?_ NB306_305.out _)) (by (with_reducible repeat (first|apply zm|apply zn|apply zo));exact HO_5.out) (by decide)) hk (fun _ h => h.2)) (fun _ h => h.1));replace BK305:=zh (KeepBut.blk hk (g':=gb305) (o:=.cells #[.int .i64 a0_0,.int .i64 a0_1,.string a0_2] 39 (0,0)) (by (with_reducible repeat (first|refine ze ?_ _|refine zf ?_|refine zg ?_ _));exact BK305.out) NB305_306.out (by simp));replace HB:=zh (hb);replace BK306:=zh ((show _∧_ from hi).1);clear HI306;(try clear hb);(try clear hb2);(try clear hk);(try clear hi))|((with_reducible refine yB (b:=.append) (xs:=#[.tmp 23,.tmp 26]) rfl ?_);at_builtin;refine Kd.R_append k39 (w0:=w) w.heap.size rfl (.tmp 23) (.tmp 26) 51 39 (.agg #[(.int .i64 0),(.int .i64 0),(.string ⟨#[]⟩)]) 32 rfl Tryd.underlying51 info39 rfl (by decide) (by omega) u5 x5_1 (⟨t310,t311,t312⟩ : S39) [.int .i64 t310,.int .i64 t311,.string t312] (fun k_ => k_≠gb305) (fun _ => False) rfl rfl ?aP (fun _ hk => hk.elim) ?aF ?aO ?aB ?aS ?aL ?_;(case aP => exact k39_mkM _ _ _ (⟨t310,t311,t312⟩ : S39));(case aB => exact (by repeat (with_reducible first|exact HB.out|apply za|apply zb|apply zc|refine zd ?_ GE305.out|refine zd ?_ GE306.out)));(case aF => exact (fun k_ hk => Kd.freshB (g:=gb305) (o:=.cells #[.int .i64 a0_0,.int .i64 a0_1,.string a0_2] 39 (0,0)) (by (with_reducible repeat (first|refine ze ?_ _|refine zf ?_|refine zg ?_ _));exact BK305.out) k_ hk));(case aO => exact (by (with_reducible repeat (first|apply zm|apply zn|apply zo));exact HO_5.out));(case aS => exact (zB (by repeat (with_reducible first|exact HB.out|apply za|apply zb|apply zc|refine zd ?_ GE305.out|refine zd ?_ GE306.out))));(case aL => have:=LMc14.out;omega);intro v316 w18 ho hb hg hat;rw [← Ny315.out] at ho;replace BK305:=zh (yw (g:=gb305) (o:=.cells #[.int .i64 a0_0,.int .i64 a0_1,.string a0_2] 39 (0,0)) (by (with_reducible repeat (first|refine ze ?_ _|refine zf ?_|refine zg ?_ _));exact BK305.out) hg (yv HO_5.out (fun _ hk => hk)));replace BK306:=zh (yw (g:=gb306) (o:=.cells #[.string t313,.bool t314] 108 (0,0)) (by (with_reducible repeat (first|refine ze ?_ _|refine zf ?_|refine zg ?_ _));exact BK306.out) hg (Kd.R_ne HO_5.out BK306.out (by decide)));replace HB:=zh (hb);have HO317:=zh (ho);clear HO_5 ho hb hg hat));try go_wp2_with (first|(go_at_call 86;(with_reducible refine (impl_byteReader_value.calls k1  gb306 x307000_1 false t310 t311 t312 t313 t314 w _ ?side1 ?side2 A13.out).mono ?_);(case side1 => repeat (with_reducible first|exact HI306.out|apply IsS108.alloc|apply IsS108.drewN|apply IsS108.drew|apply IsS108.set_0|apply IsS108.set_1|refine IsS108.far ?_ NB306_305.out _));(case side2 => repeat (with_reducible first|exact HB.out|apply za|apply zb|apply zc|refine zd ?_ (IsS108.ge HI306.out)|refine zd ?_ GE305.out));rintro e w17 ⟨rfl,hi,hb,hk⟩;replace HO_5:=zh (zM (Kd.R_keep (IsS108.apart (show IsS108 w _ gb306 x307000_1 false from by repeat (with_reducible first|exact HI306.out|apply IsS108.alloc|apply IsS108.drewN|apply IsS108.drew|apply IsS108.set_0|apply IsS108.set_1|refine IsS108.far ?_ NB306_305.out _)) (by (with_reducible repeat (first|apply zm|apply zn|apply zo));exact HO_5.out) (by decide)) hk (fun _ h => h.2)) (fun _ h => h.1));replace BK305:=zh (KeepBut.blk hk (g':=gb305) (o:=.cells #[.int .i64 a0_0,.int .i64 a0_1,.string a0_2] 39 (0,0)) (by (with_reducible repeat (first|refine ze ?_ _|refine zf ?_|refine zg ?_ _));exact BK305.out) NB305_306.out (by simp));replace HB:=zh (hb);replace BK306:=zh ((show _∧_ from hi).1);clear HI306;(try clear hb);(try clear hb2);(try clear hk);(try clear hi))|((with_reducible refine yB (b:=.append) (xs:=#[.tmp 23,.tmp 26]) rfl ?_);at_builtin;refine Kd.R_append k39 (w0:=w) w.heap.size rfl (.tmp 23) (.tmp 26) 51 39 (.agg #[(.int .i64 0),(.int .i64 0),(.string ⟨#[]⟩)]) 32 rfl Tryd.underlying51 info39 rfl (by decide) (by omega) u5 x5_1 (⟨t310,t311,t312⟩ : S39) [.int .i64 t310,.int .i64 t311,.string t312] (fun k_ => k_≠gb305) (fun _ => False) rfl rfl ?aP (fun _ hk => hk.elim) ?aF ?aO ?aB ?aS ?aL ?_;(case aP => exact k39_mkM _ _ _ (⟨t310,t311,t312⟩ : S39));(case aB => exact (by repeat (with_reducible first|exact HB.out|apply za|apply zb|apply zc|refine zd ?_ GE305.out|refine zd ?_ GE306.out)));(case aF => exact (fun k_ hk => Kd.freshB (g:=gb305) (o:=.cells #[.int .i64 a0_0,.int .i64 a0_1,.string a0_2] 39 (0,0)) (by (with_reducible repeat (first|refine ze ?_ _|refine zf ?_|refine zg ?_ _));exact BK305.out) k_ hk));(case aO => exact (by (with_reducible repeat (first|apply zm|apply zn|apply zo));exact HO_5.out));(case aS => exact (zB (by repeat (with_reducible first|exact HB.out|apply za|apply zb|apply zc|refine zd ?_ GE305.out|refine zd ?_ GE306.out))));(case aL => have:=LMc14.out;omega);intro v316 w18 ho hb hg hat;rw [← Ny315.out] at ho;replace BK305:=zh (yw (g:=gb305) (o:=.cells #[.int .i64 a0_0,.int .i64 a0_1,.string a0_2] 39 (0,0)) (by (with_reducible repeat (first|refine ze ?_ _|refine zf ?_|refine zg ?_ _));exact BK305.out) hg (yv HO_5.out (fun _ hk => hk)));replace BK306:=zh (yw (g:=gb306) (o:=.cells #[.string t313,.bool t314] 108 (0,0)) (by (with_reducible repeat (first|refine ze ?_ _|refine zf ?_|refine zg ?_ _));exact BK306.out) hg (Kd.R_ne HO_5.out BK306.out (by decide)));replace HB:=zh (hb);have HO317:=zh (ho);clear HO_5 ho hb hg hat)))
    go_roundg k1
    case measure => have:=HK1.out;omega
    case rel => exact ⟨(y315),(t313),(t314),H',⟨by have:=HK1.out;omega⟩,⟨by (with_reducible repeat (first|apply zm|apply zn|apply zo));exact HO317.out⟩,⟨by (with_reducible repeat (first|refine ze ?_ _|refine zf ?_|refine zg ?_ _));exact BK305.out⟩,⟨by (with_reducible repeat (first|refine ze ?_ _|refine zf ?_|refine zg ?_ _));exact BK306.out⟩,⟨by repeat (with_reducible first|exact HB.out|apply za|apply zb|apply zc|refine zd ?_ GE305.out|refine zd ?_ GE306.out)⟩⟩
   rw [if_neg c14] at H;exact absurd H (by simp)

end Go.Proofs.YthjgfjlogilleaaDoor.Q
end
section
namespace Go.Proofs.YthjgfjlogilleaaDoor.Q
open Go.RowKit Go.Proofs.YthjgfjlogilleaaDoorW.PrintWords Go.Proofs.YthjgfjlogilleaaDoorW.PrintLast Go.Proofs.YthjgfjlogilleaaDoorW.PrintMore
attribute [local go_sem] max2_int min2_int max_two min_two max_three min_three max_four min_four max2_str min2_str str_geq str_gtr str_leq   -- for this text's walks alone
set_option linter.unusedVariables false
set_option linter.unusedSimpArgs false

mutual
def impl_fields.l0 : Nat→List (S92)→ByteArray→Bool→Option ((List (S92))×Bool)
 | 0,_,_,_ => none
 | k + 1,x5,x320000,x320001 => if x320000.toList=([] : List UInt8) then (impl_fields.j1 k x5 false x320000 x320001) else (impl_fields.j1 k x5 (!x320001) x320000 x320001)
def impl_fields.j1 : Nat→List (S92)→Bool→ByteArray→Bool→Option ((List (S92))×Bool)
 | 0,_,_,_,_ => none
 | k + 1,x5,x22,x320000,x320001 => if x22=true then ((impl_byteReader_num.f k x320000 x320001 1).bind fun bt323 => ((impl_byteReader_take.f bt323.2.1 bt323.2.2 bt323.1).bind fun bt326 => ((impl_byteReader_value.f k bt326.2.1 bt326.2.2).bind fun bt329 => (if x5.length<2932031007402 then (impl_fields.l0 k (x5 ++ [(⟨bt326.1,(⟨bt329.1,bt329.2.1,bt329.2.2.1⟩ : S39)⟩ : S92)]) bt329.2.2.2.1 bt329.2.2.2.2) else (none))))) else (some (x5,!x320001))
end
def impl_fields.f (k : Nat) (a0_0 : Int) (a0_1 : Int) (a0_2 : ByteArray) : Option ((List (S92))×Bool):=impl_fields.l0 k (([] : List (S92))) a0_2 false
theorem impl_fields.mono_l : ∀ k,(∀ y0 y1 y2,LeO (impl_fields.l0 k y0 y1 y2) (impl_fields.l0 (k + 1) y0 y1 y2))∧(∀ y0 y1 y2 y3,LeO (impl_fields.j1 k y0 y1 y2 y3) (impl_fields.j1 (k + 1) y0 y1 y2 y3))
 | 0 => ⟨fun _ _ _ r h => by simp [impl_fields.l0] at h,fun _ _ _ _ r h => by simp [impl_fields.j1] at h⟩
 | k + 1 => by
  obtain ⟨ih0,ih1⟩:=impl_fields.mono_l k;refine ⟨?_,?_⟩
  ·
   intro y0 y1 y2
   unfold impl_fields.l0
   repeat' first|(with_reducible first|exact ih0 _ _ _|exact ih1 _ _ _ _|exact impl_byteReader_value.mono _ _ _|exact impl_byteReader_num.mono _ _ _ _|exact zQ _|exact zN _|refine zP ?_ ?_|refine zO ?_ (fun _ => ?_))|refine zP ?_ ?_|refine zO ?_ (fun _ => ?_)
  intro y0 y1 y2 y3;unfold impl_fields.j1
  repeat' first|(with_reducible first|exact ih0 _ _ _|exact ih1 _ _ _ _|exact impl_byteReader_value.mono _ _ _|exact impl_byteReader_num.mono _ _ _ _|exact zQ _|exact zN _|refine zP ?_ ?_|refine zO ?_ (fun _ => ?_))|refine zP ?_ ?_|refine zO ?_ (fun _ => ?_)
theorem impl_fields.mono : ∀ a0 a1 a2 k,LeO (impl_fields.f k a0 a1 a2) (impl_fields.f (k + 1) a0 a1 a2):=by
 intro a0 a1 a2 k;obtain ⟨ih0,ih1⟩:=impl_fields.mono_l k;unfold impl_fields.f
 repeat' first|(with_reducible first|exact ih0 _ _ _|exact ih1 _ _ _ _|exact impl_byteReader_value.mono _ _ _|exact impl_byteReader_num.mono _ _ _ _|exact zQ _|exact zN _|refine zP ?_ ?_|refine zO ?_ (fun _ => ?_))|refine zP ?_ ?_|refine zO ?_ (fun _ => ?_)
set_option maxHeartbeats 8000000 in
set_option maxRecDepth 100000 in
theorem impl_fields.calls (k : Nat) (a0_0 : Int) (a0_1 : Int) (a0_2 : ByteArray) (r1 : List (S92)) (r2 : Bool) (w : World) (h : impl_fields.f k a0_0 a0_1 a0_2=some (r1,r2)) :
  Calls Tryd.prog 84 #[.agg #[.int .i64 a0_0,.int .i64 a0_1,.string a0_2]] w fun e w' => ∃ v0_ : Value,e = .returned (.tuple #[v0_,.bool r2])∧Kd.R k92 92 w' w.heap.size (fun _ => True) v0_ r1∧Below w.heap.size w w':=by
 have hu39:=Tryd.underlying39;have hu108:=Tryd.underlying108;have hu92:=Tryd.underlying92;have HB:=zh (Below.refl w.heap.size w);have H : (impl_fields.l0 k (([] : List (S92))) a0_2 false)=some (r1,r2):=h;clear h;obtain ⟨y320,hy320⟩ : ∃ y_ : List (S92),y_=(([] : List (S92))):=⟨_,rfl⟩;replace H : (impl_fields.l0 k y320 a0_2 false)=some (r1,r2):=by first|(rw [hy320];with_reducible exact H)|(have H2_:=(Option.bind_some _ _).symm.trans H;rw [hy320];with_reducible exact H2_)|(have H2_:=(Option.bind_some _ _).symm.trans H;with_reducible exact H2_)|with_reducible exact H|(rw [hy320];exact H)|exact H
 have Ny320:=zh hy320;clear hy320;have H':=zh H;clear H
 go_enter Tryd.func84,Tryd.ntmps84
 go_wp2_with (first|((with_reducible refine zK (N:=1) rfl ?_);refine zI ?hg (N:=1) ?hd (cs:=#[.int .i64 a0_0,.int .i64 a0_1,.string a0_2]) (t:=39) ?hr ?_;(case hd => rfl);(case hg => rfl);(case hr => first|(go_simp;done)|(go_simp;rfl));intro gb318 hg w2 hbox hb;have BK318:=zh (hbox);have GW318:=zh ((by rw [hg];exact (zB (by repeat (with_reducible first|exact HB.out|apply za|apply zb|apply zc))) : w.heap.size≤gb318));have GE318:=zh ((by rw [hg];exact (zB (by repeat (with_reducible first|exact HB.out|apply za|apply zb|apply zc))) : w.heap.size≤gb318));replace HB:=zh (zC (by repeat (with_reducible first|exact HB.out|apply za|apply zb|apply zc)) hb);clear hb hbox hg;have hcz3_0 : w2.cell? ⟨gb318,0,none⟩=some (.int .i64 a0_0):=(zz BK318.out 0).trans rfl;have hcz3_1 : w2.cell? ⟨gb318,1,none⟩=some (.int .i64 a0_1):=(zz BK318.out 1).trans rfl;have hcz3_2 : w2.cell? ⟨gb318,2,none⟩=some (.string a0_2):=(zz BK318.out 2).trans rfl;have hfz3_0:=zA BK318.out 0;have hfz3_1:=zA BK318.out 1;have hfz3_2:=zA BK318.out 2)|((with_reducible refine zK (N:=9) rfl ?_);refine zI ?hg (N:=9) ?hd (cs:=#[.string a0_2,.bool false]) (t:=108) ?hr ?_;(case hd => rfl);(case hg => rfl);(case hr => first|(go_simp;done)|(go_simp;rfl));intro gb319 hg w4 hbox hb;have BK319:=zh (hbox);have GW319:=zh ((by rw [hg];exact (zB (by repeat (with_reducible first|exact HB.out|apply za|apply zb|apply zc|refine zd ?_ GE318.out))) : w.heap.size≤gb319));have GE319:=zh ((by rw [hg];exact (zB (by repeat (with_reducible first|exact HB.out|apply za|apply zb|apply zc|refine zd ?_ GE318.out))) : w.heap.size≤gb319));replace HB:=zh (zC (by repeat (with_reducible first|exact HB.out|apply za|apply zb|apply zc|refine zd ?_ GE318.out)) hb);have NB318_319:=zh ((by rw [hg];exact yc (yi (g:=gb318) (o:=.cells #[.int .i64 a0_0,.int .i64 a0_1,.string a0_2] 39 (0,0)) (by (with_reducible repeat (first|refine ze ?_ _|refine zf ?_|refine zg ?_ _));exact BK318.out)) : gb318≠gb319));have NB319_318:=zh ((by rw [hg];exact yd (yi (g:=gb318) (o:=.cells #[.int .i64 a0_0,.int .i64 a0_1,.string a0_2] 39 (0,0)) (by (with_reducible repeat (first|refine ze ?_ _|refine zf ?_|refine zg ?_ _));exact BK318.out)) : gb319≠gb318));replace BK318:=zh (zD (g:=gb318) (o:=.cells #[.int .i64 a0_0,.int .i64 a0_1,.string a0_2] 39 (0,0)) (by (with_reducible repeat (first|refine ze ?_ _|refine zf ?_|refine zg ?_ _));exact BK318.out) hb);clear hb hbox hg)|((with_reducible refine zK (N:=10) rfl ?_);refine Kd.R_lit k92 _ 92 ?hg (N:=10) ?hd (xs:=([] : List (S92))) (inner:=[]) (ok:=fun _ => True) (okp:=fun _ => True) ?hr ?hp (fun _ hk => hk) trivial (Below.refl _ _) (ye _) (by simp) ?_;(case hd => rfl);(case hg => rfl);(case hr => first|(go_simp;done)|(go_simp;rfl));(case hp => exact (Reps.none _ _));intro v321 w5 ho6 hb hg_ hnew_;clear hg_ hnew_;(first|rw [← Ny320.out] at ho6|(simp only [Int.reduceToNat] at ho6;rw [← Ny320.out] at ho6));have HO322:=zh (yy ho6 (zB (by repeat (with_reducible first|exact HB.out|apply za|apply zb|apply zc|refine zd ?_ GE318.out|refine zd ?_ GE319.out))));replace BK318:=zh (zD (g:=gb318) (o:=.cells #[.int .i64 a0_0,.int .i64 a0_1,.string a0_2] 39 (0,0)) (by (with_reducible repeat (first|refine ze ?_ _|refine zf ?_|refine zg ?_ _));exact BK318.out) hb);replace BK319:=zh (zD (g:=gb319) (o:=.cells #[.string a0_2,.bool false] 108 (0,0)) (by (with_reducible repeat (first|refine ze ?_ _|refine zf ?_|refine zg ?_ _));exact BK319.out) hb);replace HB:=zh (zC (by repeat (with_reducible first|exact HB.out|apply za|apply zb|apply zc|refine zd ?_ GE318.out|refine zd ?_ GE319.out)) hb);clear hb ho6))
 repeat (go_quiet (first|((with_reducible refine zK (N:=1) rfl ?_);refine zI ?hg (N:=1) ?hd (cs:=#[.int .i64 a0_0,.int .i64 a0_1,.string a0_2]) (t:=39) ?hr ?_;(case hd => rfl);(case hg => rfl);(case hr => first|(go_simp;done)|(go_simp;rfl));intro gb318 hg w2 hbox hb;have BK318:=zh (hbox);have GW318:=zh ((by rw [hg];exact (zB (by repeat (with_reducible first|exact HB.out|apply za|apply zb|apply zc))) : w.heap.size≤gb318));have GE318:=zh ((by rw [hg];exact (zB (by repeat (with_reducible first|exact HB.out|apply za|apply zb|apply zc))) : w.heap.size≤gb318));replace HB:=zh (zC (by repeat (with_reducible first|exact HB.out|apply za|apply zb|apply zc)) hb);clear hb hbox hg;have hcz3_0 : w2.cell? ⟨gb318,0,none⟩=some (.int .i64 a0_0):=(zz BK318.out 0).trans rfl;have hcz3_1 : w2.cell? ⟨gb318,1,none⟩=some (.int .i64 a0_1):=(zz BK318.out 1).trans rfl;have hcz3_2 : w2.cell? ⟨gb318,2,none⟩=some (.string a0_2):=(zz BK318.out 2).trans rfl;have hfz3_0:=zA BK318.out 0;have hfz3_1:=zA BK318.out 1;have hfz3_2:=zA BK318.out 2)|((with_reducible refine zK (N:=9) rfl ?_);refine zI ?hg (N:=9) ?hd (cs:=#[.string a0_2,.bool false]) (t:=108) ?hr ?_;(case hd => rfl);(case hg => rfl);(case hr => first|(go_simp;done)|(go_simp;rfl));intro gb319 hg w4 hbox hb;have BK319:=zh (hbox);have GW319:=zh ((by rw [hg];exact (zB (by repeat (with_reducible first|exact HB.out|apply za|apply zb|apply zc|refine zd ?_ GE318.out))) : w.heap.size≤gb319));have GE319:=zh ((by rw [hg];exact (zB (by repeat (with_reducible first|exact HB.out|apply za|apply zb|apply zc|refine zd ?_ GE318.out))) : w.heap.size≤gb319));replace HB:=zh (zC (by repeat (with_reducible first|exact HB.out|apply za|apply zb|apply zc|refine zd ?_ GE318.out)) hb);have NB318_319:=zh ((by rw [hg];exact yc (yi (g:=gb318) (o:=.cells #[.int .i64 a0_0,.int .i64 a0_1,.string a0_2] 39 (0,0)) (by (with_reducible repeat (first|refine ze ?_ _|refine zf ?_|refine zg ?_ _));exact BK318.out)) : gb318≠gb319));have NB319_318:=zh ((by rw [hg];exact yd (yi (g:=gb318) (o:=.cells #[.int .i64 a0_0,.int .i64 a0_1,.string a0_2] 39 (0,0)) (by (with_reducible repeat (first|refine ze ?_ _|refine zf ?_|refine zg ?_ _));exact BK318.out)) : gb319≠gb318));replace BK318:=zh (zD (g:=gb318) (o:=.cells #[.int .i64 a0_0,.int .i64 a0_1,.string a0_2] 39 (0,0)) (by (with_reducible repeat (first|refine ze ?_ _|refine zf ?_|refine zg ?_ _));exact BK318.out) hb);clear hb hbox hg)|((with_reducible refine zK (N:=10) rfl ?_);refine Kd.R_lit k92 _ 92 ?hg (N:=10) ?hd (xs:=([] : List (S92))) (inner:=[]) (ok:=fun _ => True) (okp:=fun _ => True) ?hr ?hp (fun _ hk => hk) trivial (Below.refl _ _) (ye _) (by simp) ?_;(case hd => rfl);(case hg => rfl);(case hr => first|(go_simp;done)|(go_simp;rfl));(case hp => exact (Reps.none _ _));intro v321 w5 ho6 hb hg_ hnew_;clear hg_ hnew_;(first|rw [← Ny320.out] at ho6|(simp only [Int.reduceToNat] at ho6;rw [← Ny320.out] at ho6));have HO322:=zh (yy ho6 (zB (by repeat (with_reducible first|exact HB.out|apply za|apply zb|apply zc|refine zd ?_ GE318.out|refine zd ?_ GE319.out))));replace BK318:=zh (zD (g:=gb318) (o:=.cells #[.int .i64 a0_0,.int .i64 a0_1,.string a0_2] 39 (0,0)) (by (with_reducible repeat (first|refine ze ?_ _|refine zf ?_|refine zg ?_ _));exact BK318.out) hb);replace BK319:=zh (zD (g:=gb319) (o:=.cells #[.string a0_2,.bool false] 108 (0,0)) (by (with_reducible repeat (first|refine ze ?_ _|refine zf ?_|refine zg ?_ _));exact BK319.out) hb);replace HB:=zh (zC (by repeat (with_reducible first|exact HB.out|apply za|apply zb|apply zc|refine zd ?_ GE318.out|refine zd ?_ GE319.out)) hb);clear hb ho6));try go_wp2_with (first|((with_reducible refine zK (N:=1) rfl ?_);refine zI ?hg (N:=1) ?hd (cs:=#[.int .i64 a0_0,.int .i64 a0_1,.string a0_2]) (t:=39) ?hr ?_;(case hd => rfl);(case hg => rfl);(case hr => first|(go_simp;done)|(go_simp;rfl));intro gb318 hg w2 hbox hb;have BK318:=zh (hbox);have GW318:=zh ((by rw [hg];exact (zB (by repeat (with_reducible first|exact HB.out|apply za|apply zb|apply zc))) : w.heap.size≤gb318));have GE318:=zh ((by rw [hg];exact (zB (by repeat (with_reducible first|exact HB.out|apply za|apply zb|apply zc))) : w.heap.size≤gb318));replace HB:=zh (zC (by repeat (with_reducible first|exact HB.out|apply za|apply zb|apply zc)) hb);clear hb hbox hg;have hcz3_0 : w2.cell? ⟨gb318,0,none⟩=some (.int .i64 a0_0):=(zz BK318.out 0).trans rfl;have hcz3_1 : w2.cell? ⟨gb318,1,none⟩=some (.int .i64 a0_1):=(zz BK318.out 1).trans rfl;have hcz3_2 : w2.cell? ⟨gb318,2,none⟩=some (.string a0_2):=(zz BK318.out 2).trans rfl;have hfz3_0:=zA BK318.out 0;have hfz3_1:=zA BK318.out 1;have hfz3_2:=zA BK318.out 2)|((with_reducible refine zK (N:=9) rfl ?_);refine zI ?hg (N:=9) ?hd (cs:=#[.string a0_2,.bool false]) (t:=108) ?hr ?_;(case hd => rfl);(case hg => rfl);(case hr => first|(go_simp;done)|(go_simp;rfl));intro gb319 hg w4 hbox hb;have BK319:=zh (hbox);have GW319:=zh ((by rw [hg];exact (zB (by repeat (with_reducible first|exact HB.out|apply za|apply zb|apply zc|refine zd ?_ GE318.out))) : w.heap.size≤gb319));have GE319:=zh ((by rw [hg];exact (zB (by repeat (with_reducible first|exact HB.out|apply za|apply zb|apply zc|refine zd ?_ GE318.out))) : w.heap.size≤gb319));replace HB:=zh (zC (by repeat (with_reducible first|exact HB.out|apply za|apply zb|apply zc|refine zd ?_ GE318.out)) hb);have NB318_319:=zh ((by rw [hg];exact yc (yi (g:=gb318) (o:=.cells #[.int .i64 a0_0,.int .i64 a0_1,.string a0_2] 39 (0,0)) (by (with_reducible repeat (first|refine ze ?_ _|refine zf ?_|refine zg ?_ _));exact BK318.out)) : gb318≠gb319));have NB319_318:=zh ((by rw [hg];exact yd (yi (g:=gb318) (o:=.cells #[.int .i64 a0_0,.int .i64 a0_1,.string a0_2] 39 (0,0)) (by (with_reducible repeat (first|refine ze ?_ _|refine zf ?_|refine zg ?_ _));exact BK318.out)) : gb319≠gb318));replace BK318:=zh (zD (g:=gb318) (o:=.cells #[.int .i64 a0_0,.int .i64 a0_1,.string a0_2] 39 (0,0)) (by (with_reducible repeat (first|refine ze ?_ _|refine zf ?_|refine zg ?_ _));exact BK318.out) hb);clear hb hbox hg)|((with_reducible refine zK (N:=10) rfl ?_);refine Kd.R_lit k92 _ 92 ?hg (N:=10) ?hd (xs:=([] : List (S92))) (inner:=[]) (ok:=fun _ => True) (okp:=fun _ => True) ?hr ?hp (fun _ hk => hk) trivial (Below.refl _ _) (ye _) (by simp) ?_;(case hd => rfl);(case hg => rfl);(case hr => first|(go_simp;done)|(go_simp;rfl));(case hp => exact (Reps.none _ _));intro v321 w5 ho6 hb hg_ hnew_;clear hg_ hnew_;(first|rw [← Ny320.out] at ho6|(simp only [Int.reduceToNat] at ho6;rw [← Ny320.out] at ho6));have HO322:=zh (yy ho6 (zB (by repeat (with_reducible first|exact HB.out|apply za|apply zb|apply zc|refine zd ?_ GE318.out|refine zd ?_ GE319.out))));replace BK318:=zh (zD (g:=gb318) (o:=.cells #[.int .i64 a0_0,.int .i64 a0_1,.string a0_2] 39 (0,0)) (by (with_reducible repeat (first|refine ze ?_ _|refine zf ?_|refine zg ?_ _));exact BK318.out) hb);replace BK319:=zh (zD (g:=gb319) (o:=.cells #[.string a0_2,.bool false] 108 (0,0)) (by (with_reducible repeat (first|refine ze ?_ _|refine zf ?_|refine zg ?_ _));exact BK319.out) hb);replace HB:=zh (zC (by repeat (with_reducible first|exact HB.out|apply za|apply zb|apply zc|refine zd ?_ GE318.out|refine zd ?_ GE319.out)) hb);clear hb ho6)))
 go_loopg [5] k (fun kq v5 w' => ∃ (x5_1 : List (S92)) (x320000_1 : ByteArray) (x320001_1 : Bool),Aside0 (impl_fields.l0 kq x5_1 x320000_1 x320001_1=some (r1,r2))∧Aside0 (kq≤k)∧Aside0 (Kd.R k92 92 w' w.heap.size (fun _ => True) v5 x5_1)∧Aside0 (w'.heap[gb318]? = some (.cells #[.int .i64 a0_0,.int .i64 a0_1,.string a0_2] 39 (0,0)))∧Aside0 (w'.heap[gb319]? = some (.cells #[.string x320000_1,.bool x320001_1] 108 (0,0)))∧Aside0 (Below w.heap.size w w'))
 case atStart => exact ⟨(y320),(a0_2),(false),H',⟨ye _⟩,⟨by (with_reducible repeat (first|apply zm|apply zn|apply zo));exact HO322.out⟩,⟨by (with_reducible repeat (first|refine ze ?_ _|refine zf ?_|refine zg ?_ _));exact BK318.out⟩,⟨by (with_reducible repeat (first|refine ze ?_ _|refine zf ?_|refine zg ?_ _));exact BK319.out⟩,⟨by repeat (with_reducible first|exact HB.out|apply za|apply zb|apply zc|refine zd ?_ GE318.out|refine zd ?_ GE319.out)⟩⟩
 case round =>
  clear H'
  try clear p2
  try clear hcz3_0
  try clear hcz3_1
  try clear hcz3_2
  try clear hfz3_0
  try clear hfz3_1
  try clear hfz3_2
  obtain ⟨x5_1,x320000_1,x320001_1,HA,HK1,HO_5,BK318,BK319,HB⟩:=hrel
  cases gk with
  | zero => exact absurd HA.out (by simp [impl_fields.l0])
  | succ k1 =>
   have H:=HA.out;clear HA;simp only [impl_fields.l0] at H;have HC7:=zh H;clear H
   go_upto_region 2 with (fail)
   repeat (go_quiet (fail);go_upto_region 2 with (fail))
   go_cut [22] (fun v22 wc => ∃ (kq : Nat) (x22_6 : Bool),v22 = .bool x22_6∧Aside0 (impl_fields.j1 kq x5_1 x22_6 x320000_1 x320001_1=some (r1,r2))∧Aside0 (kq≤k1)∧Aside0 (Kd.R k92 92 wc w.heap.size (fun _ => True) u5 x5_1)∧Aside0 (wc.heap[gb318]? = some (.cells #[.int .i64 a0_0,.int .i64 a0_1,.string a0_2] 39 (0,0)))∧Aside0 (wc.heap[gb319]? = some (.cells #[.string x320000_1,.bool x320001_1] 108 (0,0)))∧Aside0 (Below w.heap.size w wc))
   case first =>
    have H:=HC7.out;clear HC7
    by_cases c8 : x320000_1.toList=([] : List UInt8)
    ·
     rw [if_pos c8] at H
     have c8b0 : (x320000_1.toList == ([] : List UInt8))=true:=ya.mpr c8;have c8b1 : (x320000_1.toList != ([] : List UInt8))=false:=zX.mpr c8;clear c8;(first|rw [c8b0]|(simp only [zG,zH];rw [c8b0])|skip);have H':=zh H;clear H;have hnb9:=NB319_318.out;have hnc9:=NB318_319.out;have hcz10_0 : wr.cell? ⟨gb319,0,none⟩=some (.string x320000_1):=(zz BK319.out 0).trans rfl;have hcz10_1 : wr.cell? ⟨gb319,1,none⟩=some (.bool x320001_1):=(zz BK319.out 1).trans rfl;have hfz10_0:=zA BK319.out 0;have hfz10_1:=zA BK319.out 1
     go_wp2
     repeat (go_quiet (fail);try go_wp2)
     go_meet
     case rel => exact ⟨_,(false),(by first|rfl|(simp;done)|(simp [*];done)),H',⟨by have:=HK1.out;first|omega|exact ye _⟩,⟨by (with_reducible repeat (first|apply zm|apply zn|apply zo));exact HO_5.out⟩,⟨by (with_reducible repeat (first|refine ze ?_ _|refine zf ?_|refine zg ?_ _));exact BK318.out⟩,⟨by (with_reducible repeat (first|refine ze ?_ _|refine zf ?_|refine zg ?_ _));exact BK319.out⟩,⟨by repeat (with_reducible first|exact HB.out|apply za|apply zb|apply zc|refine zd ?_ GE318.out|refine zd ?_ GE319.out)⟩⟩
    rw [if_neg c8] at H;have c8b0 : (x320000_1.toList == ([] : List UInt8))=false:=zY.mpr c8;have c8b1 : (x320000_1.toList != ([] : List UInt8))=true:=zZ.mpr c8;(first|rw [c8b0]|(simp only [zG,zH];rw [c8b0])|skip);have H':=zh H;clear H;have hnb11:=NB319_318.out;have hnc11:=NB318_319.out;have hcz12_0 : wr.cell? ⟨gb319,0,none⟩=some (.string x320000_1):=(zz BK319.out 0).trans rfl;have hcz12_1 : wr.cell? ⟨gb319,1,none⟩=some (.bool x320001_1):=(zz BK319.out 1).trans rfl;have hfz12_0:=zA BK319.out 0;have hfz12_1:=zA BK319.out 1
    go_wp2
    repeat (go_quiet (fail);try go_wp2)
    go_meet
    case rel => exact ⟨_,(!x320001_1),(by first|rfl|(simp;done)|(simp [*];done)),H',⟨by have:=HK1.out;first|omega|exact ye _⟩,⟨by (with_reducible repeat (first|apply zm|apply zn|apply zo));exact HO_5.out⟩,⟨by (with_reducible repeat (first|refine ze ?_ _|refine zf ?_|refine zg ?_ _));exact BK318.out⟩,⟨by (with_reducible repeat (first|refine ze ?_ _|refine zf ?_|refine zg ?_ _));exact BK319.out⟩,⟨by repeat (with_reducible first|exact HB.out|apply za|apply zb|apply zc|refine zd ?_ GE318.out|refine zd ?_ GE319.out)⟩⟩
   case rest =>
    clear HC7
    try clear c1
    try clear p2
    try clear c8
    try clear c8b0
    try clear c8b1
    try clear c9
    try clear c11
    try clear hcz10_0
    try clear hcz10_1
    try clear hcz12_0
    try clear hcz12_1
    try clear hcz3_0
    try clear hcz3_1
    try clear hcz3_2
    try clear hfz10_0
    try clear hfz10_1
    try clear hfz12_0
    try clear hfz12_1
    try clear hfz3_0
    try clear hfz3_1
    try clear hfz3_2
    try clear p2
    obtain ⟨kq,x22_6,rfl,HA,HJ6,HO_5,BK318,BK319,HB⟩:=hcut
    cases kq with
    | zero => exact absurd HA.out (by simp [impl_fields.j1])
    | succ kj6 =>
     have H:=HA.out;clear HA;simp only [impl_fields.j1] at H
     by_cases c13 : x22_6=true
     ·
      subst c13
      have H1 : ((impl_byteReader_num.f kj6 x320000_1 x320001_1 1).bind fun bt323 => ((impl_byteReader_take.f bt323.2.1 bt323.2.2 bt323.1).bind fun bt326 => ((impl_byteReader_value.f kj6 bt326.2.1 bt326.2.2).bind fun bt329 => (if x5_1.length<2932031007402 then (impl_fields.l0 kj6 (x5_1 ++ [(⟨bt326.1,(⟨bt329.1,bt329.2.1,bt329.2.2.1⟩ : S39)⟩ : S92)]) bt329.2.2.2.1 bt329.2.2.2.2) else (none)))))=some (r1,r2):=by rw [if_pos rfl] at H;exact H
      clear H;have H:=H1;clear H1;replace H:=zT.mp H;obtain ⟨⟨t323,t324,t325⟩,A140,H⟩:=H;replace H : ((impl_byteReader_take.f t324 t325 t323).bind fun bt326 => ((impl_byteReader_value.f kj6 bt326.2.1 bt326.2.2).bind fun bt329 => (if x5_1.length<2932031007402 then (impl_fields.l0 kj6 (x5_1 ++ [(⟨bt326.1,(⟨bt329.1,bt329.2.1,bt329.2.2.1⟩ : S39)⟩ : S92)]) bt329.2.2.2.1 bt329.2.2.2.2) else (none))))=some (r1,r2):=H;have A14:=zh A140;clear A140;replace H:=zT.mp H;obtain ⟨⟨t326,t327,t328⟩,A150,H⟩:=H;replace H : ((impl_byteReader_value.f kj6 t327 t328).bind fun bt329 => (if x5_1.length<2932031007402 then (impl_fields.l0 kj6 (x5_1 ++ [(⟨t326,(⟨bt329.1,bt329.2.1,bt329.2.2.1⟩ : S39)⟩ : S92)]) bt329.2.2.2.1 bt329.2.2.2.2) else (none)))=some (r1,r2):=H;have A15:=zh A150;clear A150;replace H:=zT.mp H;obtain ⟨⟨t329,t330,t331,t332,t333⟩,A160,H⟩:=H;replace H : (if x5_1.length<2932031007402 then (impl_fields.l0 kj6 (x5_1 ++ [(⟨t326,(⟨t329,t330,t331⟩ : S39)⟩ : S92)]) t332 t333) else (none))=some (r1,r2):=H;have A16:=zh A160;clear A160
      by_cases c17 : x5_1.length<2932031007402
      ·
       rw [if_pos c17] at H
       have LMc17:=zh c17;clear c17;obtain ⟨y334,hy334⟩ : ∃ y_ : List (S92),y_=(x5_1 ++ [(⟨t326,(⟨t329,t330,t331⟩ : S39)⟩ : S92)]):=⟨_,rfl⟩;replace H : (impl_fields.l0 kj6 y334 t332 t333)=some (r1,r2):=by first|(rw [hy334];with_reducible exact H)|(have H2_:=(Option.bind_some _ _).symm.trans H;rw [hy334];with_reducible exact H2_)|(have H2_:=(Option.bind_some _ _).symm.trans H;with_reducible exact H2_)|with_reducible exact H|(rw [hy334];exact H)|exact H
       have Ny334:=zh hy334;clear hy334;have H':=zh H;clear H;have HI319:=zh (show IsS108 w wc gb319 x320000_1 x320001_1 from ⟨BK319.out,GE319.out⟩)
       go_wp2_with (first|(go_at_call 94;(with_reducible refine (impl_byteReader_num.calls kj6  gb319 x320000_1 x320001_1 1 t323 t324 t325 w _ ?side1 ?side2 A14.out).mono ?_);(case side1 => repeat (with_reducible first|exact HI319.out|apply IsS108.alloc|apply IsS108.drewN|apply IsS108.drew|apply IsS108.set_0|apply IsS108.set_1|refine IsS108.far ?_ NB319_318.out _));(case side2 => repeat (with_reducible first|exact HB.out|apply za|apply zb|apply zc|refine zd ?_ (IsS108.ge HI319.out)|refine zd ?_ GE318.out));rintro e w18 ⟨rfl,hi,hb,hk⟩;replace HO_5:=zh (zM (Kd.R_keep (IsS108.apart (show IsS108 w _ gb319 x320000_1 x320001_1 from by repeat (with_reducible first|exact HI319.out|apply IsS108.alloc|apply IsS108.drewN|apply IsS108.drew|apply IsS108.set_0|apply IsS108.set_1|refine IsS108.far ?_ NB319_318.out _)) (by (with_reducible repeat (first|apply zm|apply zn|apply zo));exact HO_5.out) (by decide)) hk (fun _ h => h.2)) (fun _ h => h.1));replace BK318:=zh (KeepBut.blk hk (g':=gb318) (o:=.cells #[.int .i64 a0_0,.int .i64 a0_1,.string a0_2] 39 (0,0)) (by (with_reducible repeat (first|refine ze ?_ _|refine zf ?_|refine zg ?_ _));exact BK318.out) NB318_319.out (by simp));replace HB:=zh (hb);replace BK319:=zh ((show _∧_ from hi).1);clear HI319;(try clear hb);(try clear hb2);(try clear hk);(try clear hi);have HI319:=zh (show IsS108 w w18 gb319 t324 t325 from ⟨BK319.out,GE319.out⟩))|(go_at_call 93;(with_reducible refine (impl_byteReader_take.calls  gb319 t324 t325 t323 t326 t327 t328 w _ ?side1 ?side2 A15.out).mono ?_);(case side1 => repeat (with_reducible first|exact HI319.out|apply IsS108.alloc|apply IsS108.drewN|apply IsS108.drew|apply IsS108.set_0|apply IsS108.set_1|refine IsS108.far ?_ NB319_318.out _));(case side2 => repeat (with_reducible first|exact HB.out|apply za|apply zb|apply zc|refine zd ?_ (IsS108.ge HI319.out)|refine zd ?_ GE318.out));rintro e w19 ⟨rfl,hi,hb,hk⟩;replace HO_5:=zh (zM (Kd.R_keep (IsS108.apart (show IsS108 w _ gb319 t324 t325 from by repeat (with_reducible first|exact HI319.out|apply IsS108.alloc|apply IsS108.drewN|apply IsS108.drew|apply IsS108.set_0|apply IsS108.set_1|refine IsS108.far ?_ NB319_318.out _)) (by (with_reducible repeat (first|apply zm|apply zn|apply zo));exact HO_5.out) (by decide)) hk (fun _ h => h.2)) (fun _ h => h.1));replace BK318:=zh (KeepBut.blk hk (g':=gb318) (o:=.cells #[.int .i64 a0_0,.int .i64 a0_1,.string a0_2] 39 (0,0)) (by (with_reducible repeat (first|refine ze ?_ _|refine zf ?_|refine zg ?_ _));exact BK318.out) NB318_319.out (by simp));replace HB:=zh (hb);replace BK319:=zh ((show _∧_ from hi).1);clear HI319;(try clear hb);(try clear hb2);(try clear hk);(try clear hi);have HI319:=zh (show IsS108 w w19 gb319 t327 t328 from ⟨BK319.out,GE319.out⟩))|(go_at_call 86;(with_reducible refine (impl_byteReader_value.calls kj6  gb319 t327 t328 t329 t330 t331 t332 t333 w _ ?side1 ?side2 A16.out).mono ?_);(case side1 => repeat (with_reducible first|exact HI319.out|apply IsS108.alloc|apply IsS108.drewN|apply IsS108.drew|apply IsS108.set_0|apply IsS108.set_1|refine IsS108.far ?_ NB319_318.out _));(case side2 => repeat (with_reducible first|exact HB.out|apply za|apply zb|apply zc|refine zd ?_ (IsS108.ge HI319.out)|refine zd ?_ GE318.out));rintro e w20 ⟨rfl,hi,hb,hk⟩;replace HO_5:=zh (zM (Kd.R_keep (IsS108.apart (show IsS108 w _ gb319 t327 t328 from by repeat (with_reducible first|exact HI319.out|apply IsS108.alloc|apply IsS108.drewN|apply IsS108.drew|apply IsS108.set_0|apply IsS108.set_1|refine IsS108.far ?_ NB319_318.out _)) (by (with_reducible repeat (first|apply zm|apply zn|apply zo));exact HO_5.out) (by decide)) hk (fun _ h => h.2)) (fun _ h => h.1));replace BK318:=zh (KeepBut.blk hk (g':=gb318) (o:=.cells #[.int .i64 a0_0,.int .i64 a0_1,.string a0_2] 39 (0,0)) (by (with_reducible repeat (first|refine ze ?_ _|refine zf ?_|refine zg ?_ _));exact BK318.out) NB318_319.out (by simp));replace HB:=zh (hb);replace BK319:=zh ((show _∧_ from hi).1);clear HI319;(try clear hb);(try clear hb2);(try clear hk);(try clear hi))|((with_reducible refine yB (b:=.append) (xs:=#[.tmp 23,.tmp 31]) rfl ?_);at_builtin;refine Kd.R_append k92 (w0:=w) w.heap.size rfl (.tmp 23) (.tmp 31) 88 92 (.agg #[(.string ⟨#[]⟩),(.int .i64 0),(.int .i64 0),(.string ⟨#[]⟩)]) 48 rfl Tryd.underlying88 info92 rfl (by decide) (by omega) u5 x5_1 (⟨t326,(⟨t329,t330,t331⟩ : S39)⟩ : S92) [.string t326,.int .i64 t329,.int .i64 t330,.string t331] (fun _ => True) (fun _ => False) rfl rfl ?aP (fun _ hk => hk.elim) ?aF ?aO ?aB ?aS ?aL ?_;(case aP => exact k92_mkM _ _ _ (⟨t326,(⟨t329,t330,t331⟩ : S39)⟩ : S92));(case aB => exact (by repeat (with_reducible first|exact HB.out|apply za|apply zb|apply zc|refine zd ?_ GE318.out|refine zd ?_ GE319.out)));(case aF => exact (fun _ _ => trivial));(case aO => exact (by (with_reducible repeat (first|apply zm|apply zn|apply zo));exact HO_5.out));(case aS => exact (zB (by repeat (with_reducible first|exact HB.out|apply za|apply zb|apply zc|refine zd ?_ GE318.out|refine zd ?_ GE319.out))));(case aL => have:=LMc17.out;omega);intro v335 w21 ho hb hg hat;rw [← Ny334.out] at ho;replace BK318:=zh (yw (g:=gb318) (o:=.cells #[.int .i64 a0_0,.int .i64 a0_1,.string a0_2] 39 (0,0)) (by (with_reducible repeat (first|refine ze ?_ _|refine zf ?_|refine zg ?_ _));exact BK318.out) hg (Kd.R_ne HO_5.out BK318.out (by decide)));replace BK319:=zh (yw (g:=gb319) (o:=.cells #[.string t332,.bool t333] 108 (0,0)) (by (with_reducible repeat (first|refine ze ?_ _|refine zf ?_|refine zg ?_ _));exact BK319.out) hg (Kd.R_ne HO_5.out BK319.out (by decide)));replace HB:=zh (hb);have HO336:=zh (ho);clear HO_5 ho hb hg hat))
       repeat (go_quiet (first|(go_at_call 94;(with_reducible refine (impl_byteReader_num.calls kj6  gb319 x320000_1 x320001_1 1 t323 t324 t325 w _ ?side1 ?side2 A14.out).mono ?_);(case side1 => repeat (with_reducible first|exact HI319.out|apply IsS108.alloc|apply IsS108.drewN|apply IsS108.drew|apply IsS108.set_0|apply IsS108.set_1|refine IsS108.far ?_ NB319_318.out _));(case side2 => repeat (with_reducible first|exact HB.out|apply za|apply zb|apply zc|refine zd ?_ (IsS108.ge HI319.out)|refine zd ?_ GE318.out));rintro e w18 ⟨rfl,hi,hb,hk⟩;replace HO_5:=zh (zM (Kd.R_keep (IsS108.apart (show IsS108 w _ gb319 x320000_1 x320001_1 from by repeat (with_reducible first|exact HI319.out|apply IsS108.alloc|apply IsS108.drewN|apply IsS108.drew|apply IsS108.set_0|apply IsS108.set_1|refine IsS108.far ?_ NB319_318.out _)) (by (with_reducible repeat (first|apply zm|apply zn|apply zo));exact HO_5.out) (by decide)) hk (fun _ h => h.2)) (fun _ h => h.1));replace BK318:=zh (KeepBut.blk hk (g':=gb318) (o:=.cells #[.int .i64 a0_0,.int .i64 a0_1,.string a0_2] 39 (0,0)) (by (with_reducible repeat (first|refine ze ?_ _|refine zf ?_|refine zg ?_ _));exact BK318.out) NB318_319.out (by simp));replace HB:=zh (hb);replace BK319:=zh ((show _∧_ from hi).1);clear HI319;(try clear hb);(try clear hb2);(try clear hk);(try clear hi);have HI319:=zh (show IsS108 w w18 gb319 t324 t325 from ⟨BK319.out,GE319.out⟩))|(go_at_call 93;(with_reducible refine (impl_byteReader_take.calls  gb319 t324 t325 t323 t326 t327 t328 w _ ?side1 ?side2 A15.out).mono ?_);(case side1 => repeat (with_reducible first|exact HI319.out|apply IsS108.alloc|apply IsS108.drewN|apply IsS108.drew|apply IsS108.set_0|apply IsS108.set_1|refine IsS108.far ?_ NB319_318.out _));(case side2 => repeat (with_reducible first|exact HB.out|apply za|apply zb|apply zc|refine zd ?_ (IsS108.ge HI319.out)|refine zd ?_ GE318.out));rintro e w19 ⟨rfl,hi,hb,hk⟩;replace HO_5:=zh (zM (Kd.R_keep (IsS108.apart (show IsS108 w _ gb319 t324 t325 from by repeat (with_reducible first|exact HI319.out|apply IsS108.alloc|apply IsS108.drewN|apply IsS108.drew|apply IsS108.set_0|apply IsS108.set_1|refine IsS108.far ?_ NB319_318.out _)) (by (with_reducible repeat (first|apply zm|apply zn|apply zo));exact HO_5.out) (by decide)) hk (fun _ h => h.2)) (fun _ h => h.1));replace BK318:=zh (KeepBut.blk hk (g':=gb318) (o:=.cells #[.int .i64 a0_0,.int .i64 a0_1,.string a0_2] 39 (0,0)) (by (with_reducible repeat (first|refine ze ?_ _|refine zf ?_|refine zg ?_ _));exact BK318.out) NB318_319.out (by simp));replace HB:=zh (hb);replace BK319:=zh ((show _∧_ from hi).1);clear HI319;(try clear hb);(try clear hb2);(try clear hk);(try clear hi);have HI319:=zh (show IsS108 w w19 gb319 t327 t328 from ⟨BK319.out,GE319.out⟩))|(go_at_call 86;(with_reducible refine (impl_byteReader_value.calls kj6  gb319 t327 t328 t329 t330 t331 t332 t333 w _ ?side1 ?side2 A16.out).mono ?_);(case side1 => repeat (with_reducible first|exact HI319.out|apply IsS108.alloc|apply IsS108.drewN|apply IsS108.drew|apply IsS108.set_0|apply IsS108.set_1|refine IsS108.far ?_ NB319_318.out _));(case side2 => repeat (with_reducible first|exact HB.out|apply za|apply zb|apply zc|refine zd ?_ (IsS108.ge HI319.out)|refine zd ?_ GE318.out));rintro e w20 ⟨rfl,hi,hb,hk⟩;replace HO_5:=zh (zM (Kd.R_keep (IsS108.apart (show IsS108 w _ gb319 t327 t328 from by repeat (with_reducible first|exact HI319.out|apply IsS108.alloc|apply IsS108.drewN|apply IsS108.drew|apply IsS108.set_0|apply IsS108.set_1|refine IsS108.far ?_ NB319_318.out _)) (by (with_reducible repeat (first|apply zm|apply zn|apply zo));exact HO_5.out) (by decide)) hk (fun _ h => h.2)) (fun _ h => h.1));replace BK318:=zh (KeepBut.blk hk (g':=gb318) (o:=.cells #[.int .i64 a0_0,.int .i64 a0_1,.string a0_2] 39 (0,0)) (by (with_reducible repeat (first|refine ze ?_ _|refine zf ?_|refine zg ?_ _));exact BK318.out) NB318_319.out (by simp));replace HB:=zh (hb);replace BK319:=zh ((show _∧_ from hi).1);clear HI319;(try clear hb);(try clear hb2);(try clear hk);(try clear hi))|((with_reducible refine yB (b:=.append) (xs:=#[.tmp 23,.tmp 31]) rfl ?_);at_builtin;refine Kd.R_append k92 (w0:=w) w.heap.size rfl (.tmp 23) (.tmp 31) 88 92 (.agg #[(.string ⟨#[]⟩),(.int .i64 0),(.int .i64 0),(.string ⟨#[]⟩)]) 48 rfl Tryd.underlying88 info92 rfl (by decide) (by omega) u5 x5_1 (⟨t326,(⟨t329,t330,t331⟩ : S39)⟩ : S92) [.string t326,.int .i64 t329,.int .i64 t330,.string t331] (fun _ => True) (fun _ => False) rfl rfl ?aP (fun _ hk => hk.elim) ?aF ?aO ?aB ?aS ?aL ?_;(case aP => exact k92_mkM _ _ _ (⟨t326,(⟨t329,t330,t331⟩ : S39)⟩ : S92));(case aB => exact (by repeat (with_reducible first|exact HB.out|apply za|apply zb|apply zc|refine zd ?_ GE318.out|refine zd ?_ GE319.out)));(case aF => exact (fun _ _ => trivial));(case aO => exact (by (with_reducible repeat (first|apply zm|apply zn|apply zo));exact HO_5.out));(case aS => exact (zB (by repeat (with_reducible first|exact HB.out|apply za|apply zb|apply zc|refine zd ?_ GE318.out|refine zd ?_ GE319.out))));(case aL => have:=LMc17.out;omega);intro v335 w21 ho hb hg hat;rw [← Ny334.out] at ho;replace BK318:=zh (yw (g:=gb318) (o:=.cells #[.int .i64 a0_0,.int .i64 a0_1,.string a0_2] 39 (0,0)) (by (with_reducible repeat (first|refine ze ?_ _|refine zf ?_|refine zg ?_ _));exact BK318.out) hg (Kd.R_ne HO_5.out BK318.out (by decide)));replace BK319:=zh (yw (g:=gb319) (o:=.cells #[.string t332,.bool t333] 108 (0,0)) (by (with_reducible repeat (first|refine ze ?_ _|refine zf ?_|refine zg ?_ _));exact BK319.out) hg (Kd.R_ne HO_5.out BK319.out (by decide)));replace HB:=zh (hb);have HO336:=zh (ho);clear HO_5 ho hb hg hat));try go_wp2_with (first|(go_at_call 94;(with_reducible refine (impl_byteReader_num.calls kj6  gb319 x320000_1 x320001_1 1 t323 t324 t325 w _ ?side1 ?side2 A14.out).mono ?_);(case side1 => repeat (with_reducible first|exact HI319.out|apply IsS108.alloc|apply IsS108.drewN|apply IsS108.drew|apply IsS108.set_0|apply IsS108.set_1|refine IsS108.far ?_ NB319_318.out _));(case side2 => repeat (with_reducible first|exact HB.out|apply za|apply zb|apply zc|refine zd ?_ (IsS108.ge HI319.out)|refine zd ?_ GE318.out));rintro e w18 ⟨rfl,hi,hb,hk⟩;replace HO_5:=zh (zM (Kd.R_keep (IsS108.apart (show IsS108 w _ gb319 x320000_1 x320001_1 from by repeat (with_reducible first|exact HI319.out|apply IsS108.alloc|apply IsS108.drewN|apply IsS108.drew|apply IsS108.set_0|apply IsS108.set_1|refine IsS108.far ?_ NB319_318.out _)) (by (with_reducible repeat (first|apply zm|apply zn|apply zo));exact HO_5.out) (by decide)) hk (fun _ h => h.2)) (fun _ h => h.1));replace BK318:=zh (KeepBut.blk hk (g':=gb318) (o:=.cells #[.int .i64 a0_0,.int .i64 a0_1,.string a0_2] 39 (0,0)) (by (with_reducible repeat (first|refine ze ?_ _|refine zf ?_|refine zg ?_ _));exact BK318.out) NB318_319.out (by simp));replace HB:=zh (hb);replace BK319:=zh ((show _∧_ from hi).1);clear HI319;(try clear hb);(try clear hb2);(try clear hk);(try clear hi);have HI319:=zh (show IsS108 w w18 gb319 t324 t325 from ⟨BK319.out,GE319.out⟩))|(go_at_call 93;(with_reducible refine (impl_byteReader_take.calls  gb319 t324 t325 t323 t326 t327 t328 w _ ?side1 ?side2 A15.out).mono ?_);(case side1 => repeat (with_reducible first|exact HI319.out|apply IsS108.alloc|apply IsS108.drewN|apply IsS108.drew|apply IsS108.set_0|apply IsS108.set_1|refine IsS108.far ?_ NB319_318.out _));(case side2 => repeat (with_reducible first|exact HB.out|apply za|apply zb|apply zc|refine zd ?_ (IsS108.ge HI319.out)|refine zd ?_ GE318.out));rintro e w19 ⟨rfl,hi,hb,hk⟩;replace HO_5:=zh (zM (Kd.R_keep (IsS108.apart (show IsS108 w _ gb319 t324 t325 from by repeat (with_reducible first|exact HI319.out|apply IsS108.alloc|apply IsS108.drewN|apply IsS108.drew|apply IsS108.set_0|apply IsS108.set_1|refine IsS108.far ?_ NB319_318.out _)) (by (with_reducible repeat (first|apply zm|apply zn|apply zo));exact HO_5.out) (by decide)) hk (fun _ h => h.2)) (fun _ h => h.1));replace BK318:=zh (KeepBut.blk hk (g':=gb318) (o:=.cells #[.int .i64 a0_0,.int .i64 a0_1,.string a0_2] 39 (0,0)) (by (with_reducible repeat (first|refine ze ?_ _|refine zf ?_|refine zg ?_ _));exact BK318.out) NB318_319.out (by simp));replace HB:=zh (hb);replace BK319:=zh ((show _∧_ from hi).1);clear HI319;(try clear hb);(try clear hb2);(try clear hk);(try clear hi);have HI319:=zh (show IsS108 w w19 gb319 t327 t328 from ⟨BK319.out,GE319.out⟩))|(go_at_call 86;(with_reducible refine (impl_byteReader_value.calls kj6  gb319 t327 t328 t329 t330 t331 t332 t333 w _ ?side1 ?side2 A16.out).mono ?_);(case side1 => repeat (with_reducible first|exact HI319.out|apply IsS108.alloc|apply IsS108.drewN|apply IsS108.drew|apply IsS108.set_0|apply IsS108.set_1|refine IsS108.far ?_ NB319_318.out _));(case side2 => repeat (with_reducible first|exact HB.out|apply za|apply zb|apply zc|refine zd ?_ (IsS108.ge HI319.out)|refine zd ?_ GE318.out));rintro e w20 ⟨rfl,hi,hb,hk⟩;replace HO_5:=zh (zM (Kd.R_keep (IsS108.apart (show IsS108 w _ gb319 t327 t328 from by repeat (with_reducible first|exact HI319.out|apply IsS108.alloc|apply IsS108.drewN|apply IsS108.drew|apply IsS108.set_0|apply IsS108.set_1|refine IsS108.far ?_ NB319_318.out _)) (by (with_reducible repeat (first|apply zm|apply zn|apply zo));exact HO_5.out) (by decide)) hk (fun _ h => h.2)) (fun _ h => h.1));replace BK318:=zh (KeepBut.blk hk (g':=gb318) (o:=.cells #[.int .i64 a0_0,.int .i64 a0_1,.string a0_2] 39 (0,0)) (by (with_reducible repeat (first|refine ze ?_ _|refine zf ?_|refine zg ?_ _));exact BK318.out) NB318_319.out (by simp));replace HB:=zh (hb);replace BK319:=zh ((show _∧_ from hi).1);clear HI319;(try clear hb);(try clear hb2);(try clear hk);(try clear hi))|((with_reducible refine yB (b:=.append) (xs:=#[.tmp 23,.tmp 31]) rfl ?_);at_builtin;refine Kd.R_append k92 (w0:=w) w.heap.size rfl (.tmp 23) (.tmp 31) 88 92 (.agg #[(.string ⟨#[]⟩),(.int .i64 0),(.int .i64 0),(.string ⟨#[]⟩)]) 48 rfl Tryd.underlying88 info92 rfl (by decide) (by omega) u5 x5_1 (⟨t326,(⟨t329,t330,t331⟩ : S39)⟩ : S92) [.string t326,.int .i64 t329,.int .i64 t330,.string t331] (fun _ => True) (fun _ => False) rfl rfl ?aP (fun _ hk => hk.elim) ?aF ?aO ?aB ?aS ?aL ?_;(case aP => exact k92_mkM _ _ _ (⟨t326,(⟨t329,t330,t331⟩ : S39)⟩ : S92));(case aB => exact (by repeat (with_reducible first|exact HB.out|apply za|apply zb|apply zc|refine zd ?_ GE318.out|refine zd ?_ GE319.out)));(case aF => exact (fun _ _ => trivial));(case aO => exact (by (with_reducible repeat (first|apply zm|apply zn|apply zo));exact HO_5.out));(case aS => exact (zB (by repeat (with_reducible first|exact HB.out|apply za|apply zb|apply zc|refine zd ?_ GE318.out|refine zd ?_ GE319.out))));(case aL => have:=LMc17.out;omega);intro v335 w21 ho hb hg hat;rw [← Ny334.out] at ho;replace BK318:=zh (yw (g:=gb318) (o:=.cells #[.int .i64 a0_0,.int .i64 a0_1,.string a0_2] 39 (0,0)) (by (with_reducible repeat (first|refine ze ?_ _|refine zf ?_|refine zg ?_ _));exact BK318.out) hg (Kd.R_ne HO_5.out BK318.out (by decide)));replace BK319:=zh (yw (g:=gb319) (o:=.cells #[.string t332,.bool t333] 108 (0,0)) (by (with_reducible repeat (first|refine ze ?_ _|refine zf ?_|refine zg ?_ _));exact BK319.out) hg (Kd.R_ne HO_5.out BK319.out (by decide)));replace HB:=zh (hb);have HO336:=zh (ho);clear HO_5 ho hb hg hat)))
       go_roundg kj6
       case measure => have:=HK1.out;have:=HJ6.out;omega
       case rel => exact ⟨(y334),(t332),(t333),H',⟨by have:=HK1.out;have:=HJ6.out;omega⟩,⟨by (with_reducible repeat (first|apply zm|apply zn|apply zo));exact HO336.out⟩,⟨by (with_reducible repeat (first|refine ze ?_ _|refine zf ?_|refine zg ?_ _));exact BK318.out⟩,⟨by (with_reducible repeat (first|refine ze ?_ _|refine zf ?_|refine zg ?_ _));exact BK319.out⟩,⟨by repeat (with_reducible first|exact HB.out|apply za|apply zb|apply zc|refine zd ?_ GE318.out|refine zd ?_ GE319.out)⟩⟩
      rw [if_neg c17] at H;exact absurd H (by simp)
     replace c13:=yb.mpr c13;subst c13;have H1 : (some (x5_1,!x320001_1))=some (r1,r2):=by rw [if_neg (show ¬ (false=true) by decide)] at H;exact H
     clear H;have H:=H1;clear H1;simp only [Option.some.injEq,Prod.mk.injEq] at H;obtain ⟨rfl,rfl⟩:=H;have hnb22:=NB319_318.out;have hnc22:=NB318_319.out;have hcz23_0 : wc.cell? ⟨gb319,0,none⟩=some (.string x320000_1):=(zz BK319.out 0).trans rfl;have hcz23_1 : wc.cell? ⟨gb319,1,none⟩=some (.bool x320001_1):=(zz BK319.out 1).trans rfl;have hfz23_0:=zA BK319.out 0;have hfz23_1:=zA BK319.out 1
     go_wp2
     repeat (go_quiet (fail);try go_wp2)
     go_ret2
     exact ⟨_,by first|rfl|(simp [yt,yu] <;> rfl)|(simp [*,yt,yu] <;> rfl),by (with_reducible repeat (first|apply zm|apply zn|apply zo));exact HO_5.out,by repeat (with_reducible first|exact HB.out|apply za|apply zb|apply zc|refine zd ?_ GE318.out|refine zd ?_ GE319.out)⟩

end Go.Proofs.YthjgfjlogilleaaDoor.Q
end
section
namespace Go.Proofs.YthjgfjlogilleaaDoor.Pure
open Go Go.RowKit Go.Proofs.YthjgfjlogilleaaDoor.Q Go.Proofs.YthjgfjlogilleaaDoorW.PrintWords Go.Proofs.YthjgfjlogilleaaDoorW.PrintLast Go.Proofs.YthjgfjlogilleaaDoorW.PrintMore Go.Proofs.YthjgfjlogilleaaDoorW.Pl
abbrev IFld:=S92
def itS : Nat→ByteArray→Option (List IVal)
 | 0,a => if a.size=0 then some [] else none
 | m + 1,a => if a.size=0 then some [] else match nxtV a with
  | none => none
  | some (v,r) => (itS m r).map (v :: ·)
def toldL (acc : List IVal) (o : Option (List IVal)) : List IVal×Bool:=match o with|some l => (acc ++ l,true)|none => ([],false)
def fdS : Nat→ByteArray→Option (List IFld)
 | 0,a => if a.size=0 then some [] else none
 | m + 1,a => if a.size=0 then some [] else if (a.size : Int)<1 + bt a 0 then none else match nxtV (a.extract (1 + bt a 0).toNat a.size) with
  | none => none
  | some (v,r) => (fdS m r).map ((⟨a.extract 1 (1 + bt a 0).toNat,v⟩ : IFld) :: ·)
def toldF (acc : List IFld) (o : Option (List IFld)) : List IFld×Bool:=match o with|some l => (acc ++ l,true)|none => ([],false)
def fdV (a : ByteArray) : ByteArray×Rd :=
 let q:=numV a false 1
 let t:=takV q.2.1 q.2.2 q.1.toNat
 (t.1,valV t.2.1 t.2.2)
def fdv (x : ByteArray×Rd) : IFld:=⟨x.1,rdv x.2⟩
end Go.Proofs.YthjgfjlogilleaaDoor.Pure
end
section
namespace Go.Proofs.YthjgfjlogilleaaDoor.Q
open Go.RowKit Go.Proofs.YthjgfjlogilleaaDoorW.PrintWords Go.Proofs.YthjgfjlogilleaaDoorW.PrintLast Go.Proofs.YthjgfjlogilleaaDoorW.PrintMore
attribute [local go_sem] max2_int min2_int max_two min_two max_three min_three max_four min_four max2_str min2_str str_geq str_gtr str_leq   -- for this text's walks alone
set_option linter.unusedVariables false
set_option linter.unusedSimpArgs false

mutual
def spec_l01OK.j0 : Nat→Int→List (S39)→Bool→Option (Bool)
 | 0,_,_,_ => none
 | k + 1,x1,x5,x78 => if x78=true then (some false) else (spec_l01OK.l0 k x1 x5 0)
def spec_l01OK.l0 : Nat→Int→List (S39)→Int→Option (Bool)
 | 0,_,_,_ => none
 | k + 1,x1,x5,x7 => if x7<(x5.length : Int) then (if 0≤x7 then ((spec_l01OK.f k ((rd_T39 x5 x7).f0) ((rd_T39 x5 x7).f1) ((rd_T39 x5 x7).f2) (wrap64 (x1 - 1))).bind fun t247 => (if t247=true then (spec_l01OK.l0 k x1 x5 (wrap64 (x7 + 1))) else (some false))) else (none)) else (some true)
def spec_l01OK.j2 : Nat→Int→List (S92)→Bool→Option (Bool)
 | 0,_,_,_ => none
 | k + 1,x1,x8,x117 => if x117=true then (some false) else (spec_l01OK.l1 k x1 x8 0)
def spec_l01OK.l1 : Nat→Int→List (S92)→Int→Option (Bool)
 | 0,_,_,_ => none
 | k + 1,x1,x8,x10 => if x10<(x8.length : Int) then (if 0≤x10 then ((spec_l01Name.f k ((rd_T92 x8 x10).f0)).bind fun t253 => (if t253=true then (if x10 > 0 then (if 0≤(wrap64 (x10 - 1)) then (if (wrap64 (x10 - 1))<(x8.length : Int) then (if ((Op.bytesLess (((rd_T92 x8 (wrap64 (x10 - 1))).f0).toList) (((rd_T92 x8 x10).f0).toList))=true) then ((spec_l01OK.f k ((rd_T92 x8 x10).f1.f0) ((rd_T92 x8 x10).f1.f1) ((rd_T92 x8 x10).f1.f2) (wrap64 (x1 - 1))).bind fun t257 => (if t257=true then (spec_l01OK.l1 k x1 x8 (wrap64 (x10 + 1))) else (some false))) else (some false)) else (none)) else (none)) else ((spec_l01OK.f k ((rd_T92 x8 x10).f1.f0) ((rd_T92 x8 x10).f1.f1) ((rd_T92 x8 x10).f1.f2) (wrap64 (x1 - 1))).bind fun t259 => (if t259=true then (spec_l01OK.l1 k x1 x8 (wrap64 (x10 + 1))) else (some false)))) else (some false))) else (none)) else (some true)
def spec_l01OK.f : Nat→Int→Int→ByteArray→Int→Option (Bool)
 | 0,_,_,_,_ => none
 | k + 1,a0_0,a0_1,a0_2,a1 => if a0_0=0 then (if a0_1=0 then (some (a0_2.toList == ([] : List UInt8))) else (some false)) else (if a0_0=1 then ((spec_l01In.f a0_1 0 1).bind fun t240 => (if t240=true then (some (a0_2.toList == ([] : List UInt8))) else (some false))) else (if a0_0=2 then ((spec_l01In.f a0_1 (-1000000000000) 1000000000000).bind fun t241 => (if t241=true then (some (a0_2.toList == ([] : List UInt8))) else (some false))) else (if a0_0=3 then (if a0_1=0 then (some (decide ((a0_2.size : Int)≤300))) else (some false)) else (if a0_0=4 then ((spec_l01Items.f k a0_2).bind fun bt242 => (if a0_1=0 then (if bt242.2=true then (if (a0_2.size : Int) > 300 then (spec_l01OK.j0 k a1 bt242.1 true) else (spec_l01OK.j0 k a1 bt242.1 (a1 == 0))) else (spec_l01OK.j0 k a1 bt242.1 true)) else (spec_l01OK.j0 k a1 bt242.1 true))) else (if a0_0=5 then ((spec_l01Fields.f k a0_2).bind fun bt248 => (if a0_1=0 then (if bt248.2=true then (if (a0_2.size : Int) > 300 then (spec_l01OK.j2 k a1 bt248.1 true) else (spec_l01OK.j2 k a1 bt248.1 (a1 == 0))) else (spec_l01OK.j2 k a1 bt248.1 true)) else (spec_l01OK.j2 k a1 bt248.1 true))) else (some false))))))
end
theorem spec_l01OK.mono_l : ∀ k,(∀ y0 y1 y2 y3,LeO (spec_l01OK.f k y0 y1 y2 y3) (spec_l01OK.f (k + 1) y0 y1 y2 y3))∧(∀ y0 y1 y2,LeO (spec_l01OK.j0 k y0 y1 y2) (spec_l01OK.j0 (k + 1) y0 y1 y2))∧(∀ y0 y1 y2,LeO (spec_l01OK.l0 k y0 y1 y2) (spec_l01OK.l0 (k + 1) y0 y1 y2))∧(∀ y0 y1 y2,LeO (spec_l01OK.j2 k y0 y1 y2) (spec_l01OK.j2 (k + 1) y0 y1 y2))∧(∀ y0 y1 y2,LeO (spec_l01OK.l1 k y0 y1 y2) (spec_l01OK.l1 (k + 1) y0 y1 y2))
 | 0 => ⟨fun _ _ _ _ r h => by simp [spec_l01OK.f] at h,fun _ _ _ r h => by simp [spec_l01OK.j0] at h,fun _ _ _ r h => by simp [spec_l01OK.l0] at h,fun _ _ _ r h => by simp [spec_l01OK.j2] at h,fun _ _ _ r h => by simp [spec_l01OK.l1] at h⟩
 | k + 1 => by
  obtain ⟨ih0,ih1,ih2,ih3,ih4⟩:=spec_l01OK.mono_l k;refine ⟨?_,?_,?_,?_,?_⟩
  ·
   intro y0 y1 y2 y3
   unfold spec_l01OK.f
   repeat' first|(with_reducible first|exact ih0 _ _ _ _|exact ih1 _ _ _|exact ih2 _ _ _|exact ih3 _ _ _|exact ih4 _ _ _|exact spec_l01Name.mono _ _|exact spec_l01Items.mono _ _|exact spec_l01Fields.mono _ _|exact zQ _|exact zN _|refine zP ?_ ?_|refine zO ?_ (fun _ => ?_))|refine zP ?_ ?_|refine zO ?_ (fun _ => ?_)
  ·
   intro y0 y1 y2
   unfold spec_l01OK.j0
   repeat' first|(with_reducible first|exact ih0 _ _ _ _|exact ih1 _ _ _|exact ih2 _ _ _|exact ih3 _ _ _|exact ih4 _ _ _|exact spec_l01Name.mono _ _|exact spec_l01Items.mono _ _|exact spec_l01Fields.mono _ _|exact zQ _|exact zN _|refine zP ?_ ?_|refine zO ?_ (fun _ => ?_))|refine zP ?_ ?_|refine zO ?_ (fun _ => ?_)
  ·
   intro y0 y1 y2
   unfold spec_l01OK.l0
   repeat' first|(with_reducible first|exact ih0 _ _ _ _|exact ih1 _ _ _|exact ih2 _ _ _|exact ih3 _ _ _|exact ih4 _ _ _|exact spec_l01Name.mono _ _|exact spec_l01Items.mono _ _|exact spec_l01Fields.mono _ _|exact zQ _|exact zN _|refine zP ?_ ?_|refine zO ?_ (fun _ => ?_))|refine zP ?_ ?_|refine zO ?_ (fun _ => ?_)
  ·
   intro y0 y1 y2
   unfold spec_l01OK.j2
   repeat' first|(with_reducible first|exact ih0 _ _ _ _|exact ih1 _ _ _|exact ih2 _ _ _|exact ih3 _ _ _|exact ih4 _ _ _|exact spec_l01Name.mono _ _|exact spec_l01Items.mono _ _|exact spec_l01Fields.mono _ _|exact zQ _|exact zN _|refine zP ?_ ?_|refine zO ?_ (fun _ => ?_))|refine zP ?_ ?_|refine zO ?_ (fun _ => ?_)
  intro y0 y1 y2;unfold spec_l01OK.l1
  repeat' first|(with_reducible first|exact ih0 _ _ _ _|exact ih1 _ _ _|exact ih2 _ _ _|exact ih3 _ _ _|exact ih4 _ _ _|exact spec_l01Name.mono _ _|exact spec_l01Items.mono _ _|exact spec_l01Fields.mono _ _|exact zQ _|exact zN _|refine zP ?_ ?_|refine zO ?_ (fun _ => ?_))|refine zP ?_ ?_|refine zO ?_ (fun _ => ?_)
theorem spec_l01OK.mono : ∀ a0 a1 a2 a3 k,LeO (spec_l01OK.f k a0 a1 a2 a3) (spec_l01OK.f (k + 1) a0 a1 a2 a3):=by
 intro a0 a1 a2 a3 k;obtain ⟨ih0,ih1,ih2,ih3,ih4⟩:=spec_l01OK.mono_l k;exact ih0 a0 a1 a2 a3
def spec_l01OK.T27 : Bool×List (List Nat×List Nat):=(true,[([],[]),([],[]),([0,1],[0,1]),([2],[2]),([3],[3]),([4],[4]),([5],[5]),([6,5],[6]),([7],[7]),([8,7],[7,8]),([9,7,7],[7,9]),([10],[10]),([10],[10]),([12,10],[10,12]),([11,13,10],[10,11,13]),([14,10],[10,14]),([15,10],[10,15]),([10],[10]),([10],[10]),([17,18,10],[10,17,18]),([19,10],[10,19]),([20,10],[10,20]),([16,21,10],[10,16,21]),([10,22,7],[7,10,22]),([7,23],[7,23]),([24,10],[24]),([25],[25]),([25],[25]),([26,27,25],[25,26,27]),([28,25],[25,28]),([29,25],[25,29]),([25],[25]),([31,25],[25,31]),([30,32,25,25],[25,30,32]),([33,25],[25,33]),([25,34],[25,34])])
def spec_l01OK.B27 : List Nat:=[0,0,3,7,15,31,63,127,255,511,1023,2047,2047,6143,16383,32767,65535,2047,2047,395263,919551,1968127,4194303,8388607,16777215,33554431,67108863,67108863,268435455,536870911,1073741823,67108863,2214592511,8589934591,17179869183,34359738367]
theorem spec_l01OK.tab27 : rtab .any (opsOf Tryd.f54 27)=spec_l01OK.T27:=by kernel_rfl
theorem spec_l01OK.bits27 : waitsOk spec_l01OK.T27.2 spec_l01OK.B27=true:=by kernel_rfl
set_option maxHeartbeats 8000000 in
set_option maxRecDepth 100000 in
theorem spec_l01OK.calls (k : Nat) : ∀ (a0_0 : Int) (a0_1 : Int) (a0_2 : ByteArray) (a1 : Int) (r : Bool) (w : World) (h : spec_l01OK.f k a0_0 a0_1 a0_2 a1=some r),
  Calls Tryd.prog 54 #[.agg #[.int .i64 a0_0,.int .i64 a0_1,.string a0_2],.int .i64 a1] w fun e w' => e = .returned (.bool r)∧Below w.heap.size w w':=by
 induction k using Nat.strongRecOn with
 | _ k ih =>
 intro a0_0 a0_1 a0_2 a1 r w h
 cases k with
 | zero => exact absurd h (by simp [spec_l01OK.f])
 | succ k =>
 simp only [spec_l01OK.f] at h;have hu39:=Tryd.underlying39;have HB:=zh (Below.refl w.heap.size w);have H : (if a0_0=0 then (if a0_1=0 then (some (a0_2.toList == ([] : List UInt8))) else (some false)) else (if a0_0=1 then ((spec_l01In.f a0_1 0 1).bind fun t240 => (if t240=true then (some (a0_2.toList == ([] : List UInt8))) else (some false))) else (if a0_0=2 then ((spec_l01In.f a0_1 (-1000000000000) 1000000000000).bind fun t241 => (if t241=true then (some (a0_2.toList == ([] : List UInt8))) else (some false))) else (if a0_0=3 then (if a0_1=0 then (some (decide ((a0_2.size : Int)≤300))) else (some false)) else (if a0_0=4 then ((spec_l01Items.f k a0_2).bind fun bt242 => (if a0_1=0 then (if bt242.2=true then (if (a0_2.size : Int) > 300 then (spec_l01OK.j0 k a1 bt242.1 true) else (spec_l01OK.j0 k a1 bt242.1 (a1 == 0))) else (spec_l01OK.j0 k a1 bt242.1 true)) else (spec_l01OK.j0 k a1 bt242.1 true))) else (if a0_0=5 then ((spec_l01Fields.f k a0_2).bind fun bt248 => (if a0_1=0 then (if bt248.2=true then (if (a0_2.size : Int) > 300 then (spec_l01OK.j2 k a1 bt248.1 true) else (spec_l01OK.j2 k a1 bt248.1 (a1 == 0))) else (spec_l01OK.j2 k a1 bt248.1 true)) else (spec_l01OK.j2 k a1 bt248.1 true))) else (some false)))))))=some r:=h;clear h
 by_cases c3 : a0_0=0
 ·
  rw [if_pos c3] at H
  have c3b0 : (a0_0 == 0)=true:=ya.mpr c3;have c3b1 : (a0_0 != 0)=false:=zX.mpr c3;clear c3
  by_cases c4 : a0_1=0
  ·
   rw [if_pos c4] at H
   have c4b0 : (a0_1 == 0)=true:=ya.mpr c4;have c4b1 : (a0_1 != 0)=false:=zX.mpr c4;clear c4;obtain rfl:=zU H
   go_enter Tryd.func54,Tryd.ntmps54
   go_wp2_with (first|((with_reducible refine zK (N:=2) rfl ?_);(try (refine yz (by rfl) ?_;dsimp only));refine zI ?hg (N:=2) ?hd (cs:=#[.int .i64 a0_0,.int .i64 a0_1,.string a0_2]) (t:=39) ?hr ?_;(case hd => rfl);(case hg => rfl);(case hr => first|(go_simp;done)|(go_simp;rfl));intro gb239 hg w5 hbox hb;have BK239:=zh (hbox);have GW239:=zh ((by rw [hg];exact (zB (by repeat (with_reducible first|exact HB.out|apply za|apply zb|apply zc))) : w.heap.size≤gb239));have GE239:=zh ((by rw [hg];exact (zB (by repeat (with_reducible first|exact HB.out|apply za|apply zb|apply zc))) : w.heap.size≤gb239));replace HB:=zh (zC (by repeat (with_reducible first|exact HB.out|apply za|apply zb|apply zc)) hb);clear hb hbox hg;have hcz6_0 : w5.cell? ⟨gb239,0,none⟩=some (.int .i64 a0_0):=(zz BK239.out 0).trans rfl;have hcz6_1 : w5.cell? ⟨gb239,1,none⟩=some (.int .i64 a0_1):=(zz BK239.out 1).trans rfl;have hcz6_2 : w5.cell? ⟨gb239,2,none⟩=some (.string a0_2):=(zz BK239.out 2).trans rfl;have hfz6_0:=zA BK239.out 0;have hfz6_1:=zA BK239.out 1;have hfz6_2:=zA BK239.out 2))
   go_ret
   exact ⟨by first|rfl|(simp [yt,yu] <;> rfl)|(simp [*,yt,yu] <;> rfl),by repeat (with_reducible first|exact HB.out|apply za|apply zb|apply zc|refine zd ?_ GE239.out)⟩
  rw [if_neg c4] at H;have c4b0 : (a0_1 == 0)=false:=zY.mpr c4;have c4b1 : (a0_1 != 0)=true:=zZ.mpr c4;obtain rfl:=zU H
  go_enter Tryd.func54,Tryd.ntmps54
  go_wp2_with (first|((with_reducible refine zK (N:=2) rfl ?_);(try (refine yz (by rfl) ?_;dsimp only));refine zI ?hg (N:=2) ?hd (cs:=#[.int .i64 a0_0,.int .i64 a0_1,.string a0_2]) (t:=39) ?hr ?_;(case hd => rfl);(case hg => rfl);(case hr => first|(go_simp;done)|(go_simp;rfl));intro gb239 hg w7 hbox hb;have BK239:=zh (hbox);have GW239:=zh ((by rw [hg];exact (zB (by repeat (with_reducible first|exact HB.out|apply za|apply zb|apply zc))) : w.heap.size≤gb239));have GE239:=zh ((by rw [hg];exact (zB (by repeat (with_reducible first|exact HB.out|apply za|apply zb|apply zc))) : w.heap.size≤gb239));replace HB:=zh (zC (by repeat (with_reducible first|exact HB.out|apply za|apply zb|apply zc)) hb);clear hb hbox hg;have hcz8_0 : w7.cell? ⟨gb239,0,none⟩=some (.int .i64 a0_0):=(zz BK239.out 0).trans rfl;have hcz8_1 : w7.cell? ⟨gb239,1,none⟩=some (.int .i64 a0_1):=(zz BK239.out 1).trans rfl;have hcz8_2 : w7.cell? ⟨gb239,2,none⟩=some (.string a0_2):=(zz BK239.out 2).trans rfl;have hfz8_0:=zA BK239.out 0;have hfz8_1:=zA BK239.out 1;have hfz8_2:=zA BK239.out 2))
  go_ret
  exact ⟨by first|rfl|(simp [yt,yu] <;> rfl)|(simp [*,yt,yu] <;> rfl),by repeat (with_reducible first|exact HB.out|apply za|apply zb|apply zc|refine zd ?_ GE239.out)⟩
 rw [if_neg c3] at H;have c3b0 : (a0_0 == 0)=false:=zY.mpr c3;have c3b1 : (a0_0 != 0)=true:=zZ.mpr c3
 by_cases c9 : a0_0=1
 ·
  rw [if_pos c9] at H
  have c9b0 : (a0_0 == 1)=true:=ya.mpr c9;have c9b1 : (a0_0 != 1)=false:=zX.mpr c9;clear c9;replace H:=zT.mp H;obtain ⟨t240,A100,H⟩:=H;replace H : (if t240=true then (some (a0_2.toList == ([] : List UInt8))) else (some false))=some r:=H;have A10:=zh A100;clear A100
  by_cases c11 : t240=true
  ·
   subst c11
   have H1 : (some (a0_2.toList == ([] : List UInt8)))=some r:=by rw [if_pos rfl] at H;exact H
   clear H;have H:=H1;clear H1;obtain rfl:=zU H
   go_enter Tryd.func54,Tryd.ntmps54
   go_wp2_with (first|((with_reducible refine zK (N:=2) rfl ?_);(try (refine yz (by rfl) ?_;dsimp only));refine zI ?hg (N:=2) ?hd (cs:=#[.int .i64 a0_0,.int .i64 a0_1,.string a0_2]) (t:=39) ?hr ?_;(case hd => rfl);(case hg => rfl);(case hr => first|(go_simp;done)|(go_simp;rfl));intro gb239 hg w12 hbox hb;have BK239:=zh (hbox);have GW239:=zh ((by rw [hg];exact (zB (by repeat (with_reducible first|exact HB.out|apply za|apply zb|apply zc))) : w.heap.size≤gb239));have GE239:=zh ((by rw [hg];exact (zB (by repeat (with_reducible first|exact HB.out|apply za|apply zb|apply zc))) : w.heap.size≤gb239));replace HB:=zh (zC (by repeat (with_reducible first|exact HB.out|apply za|apply zb|apply zc)) hb);clear hb hbox hg;have hcz13_0 : w12.cell? ⟨gb239,0,none⟩=some (.int .i64 a0_0):=(zz BK239.out 0).trans rfl;have hcz13_1 : w12.cell? ⟨gb239,1,none⟩=some (.int .i64 a0_1):=(zz BK239.out 1).trans rfl;have hcz13_2 : w12.cell? ⟨gb239,2,none⟩=some (.string a0_2):=(zz BK239.out 2).trans rfl;have hfz13_0:=zA BK239.out 0;have hfz13_1:=zA BK239.out 1;have hfz13_2:=zA BK239.out 2)|((with_reducible refine zJ (f:=29) rfl ?_);refine yj (some 27) rfl rfl Tryd.func29 (by kernel_rfl) rfl #[.int .i64 a0_1,.int .i64 0,.int .i64 1] rfl (by (try simp only [zt,zu,zv]);first|done|rfl|(simp only [zw,zx];rfl)|(simp only [yr,ys,zV,zW];rfl)) ?_;(with_reducible refine (spec_l01In.calls  a0_1 0 1 true _ A10.out).mono ?_);rintro e w' ⟨rfl,⟨nd,rfl⟩⟩;refine ⟨_,rfl,?_⟩))
   go_ret
   exact ⟨by first|rfl|(simp [yt,yu] <;> rfl)|(simp [*,yt,yu] <;> rfl),by repeat (with_reducible first|exact HB.out|apply za|apply zb|apply zc|refine zd ?_ GE239.out)⟩
  replace c11:=yb.mpr c11;subst c11;have H1 : (some false)=some r:=by rw [if_neg (show ¬ (false=true) by decide)] at H;exact H
  clear H;have H:=H1;clear H1;obtain rfl:=zU H
  go_enter Tryd.func54,Tryd.ntmps54
  go_wp2_with (first|((with_reducible refine zK (N:=2) rfl ?_);(try (refine yz (by rfl) ?_;dsimp only));refine zI ?hg (N:=2) ?hd (cs:=#[.int .i64 a0_0,.int .i64 a0_1,.string a0_2]) (t:=39) ?hr ?_;(case hd => rfl);(case hg => rfl);(case hr => first|(go_simp;done)|(go_simp;rfl));intro gb239 hg w14 hbox hb;have BK239:=zh (hbox);have GW239:=zh ((by rw [hg];exact (zB (by repeat (with_reducible first|exact HB.out|apply za|apply zb|apply zc))) : w.heap.size≤gb239));have GE239:=zh ((by rw [hg];exact (zB (by repeat (with_reducible first|exact HB.out|apply za|apply zb|apply zc))) : w.heap.size≤gb239));replace HB:=zh (zC (by repeat (with_reducible first|exact HB.out|apply za|apply zb|apply zc)) hb);clear hb hbox hg;have hcz15_0 : w14.cell? ⟨gb239,0,none⟩=some (.int .i64 a0_0):=(zz BK239.out 0).trans rfl;have hcz15_1 : w14.cell? ⟨gb239,1,none⟩=some (.int .i64 a0_1):=(zz BK239.out 1).trans rfl;have hcz15_2 : w14.cell? ⟨gb239,2,none⟩=some (.string a0_2):=(zz BK239.out 2).trans rfl;have hfz15_0:=zA BK239.out 0;have hfz15_1:=zA BK239.out 1;have hfz15_2:=zA BK239.out 2)|((with_reducible refine zJ (f:=29) rfl ?_);refine yj (some 27) rfl rfl Tryd.func29 (by kernel_rfl) rfl #[.int .i64 a0_1,.int .i64 0,.int .i64 1] rfl (by (try simp only [zt,zu,zv]);first|done|rfl|(simp only [zw,zx];rfl)|(simp only [yr,ys,zV,zW];rfl)) ?_;(with_reducible refine (spec_l01In.calls  a0_1 0 1 false _ A10.out).mono ?_);rintro e w' ⟨rfl,⟨nd,rfl⟩⟩;refine ⟨_,rfl,?_⟩))
  go_ret
  exact ⟨by first|rfl|(simp [yt,yu] <;> rfl)|(simp [*,yt,yu] <;> rfl),by repeat (with_reducible first|exact HB.out|apply za|apply zb|apply zc|refine zd ?_ GE239.out)⟩
 rw [if_neg c9] at H;have c9b0 : (a0_0 == 1)=false:=zY.mpr c9;have c9b1 : (a0_0 != 1)=true:=zZ.mpr c9
 by_cases c16 : a0_0=2
 ·
  rw [if_pos c16] at H
  have c16b0 : (a0_0 == 2)=true:=ya.mpr c16;have c16b1 : (a0_0 != 2)=false:=zX.mpr c16;clear c16;replace H:=zT.mp H;obtain ⟨t241,A170,H⟩:=H;replace H : (if t241=true then (some (a0_2.toList == ([] : List UInt8))) else (some false))=some r:=H;have A17:=zh A170;clear A170
  by_cases c18 : t241=true
  ·
   subst c18
   have H1 : (some (a0_2.toList == ([] : List UInt8)))=some r:=by rw [if_pos rfl] at H;exact H
   clear H;have H:=H1;clear H1;obtain rfl:=zU H
   go_enter Tryd.func54,Tryd.ntmps54
   go_wp2_with (first|((with_reducible refine zK (N:=2) rfl ?_);(try (refine yz (by rfl) ?_;dsimp only));refine zI ?hg (N:=2) ?hd (cs:=#[.int .i64 a0_0,.int .i64 a0_1,.string a0_2]) (t:=39) ?hr ?_;(case hd => rfl);(case hg => rfl);(case hr => first|(go_simp;done)|(go_simp;rfl));intro gb239 hg w19 hbox hb;have BK239:=zh (hbox);have GW239:=zh ((by rw [hg];exact (zB (by repeat (with_reducible first|exact HB.out|apply za|apply zb|apply zc))) : w.heap.size≤gb239));have GE239:=zh ((by rw [hg];exact (zB (by repeat (with_reducible first|exact HB.out|apply za|apply zb|apply zc))) : w.heap.size≤gb239));replace HB:=zh (zC (by repeat (with_reducible first|exact HB.out|apply za|apply zb|apply zc)) hb);clear hb hbox hg;have hcz20_0 : w19.cell? ⟨gb239,0,none⟩=some (.int .i64 a0_0):=(zz BK239.out 0).trans rfl;have hcz20_1 : w19.cell? ⟨gb239,1,none⟩=some (.int .i64 a0_1):=(zz BK239.out 1).trans rfl;have hcz20_2 : w19.cell? ⟨gb239,2,none⟩=some (.string a0_2):=(zz BK239.out 2).trans rfl;have hfz20_0:=zA BK239.out 0;have hfz20_1:=zA BK239.out 1;have hfz20_2:=zA BK239.out 2)|((with_reducible refine zJ (f:=29) rfl ?_);refine yj (some 37) rfl rfl Tryd.func29 (by kernel_rfl) rfl #[.int .i64 a0_1,.int .i64 (-1000000000000),.int .i64 1000000000000] rfl (by (try simp only [zt,zu,zv]);first|done|rfl|(simp only [zw,zx];rfl)|(simp only [yr,ys,zV,zW];rfl)) ?_;(with_reducible refine (spec_l01In.calls  a0_1 (-1000000000000) 1000000000000 true _ A17.out).mono ?_);rintro e w' ⟨rfl,⟨nd,rfl⟩⟩;refine ⟨_,rfl,?_⟩))
   go_ret
   exact ⟨by first|rfl|(simp [yt,yu] <;> rfl)|(simp [*,yt,yu] <;> rfl),by repeat (with_reducible first|exact HB.out|apply za|apply zb|apply zc|refine zd ?_ GE239.out)⟩
  replace c18:=yb.mpr c18;subst c18;have H1 : (some false)=some r:=by rw [if_neg (show ¬ (false=true) by decide)] at H;exact H
  clear H;have H:=H1;clear H1;obtain rfl:=zU H
  go_enter Tryd.func54,Tryd.ntmps54
  go_wp2_with (first|((with_reducible refine zK (N:=2) rfl ?_);(try (refine yz (by rfl) ?_;dsimp only));refine zI ?hg (N:=2) ?hd (cs:=#[.int .i64 a0_0,.int .i64 a0_1,.string a0_2]) (t:=39) ?hr ?_;(case hd => rfl);(case hg => rfl);(case hr => first|(go_simp;done)|(go_simp;rfl));intro gb239 hg w21 hbox hb;have BK239:=zh (hbox);have GW239:=zh ((by rw [hg];exact (zB (by repeat (with_reducible first|exact HB.out|apply za|apply zb|apply zc))) : w.heap.size≤gb239));have GE239:=zh ((by rw [hg];exact (zB (by repeat (with_reducible first|exact HB.out|apply za|apply zb|apply zc))) : w.heap.size≤gb239));replace HB:=zh (zC (by repeat (with_reducible first|exact HB.out|apply za|apply zb|apply zc)) hb);clear hb hbox hg;have hcz22_0 : w21.cell? ⟨gb239,0,none⟩=some (.int .i64 a0_0):=(zz BK239.out 0).trans rfl;have hcz22_1 : w21.cell? ⟨gb239,1,none⟩=some (.int .i64 a0_1):=(zz BK239.out 1).trans rfl;have hcz22_2 : w21.cell? ⟨gb239,2,none⟩=some (.string a0_2):=(zz BK239.out 2).trans rfl;have hfz22_0:=zA BK239.out 0;have hfz22_1:=zA BK239.out 1;have hfz22_2:=zA BK239.out 2)|((with_reducible refine zJ (f:=29) rfl ?_);refine yj (some 37) rfl rfl Tryd.func29 (by kernel_rfl) rfl #[.int .i64 a0_1,.int .i64 (-1000000000000),.int .i64 1000000000000] rfl (by (try simp only [zt,zu,zv]);first|done|rfl|(simp only [zw,zx];rfl)|(simp only [yr,ys,zV,zW];rfl)) ?_;(with_reducible refine (spec_l01In.calls  a0_1 (-1000000000000) 1000000000000 false _ A17.out).mono ?_);rintro e w' ⟨rfl,⟨nd,rfl⟩⟩;refine ⟨_,rfl,?_⟩))
  go_ret
  exact ⟨by first|rfl|(simp [yt,yu] <;> rfl)|(simp [*,yt,yu] <;> rfl),by repeat (with_reducible first|exact HB.out|apply za|apply zb|apply zc|refine zd ?_ GE239.out)⟩
 rw [if_neg c16] at H;have c16b0 : (a0_0 == 2)=false:=zY.mpr c16;have c16b1 : (a0_0 != 2)=true:=zZ.mpr c16
 by_cases c23 : a0_0=3
 ·
  rw [if_pos c23] at H
  have c23b0 : (a0_0 == 3)=true:=ya.mpr c23;have c23b1 : (a0_0 != 3)=false:=zX.mpr c23;clear c23
  by_cases c24 : a0_1=0
  ·
   rw [if_pos c24] at H
   have c24b0 : (a0_1 == 0)=true:=ya.mpr c24;have c24b1 : (a0_1 != 0)=false:=zX.mpr c24;clear c24;obtain rfl:=zU H
   go_enter Tryd.func54,Tryd.ntmps54
   go_wp2_with (first|((with_reducible refine zK (N:=2) rfl ?_);(try (refine yz (by rfl) ?_;dsimp only));refine zI ?hg (N:=2) ?hd (cs:=#[.int .i64 a0_0,.int .i64 a0_1,.string a0_2]) (t:=39) ?hr ?_;(case hd => rfl);(case hg => rfl);(case hr => first|(go_simp;done)|(go_simp;rfl));intro gb239 hg w25 hbox hb;have BK239:=zh (hbox);have GW239:=zh ((by rw [hg];exact (zB (by repeat (with_reducible first|exact HB.out|apply za|apply zb|apply zc))) : w.heap.size≤gb239));have GE239:=zh ((by rw [hg];exact (zB (by repeat (with_reducible first|exact HB.out|apply za|apply zb|apply zc))) : w.heap.size≤gb239));replace HB:=zh (zC (by repeat (with_reducible first|exact HB.out|apply za|apply zb|apply zc)) hb);clear hb hbox hg;have hcz26_0 : w25.cell? ⟨gb239,0,none⟩=some (.int .i64 a0_0):=(zz BK239.out 0).trans rfl;have hcz26_1 : w25.cell? ⟨gb239,1,none⟩=some (.int .i64 a0_1):=(zz BK239.out 1).trans rfl;have hcz26_2 : w25.cell? ⟨gb239,2,none⟩=some (.string a0_2):=(zz BK239.out 2).trans rfl;have hfz26_0:=zA BK239.out 0;have hfz26_1:=zA BK239.out 1;have hfz26_2:=zA BK239.out 2))
   go_ret
   exact ⟨by first|rfl|(simp [yt,yu] <;> rfl)|(simp [*,yt,yu] <;> rfl),by repeat (with_reducible first|exact HB.out|apply za|apply zb|apply zc|refine zd ?_ GE239.out)⟩
  rw [if_neg c24] at H;have c24b0 : (a0_1 == 0)=false:=zY.mpr c24;have c24b1 : (a0_1 != 0)=true:=zZ.mpr c24;obtain rfl:=zU H
  go_enter Tryd.func54,Tryd.ntmps54
  go_wp2_with (first|((with_reducible refine zK (N:=2) rfl ?_);(try (refine yz (by rfl) ?_;dsimp only));refine zI ?hg (N:=2) ?hd (cs:=#[.int .i64 a0_0,.int .i64 a0_1,.string a0_2]) (t:=39) ?hr ?_;(case hd => rfl);(case hg => rfl);(case hr => first|(go_simp;done)|(go_simp;rfl));intro gb239 hg w27 hbox hb;have BK239:=zh (hbox);have GW239:=zh ((by rw [hg];exact (zB (by repeat (with_reducible first|exact HB.out|apply za|apply zb|apply zc))) : w.heap.size≤gb239));have GE239:=zh ((by rw [hg];exact (zB (by repeat (with_reducible first|exact HB.out|apply za|apply zb|apply zc))) : w.heap.size≤gb239));replace HB:=zh (zC (by repeat (with_reducible first|exact HB.out|apply za|apply zb|apply zc)) hb);clear hb hbox hg;have hcz28_0 : w27.cell? ⟨gb239,0,none⟩=some (.int .i64 a0_0):=(zz BK239.out 0).trans rfl;have hcz28_1 : w27.cell? ⟨gb239,1,none⟩=some (.int .i64 a0_1):=(zz BK239.out 1).trans rfl;have hcz28_2 : w27.cell? ⟨gb239,2,none⟩=some (.string a0_2):=(zz BK239.out 2).trans rfl;have hfz28_0:=zA BK239.out 0;have hfz28_1:=zA BK239.out 1;have hfz28_2:=zA BK239.out 2))
  go_ret
  exact ⟨by first|rfl|(simp [yt,yu] <;> rfl)|(simp [*,yt,yu] <;> rfl),by repeat (with_reducible first|exact HB.out|apply za|apply zb|apply zc|refine zd ?_ GE239.out)⟩
 rw [if_neg c23] at H;have c23b0 : (a0_0 == 3)=false:=zY.mpr c23;have c23b1 : (a0_0 != 3)=true:=zZ.mpr c23
 by_cases c29 : a0_0=4
 ·
  rw [if_pos c29] at H
  have c29b0 : (a0_0 == 4)=true:=ya.mpr c29;have c29b1 : (a0_0 != 4)=false:=zX.mpr c29;clear c29;replace H:=zT.mp H;obtain ⟨⟨t242,t243⟩,A300,H⟩:=H;replace H : (if a0_1=0 then (if t243=true then (if (a0_2.size : Int) > 300 then (spec_l01OK.j0 k a1 t242 true) else (spec_l01OK.j0 k a1 t242 (a1 == 0))) else (spec_l01OK.j0 k a1 t242 true)) else (spec_l01OK.j0 k a1 t242 true))=some r:=H;have A30:=zh A300;clear A300;have HC31:=zh H;clear H
  go_enter Tryd.func54,Tryd.ntmps54
  go_upto_region 12 with (first|((with_reducible refine zK (N:=2) rfl ?_);(try (refine yz (by rfl) ?_;dsimp only));refine zI ?hg (N:=2) ?hd (cs:=#[.int .i64 a0_0,.int .i64 a0_1,.string a0_2]) (t:=39) ?hr ?_;(case hd => rfl);(case hg => rfl);(case hr => first|(go_simp;done)|(go_simp;rfl));intro gb239 hg w32 hbox hb;have BK239:=zh (hbox);have GW239:=zh ((by rw [hg];exact (zB (by repeat (with_reducible first|exact HB.out|apply za|apply zb|apply zc))) : w.heap.size≤gb239));have GE239:=zh ((by rw [hg];exact (zB (by repeat (with_reducible first|exact HB.out|apply za|apply zb|apply zc))) : w.heap.size≤gb239));replace HB:=zh (zC (by repeat (with_reducible first|exact HB.out|apply za|apply zb|apply zc)) hb);clear hb hbox hg;have hcz33_0 : w32.cell? ⟨gb239,0,none⟩=some (.int .i64 a0_0):=(zz BK239.out 0).trans rfl;have hcz33_1 : w32.cell? ⟨gb239,1,none⟩=some (.int .i64 a0_1):=(zz BK239.out 1).trans rfl;have hcz33_2 : w32.cell? ⟨gb239,2,none⟩=some (.string a0_2):=(zz BK239.out 2).trans rfl;have hfz33_0:=zA BK239.out 0;have hfz33_1:=zA BK239.out 1;have hfz33_2:=zA BK239.out 2)|((with_reducible refine zJ (f:=66) rfl ?_);refine yj (some 59) rfl rfl Tryd.func66 (by kernel_rfl) rfl #[.string a0_2] rfl (by (try simp only [zt,zu,zv]);first|done|rfl|(simp only [zw,zx];rfl)|(simp only [yr,ys,zV,zW];rfl)) ?_;(with_reducible refine (spec_l01Items.calls k  a0_2 t242 t243 _ A30.out).mono ?_);rintro e w34 ⟨v244,rfl,ho0,hb⟩;refine ⟨_,rfl,?_⟩;have HO245:=zh (yy (Kd.R_newB ho0 (g:=gb239) (o:=.cells #[.int .i64 a0_0,.int .i64 a0_1,.string a0_2] 39 (0,0)) (by (with_reducible repeat (first|refine ze ?_ _|refine zf ?_|refine zg ?_ _));exact BK239.out)) (zB (by repeat (with_reducible first|exact HB.out|apply za|apply zb|apply zc|refine zd ?_ GE239.out))));replace BK239:=zh (zD (g:=gb239) (o:=.cells #[.int .i64 a0_0,.int .i64 a0_1,.string a0_2] 39 (0,0)) (by (with_reducible repeat (first|refine ze ?_ _|refine zf ?_|refine zg ?_ _));exact BK239.out) hb);replace HB:=zh (zC (by repeat (with_reducible first|exact HB.out|apply za|apply zb|apply zc|refine zd ?_ GE239.out)) hb);(try clear hb);(try clear hb2);(try clear hk);(try clear hi);(try clear ho0)))
  (try simp only [Act.put,zi,zj,zk])
  go_cut [78] (fun v78 wc => ∃ (kq : Nat) (x78_30 : Bool),v78 = .bool x78_30∧Aside0 (spec_l01OK.j0 kq a1 t242 x78_30=some r)∧Aside0 (kq≤k)∧Aside0 (Kd.R k39 39 wc w.heap.size (fun k_ => k_≠gb239) v244 t242)∧Aside0 (wc.heap[gb239]? = some (.cells #[.int .i64 a0_0,.int .i64 a0_1,.string a0_2] 39 (0,0)))∧Aside0 (Below w.heap.size w wc))
  case first =>
   have H:=HC31.out;clear HC31
   by_cases c35 : a0_1=0
   ·
    rw [if_pos c35] at H
    have c35b0 : (a0_1 == 0)=true:=ya.mpr c35;have c35b1 : (a0_1 != 0)=false:=zX.mpr c35;clear c35;(first|rw [c35b0]|(simp only [zG,zH];rw [c35b0])|skip)
    by_cases c36 : t243=true
    ·
     subst c36
     have H1 : (if (a0_2.size : Int) > 300 then (spec_l01OK.j0 k a1 t242 true) else (spec_l01OK.j0 k a1 t242 (a1 == 0)))=some r:=by rw [if_pos rfl] at H;exact H
     clear H;have H:=H1;clear H1
     by_cases c37 : (a0_2.size : Int) > 300
     ·
      rw [if_pos c37] at H
      have c37b0 : decide (300<(a0_2.size : Int))=true:=decide_eq_true c37;have c37b1 : decide (300<a0_2.size)=true:=decide_eq_true (by omega);clear c37;have H':=zh H;clear H;have hcz38_0 : w34.cell? ⟨gb239,0,none⟩=some (.int .i64 a0_0):=(zz BK239.out 0).trans rfl;have hcz38_1 : w34.cell? ⟨gb239,1,none⟩=some (.int .i64 a0_1):=(zz BK239.out 1).trans rfl;have hcz38_2 : w34.cell? ⟨gb239,2,none⟩=some (.string a0_2):=(zz BK239.out 2).trans rfl;have hfz38_0:=zA BK239.out 0;have hfz38_1:=zA BK239.out 1;have hfz38_2:=zA BK239.out 2
      go_wp2
      go_meet
      case rel => exact ⟨_,(true),(by first|rfl|(simp;done)|(simp [*];done)),H',⟨by first|omega|exact ye _⟩,⟨by (with_reducible repeat (first|apply zm|apply zn|apply zo));exact zM HO245.out (fun _ hk => hk.2)⟩,⟨by (with_reducible repeat (first|refine ze ?_ _|refine zf ?_|refine zg ?_ _));exact BK239.out⟩,⟨by repeat (with_reducible first|exact HB.out|apply za|apply zb|apply zc|refine zd ?_ GE239.out)⟩⟩
     rw [if_neg c37] at H;have c37b0 : decide (300<(a0_2.size : Int))=false:=decide_eq_false c37;have c37b1 : decide (300<a0_2.size)=false:=decide_eq_false (by omega);clear c37;have H':=zh H;clear H;have hcz39_0 : w34.cell? ⟨gb239,0,none⟩=some (.int .i64 a0_0):=(zz BK239.out 0).trans rfl;have hcz39_1 : w34.cell? ⟨gb239,1,none⟩=some (.int .i64 a0_1):=(zz BK239.out 1).trans rfl;have hcz39_2 : w34.cell? ⟨gb239,2,none⟩=some (.string a0_2):=(zz BK239.out 2).trans rfl;have hfz39_0:=zA BK239.out 0;have hfz39_1:=zA BK239.out 1;have hfz39_2:=zA BK239.out 2
     go_wp2
     go_meet
     case rel => exact ⟨_,((a1 == 0)),(by first|rfl|(simp;done)|(simp [*];done)),H',⟨by first|omega|exact ye _⟩,⟨by (with_reducible repeat (first|apply zm|apply zn|apply zo));exact zM HO245.out (fun _ hk => hk.2)⟩,⟨by (with_reducible repeat (first|refine ze ?_ _|refine zf ?_|refine zg ?_ _));exact BK239.out⟩,⟨by repeat (with_reducible first|exact HB.out|apply za|apply zb|apply zc|refine zd ?_ GE239.out)⟩⟩
    replace c36:=yb.mpr c36;subst c36;have H1 : (spec_l01OK.j0 k a1 t242 true)=some r:=by rw [if_neg (show ¬ (false=true) by decide)] at H;exact H
    clear H;have H:=H1;clear H1;have H':=zh H;clear H;have hcz40_0 : w34.cell? ⟨gb239,0,none⟩=some (.int .i64 a0_0):=(zz BK239.out 0).trans rfl;have hcz40_1 : w34.cell? ⟨gb239,1,none⟩=some (.int .i64 a0_1):=(zz BK239.out 1).trans rfl;have hcz40_2 : w34.cell? ⟨gb239,2,none⟩=some (.string a0_2):=(zz BK239.out 2).trans rfl;have hfz40_0:=zA BK239.out 0;have hfz40_1:=zA BK239.out 1;have hfz40_2:=zA BK239.out 2
    go_wp2
    go_meet
    case rel => exact ⟨_,(true),(by first|rfl|(simp;done)|(simp [*];done)),H',⟨by first|omega|exact ye _⟩,⟨by (with_reducible repeat (first|apply zm|apply zn|apply zo));exact zM HO245.out (fun _ hk => hk.2)⟩,⟨by (with_reducible repeat (first|refine ze ?_ _|refine zf ?_|refine zg ?_ _));exact BK239.out⟩,⟨by repeat (with_reducible first|exact HB.out|apply za|apply zb|apply zc|refine zd ?_ GE239.out)⟩⟩
   rw [if_neg c35] at H;have c35b0 : (a0_1 == 0)=false:=zY.mpr c35;have c35b1 : (a0_1 != 0)=true:=zZ.mpr c35;(first|rw [c35b0]|(simp only [zG,zH];rw [c35b0])|skip);have H':=zh H;clear H;have hcz41_0 : w34.cell? ⟨gb239,0,none⟩=some (.int .i64 a0_0):=(zz BK239.out 0).trans rfl;have hcz41_1 : w34.cell? ⟨gb239,1,none⟩=some (.int .i64 a0_1):=(zz BK239.out 1).trans rfl;have hcz41_2 : w34.cell? ⟨gb239,2,none⟩=some (.string a0_2):=(zz BK239.out 2).trans rfl;have hfz41_0:=zA BK239.out 0;have hfz41_1:=zA BK239.out 1;have hfz41_2:=zA BK239.out 2
   go_wp2
   go_meet
   case rel => exact ⟨_,(true),(by first|rfl|(simp;done)|(simp [*];done)),H',⟨by first|omega|exact ye _⟩,⟨by (with_reducible repeat (first|apply zm|apply zn|apply zo));exact zM HO245.out (fun _ hk => hk.2)⟩,⟨by (with_reducible repeat (first|refine ze ?_ _|refine zf ?_|refine zg ?_ _));exact BK239.out⟩,⟨by repeat (with_reducible first|exact HB.out|apply za|apply zb|apply zc|refine zd ?_ GE239.out)⟩⟩
  case rest =>
   clear HC31
   try clear c1
   try clear c2
   try clear p2
   try clear c3
   try clear c3b0
   try clear c3b1
   try clear c4
   try clear c4b0
   try clear c4b1
   try clear c5
   try clear c6
   try clear c9
   try clear c9b0
   try clear c9b1
   try clear c11
   try clear c16
   try clear c16b0
   try clear c16b1
   try clear c18
   try clear c23
   try clear c23b0
   try clear c23b1
   try clear c24
   try clear c24b0
   try clear c24b1
   try clear c29
   try clear c29b0
   try clear c29b1
   try clear c35
   try clear c35b0
   try clear c35b1
   try clear c36
   try clear c37
   try clear c37b0
   try clear c37b1
   try clear hcz13_0
   try clear hcz13_1
   try clear hcz13_2
   try clear hcz15_0
   try clear hcz15_1
   try clear hcz15_2
   try clear hcz20_0
   try clear hcz20_1
   try clear hcz20_2
   try clear hcz22_0
   try clear hcz22_1
   try clear hcz22_2
   try clear hcz26_0
   try clear hcz26_1
   try clear hcz26_2
   try clear hcz28_0
   try clear hcz28_1
   try clear hcz28_2
   try clear hcz33_0
   try clear hcz33_1
   try clear hcz33_2
   try clear hcz38_0
   try clear hcz38_1
   try clear hcz38_2
   try clear hcz39_0
   try clear hcz39_1
   try clear hcz39_2
   try clear hcz40_0
   try clear hcz40_1
   try clear hcz40_2
   try clear hcz41_0
   try clear hcz41_1
   try clear hcz41_2
   try clear hcz6_0
   try clear hcz6_1
   try clear hcz6_2
   try clear hcz8_0
   try clear hcz8_1
   try clear hcz8_2
   try clear hfz13_0
   try clear hfz13_1
   try clear hfz13_2
   try clear hfz15_0
   try clear hfz15_1
   try clear hfz15_2
   try clear hfz20_0
   try clear hfz20_1
   try clear hfz20_2
   try clear hfz22_0
   try clear hfz22_1
   try clear hfz22_2
   try clear hfz26_0
   try clear hfz26_1
   try clear hfz26_2
   try clear hfz28_0
   try clear hfz28_1
   try clear hfz28_2
   try clear hfz33_0
   try clear hfz33_1
   try clear hfz33_2
   try clear hfz38_0
   try clear hfz38_1
   try clear hfz38_2
   try clear hfz39_0
   try clear hfz39_1
   try clear hfz39_2
   try clear hfz40_0
   try clear hfz40_1
   try clear hfz40_2
   try clear hfz41_0
   try clear hfz41_1
   try clear hfz41_2
   try clear hfz6_0
   try clear hfz6_1
   try clear hfz6_2
   try clear hfz8_0
   try clear hfz8_1
   try clear hfz8_2
   obtain ⟨kq,x78_30,rfl,HA,HJ30,HO_5,BK239,HB⟩:=hcut
   cases kq with
   | zero => exact absurd HA.out (by simp [spec_l01OK.j0])
   | succ kj30 =>
    have H:=HA.out;clear HA;simp only [spec_l01OK.j0] at H
    by_cases c42 : x78_30=true
    ·
     subst c42
     have H1 : (some false)=some r:=by rw [if_pos rfl] at H;exact H
     clear H;have H:=H1;clear H1;obtain rfl:=zU H
     go_wp2
     go_ret
     exact ⟨by first|rfl|(simp [yt,yu] <;> rfl)|(simp [*,yt,yu] <;> rfl),by repeat (with_reducible first|exact HB.out|apply za|apply zb|apply zc|refine zd ?_ GE239.out)⟩
    replace c42:=yb.mpr c42;subst c42;have H1 : (spec_l01OK.l0 kj30 a1 t242 0)=some r:=by rw [if_neg (show ¬ (false=true) by decide)] at H;exact H
    clear H;have H:=H1;clear H1;have H':=zh H;clear H
    go_wp2
    go_loopg [7] kj30 (fun kq v7 w' => ∃ (x7_2 : Int),v7 = .int .i64 x7_2∧Aside0 (spec_l01OK.l0 kq a1 t242 x7_2=some r)∧Aside0 (kq≤kj30)∧Aside0 (Kd.R k39 39 w' w.heap.size (fun k_ => k_≠gb239) v244 t242)∧Aside0 (w'.heap[gb239]? = some (.cells #[.int .i64 a0_0,.int .i64 a0_1,.string a0_2] 39 (0,0)))∧Aside0 (Below w.heap.size w w'))
    case atStart => exact ⟨(0),(by first|rfl|(simp;done)|(simp [*];done)),H',⟨ye _⟩,⟨by (with_reducible repeat (first|apply zm|apply zn|apply zo));exact HO_5.out⟩,⟨by (with_reducible repeat (first|refine ze ?_ _|refine zf ?_|refine zg ?_ _));exact BK239.out⟩,⟨by repeat (with_reducible first|exact HB.out|apply za|apply zb|apply zc|refine zd ?_ GE239.out)⟩⟩
    case round =>
     clear H'
     try clear c1
     try clear c2
     try clear p2
     try clear c3
     try clear c3b0
     try clear c3b1
     try clear c4
     try clear c4b0
     try clear c4b1
     try clear c5
     try clear c6
     try clear c9
     try clear c9b0
     try clear c9b1
     try clear c11
     try clear c16
     try clear c16b0
     try clear c16b1
     try clear c18
     try clear c23
     try clear c23b0
     try clear c23b1
     try clear c24
     try clear c24b0
     try clear c24b1
     try clear c29
     try clear c29b0
     try clear c29b1
     try clear c35
     try clear c35b0
     try clear c35b1
     try clear c36
     try clear c37
     try clear c37b0
     try clear c37b1
     try clear c42
     try clear hcz13_0
     try clear hcz13_1
     try clear hcz13_2
     try clear hcz15_0
     try clear hcz15_1
     try clear hcz15_2
     try clear hcz20_0
     try clear hcz20_1
     try clear hcz20_2
     try clear hcz22_0
     try clear hcz22_1
     try clear hcz22_2
     try clear hcz26_0
     try clear hcz26_1
     try clear hcz26_2
     try clear hcz28_0
     try clear hcz28_1
     try clear hcz28_2
     try clear hcz33_0
     try clear hcz33_1
     try clear hcz33_2
     try clear hcz38_0
     try clear hcz38_1
     try clear hcz38_2
     try clear hcz39_0
     try clear hcz39_1
     try clear hcz39_2
     try clear hcz40_0
     try clear hcz40_1
     try clear hcz40_2
     try clear hcz41_0
     try clear hcz41_1
     try clear hcz41_2
     try clear hcz6_0
     try clear hcz6_1
     try clear hcz6_2
     try clear hcz8_0
     try clear hcz8_1
     try clear hcz8_2
     try clear hfz13_0
     try clear hfz13_1
     try clear hfz13_2
     try clear hfz15_0
     try clear hfz15_1
     try clear hfz15_2
     try clear hfz20_0
     try clear hfz20_1
     try clear hfz20_2
     try clear hfz22_0
     try clear hfz22_1
     try clear hfz22_2
     try clear hfz26_0
     try clear hfz26_1
     try clear hfz26_2
     try clear hfz28_0
     try clear hfz28_1
     try clear hfz28_2
     try clear hfz33_0
     try clear hfz33_1
     try clear hfz33_2
     try clear hfz38_0
     try clear hfz38_1
     try clear hfz38_2
     try clear hfz39_0
     try clear hfz39_1
     try clear hfz39_2
     try clear hfz40_0
     try clear hfz40_1
     try clear hfz40_2
     try clear hfz41_0
     try clear hfz41_1
     try clear hfz41_2
     try clear hfz6_0
     try clear hfz6_1
     try clear hfz6_2
     try clear hfz8_0
     try clear hfz8_1
     try clear hfz8_2
     try clear p2
     obtain ⟨x7_2,rfl,HA,HK2,HO_5,BK239,HB⟩:=hrel
     cases gk with
     | zero => exact absurd HA.out (by simp [spec_l01OK.l0])
     | succ k2 =>
      have H:=HA.out;clear HA;simp only [spec_l01OK.l0] at H
      by_cases c43 : x7_2<(t242.length : Int)
      ·
       rw [if_pos c43] at H
       have c43b0 : decide (x7_2<(t242.length : Int))=true:=decide_eq_true c43;clear c43
       by_cases c44 : 0≤x7_2
       ·
        rw [if_pos c44] at H
        have c44b0 : decide (0≤x7_2)=true:=decide_eq_true c44;clear c44;replace H:=zT.mp H;obtain ⟨t247,A450,H⟩:=H;replace H : (if t247=true then (spec_l01OK.l0 k2 a1 t242 (wrap64 (x7_2 + 1))) else (some false))=some r:=H;have A45:=zh A450;clear A450
        by_cases c46 : t247=true
        ·
         subst c46
         have H1 : (spec_l01OK.l0 k2 a1 t242 (wrap64 (x7_2 + 1)))=some r:=by rw [if_pos rfl] at H;exact H
         clear H;have H:=H1;clear H1;have H':=zh H;clear H;obtain ⟨Ao47,co47,eo47⟩:=yk HO_5.out;subst eo47;have p246 : 0≤(x7_2 : Int):=zy (by first|(with_reducible assumption)|assumption);have q246 : x7_2<(t242.length : Int):=zy (by first|(with_reducible assumption)|assumption);obtain ⟨ad246,e246,hx246_0,hx246_1,hx246_2⟩:=at_T39 (yh HO_5.out).2.2 x7_2 p246 q246
         cases e246
         replace p246:=eq_true p246;replace q246:=eq_true q246
         go_wp2_with (first|((with_reducible refine zJ (f:=54) rfl ?_);refine yj (some 91) rfl rfl Tryd.func54 (by kernel_rfl) rfl #[.agg #[.int .i64 ((rd_T39 t242 x7_2).f0),.int .i64 ((rd_T39 t242 x7_2).f1),.string ((rd_T39 t242 x7_2).f2)],.int .i64 (wrap64 (a1 - 1))] rfl (by (try simp only [zt,zu,zv]);first|done|rfl|(simp only [zw,zx];rfl)|(simp only [yr,ys,zV,zW];rfl)) ?_;(with_reducible refine (ih k2 (by have:=HJ30.out;have:=HK2.out;omega)  ((rd_T39 t242 x7_2).f0) ((rd_T39 t242 x7_2).f1) ((rd_T39 t242 x7_2).f2) (wrap64 (a1 - 1)) true _ A45.out).mono ?_);rintro e w48 ⟨rfl,hb⟩;refine ⟨_,rfl,?_⟩;replace HO_5:=zh (yg (by (with_reducible repeat (first|apply zm|apply zn|apply zo));exact HO_5.out) hb);replace BK239:=zh (zD (g:=gb239) (o:=.cells #[.int .i64 a0_0,.int .i64 a0_1,.string a0_2] 39 (0,0)) (by (with_reducible repeat (first|refine ze ?_ _|refine zf ?_|refine zg ?_ _));exact BK239.out) hb);replace HB:=zh (zC (by repeat (with_reducible first|exact HB.out|apply za|apply zb|apply zc|refine zd ?_ GE239.out)) hb);(try clear hb);(try clear hb2);(try clear hk);(try clear hi)))
         go_roundg k2
         case measure => have:=HJ30.out;have:=HK2.out;omega
         case rel => exact ⟨(wrap64 (x7_2 + 1)),(by first|rfl|(simp;done)|(simp [*];done)),H',⟨by have:=HJ30.out;have:=HK2.out;omega⟩,⟨by (with_reducible repeat (first|apply zm|apply zn|apply zo));exact HO_5.out⟩,⟨by (with_reducible repeat (first|refine ze ?_ _|refine zf ?_|refine zg ?_ _));exact BK239.out⟩,⟨by repeat (with_reducible first|exact HB.out|apply za|apply zb|apply zc|refine zd ?_ GE239.out)⟩⟩
        replace c46:=yb.mpr c46;subst c46;have H1 : (some false)=some r:=by rw [if_neg (show ¬ (false=true) by decide)] at H;exact H
        clear H;have H:=H1;clear H1;obtain rfl:=zU H;obtain ⟨Ao49,co49,eo49⟩:=yk HO_5.out;subst eo49;have p246 : 0≤(x7_2 : Int):=zy (by first|(with_reducible assumption)|assumption);have q246 : x7_2<(t242.length : Int):=zy (by first|(with_reducible assumption)|assumption);obtain ⟨ad246,e246,hx246_0,hx246_1,hx246_2⟩:=at_T39 (yh HO_5.out).2.2 x7_2 p246 q246
        cases e246
        replace p246:=eq_true p246;replace q246:=eq_true q246
        go_wp2_with (first|((with_reducible refine zJ (f:=54) rfl ?_);refine yj (some 91) rfl rfl Tryd.func54 (by kernel_rfl) rfl #[.agg #[.int .i64 ((rd_T39 t242 x7_2).f0),.int .i64 ((rd_T39 t242 x7_2).f1),.string ((rd_T39 t242 x7_2).f2)],.int .i64 (wrap64 (a1 - 1))] rfl (by (try simp only [zt,zu,zv]);first|done|rfl|(simp only [zw,zx];rfl)|(simp only [yr,ys,zV,zW];rfl)) ?_;(with_reducible refine (ih k2 (by have:=HJ30.out;have:=HK2.out;omega)  ((rd_T39 t242 x7_2).f0) ((rd_T39 t242 x7_2).f1) ((rd_T39 t242 x7_2).f2) (wrap64 (a1 - 1)) false _ A45.out).mono ?_);rintro e w50 ⟨rfl,hb⟩;refine ⟨_,rfl,?_⟩;replace HO_5:=zh (yg (by (with_reducible repeat (first|apply zm|apply zn|apply zo));exact HO_5.out) hb);replace BK239:=zh (zD (g:=gb239) (o:=.cells #[.int .i64 a0_0,.int .i64 a0_1,.string a0_2] 39 (0,0)) (by (with_reducible repeat (first|refine ze ?_ _|refine zf ?_|refine zg ?_ _));exact BK239.out) hb);replace HB:=zh (zC (by repeat (with_reducible first|exact HB.out|apply za|apply zb|apply zc|refine zd ?_ GE239.out)) hb);(try clear hb);(try clear hb2);(try clear hk);(try clear hi)))
        go_ret
        exact ⟨by first|rfl|(simp [yt,yu] <;> rfl)|(simp [*,yt,yu] <;> rfl),by repeat (with_reducible first|exact HB.out|apply za|apply zb|apply zc|refine zd ?_ GE239.out)⟩
       rw [if_neg c44] at H;exact absurd H (by simp)
      rw [if_neg c43] at H;have c43b0 : decide (x7_2<(t242.length : Int))=false:=decide_eq_false c43;clear c43;obtain rfl:=zU H;obtain ⟨Ao51,co51,eo51⟩:=yk HO_5.out;subst eo51
      go_wp2
      go_ret
      exact ⟨by first|rfl|(simp [yt,yu] <;> rfl)|(simp [*,yt,yu] <;> rfl),by repeat (with_reducible first|exact HB.out|apply za|apply zb|apply zc|refine zd ?_ GE239.out)⟩
 rw [if_neg c29] at H;have c29b0 : (a0_0 == 4)=false:=zY.mpr c29;have c29b1 : (a0_0 != 4)=true:=zZ.mpr c29
 by_cases c52 : a0_0=5
 ·
  rw [if_pos c52] at H
  have c52b0 : (a0_0 == 5)=true:=ya.mpr c52;have c52b1 : (a0_0 != 5)=false:=zX.mpr c52;clear c52;replace H:=zT.mp H;obtain ⟨⟨t248,t249⟩,A530,H⟩:=H;replace H : (if a0_1=0 then (if t249=true then (if (a0_2.size : Int) > 300 then (spec_l01OK.j2 k a1 t248 true) else (spec_l01OK.j2 k a1 t248 (a1 == 0))) else (spec_l01OK.j2 k a1 t248 true)) else (spec_l01OK.j2 k a1 t248 true))=some r:=H;have A53:=zh A530;clear A530;have HC54:=zh H;clear H
  go_enter Tryd.func54,Tryd.ntmps54
  go_upto_region 22 with (first|((with_reducible refine zK (N:=2) rfl ?_);(try (refine yz (by rfl) ?_;dsimp only));refine zI ?hg (N:=2) ?hd (cs:=#[.int .i64 a0_0,.int .i64 a0_1,.string a0_2]) (t:=39) ?hr ?_;(case hd => rfl);(case hg => rfl);(case hr => first|(go_simp;done)|(go_simp;rfl));intro gb239 hg w55 hbox hb;have BK239:=zh (hbox);have GW239:=zh ((by rw [hg];exact (zB (by repeat (with_reducible first|exact HB.out|apply za|apply zb|apply zc))) : w.heap.size≤gb239));have GE239:=zh ((by rw [hg];exact (zB (by repeat (with_reducible first|exact HB.out|apply za|apply zb|apply zc))) : w.heap.size≤gb239));replace HB:=zh (zC (by repeat (with_reducible first|exact HB.out|apply za|apply zb|apply zc)) hb);clear hb hbox hg;have hcz56_0 : w55.cell? ⟨gb239,0,none⟩=some (.int .i64 a0_0):=(zz BK239.out 0).trans rfl;have hcz56_1 : w55.cell? ⟨gb239,1,none⟩=some (.int .i64 a0_1):=(zz BK239.out 1).trans rfl;have hcz56_2 : w55.cell? ⟨gb239,2,none⟩=some (.string a0_2):=(zz BK239.out 2).trans rfl;have hfz56_0:=zA BK239.out 0;have hfz56_1:=zA BK239.out 1;have hfz56_2:=zA BK239.out 2)|((with_reducible refine zJ (f:=67) rfl ?_);refine yj (some 98) rfl rfl Tryd.func67 (by kernel_rfl) rfl #[.string a0_2] rfl (by (try simp only [zt,zu,zv]);first|done|rfl|(simp only [zw,zx];rfl)|(simp only [yr,ys,zV,zW];rfl)) ?_;(with_reducible refine (spec_l01Fields.calls k  a0_2 t248 t249 _ A53.out).mono ?_);rintro e w57 ⟨v250,rfl,ho0,hb⟩;refine ⟨_,rfl,?_⟩;have HO251:=zh (yy ho0 (zB (by repeat (with_reducible first|exact HB.out|apply za|apply zb|apply zc|refine zd ?_ GE239.out))));replace BK239:=zh (zD (g:=gb239) (o:=.cells #[.int .i64 a0_0,.int .i64 a0_1,.string a0_2] 39 (0,0)) (by (with_reducible repeat (first|refine ze ?_ _|refine zf ?_|refine zg ?_ _));exact BK239.out) hb);replace HB:=zh (zC (by repeat (with_reducible first|exact HB.out|apply za|apply zb|apply zc|refine zd ?_ GE239.out)) hb);(try clear hb);(try clear hb2);(try clear hk);(try clear hi);(try clear ho0)))
  (try simp only [Act.put,zi,zj,zk])
  go_cut [117] (fun v117 wc => ∃ (kq : Nat) (x117_53 : Bool),v117 = .bool x117_53∧Aside0 (spec_l01OK.j2 kq a1 t248 x117_53=some r)∧Aside0 (kq≤k)∧Aside0 (Kd.R k92 92 wc w.heap.size (fun _ => True) v250 t248)∧Aside0 (wc.heap[gb239]? = some (.cells #[.int .i64 a0_0,.int .i64 a0_1,.string a0_2] 39 (0,0)))∧Aside0 (Below w.heap.size w wc))
  case first =>
   have H:=HC54.out;clear HC54
   by_cases c58 : a0_1=0
   ·
    rw [if_pos c58] at H
    have c58b0 : (a0_1 == 0)=true:=ya.mpr c58;have c58b1 : (a0_1 != 0)=false:=zX.mpr c58;clear c58;(first|rw [c58b0]|(simp only [zG,zH];rw [c58b0])|skip)
    by_cases c59 : t249=true
    ·
     subst c59
     have H1 : (if (a0_2.size : Int) > 300 then (spec_l01OK.j2 k a1 t248 true) else (spec_l01OK.j2 k a1 t248 (a1 == 0)))=some r:=by rw [if_pos rfl] at H;exact H
     clear H;have H:=H1;clear H1
     by_cases c60 : (a0_2.size : Int) > 300
     ·
      rw [if_pos c60] at H
      have c60b0 : decide (300<(a0_2.size : Int))=true:=decide_eq_true c60;have c60b1 : decide (300<a0_2.size)=true:=decide_eq_true (by omega);clear c60;have H':=zh H;clear H;have hcz61_0 : w57.cell? ⟨gb239,0,none⟩=some (.int .i64 a0_0):=(zz BK239.out 0).trans rfl;have hcz61_1 : w57.cell? ⟨gb239,1,none⟩=some (.int .i64 a0_1):=(zz BK239.out 1).trans rfl;have hcz61_2 : w57.cell? ⟨gb239,2,none⟩=some (.string a0_2):=(zz BK239.out 2).trans rfl;have hfz61_0:=zA BK239.out 0;have hfz61_1:=zA BK239.out 1;have hfz61_2:=zA BK239.out 2
      go_wp2
      go_meet
      case rel => exact ⟨_,(true),(by first|rfl|(simp;done)|(simp [*];done)),H',⟨by first|omega|exact ye _⟩,⟨by (with_reducible repeat (first|apply zm|apply zn|apply zo));exact HO251.out⟩,⟨by (with_reducible repeat (first|refine ze ?_ _|refine zf ?_|refine zg ?_ _));exact BK239.out⟩,⟨by repeat (with_reducible first|exact HB.out|apply za|apply zb|apply zc|refine zd ?_ GE239.out)⟩⟩
     rw [if_neg c60] at H;have c60b0 : decide (300<(a0_2.size : Int))=false:=decide_eq_false c60;have c60b1 : decide (300<a0_2.size)=false:=decide_eq_false (by omega);clear c60;have H':=zh H;clear H;have hcz62_0 : w57.cell? ⟨gb239,0,none⟩=some (.int .i64 a0_0):=(zz BK239.out 0).trans rfl;have hcz62_1 : w57.cell? ⟨gb239,1,none⟩=some (.int .i64 a0_1):=(zz BK239.out 1).trans rfl;have hcz62_2 : w57.cell? ⟨gb239,2,none⟩=some (.string a0_2):=(zz BK239.out 2).trans rfl;have hfz62_0:=zA BK239.out 0;have hfz62_1:=zA BK239.out 1;have hfz62_2:=zA BK239.out 2
     go_wp2
     go_meet
     case rel => exact ⟨_,((a1 == 0)),(by first|rfl|(simp;done)|(simp [*];done)),H',⟨by first|omega|exact ye _⟩,⟨by (with_reducible repeat (first|apply zm|apply zn|apply zo));exact HO251.out⟩,⟨by (with_reducible repeat (first|refine ze ?_ _|refine zf ?_|refine zg ?_ _));exact BK239.out⟩,⟨by repeat (with_reducible first|exact HB.out|apply za|apply zb|apply zc|refine zd ?_ GE239.out)⟩⟩
    replace c59:=yb.mpr c59;subst c59;have H1 : (spec_l01OK.j2 k a1 t248 true)=some r:=by rw [if_neg (show ¬ (false=true) by decide)] at H;exact H
    clear H;have H:=H1;clear H1;have H':=zh H;clear H;have hcz63_0 : w57.cell? ⟨gb239,0,none⟩=some (.int .i64 a0_0):=(zz BK239.out 0).trans rfl;have hcz63_1 : w57.cell? ⟨gb239,1,none⟩=some (.int .i64 a0_1):=(zz BK239.out 1).trans rfl;have hcz63_2 : w57.cell? ⟨gb239,2,none⟩=some (.string a0_2):=(zz BK239.out 2).trans rfl;have hfz63_0:=zA BK239.out 0;have hfz63_1:=zA BK239.out 1;have hfz63_2:=zA BK239.out 2
    go_wp2
    go_meet
    case rel => exact ⟨_,(true),(by first|rfl|(simp;done)|(simp [*];done)),H',⟨by first|omega|exact ye _⟩,⟨by (with_reducible repeat (first|apply zm|apply zn|apply zo));exact HO251.out⟩,⟨by (with_reducible repeat (first|refine ze ?_ _|refine zf ?_|refine zg ?_ _));exact BK239.out⟩,⟨by repeat (with_reducible first|exact HB.out|apply za|apply zb|apply zc|refine zd ?_ GE239.out)⟩⟩
   rw [if_neg c58] at H;have c58b0 : (a0_1 == 0)=false:=zY.mpr c58;have c58b1 : (a0_1 != 0)=true:=zZ.mpr c58;(first|rw [c58b0]|(simp only [zG,zH];rw [c58b0])|skip);have H':=zh H;clear H;have hcz64_0 : w57.cell? ⟨gb239,0,none⟩=some (.int .i64 a0_0):=(zz BK239.out 0).trans rfl;have hcz64_1 : w57.cell? ⟨gb239,1,none⟩=some (.int .i64 a0_1):=(zz BK239.out 1).trans rfl;have hcz64_2 : w57.cell? ⟨gb239,2,none⟩=some (.string a0_2):=(zz BK239.out 2).trans rfl;have hfz64_0:=zA BK239.out 0;have hfz64_1:=zA BK239.out 1;have hfz64_2:=zA BK239.out 2
   go_wp2
   go_meet
   case rel => exact ⟨_,(true),(by first|rfl|(simp;done)|(simp [*];done)),H',⟨by first|omega|exact ye _⟩,⟨by (with_reducible repeat (first|apply zm|apply zn|apply zo));exact HO251.out⟩,⟨by (with_reducible repeat (first|refine ze ?_ _|refine zf ?_|refine zg ?_ _));exact BK239.out⟩,⟨by repeat (with_reducible first|exact HB.out|apply za|apply zb|apply zc|refine zd ?_ GE239.out)⟩⟩
  case rest =>
   clear HC54
   try clear c1
   try clear c2
   try clear p2
   try clear q2
   try clear hx2
   try clear c3
   try clear c3b0
   try clear c3b1
   try clear c4
   try clear c4b0
   try clear c4b1
   try clear c5
   try clear c6
   try clear p6
   try clear c9
   try clear c9b0
   try clear c9b1
   try clear c11
   try clear c16
   try clear c16b0
   try clear c16b1
   try clear c18
   try clear c23
   try clear c23b0
   try clear c23b1
   try clear c24
   try clear c24b0
   try clear c24b1
   try clear p24
   try clear q24
   try clear hx24
   try clear c29
   try clear c29b0
   try clear c29b1
   try clear c35
   try clear c35b0
   try clear c35b1
   try clear c36
   try clear c37
   try clear c37b0
   try clear c37b1
   try clear c42
   try clear c43
   try clear c43b0
   try clear c44
   try clear c44b0
   try clear c46
   try clear c52
   try clear c52b0
   try clear c52b1
   try clear c54
   try clear c58
   try clear c58b0
   try clear c58b1
   try clear c59
   try clear c60
   try clear c60b0
   try clear c60b1
   try clear p64
   try clear hcz13_0
   try clear hcz13_1
   try clear hcz13_2
   try clear hcz15_0
   try clear hcz15_1
   try clear hcz15_2
   try clear hcz20_0
   try clear hcz20_1
   try clear hcz20_2
   try clear hcz22_0
   try clear hcz22_1
   try clear hcz22_2
   try clear hcz26_0
   try clear hcz26_1
   try clear hcz26_2
   try clear hcz28_0
   try clear hcz28_1
   try clear hcz28_2
   try clear hcz33_0
   try clear hcz33_1
   try clear hcz33_2
   try clear hcz38_0
   try clear hcz38_1
   try clear hcz38_2
   try clear hcz39_0
   try clear hcz39_1
   try clear hcz39_2
   try clear hcz40_0
   try clear hcz40_1
   try clear hcz40_2
   try clear hcz41_0
   try clear hcz41_1
   try clear hcz41_2
   try clear hcz56_0
   try clear hcz56_1
   try clear hcz56_2
   try clear hcz61_0
   try clear hcz61_1
   try clear hcz61_2
   try clear hcz62_0
   try clear hcz62_1
   try clear hcz62_2
   try clear hcz63_0
   try clear hcz63_1
   try clear hcz63_2
   try clear hcz64_0
   try clear hcz64_1
   try clear hcz64_2
   try clear hcz6_0
   try clear hcz6_1
   try clear hcz6_2
   try clear hcz8_0
   try clear hcz8_1
   try clear hcz8_2
   try clear hfz13_0
   try clear hfz13_1
   try clear hfz13_2
   try clear hfz15_0
   try clear hfz15_1
   try clear hfz15_2
   try clear hfz20_0
   try clear hfz20_1
   try clear hfz20_2
   try clear hfz22_0
   try clear hfz22_1
   try clear hfz22_2
   try clear hfz26_0
   try clear hfz26_1
   try clear hfz26_2
   try clear hfz28_0
   try clear hfz28_1
   try clear hfz28_2
   try clear hfz33_0
   try clear hfz33_1
   try clear hfz33_2
   try clear hfz38_0
   try clear hfz38_1
   try clear hfz38_2
   try clear hfz39_0
   try clear hfz39_1
   try clear hfz39_2
   try clear hfz40_0
   try clear hfz40_1
   try clear hfz40_2
   try clear hfz41_0
   try clear hfz41_1
   try clear hfz41_2
   try clear hfz56_0
   try clear hfz56_1
   try clear hfz56_2
   try clear hfz61_0
   try clear hfz61_1
   try clear hfz61_2
   try clear hfz62_0
   try clear hfz62_1
   try clear hfz62_2
   try clear hfz63_0
   try clear hfz63_1
   try clear hfz63_2
   try clear hfz64_0
   try clear hfz64_1
   try clear hfz64_2
   try clear hfz6_0
   try clear hfz6_1
   try clear hfz6_2
   try clear hfz8_0
   try clear hfz8_1
   try clear hfz8_2
   try clear hx246_0
   try clear hx246_1
   try clear hx246_2
   try clear p2
   try clear p246
   try clear q246
   obtain ⟨kq,x117_53,rfl,HA,HJ53,HO_8,BK239,HB⟩:=hcut
   cases kq with
   | zero => exact absurd HA.out (by simp [spec_l01OK.j2])
   | succ kj53 =>
    have H:=HA.out;clear HA;simp only [spec_l01OK.j2] at H
    by_cases c65 : x117_53=true
    ·
     subst c65
     have H1 : (some false)=some r:=by rw [if_pos rfl] at H;exact H
     clear H;have H:=H1;clear H1;obtain rfl:=zU H
     go_wp2
     go_ret
     exact ⟨by first|rfl|(simp [yt,yu] <;> rfl)|(simp [*,yt,yu] <;> rfl),by repeat (with_reducible first|exact HB.out|apply za|apply zb|apply zc|refine zd ?_ GE239.out)⟩
    replace c65:=yb.mpr c65;subst c65;have H1 : (spec_l01OK.l1 kj53 a1 t248 0)=some r:=by rw [if_neg (show ¬ (false=true) by decide)] at H;exact H
    clear H;have H:=H1;clear H1;have H':=zh H;clear H
    go_wp2
    go_loopg [10] kj53 (fun kq v10 w' => ∃ (x10_2 : Int),v10 = .int .i64 x10_2∧Aside0 (spec_l01OK.l1 kq a1 t248 x10_2=some r)∧Aside0 (kq≤kj53)∧Aside0 (Kd.R k92 92 w' w.heap.size (fun _ => True) v250 t248)∧Aside0 (w'.heap[gb239]? = some (.cells #[.int .i64 a0_0,.int .i64 a0_1,.string a0_2] 39 (0,0)))∧Aside0 (Below w.heap.size w w'))
    case atStart => exact ⟨(0),(by first|rfl|(simp;done)|(simp [*];done)),H',⟨ye _⟩,⟨by (with_reducible repeat (first|apply zm|apply zn|apply zo));exact HO_8.out⟩,⟨by (with_reducible repeat (first|refine ze ?_ _|refine zf ?_|refine zg ?_ _));exact BK239.out⟩,⟨by repeat (with_reducible first|exact HB.out|apply za|apply zb|apply zc|refine zd ?_ GE239.out)⟩⟩
    case round =>
     clear H'
     try clear c1
     try clear c2
     try clear p2
     try clear q2
     try clear hx2
     try clear c3
     try clear c3b0
     try clear c3b1
     try clear c4
     try clear c4b0
     try clear c4b1
     try clear c5
     try clear c6
     try clear p6
     try clear c9
     try clear c9b0
     try clear c9b1
     try clear c11
     try clear c16
     try clear c16b0
     try clear c16b1
     try clear c18
     try clear c23
     try clear c23b0
     try clear c23b1
     try clear c24
     try clear c24b0
     try clear c24b1
     try clear p24
     try clear q24
     try clear hx24
     try clear c29
     try clear c29b0
     try clear c29b1
     try clear c35
     try clear c35b0
     try clear c35b1
     try clear c36
     try clear c37
     try clear c37b0
     try clear c37b1
     try clear c42
     try clear c43
     try clear c43b0
     try clear c44
     try clear c44b0
     try clear c46
     try clear c52
     try clear c52b0
     try clear c52b1
     try clear c54
     try clear c58
     try clear c58b0
     try clear c58b1
     try clear c59
     try clear c60
     try clear c60b0
     try clear c60b1
     try clear p64
     try clear c65
     try clear hcz13_0
     try clear hcz13_1
     try clear hcz13_2
     try clear hcz15_0
     try clear hcz15_1
     try clear hcz15_2
     try clear hcz20_0
     try clear hcz20_1
     try clear hcz20_2
     try clear hcz22_0
     try clear hcz22_1
     try clear hcz22_2
     try clear hcz26_0
     try clear hcz26_1
     try clear hcz26_2
     try clear hcz28_0
     try clear hcz28_1
     try clear hcz28_2
     try clear hcz33_0
     try clear hcz33_1
     try clear hcz33_2
     try clear hcz38_0
     try clear hcz38_1
     try clear hcz38_2
     try clear hcz39_0
     try clear hcz39_1
     try clear hcz39_2
     try clear hcz40_0
     try clear hcz40_1
     try clear hcz40_2
     try clear hcz41_0
     try clear hcz41_1
     try clear hcz41_2
     try clear hcz56_0
     try clear hcz56_1
     try clear hcz56_2
     try clear hcz61_0
     try clear hcz61_1
     try clear hcz61_2
     try clear hcz62_0
     try clear hcz62_1
     try clear hcz62_2
     try clear hcz63_0
     try clear hcz63_1
     try clear hcz63_2
     try clear hcz64_0
     try clear hcz64_1
     try clear hcz64_2
     try clear hcz6_0
     try clear hcz6_1
     try clear hcz6_2
     try clear hcz8_0
     try clear hcz8_1
     try clear hcz8_2
     try clear hfz13_0
     try clear hfz13_1
     try clear hfz13_2
     try clear hfz15_0
     try clear hfz15_1
     try clear hfz15_2
     try clear hfz20_0
     try clear hfz20_1
     try clear hfz20_2
     try clear hfz22_0
     try clear hfz22_1
     try clear hfz22_2
     try clear hfz26_0
     try clear hfz26_1
     try clear hfz26_2
     try clear hfz28_0
     try clear hfz28_1
     try clear hfz28_2
     try clear hfz33_0
     try clear hfz33_1
     try clear hfz33_2
     try clear hfz38_0
     try clear hfz38_1
     try clear hfz38_2
     try clear hfz39_0
     try clear hfz39_1
     try clear hfz39_2
     try clear hfz40_0
     try clear hfz40_1
     try clear hfz40_2
     try clear hfz41_0
     try clear hfz41_1
     try clear hfz41_2
     try clear hfz56_0
     try clear hfz56_1
     try clear hfz56_2
     try clear hfz61_0
     try clear hfz61_1
     try clear hfz61_2
     try clear hfz62_0
     try clear hfz62_1
     try clear hfz62_2
     try clear hfz63_0
     try clear hfz63_1
     try clear hfz63_2
     try clear hfz64_0
     try clear hfz64_1
     try clear hfz64_2
     try clear hfz6_0
     try clear hfz6_1
     try clear hfz6_2
     try clear hfz8_0
     try clear hfz8_1
     try clear hfz8_2
     try clear hx246_0
     try clear hx246_1
     try clear hx246_2
     try clear p2
     try clear p24
     try clear p246
     try clear p6
     try clear p64
     try clear q2
     try clear q24
     try clear q246
     obtain ⟨x10_2,rfl,HA,HK2,HO_8,BK239,HB⟩:=hrel
     cases gk with
     | zero => exact absurd HA.out (by simp [spec_l01OK.l1])
     | succ k2 =>
      have H:=HA.out;clear HA;simp only [spec_l01OK.l1] at H
      by_cases c66 : x10_2<(t248.length : Int)
      ·
       rw [if_pos c66] at H
       have c66b0 : decide (x10_2<(t248.length : Int))=true:=decide_eq_true c66;clear c66
       by_cases c67 : 0≤x10_2
       ·
        rw [if_pos c67] at H
        have c67b0 : decide (0≤x10_2)=true:=decide_eq_true c67;clear c67;replace H:=zT.mp H;obtain ⟨t253,A680,H⟩:=H;replace H : (if t253=true then (if x10_2 > 0 then (if 0≤(wrap64 (x10_2 - 1)) then (if (wrap64 (x10_2 - 1))<(t248.length : Int) then (if ((Op.bytesLess (((rd_T92 t248 (wrap64 (x10_2 - 1))).f0).toList) (((rd_T92 t248 x10_2).f0).toList))=true) then ((spec_l01OK.f k2 ((rd_T92 t248 x10_2).f1.f0) ((rd_T92 t248 x10_2).f1.f1) ((rd_T92 t248 x10_2).f1.f2) (wrap64 (a1 - 1))).bind fun t257 => (if t257=true then (spec_l01OK.l1 k2 a1 t248 (wrap64 (x10_2 + 1))) else (some false))) else (some false)) else (none)) else (none)) else ((spec_l01OK.f k2 ((rd_T92 t248 x10_2).f1.f0) ((rd_T92 t248 x10_2).f1.f1) ((rd_T92 t248 x10_2).f1.f2) (wrap64 (a1 - 1))).bind fun t259 => (if t259=true then (spec_l01OK.l1 k2 a1 t248 (wrap64 (x10_2 + 1))) else (some false)))) else (some false))=some r:=H;have A68:=zh A680;clear A680
        by_cases c69 : t253=true
        ·
         subst c69
         have H1 : (if x10_2 > 0 then (if 0≤(wrap64 (x10_2 - 1)) then (if (wrap64 (x10_2 - 1))<(t248.length : Int) then (if ((Op.bytesLess (((rd_T92 t248 (wrap64 (x10_2 - 1))).f0).toList) (((rd_T92 t248 x10_2).f0).toList))=true) then ((spec_l01OK.f k2 ((rd_T92 t248 x10_2).f1.f0) ((rd_T92 t248 x10_2).f1.f1) ((rd_T92 t248 x10_2).f1.f2) (wrap64 (a1 - 1))).bind fun t257 => (if t257=true then (spec_l01OK.l1 k2 a1 t248 (wrap64 (x10_2 + 1))) else (some false))) else (some false)) else (none)) else (none)) else ((spec_l01OK.f k2 ((rd_T92 t248 x10_2).f1.f0) ((rd_T92 t248 x10_2).f1.f1) ((rd_T92 t248 x10_2).f1.f2) (wrap64 (a1 - 1))).bind fun t259 => (if t259=true then (spec_l01OK.l1 k2 a1 t248 (wrap64 (x10_2 + 1))) else (some false))))=some r:=by rw [if_pos rfl] at H;exact H
         clear H;have H:=H1;clear H1
         by_cases c70 : x10_2 > 0
         ·
          rw [if_pos c70] at H
          have c70b0 : decide (0<x10_2)=true:=decide_eq_true c70;clear c70;obtain ⟨ji71,hji71⟩ : ∃ j_ : Int,(wrap64 (x10_2 - 1))=j_:=⟨_,rfl⟩;replace H : (if 0≤(ji71) then (if (ji71)<(t248.length : Int) then (if ((Op.bytesLess (((rd_T92 t248 (ji71)).f0).toList) (((rd_T92 t248 x10_2).f0).toList))=true) then ((spec_l01OK.f k2 ((rd_T92 t248 x10_2).f1.f0) ((rd_T92 t248 x10_2).f1.f1) ((rd_T92 t248 x10_2).f1.f2) (wrap64 (a1 - 1))).bind fun t257 => (if t257=true then (spec_l01OK.l1 k2 a1 t248 (wrap64 (x10_2 + 1))) else (some false))) else (some false)) else (none)) else (none))=some r:=by first|(rw [hji71] at H;exact H)|(simp only [hji71] at H ⊢;exact H)
          (try rw [hji71] at A68);have hji71w : (IntKind.i64.wrap (x10_2 - 1))=ji71:=(zG _).trans hji71
          by_cases c72 : 0≤(ji71)
          ·
           rw [if_pos c72] at H
           have c72b0 : decide (0≤(ji71))=true:=decide_eq_true c72;clear c72
           by_cases c73 : (ji71)<(t248.length : Int)
           ·
            rw [if_pos c73] at H
            have c73b0 : decide ((ji71)<(t248.length : Int))=true:=decide_eq_true c73;clear c73
            by_cases c74 : ((Op.bytesLess (((rd_T92 t248 (ji71)).f0).toList) (((rd_T92 t248 x10_2).f0).toList))=true)
            ·
             rw [if_pos c74] at H
             have c74b0 : (Op.bytesLess (((rd_T92 t248 (ji71)).f0).toList) (((rd_T92 t248 x10_2).f0).toList))=true:=c74;clear c74;replace H:=zT.mp H;obtain ⟨t257,A750,H⟩:=H;replace H : (if t257=true then (spec_l01OK.l1 k2 a1 t248 (wrap64 (x10_2 + 1))) else (some false))=some r:=H;have A75:=zh A750;clear A750
             by_cases c76 : t257=true
             ·
              subst c76
              have H1 : (spec_l01OK.l1 k2 a1 t248 (wrap64 (x10_2 + 1)))=some r:=by rw [if_pos rfl] at H;exact H
              clear H;have H:=H1;clear H1;have H':=zh H;clear H;obtain ⟨Ao77,co77,eo77⟩:=yk HO_8.out;subst eo77
              try go_wp2
              replace HO_8:=zh (zo HO_8.out);replace BK239:=zh (zf BK239.out);replace HB:=zh (zc HB.out);have p252 : 0≤(x10_2 : Int):=zy (by first|(with_reducible assumption)|assumption);have q252 : x10_2<(t248.length : Int):=zy (by first|(with_reducible assumption)|assumption);obtain ⟨ad252,e252,hx252_0,hx252_1,hx252_2,hx252_3⟩:=at_T92 (yh HO_8.out).2.2 x10_2 p252 q252
              cases e252
              replace p252:=eq_true p252;replace q252:=eq_true q252;have p254 : 0≤((ji71) : Int):=zy (by first|(with_reducible assumption)|assumption);have q254 : (ji71)<(t248.length : Int):=zy (by first|(with_reducible assumption)|assumption);obtain ⟨ad254,e254,hx254_0,hx254_1,hx254_2,hx254_3⟩:=at_T92 (yh HO_8.out).2.2 (ji71) p254 q254;obtain rfl : ad252=ad254:=(by injection e254);replace p254:=eq_true p254;replace q254:=eq_true q254;have p255 : 0≤(x10_2 : Int):=zy (by first|(with_reducible assumption)|assumption);have q255 : x10_2<(t248.length : Int):=zy (by first|(with_reducible assumption)|assumption);obtain ⟨ad255,e255,hx255_0,hx255_1,hx255_2,hx255_3⟩:=at_T92 (yh HO_8.out).2.2 x10_2 p255 q255;obtain rfl : ad252=ad255:=(by injection e255);replace p255:=eq_true p255;replace q255:=eq_true q255;have p256 : 0≤(x10_2 : Int):=zy (by first|(with_reducible assumption)|assumption);have q256 : x10_2<(t248.length : Int):=zy (by first|(with_reducible assumption)|assumption);obtain ⟨ad256,e256,hx256_0,hx256_1,hx256_2,hx256_3⟩:=at_T92 (yh HO_8.out).2.2 x10_2 p256 q256;obtain rfl : ad252=ad256:=(by injection e256);replace p256:=eq_true p256;replace q256:=eq_true q256;refine start_ (n:=36) (S:=fun w' => w'.cell? (ad252.add ((x10_2).toNat * 4))=some (.string ((rd_T92 t248 x10_2).f0))∧w'.cell? ⟨(ad252.add ((x10_2).toNat * 4)).block,(ad252.add ((x10_2).toNat * 4)).off + 1,none⟩=some (.int .i64 ((rd_T92 t248 x10_2).f1.f0))∧w'.cell? ⟨(ad252.add ((x10_2).toNat * 4)).block,(ad252.add ((x10_2).toNat * 4)).off + 2,none⟩=some (.int .i64 ((rd_T92 t248 x10_2).f1.f1))∧w'.cell? ⟨(ad252.add ((x10_2).toNat * 4)).block,(ad252.add ((x10_2).toNat * 4)).off + 3,none⟩=some (.string ((rd_T92 t248 x10_2).f1.f2))∧w'.cell? (ad252.add (((ji71)).toNat * 4))=some (.string ((rd_T92 t248 (ji71)).f0))∧w'.cell? ⟨(ad252.add (((ji71)).toNat * 4)).block,(ad252.add (((ji71)).toNat * 4)).off + 1,none⟩=some (.int .i64 ((rd_T92 t248 (ji71)).f1.f0))∧w'.cell? ⟨(ad252.add (((ji71)).toNat * 4)).block,(ad252.add (((ji71)).toNat * 4)).off + 2,none⟩=some (.int .i64 ((rd_T92 t248 (ji71)).f1.f1))∧w'.cell? ⟨(ad252.add (((ji71)).toNat * 4)).block,(ad252.add (((ji71)).toNat * 4)).off + 3,none⟩=some (.string ((rd_T92 t248 (ji71)).f1.f2))∧w'.cell? (ad252.add ((x10_2).toNat * 4))=some (.string ((rd_T92 t248 x10_2).f0))∧w'.cell? ⟨(ad252.add ((x10_2).toNat * 4)).block,(ad252.add ((x10_2).toNat * 4)).off + 1,none⟩=some (.int .i64 ((rd_T92 t248 x10_2).f1.f0))∧w'.cell? ⟨(ad252.add ((x10_2).toNat * 4)).block,(ad252.add ((x10_2).toNat * 4)).off + 2,none⟩=some (.int .i64 ((rd_T92 t248 x10_2).f1.f1))∧w'.cell? ⟨(ad252.add ((x10_2).toNat * 4)).block,(ad252.add ((x10_2).toNat * 4)).off + 3,none⟩=some (.string ((rd_T92 t248 x10_2).f1.f2))∧w'.cell? (ad252.add ((x10_2).toNat * 4))=some (.string ((rd_T92 t248 x10_2).f0))∧w'.cell? ⟨(ad252.add ((x10_2).toNat * 4)).block,(ad252.add ((x10_2).toNat * 4)).off + 1,none⟩=some (.int .i64 ((rd_T92 t248 x10_2).f1.f0))∧w'.cell? ⟨(ad252.add ((x10_2).toNat * 4)).block,(ad252.add ((x10_2).toNat * 4)).off + 2,none⟩=some (.int .i64 ((rd_T92 t248 x10_2).f1.f1))∧w'.cell? ⟨(ad252.add ((x10_2).toNat * 4)).block,(ad252.add ((x10_2).toNat * 4)).off + 3,none⟩=some (.string ((rd_T92 t248 x10_2).f1.f2))) (ds:=[]) (bm_ 0 36) (by kernel_rfl) rfl rfl ⟨hx252_0,hx252_1,hx252_2,hx252_3,hx254_0,hx254_1,hx254_2,hx254_3,hx255_0,hx255_1,hx255_2,hx255_3,hx256_0,hx256_1,hx256_2,hx256_3⟩ (fun hHeld => ?_);refine with_tabW spec_l01OK.tab27 spec_l01OK.bits27 (fun HT_ HW_ => ?_);generalize wr.drew=w78 at HO_8 BK239 HB hx252_0 hx252_1 hx252_2 hx252_3 hx254_0 hx254_1 hx254_2 hx254_3 hx255_0 hx255_1 hx255_2 hx255_3 hx256_0 hx256_1 hx256_2 hx256_3 hHeld ⊢;refine pure_ (i:=0) (N:=some 124) (v:=?_) (a':=?_) (bm_ 1 36) rfl rfl (any_of HT_.out (by kernel_rfl)) (fun _ _ _ h => h) (Or.inl ⟨by rfl,?_⟩) ?_ ?_;rotate_left
              ·
               intro w'
               go_simp
               with_reducible rfl
              rotate_left
              ·
               simp only [Act.put,zi,zj,zk,zG,zH]
               rfl
              refine pure_ (i:=1) (N:=some 125) (v:=?_) (a':=?_) (bm_ 2 36) rfl rfl (any_of HT_.out (by kernel_rfl)) (fun _ _ _ h => h) (Or.inl ⟨by rfl,?_⟩) ?_ ?_;rotate_left
              ·
               intro w'
               go_simp
               with_reducible rfl
              rotate_left
              ·
               simp only [Act.put,zi,zj,zk,zG,zH]
               rfl
              refine pure_ (i:=2) (N:=some 126) (v:=?_) (a':=?_) (bm_ 3 36) rfl rfl (any_of HT_.out (by kernel_rfl)) (fun _ _ _ h => h) (Or.inl ⟨by rfl,?_⟩) ?_ ?_;rotate_left
              ·
               intro w'
               go_simp
               with_reducible rfl
              rotate_left
              ·
               simp only [Act.put,zi,zj,zk,zG,zH]
               rfl
              refine pure_ (i:=3) (N:=some 127) (v:=?_) (a':=?_) (bm_ 4 36) rfl rfl (any_of HT_.out (by kernel_rfl)) (fun _ _ _ h => h) (Or.inl ⟨by rfl,?_⟩) ?_ ?_;rotate_left
              ·
               intro w'
               go_simp
               with_reducible rfl
              rotate_left
              ·
               simp only [Act.put,zi,zj,zk,zG,zH]
               rfl
              refine take_ (i:=4) (N:=some 128) (v:=?_) (a':=?_) (bm_ 5 36) rfl rfl (yo HT_.out HW_.out (by kernel_rfl)) (fun _ _ _ h => h) (Or.inl ⟨by rfl,?_⟩) hHeld ?_ ?_;rotate_left
              ·
               rintro w' ⟨s0,s1,s2,s3,s4,s5,s6,s7,s8,s9,s10,s11,s12,s13,s14,s15⟩
               go_simp
               with_reducible rfl
              rotate_left
              ·
               simp only [Act.put,zi,zj,zk,zG,zH]
               rfl
              refine one_ (i:=5) (N:=some 129) (bm_ 6 36) rfl rfl (one_of HT_.out (by kernel_rfl)) (by decide) (fun K hK => ?_);refine goes_ Tryd.func28 (by kernel_rfl) rfl #[.string ((rd_T92 t248 x10_2).f0)] (by rfl) rfl rfl (by (try simp only [zt,zu,zv]);first|done|rfl|(simp only [zw,zx];rfl)|(simp only [yr,ys,zV,zW];rfl)) ?_
              with_reducible refine (spec_l01Name.calls k2  ((rd_T92 t248 x10_2).f0) true _ A68.out).mono ?_
              rintro e w' ⟨rfl,⟨nd,rfl⟩⟩;refine ⟨_,rfl,?_⟩;refine hK.out _ _ ⟨hHeld.1,hHeld.2.1,hHeld.2.2.1,hHeld.2.2.2.1,hHeld.2.2.2.2.1,hHeld.2.2.2.2.2.1,hHeld.2.2.2.2.2.2.1,hHeld.2.2.2.2.2.2.2.1,hHeld.2.2.2.2.2.2.2.2.1,hHeld.2.2.2.2.2.2.2.2.2.1,hHeld.2.2.2.2.2.2.2.2.2.2.1,hHeld.2.2.2.2.2.2.2.2.2.2.2.1,hHeld.2.2.2.2.2.2.2.2.2.2.2.2.1,hHeld.2.2.2.2.2.2.2.2.2.2.2.2.2.1,hHeld.2.2.2.2.2.2.2.2.2.2.2.2.2.2.1,hHeld.2.2.2.2.2.2.2.2.2.2.2.2.2.2.2⟩ (fun hHeld => ?_);clear hK K;refine norm_ (a':=?_) ?_ ?_;rotate_left
              ·
               show Act.put _ (some 129) _=_
               simp only [Act.put,zi,zj,zk,zG,zH]
               rfl
              refine pure_ (i:=6) (N:=some 130) (v:=?_) (a':=?_) (bm_ 7 36) rfl rfl (any_of HT_.out (by kernel_rfl)) (fun _ _ _ h => h) (Or.inl ⟨by rfl,?_⟩) ?_ ?_;rotate_left
              ·
               intro w'
               go_simp
               with_reducible rfl
              rotate_left
              ·
               simp only [Act.put,zi,zj,zk,zG,zH]
               rfl
              refine pure_ (i:=7) (N:=some 131) (v:=?_) (a':=?_) (bm_ 8 36) rfl rfl (any_of HT_.out (by kernel_rfl)) (fun _ _ _ h => h) (Or.inl ⟨by rfl,?_⟩) ?_ ?_;rotate_left
              ·
               intro w'
               go_simp
               with_reducible rfl
              rotate_left
              ·
               simp only [Act.put,zi,zj,zk,zG,zH]
               rfl
              refine pure_ (i:=8) (N:=some 132) (v:=?_) (a':=?_) (bm_ 9 36) rfl rfl (any_of HT_.out (by kernel_rfl)) (fun _ _ _ h => h) (Or.inl ⟨by rfl,?_⟩) ?_ ?_;rotate_left
              ·
               intro w'
               go_simp
               with_reducible rfl
              rotate_left
              ·
               simp only [Act.put,zi,zj,zk,zG,zH]
               rfl
              refine pure_ (i:=9) (N:=some 133) (v:=?_) (a':=?_) (bm_ 10 36) rfl rfl (any_of HT_.out (by kernel_rfl)) (fun _ _ _ h => h) (Or.inl ⟨by rfl,?_⟩) ?_ ?_;rotate_left
              ·
               intro w'
               go_simp
               with_reducible rfl
              rotate_left
              ·
               simp only [Act.put,zi,zj,zk,zG,zH]
               rfl
              refine pure_ (i:=10) (N:=some 134) (v:=?_) (a':=?_) (bm_ 11 36) rfl rfl (any_of HT_.out (by kernel_rfl)) (fun _ _ _ h => h) (Or.inl ⟨by rfl,?_⟩) ?_ ?_;rotate_left
              ·
               intro w'
               go_simp
               with_reducible rfl
              rotate_left
              ·
               simp only [Act.put,zi,zj,zk,zG,zH]
               rfl
              refine pure_ (i:=11) (N:=some 135) (v:=?_) (a':=?_) (bm_ 12 36) rfl rfl (any_of HT_.out (by kernel_rfl)) (fun _ _ _ h => h) (Or.inl ⟨by rfl,?_⟩) ?_ ?_;rotate_left
              ·
               intro w'
               go_simp
               with_reducible rfl
              rotate_left
              ·
               simp only [Act.put,zi,zj,zk,zG,zH]
               rfl
              refine pure_ (i:=12) (N:=some 136) (v:=?_) (a':=?_) (bm_ 13 36) rfl rfl (any_of HT_.out (by kernel_rfl)) (fun _ _ _ h => h) (Or.inl ⟨by rfl,?_⟩) ?_ ?_;rotate_left
              ·
               intro w'
               go_simp
               with_reducible rfl
              rotate_left
              ·
               simp only [Act.put,zi,zj,zk,zG,zH]
               rfl
              refine pure_ (i:=13) (N:=some 137) (v:=?_) (a':=?_) (bm_ 14 36) rfl rfl (any_of HT_.out (by kernel_rfl)) (fun _ _ _ h => h) (Or.inl ⟨by rfl,?_⟩) ?_ ?_;rotate_left
              ·
               intro w'
               go_simp
               with_reducible rfl
              rotate_left
              ·
               simp only [Act.put,zi,zj,zk,zG,zH]
               rfl
              refine pure_ (i:=14) (N:=some 138) (v:=?_) (a':=?_) (bm_ 15 36) rfl rfl (any_of HT_.out (by kernel_rfl)) (fun _ _ _ h => h) (Or.inl ⟨by rfl,?_⟩) ?_ ?_;rotate_left
              ·
               intro w'
               go_simp
               with_reducible rfl
              rotate_left
              ·
               simp only [Act.put,zi,zj,zk,zG,zH]
               rfl
              refine pure_ (i:=15) (N:=some 139) (v:=?_) (a':=?_) (bm_ 16 36) rfl rfl (any_of HT_.out (by kernel_rfl)) (fun _ _ _ h => h) (Or.inl ⟨by rfl,?_⟩) ?_ ?_;rotate_left
              ·
               intro w'
               go_simp
               with_reducible rfl
              rotate_left
              ·
               simp only [Act.put,zi,zj,zk,zG,zH]
               rfl
              refine pure_ (i:=17) (N:=some 141) (v:=?_) (a':=?_) #[true,true,true,true,true,true,true,true,true,true,true,true,true,true,true,true,false,true,false,false,false,false,false,false,false,false,false,false,false,false,false,false,false,false,false,false] rfl rfl (any_of HT_.out (by kernel_rfl)) (fun _ _ _ h => h) (Or.inl ⟨by rfl,?_⟩) ?_ ?_;rotate_left
              ·
               intro w'
               go_simp
               with_reducible rfl
              rotate_left
              ·
               simp only [Act.put,zi,zj,zk,zG,zH]
               rfl
              refine pure_ (i:=18) (N:=some 142) (v:=?_) (a':=?_) #[true,true,true,true,true,true,true,true,true,true,true,true,true,true,true,true,false,true,true,false,false,false,false,false,false,false,false,false,false,false,false,false,false,false,false,false] rfl rfl (any_of HT_.out (by kernel_rfl)) (fun _ _ _ h => h) (Or.inl ⟨by rfl,?_⟩) ?_ ?_;rotate_left
              ·
               intro w'
               go_simp
               with_reducible rfl
              rotate_left
              ·
               simp only [Act.put,zi,zj,zk,zG,zH]
               rfl
              refine pure_ (i:=19) (N:=some 143) (v:=?_) (a':=?_) #[true,true,true,true,true,true,true,true,true,true,true,true,true,true,true,true,false,true,true,true,false,false,false,false,false,false,false,false,false,false,false,false,false,false,false,false] rfl rfl (any_of HT_.out (by kernel_rfl)) (fun _ _ _ h => h) (Or.inl ⟨by rfl,?_⟩) ?_ ?_;rotate_left
              ·
               intro w'
               go_simp
               with_reducible rfl
              rotate_left
              ·
               simp only [Act.put,zi,zj,zk,zG,zH]
               rfl
              refine pure_ (i:=20) (N:=some 144) (v:=?_) (a':=?_) #[true,true,true,true,true,true,true,true,true,true,true,true,true,true,true,true,false,true,true,true,true,false,false,false,false,false,false,false,false,false,false,false,false,false,false,false] rfl rfl (any_of HT_.out (by kernel_rfl)) (fun _ _ _ h => h) (Or.inl ⟨by rfl,?_⟩) ?_ ?_;rotate_left
              ·
               intro w'
               go_simp
               with_reducible rfl
              rotate_left
              ·
               simp only [Act.put,zi,zj,zk,zG,zH]
               rfl
              refine take_ (i:=16) (N:=some 140) (v:=?_) (a':=?_) (bm_ 21 36) rfl rfl (yo HT_.out HW_.out (by kernel_rfl)) (fun _ _ _ h => h) (Or.inl ⟨by rfl,?_⟩) hHeld ?_ ?_;rotate_left
              ·
               rintro w' ⟨s0,s1,s2,s3,s4,s5,s6,s7,s8,s9,s10,s11,s12,s13,s14,s15⟩
               go_simp
               with_reducible rfl
              rotate_left
              ·
               simp only [Act.put,zi,zj,zk,zG,zH]
               rfl
              refine take_ (i:=21) (N:=some 145) (v:=?_) (a':=?_) (bm_ 22 36) rfl rfl (yo HT_.out HW_.out (by kernel_rfl)) (fun _ _ _ h => h) (Or.inl ⟨by rfl,?_⟩) hHeld ?_ ?_;rotate_left
              ·
               rintro w' ⟨s0,s1,s2,s3,s4,s5,s6,s7,s8,s9,s10,s11,s12,s13,s14,s15⟩
               go_simp
               with_reducible rfl
              rotate_left
              ·
               simp only [Act.put,zi,zj,zk,zG,zH]
               rfl
              refine pure_ (i:=22) (N:=some 146) (v:=?_) (a':=?_) (bm_ 23 36) rfl rfl (any_of HT_.out (by kernel_rfl)) (fun _ _ _ h => h) (Or.inl ⟨by rfl,?_⟩) ?_ ?_;rotate_left
              ·
               intro w'
               go_simp
               with_reducible rfl
              rotate_left
              ·
               simp only [Act.put,zi,zj,zk,zG,zH]
               rfl
              refine pure_ (i:=23) (N:=some 147) (v:=?_) (a':=?_) (bm_ 24 36) rfl rfl (any_of HT_.out (by kernel_rfl)) (fun _ _ _ h => h) (Or.inl ⟨by rfl,?_⟩) ?_ ?_;rotate_left
              ·
               intro w'
               go_simp
               with_reducible rfl
              rotate_left
              ·
               simp only [Act.put,zi,zj,zk,zG,zH]
               rfl
              refine pure_ (i:=24) (N:=some 148) (v:=?_) (a':=?_) (bm_ 25 36) rfl rfl (any_of HT_.out (by kernel_rfl)) (fun _ _ _ h => h) (Or.inl ⟨by rfl,?_⟩) ?_ ?_;rotate_left
              ·
               intro w'
               go_simp
               with_reducible rfl
              rotate_left
              ·
               simp only [Act.put,zi,zj,zk,zG,zH]
               rfl
              refine pure_ (i:=25) (N:=some 149) (v:=?_) (a':=?_) (bm_ 26 36) rfl rfl (any_of HT_.out (by kernel_rfl)) (fun _ _ _ h => h) (Or.inl ⟨by rfl,?_⟩) ?_ ?_;rotate_left
              ·
               intro w'
               go_simp
               with_reducible rfl
              rotate_left
              ·
               simp only [Act.put,zi,zj,zk,zG,zH]
               rfl
              refine pure_ (i:=26) (N:=some 150) (v:=?_) (a':=?_) (bm_ 27 36) rfl rfl (any_of HT_.out (by kernel_rfl)) (fun _ _ _ h => h) (Or.inl ⟨by rfl,?_⟩) ?_ ?_;rotate_left
              ·
               intro w'
               go_simp
               with_reducible rfl
              rotate_left
              ·
               simp only [Act.put,zi,zj,zk,zG,zH]
               rfl
              refine pure_ (i:=27) (N:=some 151) (v:=?_) (a':=?_) (bm_ 28 36) rfl rfl (any_of HT_.out (by kernel_rfl)) (fun _ _ _ h => h) (Or.inl ⟨by rfl,?_⟩) ?_ ?_;rotate_left
              ·
               intro w'
               go_simp
               with_reducible rfl
              rotate_left
              ·
               simp only [Act.put,zi,zj,zk,zG,zH]
               rfl
              refine pure_ (i:=28) (N:=some 152) (v:=?_) (a':=?_) (bm_ 29 36) rfl rfl (any_of HT_.out (by kernel_rfl)) (fun _ _ _ h => h) (Or.inl ⟨by rfl,?_⟩) ?_ ?_;rotate_left
              ·
               intro w'
               go_simp
               with_reducible rfl
              rotate_left
              ·
               simp only [Act.put,zi,zj,zk,zG,zH]
               rfl
              refine pure_ (i:=29) (N:=some 153) (v:=?_) (a':=?_) (bm_ 30 36) rfl rfl (any_of HT_.out (by kernel_rfl)) (fun _ _ _ h => h) (Or.inl ⟨by rfl,?_⟩) ?_ ?_;rotate_left
              ·
               intro w'
               go_simp
               with_reducible rfl
              rotate_left
              ·
               simp only [Act.put,zi,zj,zk,zG,zH]
               rfl
              refine pure_ (i:=31) (N:=some 155) (v:=?_) (a':=?_) #[true,true,true,true,true,true,true,true,true,true,true,true,true,true,true,true,true,true,true,true,true,true,true,true,true,true,true,true,true,true,false,true,false,false,false,false] rfl rfl (any_of HT_.out (by kernel_rfl)) (fun _ _ _ h => h) (Or.inl ⟨by rfl,?_⟩) ?_ ?_;rotate_left
              ·
               intro w'
               go_simp
               with_reducible rfl
              rotate_left
              ·
               simp only [Act.put,zi,zj,zk,zG,zH]
               rfl
              refine pure_ (i:=32) (N:=some 156) (v:=?_) (a':=?_) #[true,true,true,true,true,true,true,true,true,true,true,true,true,true,true,true,true,true,true,true,true,true,true,true,true,true,true,true,true,true,false,true,true,false,false,false] rfl rfl (any_of HT_.out (by kernel_rfl)) (fun _ _ _ h => h) (Or.inl ⟨by rfl,?_⟩) ?_ ?_;rotate_left
              ·
               intro w'
               go_simp
               with_reducible rfl
              rotate_left
              ·
               simp only [Act.put,zi,zj,zk,zG,zH]
               rfl
              refine take_ (i:=30) (N:=some 154) (v:=?_) (a':=?_) (bm_ 33 36) rfl rfl (yo HT_.out HW_.out (by kernel_rfl)) (fun _ _ _ h => h) (Or.inl ⟨by rfl,?_⟩) hHeld ?_ ?_;rotate_left
              ·
               rintro w' ⟨s0,s1,s2,s3,s4,s5,s6,s7,s8,s9,s10,s11,s12,s13,s14,s15⟩
               go_simp
               with_reducible rfl
              rotate_left
              ·
               simp only [Act.put,zi,zj,zk,zG,zH]
               rfl
              refine one_ (i:=33) (N:=some 157) (bm_ 34 36) rfl rfl (one_of HT_.out (by kernel_rfl)) (by decide) (fun K hK => ?_);refine goes_ Tryd.func54 (by kernel_rfl) rfl #[.agg #[.int .i64 ((rd_T92 t248 x10_2).f1.f0),.int .i64 ((rd_T92 t248 x10_2).f1.f1),.string ((rd_T92 t248 x10_2).f1.f2)],.int .i64 (wrap64 (a1 - 1))] (by rfl) rfl rfl (by (try simp only [zt,zu,zv]);first|done|rfl|(simp only [zw,zx];rfl)|(simp only [yr,ys,zV,zW];rfl)) ?_
              with_reducible refine (ih k2 (by have:=HJ53.out;have:=HK2.out;omega)  ((rd_T92 t248 x10_2).f1.f0) ((rd_T92 t248 x10_2).f1.f1) ((rd_T92 t248 x10_2).f1.f2) (wrap64 (a1 - 1)) true _ A75.out).mono ?_
              rintro e w79 ⟨rfl,hb⟩;have HS0_:=(hb.cell (zl _ _ (hHeld.1))).trans (hHeld.1);have HS1_:=(hb.cell (zl _ _ (hHeld.2.1))).trans (hHeld.2.1);have HS2_:=(hb.cell (zl _ _ (hHeld.2.2.1))).trans (hHeld.2.2.1);have HS3_:=(hb.cell (zl _ _ (hHeld.2.2.2.1))).trans (hHeld.2.2.2.1);have HS4_:=(hb.cell (zl _ _ (hHeld.2.2.2.2.1))).trans (hHeld.2.2.2.2.1);have HS5_:=(hb.cell (zl _ _ (hHeld.2.2.2.2.2.1))).trans (hHeld.2.2.2.2.2.1);have HS6_:=(hb.cell (zl _ _ (hHeld.2.2.2.2.2.2.1))).trans (hHeld.2.2.2.2.2.2.1);have HS7_:=(hb.cell (zl _ _ (hHeld.2.2.2.2.2.2.2.1))).trans (hHeld.2.2.2.2.2.2.2.1);have HS8_:=(hb.cell (zl _ _ (hHeld.2.2.2.2.2.2.2.2.1))).trans (hHeld.2.2.2.2.2.2.2.2.1);have HS9_:=(hb.cell (zl _ _ (hHeld.2.2.2.2.2.2.2.2.2.1))).trans (hHeld.2.2.2.2.2.2.2.2.2.1);have HS10_:=(hb.cell (zl _ _ (hHeld.2.2.2.2.2.2.2.2.2.2.1))).trans (hHeld.2.2.2.2.2.2.2.2.2.2.1);have HS11_:=(hb.cell (zl _ _ (hHeld.2.2.2.2.2.2.2.2.2.2.2.1))).trans (hHeld.2.2.2.2.2.2.2.2.2.2.2.1);have HS12_:=(hb.cell (zl _ _ (hHeld.2.2.2.2.2.2.2.2.2.2.2.2.1))).trans (hHeld.2.2.2.2.2.2.2.2.2.2.2.2.1);have HS13_:=(hb.cell (zl _ _ (hHeld.2.2.2.2.2.2.2.2.2.2.2.2.2.1))).trans (hHeld.2.2.2.2.2.2.2.2.2.2.2.2.2.1);have HS14_:=(hb.cell (zl _ _ (hHeld.2.2.2.2.2.2.2.2.2.2.2.2.2.2.1))).trans (hHeld.2.2.2.2.2.2.2.2.2.2.2.2.2.2.1);have HS15_:=(hb.cell (zl _ _ (hHeld.2.2.2.2.2.2.2.2.2.2.2.2.2.2.2))).trans (hHeld.2.2.2.2.2.2.2.2.2.2.2.2.2.2.2);refine ⟨_,rfl,?_⟩;replace HO_8:=zh (yg (by (with_reducible repeat (first|apply zm|apply zn|apply zo));exact HO_8.out) hb);replace BK239:=zh (zD (g:=gb239) (o:=.cells #[.int .i64 a0_0,.int .i64 a0_1,.string a0_2] 39 (0,0)) (by (with_reducible repeat (first|refine ze ?_ _|refine zf ?_|refine zg ?_ _));exact BK239.out) hb);replace HB:=zh (zC (by repeat (with_reducible first|exact HB.out|apply za|apply zb|apply zc|refine zd ?_ GE239.out)) hb);(try clear hb);(try clear hb2);(try clear hk);(try clear hi);refine hK.out _ _ ⟨HS0_,HS1_,HS2_,HS3_,HS4_,HS5_,HS6_,HS7_,HS8_,HS9_,HS10_,HS11_,HS12_,HS13_,HS14_,HS15_⟩ (fun hHeld => ?_);clear hK K;refine norm_ (a':=?_) ?_ ?_;rotate_left
              ·
               show Act.put _ (some 157) _=_
               simp only [Act.put,zi,zj,zk,zG,zH]
               rfl
              refine pure_ (i:=34) (N:=some 158) (v:=?_) (a':=?_) (bm_ 35 36) rfl rfl (any_of HT_.out (by kernel_rfl)) (fun _ _ _ h => h) (Or.inl ⟨by rfl,?_⟩) ?_ ?_;rotate_left
              ·
               intro w'
               go_simp
               with_reducible rfl
              rotate_left
              ·
               simp only [Act.put,zi,zj,zk,zG,zH]
               rfl
              refine pure_ (i:=35) (N:=some 159) (v:=?_) (a':=?_) (bm_ 36 36) rfl rfl (any_of HT_.out (by kernel_rfl)) (fun _ _ _ h => h) (Or.inl ⟨by rfl,?_⟩) ?_ ?_;rotate_left
              ·
               intro w'
               go_simp
               with_reducible rfl
              rotate_left
              ·
               simp only [Act.put,zi,zj,zk,zG,zH]
               rfl
              refine done_ (done_of HT_.out (by kernel_rfl)) ?_
              try go_wp2
              go_roundg k2
              case measure => have:=HJ53.out;have:=HK2.out;omega
              case rel => exact ⟨(wrap64 (x10_2 + 1)),(by first|rfl|(simp;done)|(simp [*];done)),H',⟨by have:=HJ53.out;have:=HK2.out;omega⟩,⟨by (with_reducible repeat (first|apply zm|apply zn|apply zo));exact HO_8.out⟩,⟨by (with_reducible repeat (first|refine ze ?_ _|refine zf ?_|refine zg ?_ _));exact BK239.out⟩,⟨by repeat (with_reducible first|exact HB.out|apply za|apply zb|apply zc|refine zd ?_ GE239.out)⟩⟩
             replace c76:=yb.mpr c76;subst c76;have H1 : (some false)=some r:=by rw [if_neg (show ¬ (false=true) by decide)] at H;exact H
             clear H;have H:=H1;clear H1;obtain rfl:=zU H;obtain ⟨Ao80,co80,eo80⟩:=yk HO_8.out;subst eo80
             try go_wp2
             replace HO_8:=zh (zo HO_8.out);replace BK239:=zh (zf BK239.out);replace HB:=zh (zc HB.out);have p252 : 0≤(x10_2 : Int):=zy (by first|(with_reducible assumption)|assumption);have q252 : x10_2<(t248.length : Int):=zy (by first|(with_reducible assumption)|assumption);obtain ⟨ad252,e252,hx252_0,hx252_1,hx252_2,hx252_3⟩:=at_T92 (yh HO_8.out).2.2 x10_2 p252 q252
             cases e252
             replace p252:=eq_true p252;replace q252:=eq_true q252;have p254 : 0≤((ji71) : Int):=zy (by first|(with_reducible assumption)|assumption);have q254 : (ji71)<(t248.length : Int):=zy (by first|(with_reducible assumption)|assumption);obtain ⟨ad254,e254,hx254_0,hx254_1,hx254_2,hx254_3⟩:=at_T92 (yh HO_8.out).2.2 (ji71) p254 q254;obtain rfl : ad252=ad254:=(by injection e254);replace p254:=eq_true p254;replace q254:=eq_true q254;have p255 : 0≤(x10_2 : Int):=zy (by first|(with_reducible assumption)|assumption);have q255 : x10_2<(t248.length : Int):=zy (by first|(with_reducible assumption)|assumption);obtain ⟨ad255,e255,hx255_0,hx255_1,hx255_2,hx255_3⟩:=at_T92 (yh HO_8.out).2.2 x10_2 p255 q255;obtain rfl : ad252=ad255:=(by injection e255);replace p255:=eq_true p255;replace q255:=eq_true q255;have p256 : 0≤(x10_2 : Int):=zy (by first|(with_reducible assumption)|assumption);have q256 : x10_2<(t248.length : Int):=zy (by first|(with_reducible assumption)|assumption);obtain ⟨ad256,e256,hx256_0,hx256_1,hx256_2,hx256_3⟩:=at_T92 (yh HO_8.out).2.2 x10_2 p256 q256;obtain rfl : ad252=ad256:=(by injection e256);replace p256:=eq_true p256;replace q256:=eq_true q256;refine start_ (n:=36) (S:=fun w' => w'.cell? (ad252.add ((x10_2).toNat * 4))=some (.string ((rd_T92 t248 x10_2).f0))∧w'.cell? ⟨(ad252.add ((x10_2).toNat * 4)).block,(ad252.add ((x10_2).toNat * 4)).off + 1,none⟩=some (.int .i64 ((rd_T92 t248 x10_2).f1.f0))∧w'.cell? ⟨(ad252.add ((x10_2).toNat * 4)).block,(ad252.add ((x10_2).toNat * 4)).off + 2,none⟩=some (.int .i64 ((rd_T92 t248 x10_2).f1.f1))∧w'.cell? ⟨(ad252.add ((x10_2).toNat * 4)).block,(ad252.add ((x10_2).toNat * 4)).off + 3,none⟩=some (.string ((rd_T92 t248 x10_2).f1.f2))∧w'.cell? (ad252.add (((ji71)).toNat * 4))=some (.string ((rd_T92 t248 (ji71)).f0))∧w'.cell? ⟨(ad252.add (((ji71)).toNat * 4)).block,(ad252.add (((ji71)).toNat * 4)).off + 1,none⟩=some (.int .i64 ((rd_T92 t248 (ji71)).f1.f0))∧w'.cell? ⟨(ad252.add (((ji71)).toNat * 4)).block,(ad252.add (((ji71)).toNat * 4)).off + 2,none⟩=some (.int .i64 ((rd_T92 t248 (ji71)).f1.f1))∧w'.cell? ⟨(ad252.add (((ji71)).toNat * 4)).block,(ad252.add (((ji71)).toNat * 4)).off + 3,none⟩=some (.string ((rd_T92 t248 (ji71)).f1.f2))∧w'.cell? (ad252.add ((x10_2).toNat * 4))=some (.string ((rd_T92 t248 x10_2).f0))∧w'.cell? ⟨(ad252.add ((x10_2).toNat * 4)).block,(ad252.add ((x10_2).toNat * 4)).off + 1,none⟩=some (.int .i64 ((rd_T92 t248 x10_2).f1.f0))∧w'.cell? ⟨(ad252.add ((x10_2).toNat * 4)).block,(ad252.add ((x10_2).toNat * 4)).off + 2,none⟩=some (.int .i64 ((rd_T92 t248 x10_2).f1.f1))∧w'.cell? ⟨(ad252.add ((x10_2).toNat * 4)).block,(ad252.add ((x10_2).toNat * 4)).off + 3,none⟩=some (.string ((rd_T92 t248 x10_2).f1.f2))∧w'.cell? (ad252.add ((x10_2).toNat * 4))=some (.string ((rd_T92 t248 x10_2).f0))∧w'.cell? ⟨(ad252.add ((x10_2).toNat * 4)).block,(ad252.add ((x10_2).toNat * 4)).off + 1,none⟩=some (.int .i64 ((rd_T92 t248 x10_2).f1.f0))∧w'.cell? ⟨(ad252.add ((x10_2).toNat * 4)).block,(ad252.add ((x10_2).toNat * 4)).off + 2,none⟩=some (.int .i64 ((rd_T92 t248 x10_2).f1.f1))∧w'.cell? ⟨(ad252.add ((x10_2).toNat * 4)).block,(ad252.add ((x10_2).toNat * 4)).off + 3,none⟩=some (.string ((rd_T92 t248 x10_2).f1.f2))) (ds:=[]) (bm_ 0 36) (by kernel_rfl) rfl rfl ⟨hx252_0,hx252_1,hx252_2,hx252_3,hx254_0,hx254_1,hx254_2,hx254_3,hx255_0,hx255_1,hx255_2,hx255_3,hx256_0,hx256_1,hx256_2,hx256_3⟩ (fun hHeld => ?_);refine with_tabW spec_l01OK.tab27 spec_l01OK.bits27 (fun HT_ HW_ => ?_);generalize wr.drew=w81 at HO_8 BK239 HB hx252_0 hx252_1 hx252_2 hx252_3 hx254_0 hx254_1 hx254_2 hx254_3 hx255_0 hx255_1 hx255_2 hx255_3 hx256_0 hx256_1 hx256_2 hx256_3 hHeld ⊢;refine pure_ (i:=0) (N:=some 124) (v:=?_) (a':=?_) (bm_ 1 36) rfl rfl (any_of HT_.out (by kernel_rfl)) (fun _ _ _ h => h) (Or.inl ⟨by rfl,?_⟩) ?_ ?_;rotate_left
             ·
              intro w'
              go_simp
              with_reducible rfl
             rotate_left
             ·
              simp only [Act.put,zi,zj,zk,zG,zH]
              rfl
             refine pure_ (i:=1) (N:=some 125) (v:=?_) (a':=?_) (bm_ 2 36) rfl rfl (any_of HT_.out (by kernel_rfl)) (fun _ _ _ h => h) (Or.inl ⟨by rfl,?_⟩) ?_ ?_;rotate_left
             ·
              intro w'
              go_simp
              with_reducible rfl
             rotate_left
             ·
              simp only [Act.put,zi,zj,zk,zG,zH]
              rfl
             refine pure_ (i:=2) (N:=some 126) (v:=?_) (a':=?_) (bm_ 3 36) rfl rfl (any_of HT_.out (by kernel_rfl)) (fun _ _ _ h => h) (Or.inl ⟨by rfl,?_⟩) ?_ ?_;rotate_left
             ·
              intro w'
              go_simp
              with_reducible rfl
             rotate_left
             ·
              simp only [Act.put,zi,zj,zk,zG,zH]
              rfl
             refine pure_ (i:=3) (N:=some 127) (v:=?_) (a':=?_) (bm_ 4 36) rfl rfl (any_of HT_.out (by kernel_rfl)) (fun _ _ _ h => h) (Or.inl ⟨by rfl,?_⟩) ?_ ?_;rotate_left
             ·
              intro w'
              go_simp
              with_reducible rfl
             rotate_left
             ·
              simp only [Act.put,zi,zj,zk,zG,zH]
              rfl
             refine take_ (i:=4) (N:=some 128) (v:=?_) (a':=?_) (bm_ 5 36) rfl rfl (yo HT_.out HW_.out (by kernel_rfl)) (fun _ _ _ h => h) (Or.inl ⟨by rfl,?_⟩) hHeld ?_ ?_;rotate_left
             ·
              rintro w' ⟨s0,s1,s2,s3,s4,s5,s6,s7,s8,s9,s10,s11,s12,s13,s14,s15⟩
              go_simp
              with_reducible rfl
             rotate_left
             ·
              simp only [Act.put,zi,zj,zk,zG,zH]
              rfl
             refine one_ (i:=5) (N:=some 129) (bm_ 6 36) rfl rfl (one_of HT_.out (by kernel_rfl)) (by decide) (fun K hK => ?_);refine goes_ Tryd.func28 (by kernel_rfl) rfl #[.string ((rd_T92 t248 x10_2).f0)] (by rfl) rfl rfl (by (try simp only [zt,zu,zv]);first|done|rfl|(simp only [zw,zx];rfl)|(simp only [yr,ys,zV,zW];rfl)) ?_
             with_reducible refine (spec_l01Name.calls k2  ((rd_T92 t248 x10_2).f0) true _ A68.out).mono ?_
             rintro e w' ⟨rfl,⟨nd,rfl⟩⟩;refine ⟨_,rfl,?_⟩;refine hK.out _ _ ⟨hHeld.1,hHeld.2.1,hHeld.2.2.1,hHeld.2.2.2.1,hHeld.2.2.2.2.1,hHeld.2.2.2.2.2.1,hHeld.2.2.2.2.2.2.1,hHeld.2.2.2.2.2.2.2.1,hHeld.2.2.2.2.2.2.2.2.1,hHeld.2.2.2.2.2.2.2.2.2.1,hHeld.2.2.2.2.2.2.2.2.2.2.1,hHeld.2.2.2.2.2.2.2.2.2.2.2.1,hHeld.2.2.2.2.2.2.2.2.2.2.2.2.1,hHeld.2.2.2.2.2.2.2.2.2.2.2.2.2.1,hHeld.2.2.2.2.2.2.2.2.2.2.2.2.2.2.1,hHeld.2.2.2.2.2.2.2.2.2.2.2.2.2.2.2⟩ (fun hHeld => ?_);clear hK K;refine norm_ (a':=?_) ?_ ?_;rotate_left
             ·
              show Act.put _ (some 129) _=_
              simp only [Act.put,zi,zj,zk,zG,zH]
              rfl
             refine pure_ (i:=6) (N:=some 130) (v:=?_) (a':=?_) (bm_ 7 36) rfl rfl (any_of HT_.out (by kernel_rfl)) (fun _ _ _ h => h) (Or.inl ⟨by rfl,?_⟩) ?_ ?_;rotate_left
             ·
              intro w'
              go_simp
              with_reducible rfl
             rotate_left
             ·
              simp only [Act.put,zi,zj,zk,zG,zH]
              rfl
             refine pure_ (i:=7) (N:=some 131) (v:=?_) (a':=?_) (bm_ 8 36) rfl rfl (any_of HT_.out (by kernel_rfl)) (fun _ _ _ h => h) (Or.inl ⟨by rfl,?_⟩) ?_ ?_;rotate_left
             ·
              intro w'
              go_simp
              with_reducible rfl
             rotate_left
             ·
              simp only [Act.put,zi,zj,zk,zG,zH]
              rfl
             refine pure_ (i:=8) (N:=some 132) (v:=?_) (a':=?_) (bm_ 9 36) rfl rfl (any_of HT_.out (by kernel_rfl)) (fun _ _ _ h => h) (Or.inl ⟨by rfl,?_⟩) ?_ ?_;rotate_left
             ·
              intro w'
              go_simp
              with_reducible rfl
             rotate_left
             ·
              simp only [Act.put,zi,zj,zk,zG,zH]
              rfl
             refine pure_ (i:=9) (N:=some 133) (v:=?_) (a':=?_) (bm_ 10 36) rfl rfl (any_of HT_.out (by kernel_rfl)) (fun _ _ _ h => h) (Or.inl ⟨by rfl,?_⟩) ?_ ?_;rotate_left
             ·
              intro w'
              go_simp
              with_reducible rfl
             rotate_left
             ·
              simp only [Act.put,zi,zj,zk,zG,zH]
              rfl
             refine pure_ (i:=10) (N:=some 134) (v:=?_) (a':=?_) (bm_ 11 36) rfl rfl (any_of HT_.out (by kernel_rfl)) (fun _ _ _ h => h) (Or.inl ⟨by rfl,?_⟩) ?_ ?_;rotate_left
             ·
              intro w'
              go_simp
              with_reducible rfl
             rotate_left
             ·
              simp only [Act.put,zi,zj,zk,zG,zH]
              rfl
             refine pure_ (i:=11) (N:=some 135) (v:=?_) (a':=?_) (bm_ 12 36) rfl rfl (any_of HT_.out (by kernel_rfl)) (fun _ _ _ h => h) (Or.inl ⟨by rfl,?_⟩) ?_ ?_;rotate_left
             ·
              intro w'
              go_simp
              with_reducible rfl
             rotate_left
             ·
              simp only [Act.put,zi,zj,zk,zG,zH]
              rfl
             refine pure_ (i:=12) (N:=some 136) (v:=?_) (a':=?_) (bm_ 13 36) rfl rfl (any_of HT_.out (by kernel_rfl)) (fun _ _ _ h => h) (Or.inl ⟨by rfl,?_⟩) ?_ ?_;rotate_left
             ·
              intro w'
              go_simp
              with_reducible rfl
             rotate_left
             ·
              simp only [Act.put,zi,zj,zk,zG,zH]
              rfl
             refine pure_ (i:=13) (N:=some 137) (v:=?_) (a':=?_) (bm_ 14 36) rfl rfl (any_of HT_.out (by kernel_rfl)) (fun _ _ _ h => h) (Or.inl ⟨by rfl,?_⟩) ?_ ?_;rotate_left
             ·
              intro w'
              go_simp
              with_reducible rfl
             rotate_left
             ·
              simp only [Act.put,zi,zj,zk,zG,zH]
              rfl
             refine pure_ (i:=14) (N:=some 138) (v:=?_) (a':=?_) (bm_ 15 36) rfl rfl (any_of HT_.out (by kernel_rfl)) (fun _ _ _ h => h) (Or.inl ⟨by rfl,?_⟩) ?_ ?_;rotate_left
             ·
              intro w'
              go_simp
              with_reducible rfl
             rotate_left
             ·
              simp only [Act.put,zi,zj,zk,zG,zH]
              rfl
             refine pure_ (i:=15) (N:=some 139) (v:=?_) (a':=?_) (bm_ 16 36) rfl rfl (any_of HT_.out (by kernel_rfl)) (fun _ _ _ h => h) (Or.inl ⟨by rfl,?_⟩) ?_ ?_;rotate_left
             ·
              intro w'
              go_simp
              with_reducible rfl
             rotate_left
             ·
              simp only [Act.put,zi,zj,zk,zG,zH]
              rfl
             refine pure_ (i:=17) (N:=some 141) (v:=?_) (a':=?_) #[true,true,true,true,true,true,true,true,true,true,true,true,true,true,true,true,false,true,false,false,false,false,false,false,false,false,false,false,false,false,false,false,false,false,false,false] rfl rfl (any_of HT_.out (by kernel_rfl)) (fun _ _ _ h => h) (Or.inl ⟨by rfl,?_⟩) ?_ ?_;rotate_left
             ·
              intro w'
              go_simp
              with_reducible rfl
             rotate_left
             ·
              simp only [Act.put,zi,zj,zk,zG,zH]
              rfl
             refine pure_ (i:=18) (N:=some 142) (v:=?_) (a':=?_) #[true,true,true,true,true,true,true,true,true,true,true,true,true,true,true,true,false,true,true,false,false,false,false,false,false,false,false,false,false,false,false,false,false,false,false,false] rfl rfl (any_of HT_.out (by kernel_rfl)) (fun _ _ _ h => h) (Or.inl ⟨by rfl,?_⟩) ?_ ?_;rotate_left
             ·
              intro w'
              go_simp
              with_reducible rfl
             rotate_left
             ·
              simp only [Act.put,zi,zj,zk,zG,zH]
              rfl
             refine pure_ (i:=19) (N:=some 143) (v:=?_) (a':=?_) #[true,true,true,true,true,true,true,true,true,true,true,true,true,true,true,true,false,true,true,true,false,false,false,false,false,false,false,false,false,false,false,false,false,false,false,false] rfl rfl (any_of HT_.out (by kernel_rfl)) (fun _ _ _ h => h) (Or.inl ⟨by rfl,?_⟩) ?_ ?_;rotate_left
             ·
              intro w'
              go_simp
              with_reducible rfl
             rotate_left
             ·
              simp only [Act.put,zi,zj,zk,zG,zH]
              rfl
             refine pure_ (i:=20) (N:=some 144) (v:=?_) (a':=?_) #[true,true,true,true,true,true,true,true,true,true,true,true,true,true,true,true,false,true,true,true,true,false,false,false,false,false,false,false,false,false,false,false,false,false,false,false] rfl rfl (any_of HT_.out (by kernel_rfl)) (fun _ _ _ h => h) (Or.inl ⟨by rfl,?_⟩) ?_ ?_;rotate_left
             ·
              intro w'
              go_simp
              with_reducible rfl
             rotate_left
             ·
              simp only [Act.put,zi,zj,zk,zG,zH]
              rfl
             refine take_ (i:=16) (N:=some 140) (v:=?_) (a':=?_) (bm_ 21 36) rfl rfl (yo HT_.out HW_.out (by kernel_rfl)) (fun _ _ _ h => h) (Or.inl ⟨by rfl,?_⟩) hHeld ?_ ?_;rotate_left
             ·
              rintro w' ⟨s0,s1,s2,s3,s4,s5,s6,s7,s8,s9,s10,s11,s12,s13,s14,s15⟩
              go_simp
              with_reducible rfl
             rotate_left
             ·
              simp only [Act.put,zi,zj,zk,zG,zH]
              rfl
             refine take_ (i:=21) (N:=some 145) (v:=?_) (a':=?_) (bm_ 22 36) rfl rfl (yo HT_.out HW_.out (by kernel_rfl)) (fun _ _ _ h => h) (Or.inl ⟨by rfl,?_⟩) hHeld ?_ ?_;rotate_left
             ·
              rintro w' ⟨s0,s1,s2,s3,s4,s5,s6,s7,s8,s9,s10,s11,s12,s13,s14,s15⟩
              go_simp
              with_reducible rfl
             rotate_left
             ·
              simp only [Act.put,zi,zj,zk,zG,zH]
              rfl
             refine pure_ (i:=22) (N:=some 146) (v:=?_) (a':=?_) (bm_ 23 36) rfl rfl (any_of HT_.out (by kernel_rfl)) (fun _ _ _ h => h) (Or.inl ⟨by rfl,?_⟩) ?_ ?_;rotate_left
             ·
              intro w'
              go_simp
              with_reducible rfl
             rotate_left
             ·
              simp only [Act.put,zi,zj,zk,zG,zH]
              rfl
             refine pure_ (i:=23) (N:=some 147) (v:=?_) (a':=?_) (bm_ 24 36) rfl rfl (any_of HT_.out (by kernel_rfl)) (fun _ _ _ h => h) (Or.inl ⟨by rfl,?_⟩) ?_ ?_;rotate_left
             ·
              intro w'
              go_simp
              with_reducible rfl
             rotate_left
             ·
              simp only [Act.put,zi,zj,zk,zG,zH]
              rfl
             refine pure_ (i:=24) (N:=some 148) (v:=?_) (a':=?_) (bm_ 25 36) rfl rfl (any_of HT_.out (by kernel_rfl)) (fun _ _ _ h => h) (Or.inl ⟨by rfl,?_⟩) ?_ ?_;rotate_left
             ·
              intro w'
              go_simp
              with_reducible rfl
             rotate_left
             ·
              simp only [Act.put,zi,zj,zk,zG,zH]
              rfl
             refine pure_ (i:=25) (N:=some 149) (v:=?_) (a':=?_) (bm_ 26 36) rfl rfl (any_of HT_.out (by kernel_rfl)) (fun _ _ _ h => h) (Or.inl ⟨by rfl,?_⟩) ?_ ?_;rotate_left
             ·
              intro w'
              go_simp
              with_reducible rfl
             rotate_left
             ·
              simp only [Act.put,zi,zj,zk,zG,zH]
              rfl
             refine pure_ (i:=26) (N:=some 150) (v:=?_) (a':=?_) (bm_ 27 36) rfl rfl (any_of HT_.out (by kernel_rfl)) (fun _ _ _ h => h) (Or.inl ⟨by rfl,?_⟩) ?_ ?_;rotate_left
             ·
              intro w'
              go_simp
              with_reducible rfl
             rotate_left
             ·
              simp only [Act.put,zi,zj,zk,zG,zH]
              rfl
             refine pure_ (i:=27) (N:=some 151) (v:=?_) (a':=?_) (bm_ 28 36) rfl rfl (any_of HT_.out (by kernel_rfl)) (fun _ _ _ h => h) (Or.inl ⟨by rfl,?_⟩) ?_ ?_;rotate_left
             ·
              intro w'
              go_simp
              with_reducible rfl
             rotate_left
             ·
              simp only [Act.put,zi,zj,zk,zG,zH]
              rfl
             refine pure_ (i:=28) (N:=some 152) (v:=?_) (a':=?_) (bm_ 29 36) rfl rfl (any_of HT_.out (by kernel_rfl)) (fun _ _ _ h => h) (Or.inl ⟨by rfl,?_⟩) ?_ ?_;rotate_left
             ·
              intro w'
              go_simp
              with_reducible rfl
             rotate_left
             ·
              simp only [Act.put,zi,zj,zk,zG,zH]
              rfl
             refine pure_ (i:=29) (N:=some 153) (v:=?_) (a':=?_) (bm_ 30 36) rfl rfl (any_of HT_.out (by kernel_rfl)) (fun _ _ _ h => h) (Or.inl ⟨by rfl,?_⟩) ?_ ?_;rotate_left
             ·
              intro w'
              go_simp
              with_reducible rfl
             rotate_left
             ·
              simp only [Act.put,zi,zj,zk,zG,zH]
              rfl
             refine pure_ (i:=31) (N:=some 155) (v:=?_) (a':=?_) #[true,true,true,true,true,true,true,true,true,true,true,true,true,true,true,true,true,true,true,true,true,true,true,true,true,true,true,true,true,true,false,true,false,false,false,false] rfl rfl (any_of HT_.out (by kernel_rfl)) (fun _ _ _ h => h) (Or.inl ⟨by rfl,?_⟩) ?_ ?_;rotate_left
             ·
              intro w'
              go_simp
              with_reducible rfl
             rotate_left
             ·
              simp only [Act.put,zi,zj,zk,zG,zH]
              rfl
             refine pure_ (i:=32) (N:=some 156) (v:=?_) (a':=?_) #[true,true,true,true,true,true,true,true,true,true,true,true,true,true,true,true,true,true,true,true,true,true,true,true,true,true,true,true,true,true,false,true,true,false,false,false] rfl rfl (any_of HT_.out (by kernel_rfl)) (fun _ _ _ h => h) (Or.inl ⟨by rfl,?_⟩) ?_ ?_;rotate_left
             ·
              intro w'
              go_simp
              with_reducible rfl
             rotate_left
             ·
              simp only [Act.put,zi,zj,zk,zG,zH]
              rfl
             refine take_ (i:=30) (N:=some 154) (v:=?_) (a':=?_) (bm_ 33 36) rfl rfl (yo HT_.out HW_.out (by kernel_rfl)) (fun _ _ _ h => h) (Or.inl ⟨by rfl,?_⟩) hHeld ?_ ?_;rotate_left
             ·
              rintro w' ⟨s0,s1,s2,s3,s4,s5,s6,s7,s8,s9,s10,s11,s12,s13,s14,s15⟩
              go_simp
              with_reducible rfl
             rotate_left
             ·
              simp only [Act.put,zi,zj,zk,zG,zH]
              rfl
             refine one_ (i:=33) (N:=some 157) (bm_ 34 36) rfl rfl (one_of HT_.out (by kernel_rfl)) (by decide) (fun K hK => ?_);refine goes_ Tryd.func54 (by kernel_rfl) rfl #[.agg #[.int .i64 ((rd_T92 t248 x10_2).f1.f0),.int .i64 ((rd_T92 t248 x10_2).f1.f1),.string ((rd_T92 t248 x10_2).f1.f2)],.int .i64 (wrap64 (a1 - 1))] (by rfl) rfl rfl (by (try simp only [zt,zu,zv]);first|done|rfl|(simp only [zw,zx];rfl)|(simp only [yr,ys,zV,zW];rfl)) ?_
             with_reducible refine (ih k2 (by have:=HJ53.out;have:=HK2.out;omega)  ((rd_T92 t248 x10_2).f1.f0) ((rd_T92 t248 x10_2).f1.f1) ((rd_T92 t248 x10_2).f1.f2) (wrap64 (a1 - 1)) false _ A75.out).mono ?_
             rintro e w82 ⟨rfl,hb⟩;have HS0_:=(hb.cell (zl _ _ (hHeld.1))).trans (hHeld.1);have HS1_:=(hb.cell (zl _ _ (hHeld.2.1))).trans (hHeld.2.1);have HS2_:=(hb.cell (zl _ _ (hHeld.2.2.1))).trans (hHeld.2.2.1);have HS3_:=(hb.cell (zl _ _ (hHeld.2.2.2.1))).trans (hHeld.2.2.2.1);have HS4_:=(hb.cell (zl _ _ (hHeld.2.2.2.2.1))).trans (hHeld.2.2.2.2.1);have HS5_:=(hb.cell (zl _ _ (hHeld.2.2.2.2.2.1))).trans (hHeld.2.2.2.2.2.1);have HS6_:=(hb.cell (zl _ _ (hHeld.2.2.2.2.2.2.1))).trans (hHeld.2.2.2.2.2.2.1);have HS7_:=(hb.cell (zl _ _ (hHeld.2.2.2.2.2.2.2.1))).trans (hHeld.2.2.2.2.2.2.2.1);have HS8_:=(hb.cell (zl _ _ (hHeld.2.2.2.2.2.2.2.2.1))).trans (hHeld.2.2.2.2.2.2.2.2.1);have HS9_:=(hb.cell (zl _ _ (hHeld.2.2.2.2.2.2.2.2.2.1))).trans (hHeld.2.2.2.2.2.2.2.2.2.1);have HS10_:=(hb.cell (zl _ _ (hHeld.2.2.2.2.2.2.2.2.2.2.1))).trans (hHeld.2.2.2.2.2.2.2.2.2.2.1);have HS11_:=(hb.cell (zl _ _ (hHeld.2.2.2.2.2.2.2.2.2.2.2.1))).trans (hHeld.2.2.2.2.2.2.2.2.2.2.2.1);have HS12_:=(hb.cell (zl _ _ (hHeld.2.2.2.2.2.2.2.2.2.2.2.2.1))).trans (hHeld.2.2.2.2.2.2.2.2.2.2.2.2.1);have HS13_:=(hb.cell (zl _ _ (hHeld.2.2.2.2.2.2.2.2.2.2.2.2.2.1))).trans (hHeld.2.2.2.2.2.2.2.2.2.2.2.2.2.1);have HS14_:=(hb.cell (zl _ _ (hHeld.2.2.2.2.2.2.2.2.2.2.2.2.2.2.1))).trans (hHeld.2.2.2.2.2.2.2.2.2.2.2.2.2.2.1);have HS15_:=(hb.cell (zl _ _ (hHeld.2.2.2.2.2.2.2.2.2.2.2.2.2.2.2))).trans (hHeld.2.2.2.2.2.2.2.2.2.2.2.2.2.2.2);refine ⟨_,rfl,?_⟩;replace HO_8:=zh (yg (by (with_reducible repeat (first|apply zm|apply zn|apply zo));exact HO_8.out) hb);replace BK239:=zh (zD (g:=gb239) (o:=.cells #[.int .i64 a0_0,.int .i64 a0_1,.string a0_2] 39 (0,0)) (by (with_reducible repeat (first|refine ze ?_ _|refine zf ?_|refine zg ?_ _));exact BK239.out) hb);replace HB:=zh (zC (by repeat (with_reducible first|exact HB.out|apply za|apply zb|apply zc|refine zd ?_ GE239.out)) hb);(try clear hb);(try clear hb2);(try clear hk);(try clear hi);refine hK.out _ _ ⟨HS0_,HS1_,HS2_,HS3_,HS4_,HS5_,HS6_,HS7_,HS8_,HS9_,HS10_,HS11_,HS12_,HS13_,HS14_,HS15_⟩ (fun hHeld => ?_);clear hK K;refine norm_ (a':=?_) ?_ ?_;rotate_left
             ·
              show Act.put _ (some 157) _=_
              simp only [Act.put,zi,zj,zk,zG,zH]
              rfl
             refine pure_ (i:=34) (N:=some 158) (v:=?_) (a':=?_) (bm_ 35 36) rfl rfl (any_of HT_.out (by kernel_rfl)) (fun _ _ _ h => h) (Or.inl ⟨by rfl,?_⟩) ?_ ?_;rotate_left
             ·
              intro w'
              go_simp
              with_reducible rfl
             rotate_left
             ·
              simp only [Act.put,zi,zj,zk,zG,zH]
              rfl
             refine pure_ (i:=35) (N:=some 159) (v:=?_) (a':=?_) (bm_ 36 36) rfl rfl (any_of HT_.out (by kernel_rfl)) (fun _ _ _ h => h) (Or.inl ⟨by rfl,?_⟩) ?_ ?_;rotate_left
             ·
              intro w'
              go_simp
              with_reducible rfl
             rotate_left
             ·
              simp only [Act.put,zi,zj,zk,zG,zH]
              rfl
             refine done_ (done_of HT_.out (by kernel_rfl)) ?_
             try go_wp2
             go_ret
             exact ⟨by first|rfl|(simp [yt,yu] <;> rfl)|(simp only [← hji71];first|rfl|(simp [yt,yu] <;> rfl))|(simp [*,yt,yu] <;> rfl),by repeat (with_reducible first|exact HB.out|apply za|apply zb|apply zc|refine zd ?_ GE239.out)⟩
            rw [if_neg c74] at H;have c74b0 : (Op.bytesLess (((rd_T92 t248 (ji71)).f0).toList) (((rd_T92 t248 x10_2).f0).toList))=false:=by simpa using c74
            clear c74;obtain rfl:=zU H;obtain ⟨Ao83,co83,eo83⟩:=yk HO_8.out;subst eo83
            try go_wp2
            replace HO_8:=zh (zo HO_8.out);replace BK239:=zh (zf BK239.out);replace HB:=zh (zc HB.out);have p252 : 0≤(x10_2 : Int):=zy (by first|(with_reducible assumption)|assumption);have q252 : x10_2<(t248.length : Int):=zy (by first|(with_reducible assumption)|assumption);obtain ⟨ad252,e252,hx252_0,hx252_1,hx252_2,hx252_3⟩:=at_T92 (yh HO_8.out).2.2 x10_2 p252 q252
            cases e252
            replace p252:=eq_true p252;replace q252:=eq_true q252;have p254 : 0≤((ji71) : Int):=zy (by first|(with_reducible assumption)|assumption);have q254 : (ji71)<(t248.length : Int):=zy (by first|(with_reducible assumption)|assumption);obtain ⟨ad254,e254,hx254_0,hx254_1,hx254_2,hx254_3⟩:=at_T92 (yh HO_8.out).2.2 (ji71) p254 q254;obtain rfl : ad252=ad254:=(by injection e254);replace p254:=eq_true p254;replace q254:=eq_true q254;have p255 : 0≤(x10_2 : Int):=zy (by first|(with_reducible assumption)|assumption);have q255 : x10_2<(t248.length : Int):=zy (by first|(with_reducible assumption)|assumption);obtain ⟨ad255,e255,hx255_0,hx255_1,hx255_2,hx255_3⟩:=at_T92 (yh HO_8.out).2.2 x10_2 p255 q255;obtain rfl : ad252=ad255:=(by injection e255);replace p255:=eq_true p255;replace q255:=eq_true q255;refine start_ (n:=36) (S:=fun w' => w'.cell? (ad252.add ((x10_2).toNat * 4))=some (.string ((rd_T92 t248 x10_2).f0))∧w'.cell? ⟨(ad252.add ((x10_2).toNat * 4)).block,(ad252.add ((x10_2).toNat * 4)).off + 1,none⟩=some (.int .i64 ((rd_T92 t248 x10_2).f1.f0))∧w'.cell? ⟨(ad252.add ((x10_2).toNat * 4)).block,(ad252.add ((x10_2).toNat * 4)).off + 2,none⟩=some (.int .i64 ((rd_T92 t248 x10_2).f1.f1))∧w'.cell? ⟨(ad252.add ((x10_2).toNat * 4)).block,(ad252.add ((x10_2).toNat * 4)).off + 3,none⟩=some (.string ((rd_T92 t248 x10_2).f1.f2))∧w'.cell? (ad252.add (((ji71)).toNat * 4))=some (.string ((rd_T92 t248 (ji71)).f0))∧w'.cell? ⟨(ad252.add (((ji71)).toNat * 4)).block,(ad252.add (((ji71)).toNat * 4)).off + 1,none⟩=some (.int .i64 ((rd_T92 t248 (ji71)).f1.f0))∧w'.cell? ⟨(ad252.add (((ji71)).toNat * 4)).block,(ad252.add (((ji71)).toNat * 4)).off + 2,none⟩=some (.int .i64 ((rd_T92 t248 (ji71)).f1.f1))∧w'.cell? ⟨(ad252.add (((ji71)).toNat * 4)).block,(ad252.add (((ji71)).toNat * 4)).off + 3,none⟩=some (.string ((rd_T92 t248 (ji71)).f1.f2))∧w'.cell? (ad252.add ((x10_2).toNat * 4))=some (.string ((rd_T92 t248 x10_2).f0))∧w'.cell? ⟨(ad252.add ((x10_2).toNat * 4)).block,(ad252.add ((x10_2).toNat * 4)).off + 1,none⟩=some (.int .i64 ((rd_T92 t248 x10_2).f1.f0))∧w'.cell? ⟨(ad252.add ((x10_2).toNat * 4)).block,(ad252.add ((x10_2).toNat * 4)).off + 2,none⟩=some (.int .i64 ((rd_T92 t248 x10_2).f1.f1))∧w'.cell? ⟨(ad252.add ((x10_2).toNat * 4)).block,(ad252.add ((x10_2).toNat * 4)).off + 3,none⟩=some (.string ((rd_T92 t248 x10_2).f1.f2))) (ds:=[]) (bm_ 0 36) (by kernel_rfl) rfl rfl ⟨hx252_0,hx252_1,hx252_2,hx252_3,hx254_0,hx254_1,hx254_2,hx254_3,hx255_0,hx255_1,hx255_2,hx255_3⟩ (fun hHeld => ?_);refine with_tabW spec_l01OK.tab27 spec_l01OK.bits27 (fun HT_ HW_ => ?_);generalize wr.drew=w84 at HO_8 BK239 HB hx252_0 hx252_1 hx252_2 hx252_3 hx254_0 hx254_1 hx254_2 hx254_3 hx255_0 hx255_1 hx255_2 hx255_3 hHeld ⊢;refine pure_ (i:=0) (N:=some 124) (v:=?_) (a':=?_) (bm_ 1 36) rfl rfl (any_of HT_.out (by kernel_rfl)) (fun _ _ _ h => h) (Or.inl ⟨by rfl,?_⟩) ?_ ?_;rotate_left
            ·
             intro w'
             go_simp
             with_reducible rfl
            rotate_left
            ·
             simp only [Act.put,zi,zj,zk,zG,zH]
             rfl
            refine pure_ (i:=1) (N:=some 125) (v:=?_) (a':=?_) (bm_ 2 36) rfl rfl (any_of HT_.out (by kernel_rfl)) (fun _ _ _ h => h) (Or.inl ⟨by rfl,?_⟩) ?_ ?_;rotate_left
            ·
             intro w'
             go_simp
             with_reducible rfl
            rotate_left
            ·
             simp only [Act.put,zi,zj,zk,zG,zH]
             rfl
            refine pure_ (i:=2) (N:=some 126) (v:=?_) (a':=?_) (bm_ 3 36) rfl rfl (any_of HT_.out (by kernel_rfl)) (fun _ _ _ h => h) (Or.inl ⟨by rfl,?_⟩) ?_ ?_;rotate_left
            ·
             intro w'
             go_simp
             with_reducible rfl
            rotate_left
            ·
             simp only [Act.put,zi,zj,zk,zG,zH]
             rfl
            refine pure_ (i:=3) (N:=some 127) (v:=?_) (a':=?_) (bm_ 4 36) rfl rfl (any_of HT_.out (by kernel_rfl)) (fun _ _ _ h => h) (Or.inl ⟨by rfl,?_⟩) ?_ ?_;rotate_left
            ·
             intro w'
             go_simp
             with_reducible rfl
            rotate_left
            ·
             simp only [Act.put,zi,zj,zk,zG,zH]
             rfl
            refine take_ (i:=4) (N:=some 128) (v:=?_) (a':=?_) (bm_ 5 36) rfl rfl (yo HT_.out HW_.out (by kernel_rfl)) (fun _ _ _ h => h) (Or.inl ⟨by rfl,?_⟩) hHeld ?_ ?_;rotate_left
            ·
             rintro w' ⟨s0,s1,s2,s3,s4,s5,s6,s7,s8,s9,s10,s11⟩
             go_simp
             with_reducible rfl
            rotate_left
            ·
             simp only [Act.put,zi,zj,zk,zG,zH]
             rfl
            refine one_ (i:=5) (N:=some 129) (bm_ 6 36) rfl rfl (one_of HT_.out (by kernel_rfl)) (by decide) (fun K hK => ?_);refine goes_ Tryd.func28 (by kernel_rfl) rfl #[.string ((rd_T92 t248 x10_2).f0)] (by rfl) rfl rfl (by (try simp only [zt,zu,zv]);first|done|rfl|(simp only [zw,zx];rfl)|(simp only [yr,ys,zV,zW];rfl)) ?_
            with_reducible refine (spec_l01Name.calls k2  ((rd_T92 t248 x10_2).f0) true _ A68.out).mono ?_
            rintro e w' ⟨rfl,⟨nd,rfl⟩⟩;refine ⟨_,rfl,?_⟩;refine hK.out _ _ ⟨hHeld.1,hHeld.2.1,hHeld.2.2.1,hHeld.2.2.2.1,hHeld.2.2.2.2.1,hHeld.2.2.2.2.2.1,hHeld.2.2.2.2.2.2.1,hHeld.2.2.2.2.2.2.2.1,hHeld.2.2.2.2.2.2.2.2.1,hHeld.2.2.2.2.2.2.2.2.2.1,hHeld.2.2.2.2.2.2.2.2.2.2.1,hHeld.2.2.2.2.2.2.2.2.2.2.2⟩ (fun hHeld => ?_);clear hK K;refine norm_ (a':=?_) ?_ ?_;rotate_left
            ·
             show Act.put _ (some 129) _=_
             simp only [Act.put,zi,zj,zk,zG,zH]
             rfl
            refine pure_ (i:=6) (N:=some 130) (v:=?_) (a':=?_) (bm_ 7 36) rfl rfl (any_of HT_.out (by kernel_rfl)) (fun _ _ _ h => h) (Or.inl ⟨by rfl,?_⟩) ?_ ?_;rotate_left
            ·
             intro w'
             go_simp
             with_reducible rfl
            rotate_left
            ·
             simp only [Act.put,zi,zj,zk,zG,zH]
             rfl
            refine pure_ (i:=7) (N:=some 131) (v:=?_) (a':=?_) (bm_ 8 36) rfl rfl (any_of HT_.out (by kernel_rfl)) (fun _ _ _ h => h) (Or.inl ⟨by rfl,?_⟩) ?_ ?_;rotate_left
            ·
             intro w'
             go_simp
             with_reducible rfl
            rotate_left
            ·
             simp only [Act.put,zi,zj,zk,zG,zH]
             rfl
            refine pure_ (i:=8) (N:=some 132) (v:=?_) (a':=?_) (bm_ 9 36) rfl rfl (any_of HT_.out (by kernel_rfl)) (fun _ _ _ h => h) (Or.inl ⟨by rfl,?_⟩) ?_ ?_;rotate_left
            ·
             intro w'
             go_simp
             with_reducible rfl
            rotate_left
            ·
             simp only [Act.put,zi,zj,zk,zG,zH]
             rfl
            refine pure_ (i:=9) (N:=some 133) (v:=?_) (a':=?_) (bm_ 10 36) rfl rfl (any_of HT_.out (by kernel_rfl)) (fun _ _ _ h => h) (Or.inl ⟨by rfl,?_⟩) ?_ ?_;rotate_left
            ·
             intro w'
             go_simp
             with_reducible rfl
            rotate_left
            ·
             simp only [Act.put,zi,zj,zk,zG,zH]
             rfl
            refine pure_ (i:=10) (N:=some 134) (v:=?_) (a':=?_) (bm_ 11 36) rfl rfl (any_of HT_.out (by kernel_rfl)) (fun _ _ _ h => h) (Or.inl ⟨by rfl,?_⟩) ?_ ?_;rotate_left
            ·
             intro w'
             go_simp
             with_reducible rfl
            rotate_left
            ·
             simp only [Act.put,zi,zj,zk,zG,zH]
             rfl
            refine pure_ (i:=11) (N:=some 135) (v:=?_) (a':=?_) (bm_ 12 36) rfl rfl (any_of HT_.out (by kernel_rfl)) (fun _ _ _ h => h) (Or.inl ⟨by rfl,?_⟩) ?_ ?_;rotate_left
            ·
             intro w'
             go_simp
             with_reducible rfl
            rotate_left
            ·
             simp only [Act.put,zi,zj,zk,zG,zH]
             rfl
            refine pure_ (i:=12) (N:=some 136) (v:=?_) (a':=?_) (bm_ 13 36) rfl rfl (any_of HT_.out (by kernel_rfl)) (fun _ _ _ h => h) (Or.inl ⟨by rfl,?_⟩) ?_ ?_;rotate_left
            ·
             intro w'
             go_simp
             with_reducible rfl
            rotate_left
            ·
             simp only [Act.put,zi,zj,zk,zG,zH]
             rfl
            refine pure_ (i:=13) (N:=some 137) (v:=?_) (a':=?_) (bm_ 14 36) rfl rfl (any_of HT_.out (by kernel_rfl)) (fun _ _ _ h => h) (Or.inl ⟨by rfl,?_⟩) ?_ ?_;rotate_left
            ·
             intro w'
             go_simp
             with_reducible rfl
            rotate_left
            ·
             simp only [Act.put,zi,zj,zk,zG,zH]
             rfl
            refine pure_ (i:=14) (N:=some 138) (v:=?_) (a':=?_) (bm_ 15 36) rfl rfl (any_of HT_.out (by kernel_rfl)) (fun _ _ _ h => h) (Or.inl ⟨by rfl,?_⟩) ?_ ?_;rotate_left
            ·
             intro w'
             go_simp
             with_reducible rfl
            rotate_left
            ·
             simp only [Act.put,zi,zj,zk,zG,zH]
             rfl
            refine pure_ (i:=15) (N:=some 139) (v:=?_) (a':=?_) (bm_ 16 36) rfl rfl (any_of HT_.out (by kernel_rfl)) (fun _ _ _ h => h) (Or.inl ⟨by rfl,?_⟩) ?_ ?_;rotate_left
            ·
             intro w'
             go_simp
             with_reducible rfl
            rotate_left
            ·
             simp only [Act.put,zi,zj,zk,zG,zH]
             rfl
            refine pure_ (i:=17) (N:=some 141) (v:=?_) (a':=?_) #[true,true,true,true,true,true,true,true,true,true,true,true,true,true,true,true,false,true,false,false,false,false,false,false,false,false,false,false,false,false,false,false,false,false,false,false] rfl rfl (any_of HT_.out (by kernel_rfl)) (fun _ _ _ h => h) (Or.inl ⟨by rfl,?_⟩) ?_ ?_;rotate_left
            ·
             intro w'
             go_simp
             with_reducible rfl
            rotate_left
            ·
             simp only [Act.put,zi,zj,zk,zG,zH]
             rfl
            refine pure_ (i:=18) (N:=some 142) (v:=?_) (a':=?_) #[true,true,true,true,true,true,true,true,true,true,true,true,true,true,true,true,false,true,true,false,false,false,false,false,false,false,false,false,false,false,false,false,false,false,false,false] rfl rfl (any_of HT_.out (by kernel_rfl)) (fun _ _ _ h => h) (Or.inl ⟨by rfl,?_⟩) ?_ ?_;rotate_left
            ·
             intro w'
             go_simp
             with_reducible rfl
            rotate_left
            ·
             simp only [Act.put,zi,zj,zk,zG,zH]
             rfl
            refine pure_ (i:=19) (N:=some 143) (v:=?_) (a':=?_) #[true,true,true,true,true,true,true,true,true,true,true,true,true,true,true,true,false,true,true,true,false,false,false,false,false,false,false,false,false,false,false,false,false,false,false,false] rfl rfl (any_of HT_.out (by kernel_rfl)) (fun _ _ _ h => h) (Or.inl ⟨by rfl,?_⟩) ?_ ?_;rotate_left
            ·
             intro w'
             go_simp
             with_reducible rfl
            rotate_left
            ·
             simp only [Act.put,zi,zj,zk,zG,zH]
             rfl
            refine pure_ (i:=20) (N:=some 144) (v:=?_) (a':=?_) #[true,true,true,true,true,true,true,true,true,true,true,true,true,true,true,true,false,true,true,true,true,false,false,false,false,false,false,false,false,false,false,false,false,false,false,false] rfl rfl (any_of HT_.out (by kernel_rfl)) (fun _ _ _ h => h) (Or.inl ⟨by rfl,?_⟩) ?_ ?_;rotate_left
            ·
             intro w'
             go_simp
             with_reducible rfl
            rotate_left
            ·
             simp only [Act.put,zi,zj,zk,zG,zH]
             rfl
            refine take_ (i:=16) (N:=some 140) (v:=?_) (a':=?_) (bm_ 21 36) rfl rfl (yo HT_.out HW_.out (by kernel_rfl)) (fun _ _ _ h => h) (Or.inl ⟨by rfl,?_⟩) hHeld ?_ ?_;rotate_left
            ·
             rintro w' ⟨s0,s1,s2,s3,s4,s5,s6,s7,s8,s9,s10,s11⟩
             go_simp
             with_reducible rfl
            rotate_left
            ·
             simp only [Act.put,zi,zj,zk,zG,zH]
             rfl
            refine take_ (i:=21) (N:=some 145) (v:=?_) (a':=?_) (bm_ 22 36) rfl rfl (yo HT_.out HW_.out (by kernel_rfl)) (fun _ _ _ h => h) (Or.inl ⟨by rfl,?_⟩) hHeld ?_ ?_;rotate_left
            ·
             rintro w' ⟨s0,s1,s2,s3,s4,s5,s6,s7,s8,s9,s10,s11⟩
             go_simp
             with_reducible rfl
            rotate_left
            ·
             simp only [Act.put,zi,zj,zk,zG,zH]
             rfl
            refine pure_ (i:=22) (N:=some 146) (v:=?_) (a':=?_) (bm_ 23 36) rfl rfl (any_of HT_.out (by kernel_rfl)) (fun _ _ _ h => h) (Or.inl ⟨by rfl,?_⟩) ?_ ?_;rotate_left
            ·
             intro w'
             go_simp
             with_reducible rfl
            rotate_left
            ·
             simp only [Act.put,zi,zj,zk,zG,zH]
             rfl
            refine pure_ (i:=23) (N:=some 147) (v:=?_) (a':=?_) (bm_ 24 36) rfl rfl (any_of HT_.out (by kernel_rfl)) (fun _ _ _ h => h) (Or.inl ⟨by rfl,?_⟩) ?_ ?_;rotate_left
            ·
             intro w'
             go_simp
             with_reducible rfl
            rotate_left
            ·
             simp only [Act.put,zi,zj,zk,zG,zH]
             rfl
            refine pure_ (i:=24) (N:=some 148) (v:=?_) (a':=?_) (bm_ 25 36) rfl rfl (any_of HT_.out (by kernel_rfl)) (fun _ _ _ h => h) (Or.inl ⟨by rfl,?_⟩) ?_ ?_;rotate_left
            ·
             intro w'
             go_simp
             with_reducible rfl
            rotate_left
            ·
             simp only [Act.put,zi,zj,zk,zG,zH]
             rfl
            refine pure_ (i:=25) (N:=some 149) (v:=?_) (a':=?_) (bm_ 26 36) rfl rfl (any_of HT_.out (by kernel_rfl)) (fun _ _ _ h => h) (Or.inl ⟨by rfl,?_⟩) ?_ ?_;rotate_left
            ·
             intro w'
             go_simp
             with_reducible rfl
            rotate_left
            ·
             simp only [Act.put,zi,zj,zk,zG,zH]
             rfl
            refine pure_ (i:=26) (N:=some 150) (v:=undef) (a':=?_) (bm_ 27 36) rfl rfl (any_of HT_.out (by kernel_rfl)) (fun _ _ _ h => h) (Or.inr ⟨by rfl,rfl⟩) ?_ ?_;rotate_left
            ·
             simp only [Act.put,zi,zj,zk,zG,zH]
             rfl
            refine pure_ (i:=27) (N:=some 151) (v:=undef) (a':=?_) (bm_ 28 36) rfl rfl (any_of HT_.out (by kernel_rfl)) (fun _ _ _ h => h) (Or.inr ⟨by rfl,rfl⟩) ?_ ?_;rotate_left
            ·
             simp only [Act.put,zi,zj,zk,zG,zH]
             rfl
            refine pure_ (i:=28) (N:=some 152) (v:=undef) (a':=?_) (bm_ 29 36) rfl rfl (any_of HT_.out (by kernel_rfl)) (fun _ _ _ h => h) (Or.inr ⟨by rfl,rfl⟩) ?_ ?_;rotate_left
            ·
             simp only [Act.put,zi,zj,zk,zG,zH]
             rfl
            refine pure_ (i:=29) (N:=some 153) (v:=undef) (a':=?_) (bm_ 30 36) rfl rfl (any_of HT_.out (by kernel_rfl)) (fun _ _ _ h => h) (Or.inr ⟨by rfl,rfl⟩) ?_ ?_;rotate_left
            ·
             simp only [Act.put,zi,zj,zk,zG,zH]
             rfl
            refine pure_ (i:=30) (N:=some 154) (v:=undef) (a':=?_) (bm_ 31 36) rfl rfl (any_of HT_.out (by kernel_rfl)) (fun _ _ _ h => h) (Or.inr ⟨by rfl,rfl⟩) ?_ ?_;rotate_left
            ·
             simp only [Act.put,zi,zj,zk,zG,zH]
             rfl
            refine pure_ (i:=31) (N:=some 155) (v:=undef) (a':=?_) (bm_ 32 36) rfl rfl (any_of HT_.out (by kernel_rfl)) (fun _ _ _ h => h) (Or.inr ⟨by rfl,rfl⟩) ?_ ?_;rotate_left
            ·
             simp only [Act.put,zi,zj,zk,zG,zH]
             rfl
            refine pure_ (i:=32) (N:=some 156) (v:=undef) (a':=?_) (bm_ 33 36) rfl rfl (any_of HT_.out (by kernel_rfl)) (fun _ _ _ h => h) (Or.inr ⟨by rfl,rfl⟩) ?_ ?_;rotate_left
            ·
             simp only [Act.put,zi,zj,zk,zG,zH]
             rfl
            refine pure_ (i:=33) (N:=some 157) (v:=undef) (a':=?_) (bm_ 34 36) rfl rfl (any_of HT_.out (by kernel_rfl)) (fun _ _ _ h => h) (Or.inr ⟨by rfl,rfl⟩) ?_ ?_;rotate_left
            ·
             simp only [Act.put,zi,zj,zk,zG,zH]
             rfl
            refine pure_ (i:=34) (N:=some 158) (v:=undef) (a':=?_) (bm_ 35 36) rfl rfl (any_of HT_.out (by kernel_rfl)) (fun _ _ _ h => h) (Or.inr ⟨by rfl,rfl⟩) ?_ ?_;rotate_left
            ·
             simp only [Act.put,zi,zj,zk,zG,zH]
             rfl
            refine pure_ (i:=35) (N:=some 159) (v:=?_) (a':=?_) (bm_ 36 36) rfl rfl (any_of HT_.out (by kernel_rfl)) (fun _ _ _ h => h) (Or.inl ⟨by rfl,?_⟩) ?_ ?_;rotate_left
            ·
             intro w'
             go_simp
             with_reducible rfl
            rotate_left
            ·
             simp only [Act.put,zi,zj,zk,zG,zH]
             rfl
            refine done_ (done_of HT_.out (by kernel_rfl)) ?_
            try go_wp2
            go_ret
            exact ⟨by first|rfl|(simp [yt,yu] <;> rfl)|(simp only [← hji71];first|rfl|(simp [yt,yu] <;> rfl))|(simp [*,yt,yu] <;> rfl),by repeat (with_reducible first|exact HB.out|apply za|apply zb|apply zc|refine zd ?_ GE239.out)⟩
           rw [if_neg c73] at H;exact absurd H (by simp)
          rw [if_neg c72] at H;exact absurd H (by simp)
         rw [if_neg c70] at H;have c70b0 : decide (0<x10_2)=false:=decide_eq_false c70;clear c70;replace H:=zT.mp H;obtain ⟨t259,A850,H⟩:=H;replace H : (if t259=true then (spec_l01OK.l1 k2 a1 t248 (wrap64 (x10_2 + 1))) else (some false))=some r:=H;have A85:=zh A850;clear A850
         by_cases c86 : t259=true
         ·
          subst c86
          have H1 : (spec_l01OK.l1 k2 a1 t248 (wrap64 (x10_2 + 1)))=some r:=by rw [if_pos rfl] at H;exact H
          clear H;have H:=H1;clear H1;have H':=zh H;clear H;obtain ⟨Ao87,co87,eo87⟩:=yk HO_8.out;subst eo87
          try go_wp2
          replace HO_8:=zh (zo HO_8.out);replace BK239:=zh (zf BK239.out);replace HB:=zh (zc HB.out);have p252 : 0≤(x10_2 : Int):=zy (by first|(with_reducible assumption)|assumption);have q252 : x10_2<(t248.length : Int):=zy (by first|(with_reducible assumption)|assumption);obtain ⟨ad252,e252,hx252_0,hx252_1,hx252_2,hx252_3⟩:=at_T92 (yh HO_8.out).2.2 x10_2 p252 q252
          cases e252
          replace p252:=eq_true p252;replace q252:=eq_true q252;have p258 : 0≤(x10_2 : Int):=zy (by first|(with_reducible assumption)|assumption);have q258 : x10_2<(t248.length : Int):=zy (by first|(with_reducible assumption)|assumption);obtain ⟨ad258,e258,hx258_0,hx258_1,hx258_2,hx258_3⟩:=at_T92 (yh HO_8.out).2.2 x10_2 p258 q258;obtain rfl : ad252=ad258:=(by injection e258);replace p258:=eq_true p258;replace q258:=eq_true q258;refine start_ (n:=36) (S:=fun w' => w'.cell? (ad252.add ((x10_2).toNat * 4))=some (.string ((rd_T92 t248 x10_2).f0))∧w'.cell? ⟨(ad252.add ((x10_2).toNat * 4)).block,(ad252.add ((x10_2).toNat * 4)).off + 1,none⟩=some (.int .i64 ((rd_T92 t248 x10_2).f1.f0))∧w'.cell? ⟨(ad252.add ((x10_2).toNat * 4)).block,(ad252.add ((x10_2).toNat * 4)).off + 2,none⟩=some (.int .i64 ((rd_T92 t248 x10_2).f1.f1))∧w'.cell? ⟨(ad252.add ((x10_2).toNat * 4)).block,(ad252.add ((x10_2).toNat * 4)).off + 3,none⟩=some (.string ((rd_T92 t248 x10_2).f1.f2))∧w'.cell? (ad252.add ((x10_2).toNat * 4))=some (.string ((rd_T92 t248 x10_2).f0))∧w'.cell? ⟨(ad252.add ((x10_2).toNat * 4)).block,(ad252.add ((x10_2).toNat * 4)).off + 1,none⟩=some (.int .i64 ((rd_T92 t248 x10_2).f1.f0))∧w'.cell? ⟨(ad252.add ((x10_2).toNat * 4)).block,(ad252.add ((x10_2).toNat * 4)).off + 2,none⟩=some (.int .i64 ((rd_T92 t248 x10_2).f1.f1))∧w'.cell? ⟨(ad252.add ((x10_2).toNat * 4)).block,(ad252.add ((x10_2).toNat * 4)).off + 3,none⟩=some (.string ((rd_T92 t248 x10_2).f1.f2))) (ds:=[]) (bm_ 0 36) (by kernel_rfl) rfl rfl ⟨hx252_0,hx252_1,hx252_2,hx252_3,hx258_0,hx258_1,hx258_2,hx258_3⟩ (fun hHeld => ?_);refine with_tabW spec_l01OK.tab27 spec_l01OK.bits27 (fun HT_ HW_ => ?_);generalize wr.drew=w88 at HO_8 BK239 HB hx252_0 hx252_1 hx252_2 hx252_3 hx258_0 hx258_1 hx258_2 hx258_3 hHeld ⊢;refine pure_ (i:=0) (N:=some 124) (v:=?_) (a':=?_) (bm_ 1 36) rfl rfl (any_of HT_.out (by kernel_rfl)) (fun _ _ _ h => h) (Or.inl ⟨by rfl,?_⟩) ?_ ?_;rotate_left
          ·
           intro w'
           go_simp
           with_reducible rfl
          rotate_left
          ·
           simp only [Act.put,zi,zj,zk,zG,zH]
           rfl
          refine pure_ (i:=1) (N:=some 125) (v:=?_) (a':=?_) (bm_ 2 36) rfl rfl (any_of HT_.out (by kernel_rfl)) (fun _ _ _ h => h) (Or.inl ⟨by rfl,?_⟩) ?_ ?_;rotate_left
          ·
           intro w'
           go_simp
           with_reducible rfl
          rotate_left
          ·
           simp only [Act.put,zi,zj,zk,zG,zH]
           rfl
          refine pure_ (i:=2) (N:=some 126) (v:=?_) (a':=?_) (bm_ 3 36) rfl rfl (any_of HT_.out (by kernel_rfl)) (fun _ _ _ h => h) (Or.inl ⟨by rfl,?_⟩) ?_ ?_;rotate_left
          ·
           intro w'
           go_simp
           with_reducible rfl
          rotate_left
          ·
           simp only [Act.put,zi,zj,zk,zG,zH]
           rfl
          refine pure_ (i:=3) (N:=some 127) (v:=?_) (a':=?_) (bm_ 4 36) rfl rfl (any_of HT_.out (by kernel_rfl)) (fun _ _ _ h => h) (Or.inl ⟨by rfl,?_⟩) ?_ ?_;rotate_left
          ·
           intro w'
           go_simp
           with_reducible rfl
          rotate_left
          ·
           simp only [Act.put,zi,zj,zk,zG,zH]
           rfl
          refine take_ (i:=4) (N:=some 128) (v:=?_) (a':=?_) (bm_ 5 36) rfl rfl (yo HT_.out HW_.out (by kernel_rfl)) (fun _ _ _ h => h) (Or.inl ⟨by rfl,?_⟩) hHeld ?_ ?_;rotate_left
          ·
           rintro w' ⟨s0,s1,s2,s3,s4,s5,s6,s7⟩
           go_simp
           with_reducible rfl
          rotate_left
          ·
           simp only [Act.put,zi,zj,zk,zG,zH]
           rfl
          refine one_ (i:=5) (N:=some 129) (bm_ 6 36) rfl rfl (one_of HT_.out (by kernel_rfl)) (by decide) (fun K hK => ?_);refine goes_ Tryd.func28 (by kernel_rfl) rfl #[.string ((rd_T92 t248 x10_2).f0)] (by rfl) rfl rfl (by (try simp only [zt,zu,zv]);first|done|rfl|(simp only [zw,zx];rfl)|(simp only [yr,ys,zV,zW];rfl)) ?_
          with_reducible refine (spec_l01Name.calls k2  ((rd_T92 t248 x10_2).f0) true _ A68.out).mono ?_
          rintro e w' ⟨rfl,⟨nd,rfl⟩⟩;refine ⟨_,rfl,?_⟩;refine hK.out _ _ ⟨hHeld.1,hHeld.2.1,hHeld.2.2.1,hHeld.2.2.2.1,hHeld.2.2.2.2.1,hHeld.2.2.2.2.2.1,hHeld.2.2.2.2.2.2.1,hHeld.2.2.2.2.2.2.2⟩ (fun hHeld => ?_);clear hK K;refine norm_ (a':=?_) ?_ ?_;rotate_left
          ·
           show Act.put _ (some 129) _=_
           simp only [Act.put,zi,zj,zk,zG,zH]
           rfl
          refine pure_ (i:=6) (N:=some 130) (v:=?_) (a':=?_) (bm_ 7 36) rfl rfl (any_of HT_.out (by kernel_rfl)) (fun _ _ _ h => h) (Or.inl ⟨by rfl,?_⟩) ?_ ?_;rotate_left
          ·
           intro w'
           go_simp
           with_reducible rfl
          rotate_left
          ·
           simp only [Act.put,zi,zj,zk,zG,zH]
           rfl
          refine pure_ (i:=7) (N:=some 131) (v:=?_) (a':=?_) (bm_ 8 36) rfl rfl (any_of HT_.out (by kernel_rfl)) (fun _ _ _ h => h) (Or.inl ⟨by rfl,?_⟩) ?_ ?_;rotate_left
          ·
           intro w'
           go_simp
           with_reducible rfl
          rotate_left
          ·
           simp only [Act.put,zi,zj,zk,zG,zH]
           rfl
          refine pure_ (i:=8) (N:=some 132) (v:=?_) (a':=?_) (bm_ 9 36) rfl rfl (any_of HT_.out (by kernel_rfl)) (fun _ _ _ h => h) (Or.inl ⟨by rfl,?_⟩) ?_ ?_;rotate_left
          ·
           intro w'
           go_simp
           with_reducible rfl
          rotate_left
          ·
           simp only [Act.put,zi,zj,zk,zG,zH]
           rfl
          refine pure_ (i:=9) (N:=some 133) (v:=?_) (a':=?_) (bm_ 10 36) rfl rfl (any_of HT_.out (by kernel_rfl)) (fun _ _ _ h => h) (Or.inl ⟨by rfl,?_⟩) ?_ ?_;rotate_left
          ·
           intro w'
           go_simp
           with_reducible rfl
          rotate_left
          ·
           simp only [Act.put,zi,zj,zk,zG,zH]
           rfl
          refine pure_ (i:=10) (N:=some 134) (v:=?_) (a':=?_) (bm_ 11 36) rfl rfl (any_of HT_.out (by kernel_rfl)) (fun _ _ _ h => h) (Or.inl ⟨by rfl,?_⟩) ?_ ?_;rotate_left
          ·
           intro w'
           go_simp
           with_reducible rfl
          rotate_left
          ·
           simp only [Act.put,zi,zj,zk,zG,zH]
           rfl
          refine pure_ (i:=11) (N:=some 135) (v:=undef) (a':=?_) (bm_ 12 36) rfl rfl (any_of HT_.out (by kernel_rfl)) (fun _ _ _ h => h) (Or.inr ⟨by rfl,rfl⟩) ?_ ?_;rotate_left
          ·
           simp only [Act.put,zi,zj,zk,zG,zH]
           rfl
          refine pure_ (i:=12) (N:=some 136) (v:=undef) (a':=?_) (bm_ 13 36) rfl rfl (any_of HT_.out (by kernel_rfl)) (fun _ _ _ h => h) (Or.inr ⟨by rfl,rfl⟩) ?_ ?_;rotate_left
          ·
           simp only [Act.put,zi,zj,zk,zG,zH]
           rfl
          refine pure_ (i:=13) (N:=some 137) (v:=undef) (a':=?_) (bm_ 14 36) rfl rfl (any_of HT_.out (by kernel_rfl)) (fun _ _ _ h => h) (Or.inr ⟨by rfl,rfl⟩) ?_ ?_;rotate_left
          ·
           simp only [Act.put,zi,zj,zk,zG,zH]
           rfl
          refine pure_ (i:=14) (N:=some 138) (v:=undef) (a':=?_) (bm_ 15 36) rfl rfl (any_of HT_.out (by kernel_rfl)) (fun _ _ _ h => h) (Or.inr ⟨by rfl,rfl⟩) ?_ ?_;rotate_left
          ·
           simp only [Act.put,zi,zj,zk,zG,zH]
           rfl
          refine pure_ (i:=15) (N:=some 139) (v:=undef) (a':=?_) (bm_ 16 36) rfl rfl (any_of HT_.out (by kernel_rfl)) (fun _ _ _ h => h) (Or.inr ⟨by rfl,rfl⟩) ?_ ?_;rotate_left
          ·
           simp only [Act.put,zi,zj,zk,zG,zH]
           rfl
          refine pure_ (i:=16) (N:=some 140) (v:=undef) (a':=?_) (bm_ 17 36) rfl rfl (any_of HT_.out (by kernel_rfl)) (fun _ _ _ h => h) (Or.inr ⟨by rfl,rfl⟩) ?_ ?_;rotate_left
          ·
           simp only [Act.put,zi,zj,zk,zG,zH]
           rfl
          refine pure_ (i:=17) (N:=some 141) (v:=undef) (a':=?_) (bm_ 18 36) rfl rfl (any_of HT_.out (by kernel_rfl)) (fun _ _ _ h => h) (Or.inr ⟨by rfl,rfl⟩) ?_ ?_;rotate_left
          ·
           simp only [Act.put,zi,zj,zk,zG,zH]
           rfl
          refine pure_ (i:=18) (N:=some 142) (v:=undef) (a':=?_) (bm_ 19 36) rfl rfl (any_of HT_.out (by kernel_rfl)) (fun _ _ _ h => h) (Or.inr ⟨by rfl,rfl⟩) ?_ ?_;rotate_left
          ·
           simp only [Act.put,zi,zj,zk,zG,zH]
           rfl
          refine pure_ (i:=19) (N:=some 143) (v:=undef) (a':=?_) (bm_ 20 36) rfl rfl (any_of HT_.out (by kernel_rfl)) (fun _ _ _ h => h) (Or.inr ⟨by rfl,rfl⟩) ?_ ?_;rotate_left
          ·
           simp only [Act.put,zi,zj,zk,zG,zH]
           rfl
          refine pure_ (i:=20) (N:=some 144) (v:=undef) (a':=?_) (bm_ 21 36) rfl rfl (any_of HT_.out (by kernel_rfl)) (fun _ _ _ h => h) (Or.inr ⟨by rfl,rfl⟩) ?_ ?_;rotate_left
          ·
           simp only [Act.put,zi,zj,zk,zG,zH]
           rfl
          refine pure_ (i:=21) (N:=some 145) (v:=undef) (a':=?_) (bm_ 22 36) rfl rfl (any_of HT_.out (by kernel_rfl)) (fun _ _ _ h => h) (Or.inr ⟨by rfl,rfl⟩) ?_ ?_;rotate_left
          ·
           simp only [Act.put,zi,zj,zk,zG,zH]
           rfl
          refine pure_ (i:=22) (N:=some 146) (v:=undef) (a':=?_) (bm_ 23 36) rfl rfl (any_of HT_.out (by kernel_rfl)) (fun _ _ _ h => h) (Or.inr ⟨by rfl,rfl⟩) ?_ ?_;rotate_left
          ·
           simp only [Act.put,zi,zj,zk,zG,zH]
           rfl
          refine pure_ (i:=23) (N:=some 147) (v:=?_) (a':=?_) (bm_ 24 36) rfl rfl (any_of HT_.out (by kernel_rfl)) (fun _ _ _ h => h) (Or.inl ⟨by rfl,?_⟩) ?_ ?_;rotate_left
          ·
           intro w'
           go_simp
           with_reducible rfl
          rotate_left
          ·
           simp only [Act.put,zi,zj,zk,zG,zH]
           rfl
          refine pure_ (i:=24) (N:=some 148) (v:=?_) (a':=?_) (bm_ 25 36) rfl rfl (any_of HT_.out (by kernel_rfl)) (fun _ _ _ h => h) (Or.inl ⟨by rfl,?_⟩) ?_ ?_;rotate_left
          ·
           intro w'
           go_simp
           with_reducible rfl
          rotate_left
          ·
           simp only [Act.put,zi,zj,zk,zG,zH]
           rfl
          refine pure_ (i:=25) (N:=some 149) (v:=?_) (a':=?_) (bm_ 26 36) rfl rfl (any_of HT_.out (by kernel_rfl)) (fun _ _ _ h => h) (Or.inl ⟨by rfl,?_⟩) ?_ ?_;rotate_left
          ·
           intro w'
           go_simp
           with_reducible rfl
          rotate_left
          ·
           simp only [Act.put,zi,zj,zk,zG,zH]
           rfl
          refine pure_ (i:=26) (N:=some 150) (v:=?_) (a':=?_) (bm_ 27 36) rfl rfl (any_of HT_.out (by kernel_rfl)) (fun _ _ _ h => h) (Or.inl ⟨by rfl,?_⟩) ?_ ?_;rotate_left
          ·
           intro w'
           go_simp
           with_reducible rfl
          rotate_left
          ·
           simp only [Act.put,zi,zj,zk,zG,zH]
           rfl
          refine pure_ (i:=27) (N:=some 151) (v:=?_) (a':=?_) (bm_ 28 36) rfl rfl (any_of HT_.out (by kernel_rfl)) (fun _ _ _ h => h) (Or.inl ⟨by rfl,?_⟩) ?_ ?_;rotate_left
          ·
           intro w'
           go_simp
           with_reducible rfl
          rotate_left
          ·
           simp only [Act.put,zi,zj,zk,zG,zH]
           rfl
          refine pure_ (i:=28) (N:=some 152) (v:=?_) (a':=?_) (bm_ 29 36) rfl rfl (any_of HT_.out (by kernel_rfl)) (fun _ _ _ h => h) (Or.inl ⟨by rfl,?_⟩) ?_ ?_;rotate_left
          ·
           intro w'
           go_simp
           with_reducible rfl
          rotate_left
          ·
           simp only [Act.put,zi,zj,zk,zG,zH]
           rfl
          refine pure_ (i:=29) (N:=some 153) (v:=?_) (a':=?_) (bm_ 30 36) rfl rfl (any_of HT_.out (by kernel_rfl)) (fun _ _ _ h => h) (Or.inl ⟨by rfl,?_⟩) ?_ ?_;rotate_left
          ·
           intro w'
           go_simp
           with_reducible rfl
          rotate_left
          ·
           simp only [Act.put,zi,zj,zk,zG,zH]
           rfl
          refine pure_ (i:=31) (N:=some 155) (v:=?_) (a':=?_) #[true,true,true,true,true,true,true,true,true,true,true,true,true,true,true,true,true,true,true,true,true,true,true,true,true,true,true,true,true,true,false,true,false,false,false,false] rfl rfl (any_of HT_.out (by kernel_rfl)) (fun _ _ _ h => h) (Or.inl ⟨by rfl,?_⟩) ?_ ?_;rotate_left
          ·
           intro w'
           go_simp
           with_reducible rfl
          rotate_left
          ·
           simp only [Act.put,zi,zj,zk,zG,zH]
           rfl
          refine pure_ (i:=32) (N:=some 156) (v:=?_) (a':=?_) #[true,true,true,true,true,true,true,true,true,true,true,true,true,true,true,true,true,true,true,true,true,true,true,true,true,true,true,true,true,true,false,true,true,false,false,false] rfl rfl (any_of HT_.out (by kernel_rfl)) (fun _ _ _ h => h) (Or.inl ⟨by rfl,?_⟩) ?_ ?_;rotate_left
          ·
           intro w'
           go_simp
           with_reducible rfl
          rotate_left
          ·
           simp only [Act.put,zi,zj,zk,zG,zH]
           rfl
          refine take_ (i:=30) (N:=some 154) (v:=?_) (a':=?_) (bm_ 33 36) rfl rfl (yo HT_.out HW_.out (by kernel_rfl)) (fun _ _ _ h => h) (Or.inl ⟨by rfl,?_⟩) hHeld ?_ ?_;rotate_left
          ·
           rintro w' ⟨s0,s1,s2,s3,s4,s5,s6,s7⟩
           go_simp
           with_reducible rfl
          rotate_left
          ·
           simp only [Act.put,zi,zj,zk,zG,zH]
           rfl
          refine one_ (i:=33) (N:=some 157) (bm_ 34 36) rfl rfl (one_of HT_.out (by kernel_rfl)) (by decide) (fun K hK => ?_);refine goes_ Tryd.func54 (by kernel_rfl) rfl #[.agg #[.int .i64 ((rd_T92 t248 x10_2).f1.f0),.int .i64 ((rd_T92 t248 x10_2).f1.f1),.string ((rd_T92 t248 x10_2).f1.f2)],.int .i64 (wrap64 (a1 - 1))] (by rfl) rfl rfl (by (try simp only [zt,zu,zv]);first|done|rfl|(simp only [zw,zx];rfl)|(simp only [yr,ys,zV,zW];rfl)) ?_
          with_reducible refine (ih k2 (by have:=HJ53.out;have:=HK2.out;omega)  ((rd_T92 t248 x10_2).f1.f0) ((rd_T92 t248 x10_2).f1.f1) ((rd_T92 t248 x10_2).f1.f2) (wrap64 (a1 - 1)) true _ A85.out).mono ?_
          rintro e w89 ⟨rfl,hb⟩;have HS0_:=(hb.cell (zl _ _ (hHeld.1))).trans (hHeld.1);have HS1_:=(hb.cell (zl _ _ (hHeld.2.1))).trans (hHeld.2.1);have HS2_:=(hb.cell (zl _ _ (hHeld.2.2.1))).trans (hHeld.2.2.1);have HS3_:=(hb.cell (zl _ _ (hHeld.2.2.2.1))).trans (hHeld.2.2.2.1);have HS4_:=(hb.cell (zl _ _ (hHeld.2.2.2.2.1))).trans (hHeld.2.2.2.2.1);have HS5_:=(hb.cell (zl _ _ (hHeld.2.2.2.2.2.1))).trans (hHeld.2.2.2.2.2.1);have HS6_:=(hb.cell (zl _ _ (hHeld.2.2.2.2.2.2.1))).trans (hHeld.2.2.2.2.2.2.1);have HS7_:=(hb.cell (zl _ _ (hHeld.2.2.2.2.2.2.2))).trans (hHeld.2.2.2.2.2.2.2);refine ⟨_,rfl,?_⟩;replace HO_8:=zh (yg (by (with_reducible repeat (first|apply zm|apply zn|apply zo));exact HO_8.out) hb);replace BK239:=zh (zD (g:=gb239) (o:=.cells #[.int .i64 a0_0,.int .i64 a0_1,.string a0_2] 39 (0,0)) (by (with_reducible repeat (first|refine ze ?_ _|refine zf ?_|refine zg ?_ _));exact BK239.out) hb);replace HB:=zh (zC (by repeat (with_reducible first|exact HB.out|apply za|apply zb|apply zc|refine zd ?_ GE239.out)) hb);(try clear hb);(try clear hb2);(try clear hk);(try clear hi);refine hK.out _ _ ⟨HS0_,HS1_,HS2_,HS3_,HS4_,HS5_,HS6_,HS7_⟩ (fun hHeld => ?_);clear hK K;refine norm_ (a':=?_) ?_ ?_;rotate_left
          ·
           show Act.put _ (some 157) _=_
           simp only [Act.put,zi,zj,zk,zG,zH]
           rfl
          refine pure_ (i:=34) (N:=some 158) (v:=?_) (a':=?_) (bm_ 35 36) rfl rfl (any_of HT_.out (by kernel_rfl)) (fun _ _ _ h => h) (Or.inl ⟨by rfl,?_⟩) ?_ ?_;rotate_left
          ·
           intro w'
           go_simp
           with_reducible rfl
          rotate_left
          ·
           simp only [Act.put,zi,zj,zk,zG,zH]
           rfl
          refine pure_ (i:=35) (N:=some 159) (v:=?_) (a':=?_) (bm_ 36 36) rfl rfl (any_of HT_.out (by kernel_rfl)) (fun _ _ _ h => h) (Or.inl ⟨by rfl,?_⟩) ?_ ?_;rotate_left
          ·
           intro w'
           go_simp
           with_reducible rfl
          rotate_left
          ·
           simp only [Act.put,zi,zj,zk,zG,zH]
           rfl
          refine done_ (done_of HT_.out (by kernel_rfl)) ?_
          try go_wp2
          go_roundg k2
          case measure => have:=HJ53.out;have:=HK2.out;omega
          case rel => exact ⟨(wrap64 (x10_2 + 1)),(by first|rfl|(simp;done)|(simp [*];done)),H',⟨by have:=HJ53.out;have:=HK2.out;omega⟩,⟨by (with_reducible repeat (first|apply zm|apply zn|apply zo));exact HO_8.out⟩,⟨by (with_reducible repeat (first|refine ze ?_ _|refine zf ?_|refine zg ?_ _));exact BK239.out⟩,⟨by repeat (with_reducible first|exact HB.out|apply za|apply zb|apply zc|refine zd ?_ GE239.out)⟩⟩
         replace c86:=yb.mpr c86;subst c86;have H1 : (some false)=some r:=by rw [if_neg (show ¬ (false=true) by decide)] at H;exact H
         clear H;have H:=H1;clear H1;obtain rfl:=zU H;obtain ⟨Ao90,co90,eo90⟩:=yk HO_8.out;subst eo90
         try go_wp2
         replace HO_8:=zh (zo HO_8.out);replace BK239:=zh (zf BK239.out);replace HB:=zh (zc HB.out);have p252 : 0≤(x10_2 : Int):=zy (by first|(with_reducible assumption)|assumption);have q252 : x10_2<(t248.length : Int):=zy (by first|(with_reducible assumption)|assumption);obtain ⟨ad252,e252,hx252_0,hx252_1,hx252_2,hx252_3⟩:=at_T92 (yh HO_8.out).2.2 x10_2 p252 q252
         cases e252
         replace p252:=eq_true p252;replace q252:=eq_true q252;have p258 : 0≤(x10_2 : Int):=zy (by first|(with_reducible assumption)|assumption);have q258 : x10_2<(t248.length : Int):=zy (by first|(with_reducible assumption)|assumption);obtain ⟨ad258,e258,hx258_0,hx258_1,hx258_2,hx258_3⟩:=at_T92 (yh HO_8.out).2.2 x10_2 p258 q258;obtain rfl : ad252=ad258:=(by injection e258);replace p258:=eq_true p258;replace q258:=eq_true q258;refine start_ (n:=36) (S:=fun w' => w'.cell? (ad252.add ((x10_2).toNat * 4))=some (.string ((rd_T92 t248 x10_2).f0))∧w'.cell? ⟨(ad252.add ((x10_2).toNat * 4)).block,(ad252.add ((x10_2).toNat * 4)).off + 1,none⟩=some (.int .i64 ((rd_T92 t248 x10_2).f1.f0))∧w'.cell? ⟨(ad252.add ((x10_2).toNat * 4)).block,(ad252.add ((x10_2).toNat * 4)).off + 2,none⟩=some (.int .i64 ((rd_T92 t248 x10_2).f1.f1))∧w'.cell? ⟨(ad252.add ((x10_2).toNat * 4)).block,(ad252.add ((x10_2).toNat * 4)).off + 3,none⟩=some (.string ((rd_T92 t248 x10_2).f1.f2))∧w'.cell? (ad252.add ((x10_2).toNat * 4))=some (.string ((rd_T92 t248 x10_2).f0))∧w'.cell? ⟨(ad252.add ((x10_2).toNat * 4)).block,(ad252.add ((x10_2).toNat * 4)).off + 1,none⟩=some (.int .i64 ((rd_T92 t248 x10_2).f1.f0))∧w'.cell? ⟨(ad252.add ((x10_2).toNat * 4)).block,(ad252.add ((x10_2).toNat * 4)).off + 2,none⟩=some (.int .i64 ((rd_T92 t248 x10_2).f1.f1))∧w'.cell? ⟨(ad252.add ((x10_2).toNat * 4)).block,(ad252.add ((x10_2).toNat * 4)).off + 3,none⟩=some (.string ((rd_T92 t248 x10_2).f1.f2))) (ds:=[]) (bm_ 0 36) (by kernel_rfl) rfl rfl ⟨hx252_0,hx252_1,hx252_2,hx252_3,hx258_0,hx258_1,hx258_2,hx258_3⟩ (fun hHeld => ?_);refine with_tabW spec_l01OK.tab27 spec_l01OK.bits27 (fun HT_ HW_ => ?_);generalize wr.drew=w91 at HO_8 BK239 HB hx252_0 hx252_1 hx252_2 hx252_3 hx258_0 hx258_1 hx258_2 hx258_3 hHeld ⊢;refine pure_ (i:=0) (N:=some 124) (v:=?_) (a':=?_) (bm_ 1 36) rfl rfl (any_of HT_.out (by kernel_rfl)) (fun _ _ _ h => h) (Or.inl ⟨by rfl,?_⟩) ?_ ?_;rotate_left
         ·
          intro w'
          go_simp
          with_reducible rfl
         rotate_left
         ·
          simp only [Act.put,zi,zj,zk,zG,zH]
          rfl
         refine pure_ (i:=1) (N:=some 125) (v:=?_) (a':=?_) (bm_ 2 36) rfl rfl (any_of HT_.out (by kernel_rfl)) (fun _ _ _ h => h) (Or.inl ⟨by rfl,?_⟩) ?_ ?_;rotate_left
         ·
          intro w'
          go_simp
          with_reducible rfl
         rotate_left
         ·
          simp only [Act.put,zi,zj,zk,zG,zH]
          rfl
         refine pure_ (i:=2) (N:=some 126) (v:=?_) (a':=?_) (bm_ 3 36) rfl rfl (any_of HT_.out (by kernel_rfl)) (fun _ _ _ h => h) (Or.inl ⟨by rfl,?_⟩) ?_ ?_;rotate_left
         ·
          intro w'
          go_simp
          with_reducible rfl
         rotate_left
         ·
          simp only [Act.put,zi,zj,zk,zG,zH]
          rfl
         refine pure_ (i:=3) (N:=some 127) (v:=?_) (a':=?_) (bm_ 4 36) rfl rfl (any_of HT_.out (by kernel_rfl)) (fun _ _ _ h => h) (Or.inl ⟨by rfl,?_⟩) ?_ ?_;rotate_left
         ·
          intro w'
          go_simp
          with_reducible rfl
         rotate_left
         ·
          simp only [Act.put,zi,zj,zk,zG,zH]
          rfl
         refine take_ (i:=4) (N:=some 128) (v:=?_) (a':=?_) (bm_ 5 36) rfl rfl (yo HT_.out HW_.out (by kernel_rfl)) (fun _ _ _ h => h) (Or.inl ⟨by rfl,?_⟩) hHeld ?_ ?_;rotate_left
         ·
          rintro w' ⟨s0,s1,s2,s3,s4,s5,s6,s7⟩
          go_simp
          with_reducible rfl
         rotate_left
         ·
          simp only [Act.put,zi,zj,zk,zG,zH]
          rfl
         refine one_ (i:=5) (N:=some 129) (bm_ 6 36) rfl rfl (one_of HT_.out (by kernel_rfl)) (by decide) (fun K hK => ?_);refine goes_ Tryd.func28 (by kernel_rfl) rfl #[.string ((rd_T92 t248 x10_2).f0)] (by rfl) rfl rfl (by (try simp only [zt,zu,zv]);first|done|rfl|(simp only [zw,zx];rfl)|(simp only [yr,ys,zV,zW];rfl)) ?_
         with_reducible refine (spec_l01Name.calls k2  ((rd_T92 t248 x10_2).f0) true _ A68.out).mono ?_
         rintro e w' ⟨rfl,⟨nd,rfl⟩⟩;refine ⟨_,rfl,?_⟩;refine hK.out _ _ ⟨hHeld.1,hHeld.2.1,hHeld.2.2.1,hHeld.2.2.2.1,hHeld.2.2.2.2.1,hHeld.2.2.2.2.2.1,hHeld.2.2.2.2.2.2.1,hHeld.2.2.2.2.2.2.2⟩ (fun hHeld => ?_);clear hK K;refine norm_ (a':=?_) ?_ ?_;rotate_left
         ·
          show Act.put _ (some 129) _=_
          simp only [Act.put,zi,zj,zk,zG,zH]
          rfl
         refine pure_ (i:=6) (N:=some 130) (v:=?_) (a':=?_) (bm_ 7 36) rfl rfl (any_of HT_.out (by kernel_rfl)) (fun _ _ _ h => h) (Or.inl ⟨by rfl,?_⟩) ?_ ?_;rotate_left
         ·
          intro w'
          go_simp
          with_reducible rfl
         rotate_left
         ·
          simp only [Act.put,zi,zj,zk,zG,zH]
          rfl
         refine pure_ (i:=7) (N:=some 131) (v:=?_) (a':=?_) (bm_ 8 36) rfl rfl (any_of HT_.out (by kernel_rfl)) (fun _ _ _ h => h) (Or.inl ⟨by rfl,?_⟩) ?_ ?_;rotate_left
         ·
          intro w'
          go_simp
          with_reducible rfl
         rotate_left
         ·
          simp only [Act.put,zi,zj,zk,zG,zH]
          rfl
         refine pure_ (i:=8) (N:=some 132) (v:=?_) (a':=?_) (bm_ 9 36) rfl rfl (any_of HT_.out (by kernel_rfl)) (fun _ _ _ h => h) (Or.inl ⟨by rfl,?_⟩) ?_ ?_;rotate_left
         ·
          intro w'
          go_simp
          with_reducible rfl
         rotate_left
         ·
          simp only [Act.put,zi,zj,zk,zG,zH]
          rfl
         refine pure_ (i:=9) (N:=some 133) (v:=?_) (a':=?_) (bm_ 10 36) rfl rfl (any_of HT_.out (by kernel_rfl)) (fun _ _ _ h => h) (Or.inl ⟨by rfl,?_⟩) ?_ ?_;rotate_left
         ·
          intro w'
          go_simp
          with_reducible rfl
         rotate_left
         ·
          simp only [Act.put,zi,zj,zk,zG,zH]
          rfl
         refine pure_ (i:=10) (N:=some 134) (v:=?_) (a':=?_) (bm_ 11 36) rfl rfl (any_of HT_.out (by kernel_rfl)) (fun _ _ _ h => h) (Or.inl ⟨by rfl,?_⟩) ?_ ?_;rotate_left
         ·
          intro w'
          go_simp
          with_reducible rfl
         rotate_left
         ·
          simp only [Act.put,zi,zj,zk,zG,zH]
          rfl
         refine pure_ (i:=11) (N:=some 135) (v:=undef) (a':=?_) (bm_ 12 36) rfl rfl (any_of HT_.out (by kernel_rfl)) (fun _ _ _ h => h) (Or.inr ⟨by rfl,rfl⟩) ?_ ?_;rotate_left
         ·
          simp only [Act.put,zi,zj,zk,zG,zH]
          rfl
         refine pure_ (i:=12) (N:=some 136) (v:=undef) (a':=?_) (bm_ 13 36) rfl rfl (any_of HT_.out (by kernel_rfl)) (fun _ _ _ h => h) (Or.inr ⟨by rfl,rfl⟩) ?_ ?_;rotate_left
         ·
          simp only [Act.put,zi,zj,zk,zG,zH]
          rfl
         refine pure_ (i:=13) (N:=some 137) (v:=undef) (a':=?_) (bm_ 14 36) rfl rfl (any_of HT_.out (by kernel_rfl)) (fun _ _ _ h => h) (Or.inr ⟨by rfl,rfl⟩) ?_ ?_;rotate_left
         ·
          simp only [Act.put,zi,zj,zk,zG,zH]
          rfl
         refine pure_ (i:=14) (N:=some 138) (v:=undef) (a':=?_) (bm_ 15 36) rfl rfl (any_of HT_.out (by kernel_rfl)) (fun _ _ _ h => h) (Or.inr ⟨by rfl,rfl⟩) ?_ ?_;rotate_left
         ·
          simp only [Act.put,zi,zj,zk,zG,zH]
          rfl
         refine pure_ (i:=15) (N:=some 139) (v:=undef) (a':=?_) (bm_ 16 36) rfl rfl (any_of HT_.out (by kernel_rfl)) (fun _ _ _ h => h) (Or.inr ⟨by rfl,rfl⟩) ?_ ?_;rotate_left
         ·
          simp only [Act.put,zi,zj,zk,zG,zH]
          rfl
         refine pure_ (i:=16) (N:=some 140) (v:=undef) (a':=?_) (bm_ 17 36) rfl rfl (any_of HT_.out (by kernel_rfl)) (fun _ _ _ h => h) (Or.inr ⟨by rfl,rfl⟩) ?_ ?_;rotate_left
         ·
          simp only [Act.put,zi,zj,zk,zG,zH]
          rfl
         refine pure_ (i:=17) (N:=some 141) (v:=undef) (a':=?_) (bm_ 18 36) rfl rfl (any_of HT_.out (by kernel_rfl)) (fun _ _ _ h => h) (Or.inr ⟨by rfl,rfl⟩) ?_ ?_;rotate_left
         ·
          simp only [Act.put,zi,zj,zk,zG,zH]
          rfl
         refine pure_ (i:=18) (N:=some 142) (v:=undef) (a':=?_) (bm_ 19 36) rfl rfl (any_of HT_.out (by kernel_rfl)) (fun _ _ _ h => h) (Or.inr ⟨by rfl,rfl⟩) ?_ ?_;rotate_left
         ·
          simp only [Act.put,zi,zj,zk,zG,zH]
          rfl
         refine pure_ (i:=19) (N:=some 143) (v:=undef) (a':=?_) (bm_ 20 36) rfl rfl (any_of HT_.out (by kernel_rfl)) (fun _ _ _ h => h) (Or.inr ⟨by rfl,rfl⟩) ?_ ?_;rotate_left
         ·
          simp only [Act.put,zi,zj,zk,zG,zH]
          rfl
         refine pure_ (i:=20) (N:=some 144) (v:=undef) (a':=?_) (bm_ 21 36) rfl rfl (any_of HT_.out (by kernel_rfl)) (fun _ _ _ h => h) (Or.inr ⟨by rfl,rfl⟩) ?_ ?_;rotate_left
         ·
          simp only [Act.put,zi,zj,zk,zG,zH]
          rfl
         refine pure_ (i:=21) (N:=some 145) (v:=undef) (a':=?_) (bm_ 22 36) rfl rfl (any_of HT_.out (by kernel_rfl)) (fun _ _ _ h => h) (Or.inr ⟨by rfl,rfl⟩) ?_ ?_;rotate_left
         ·
          simp only [Act.put,zi,zj,zk,zG,zH]
          rfl
         refine pure_ (i:=22) (N:=some 146) (v:=undef) (a':=?_) (bm_ 23 36) rfl rfl (any_of HT_.out (by kernel_rfl)) (fun _ _ _ h => h) (Or.inr ⟨by rfl,rfl⟩) ?_ ?_;rotate_left
         ·
          simp only [Act.put,zi,zj,zk,zG,zH]
          rfl
         refine pure_ (i:=23) (N:=some 147) (v:=?_) (a':=?_) (bm_ 24 36) rfl rfl (any_of HT_.out (by kernel_rfl)) (fun _ _ _ h => h) (Or.inl ⟨by rfl,?_⟩) ?_ ?_;rotate_left
         ·
          intro w'
          go_simp
          with_reducible rfl
         rotate_left
         ·
          simp only [Act.put,zi,zj,zk,zG,zH]
          rfl
         refine pure_ (i:=24) (N:=some 148) (v:=?_) (a':=?_) (bm_ 25 36) rfl rfl (any_of HT_.out (by kernel_rfl)) (fun _ _ _ h => h) (Or.inl ⟨by rfl,?_⟩) ?_ ?_;rotate_left
         ·
          intro w'
          go_simp
          with_reducible rfl
         rotate_left
         ·
          simp only [Act.put,zi,zj,zk,zG,zH]
          rfl
         refine pure_ (i:=25) (N:=some 149) (v:=?_) (a':=?_) (bm_ 26 36) rfl rfl (any_of HT_.out (by kernel_rfl)) (fun _ _ _ h => h) (Or.inl ⟨by rfl,?_⟩) ?_ ?_;rotate_left
         ·
          intro w'
          go_simp
          with_reducible rfl
         rotate_left
         ·
          simp only [Act.put,zi,zj,zk,zG,zH]
          rfl
         refine pure_ (i:=26) (N:=some 150) (v:=?_) (a':=?_) (bm_ 27 36) rfl rfl (any_of HT_.out (by kernel_rfl)) (fun _ _ _ h => h) (Or.inl ⟨by rfl,?_⟩) ?_ ?_;rotate_left
         ·
          intro w'
          go_simp
          with_reducible rfl
         rotate_left
         ·
          simp only [Act.put,zi,zj,zk,zG,zH]
          rfl
         refine pure_ (i:=27) (N:=some 151) (v:=?_) (a':=?_) (bm_ 28 36) rfl rfl (any_of HT_.out (by kernel_rfl)) (fun _ _ _ h => h) (Or.inl ⟨by rfl,?_⟩) ?_ ?_;rotate_left
         ·
          intro w'
          go_simp
          with_reducible rfl
         rotate_left
         ·
          simp only [Act.put,zi,zj,zk,zG,zH]
          rfl
         refine pure_ (i:=28) (N:=some 152) (v:=?_) (a':=?_) (bm_ 29 36) rfl rfl (any_of HT_.out (by kernel_rfl)) (fun _ _ _ h => h) (Or.inl ⟨by rfl,?_⟩) ?_ ?_;rotate_left
         ·
          intro w'
          go_simp
          with_reducible rfl
         rotate_left
         ·
          simp only [Act.put,zi,zj,zk,zG,zH]
          rfl
         refine pure_ (i:=29) (N:=some 153) (v:=?_) (a':=?_) (bm_ 30 36) rfl rfl (any_of HT_.out (by kernel_rfl)) (fun _ _ _ h => h) (Or.inl ⟨by rfl,?_⟩) ?_ ?_;rotate_left
         ·
          intro w'
          go_simp
          with_reducible rfl
         rotate_left
         ·
          simp only [Act.put,zi,zj,zk,zG,zH]
          rfl
         refine pure_ (i:=31) (N:=some 155) (v:=?_) (a':=?_) #[true,true,true,true,true,true,true,true,true,true,true,true,true,true,true,true,true,true,true,true,true,true,true,true,true,true,true,true,true,true,false,true,false,false,false,false] rfl rfl (any_of HT_.out (by kernel_rfl)) (fun _ _ _ h => h) (Or.inl ⟨by rfl,?_⟩) ?_ ?_;rotate_left
         ·
          intro w'
          go_simp
          with_reducible rfl
         rotate_left
         ·
          simp only [Act.put,zi,zj,zk,zG,zH]
          rfl
         refine pure_ (i:=32) (N:=some 156) (v:=?_) (a':=?_) #[true,true,true,true,true,true,true,true,true,true,true,true,true,true,true,true,true,true,true,true,true,true,true,true,true,true,true,true,true,true,false,true,true,false,false,false] rfl rfl (any_of HT_.out (by kernel_rfl)) (fun _ _ _ h => h) (Or.inl ⟨by rfl,?_⟩) ?_ ?_;rotate_left
         ·
          intro w'
          go_simp
          with_reducible rfl
         rotate_left
         ·
          simp only [Act.put,zi,zj,zk,zG,zH]
          rfl
         refine take_ (i:=30) (N:=some 154) (v:=?_) (a':=?_) (bm_ 33 36) rfl rfl (yo HT_.out HW_.out (by kernel_rfl)) (fun _ _ _ h => h) (Or.inl ⟨by rfl,?_⟩) hHeld ?_ ?_;rotate_left
         ·
          rintro w' ⟨s0,s1,s2,s3,s4,s5,s6,s7⟩
          go_simp
          with_reducible rfl
         rotate_left
         ·
          simp only [Act.put,zi,zj,zk,zG,zH]
          rfl
         refine one_ (i:=33) (N:=some 157) (bm_ 34 36) rfl rfl (one_of HT_.out (by kernel_rfl)) (by decide) (fun K hK => ?_);refine goes_ Tryd.func54 (by kernel_rfl) rfl #[.agg #[.int .i64 ((rd_T92 t248 x10_2).f1.f0),.int .i64 ((rd_T92 t248 x10_2).f1.f1),.string ((rd_T92 t248 x10_2).f1.f2)],.int .i64 (wrap64 (a1 - 1))] (by rfl) rfl rfl (by (try simp only [zt,zu,zv]);first|done|rfl|(simp only [zw,zx];rfl)|(simp only [yr,ys,zV,zW];rfl)) ?_
         with_reducible refine (ih k2 (by have:=HJ53.out;have:=HK2.out;omega)  ((rd_T92 t248 x10_2).f1.f0) ((rd_T92 t248 x10_2).f1.f1) ((rd_T92 t248 x10_2).f1.f2) (wrap64 (a1 - 1)) false _ A85.out).mono ?_
         rintro e w92 ⟨rfl,hb⟩;have HS0_:=(hb.cell (zl _ _ (hHeld.1))).trans (hHeld.1);have HS1_:=(hb.cell (zl _ _ (hHeld.2.1))).trans (hHeld.2.1);have HS2_:=(hb.cell (zl _ _ (hHeld.2.2.1))).trans (hHeld.2.2.1);have HS3_:=(hb.cell (zl _ _ (hHeld.2.2.2.1))).trans (hHeld.2.2.2.1);have HS4_:=(hb.cell (zl _ _ (hHeld.2.2.2.2.1))).trans (hHeld.2.2.2.2.1);have HS5_:=(hb.cell (zl _ _ (hHeld.2.2.2.2.2.1))).trans (hHeld.2.2.2.2.2.1);have HS6_:=(hb.cell (zl _ _ (hHeld.2.2.2.2.2.2.1))).trans (hHeld.2.2.2.2.2.2.1);have HS7_:=(hb.cell (zl _ _ (hHeld.2.2.2.2.2.2.2))).trans (hHeld.2.2.2.2.2.2.2);refine ⟨_,rfl,?_⟩;replace HO_8:=zh (yg (by (with_reducible repeat (first|apply zm|apply zn|apply zo));exact HO_8.out) hb);replace BK239:=zh (zD (g:=gb239) (o:=.cells #[.int .i64 a0_0,.int .i64 a0_1,.string a0_2] 39 (0,0)) (by (with_reducible repeat (first|refine ze ?_ _|refine zf ?_|refine zg ?_ _));exact BK239.out) hb);replace HB:=zh (zC (by repeat (with_reducible first|exact HB.out|apply za|apply zb|apply zc|refine zd ?_ GE239.out)) hb);(try clear hb);(try clear hb2);(try clear hk);(try clear hi);refine hK.out _ _ ⟨HS0_,HS1_,HS2_,HS3_,HS4_,HS5_,HS6_,HS7_⟩ (fun hHeld => ?_);clear hK K;refine norm_ (a':=?_) ?_ ?_;rotate_left
         ·
          show Act.put _ (some 157) _=_
          simp only [Act.put,zi,zj,zk,zG,zH]
          rfl
         refine pure_ (i:=34) (N:=some 158) (v:=?_) (a':=?_) (bm_ 35 36) rfl rfl (any_of HT_.out (by kernel_rfl)) (fun _ _ _ h => h) (Or.inl ⟨by rfl,?_⟩) ?_ ?_;rotate_left
         ·
          intro w'
          go_simp
          with_reducible rfl
         rotate_left
         ·
          simp only [Act.put,zi,zj,zk,zG,zH]
          rfl
         refine pure_ (i:=35) (N:=some 159) (v:=?_) (a':=?_) (bm_ 36 36) rfl rfl (any_of HT_.out (by kernel_rfl)) (fun _ _ _ h => h) (Or.inl ⟨by rfl,?_⟩) ?_ ?_;rotate_left
         ·
          intro w'
          go_simp
          with_reducible rfl
         rotate_left
         ·
          simp only [Act.put,zi,zj,zk,zG,zH]
          rfl
         refine done_ (done_of HT_.out (by kernel_rfl)) ?_
         try go_wp2
         go_ret
         exact ⟨by first|rfl|(simp [yt,yu] <;> rfl)|(simp [*,yt,yu] <;> rfl),by repeat (with_reducible first|exact HB.out|apply za|apply zb|apply zc|refine zd ?_ GE239.out)⟩
        replace c69:=yb.mpr c69;subst c69;have H1 : (some false)=some r:=by rw [if_neg (show ¬ (false=true) by decide)] at H;exact H
        clear H;have H:=H1;clear H1;obtain rfl:=zU H;obtain ⟨Ao93,co93,eo93⟩:=yk HO_8.out;subst eo93
        try go_wp2
        replace HO_8:=zh (zo HO_8.out);replace BK239:=zh (zf BK239.out);replace HB:=zh (zc HB.out);have p252 : 0≤(x10_2 : Int):=zy (by first|(with_reducible assumption)|assumption);have q252 : x10_2<(t248.length : Int):=zy (by first|(with_reducible assumption)|assumption);obtain ⟨ad252,e252,hx252_0,hx252_1,hx252_2,hx252_3⟩:=at_T92 (yh HO_8.out).2.2 x10_2 p252 q252
        cases e252
        replace p252:=eq_true p252;replace q252:=eq_true q252;refine start_ (n:=36) (S:=fun w' => w'.cell? (ad252.add ((x10_2).toNat * 4))=some (.string ((rd_T92 t248 x10_2).f0))∧w'.cell? ⟨(ad252.add ((x10_2).toNat * 4)).block,(ad252.add ((x10_2).toNat * 4)).off + 1,none⟩=some (.int .i64 ((rd_T92 t248 x10_2).f1.f0))∧w'.cell? ⟨(ad252.add ((x10_2).toNat * 4)).block,(ad252.add ((x10_2).toNat * 4)).off + 2,none⟩=some (.int .i64 ((rd_T92 t248 x10_2).f1.f1))∧w'.cell? ⟨(ad252.add ((x10_2).toNat * 4)).block,(ad252.add ((x10_2).toNat * 4)).off + 3,none⟩=some (.string ((rd_T92 t248 x10_2).f1.f2))) (ds:=[]) (bm_ 0 36) (by kernel_rfl) rfl rfl ⟨hx252_0,hx252_1,hx252_2,hx252_3⟩ (fun hHeld => ?_);refine with_tabW spec_l01OK.tab27 spec_l01OK.bits27 (fun HT_ HW_ => ?_);generalize wr.drew=w94 at HO_8 BK239 HB hx252_0 hx252_1 hx252_2 hx252_3 hHeld ⊢;refine pure_ (i:=0) (N:=some 124) (v:=?_) (a':=?_) (bm_ 1 36) rfl rfl (any_of HT_.out (by kernel_rfl)) (fun _ _ _ h => h) (Or.inl ⟨by rfl,?_⟩) ?_ ?_;rotate_left
        ·
         intro w'
         go_simp
         with_reducible rfl
        rotate_left
        ·
         simp only [Act.put,zi,zj,zk,zG,zH]
         rfl
        refine pure_ (i:=1) (N:=some 125) (v:=?_) (a':=?_) (bm_ 2 36) rfl rfl (any_of HT_.out (by kernel_rfl)) (fun _ _ _ h => h) (Or.inl ⟨by rfl,?_⟩) ?_ ?_;rotate_left
        ·
         intro w'
         go_simp
         with_reducible rfl
        rotate_left
        ·
         simp only [Act.put,zi,zj,zk,zG,zH]
         rfl
        refine pure_ (i:=2) (N:=some 126) (v:=?_) (a':=?_) (bm_ 3 36) rfl rfl (any_of HT_.out (by kernel_rfl)) (fun _ _ _ h => h) (Or.inl ⟨by rfl,?_⟩) ?_ ?_;rotate_left
        ·
         intro w'
         go_simp
         with_reducible rfl
        rotate_left
        ·
         simp only [Act.put,zi,zj,zk,zG,zH]
         rfl
        refine pure_ (i:=3) (N:=some 127) (v:=?_) (a':=?_) (bm_ 4 36) rfl rfl (any_of HT_.out (by kernel_rfl)) (fun _ _ _ h => h) (Or.inl ⟨by rfl,?_⟩) ?_ ?_;rotate_left
        ·
         intro w'
         go_simp
         with_reducible rfl
        rotate_left
        ·
         simp only [Act.put,zi,zj,zk,zG,zH]
         rfl
        refine take_ (i:=4) (N:=some 128) (v:=?_) (a':=?_) (bm_ 5 36) rfl rfl (yo HT_.out HW_.out (by kernel_rfl)) (fun _ _ _ h => h) (Or.inl ⟨by rfl,?_⟩) hHeld ?_ ?_;rotate_left
        ·
         rintro w' ⟨s0,s1,s2,s3⟩
         go_simp
         with_reducible rfl
        rotate_left
        ·
         simp only [Act.put,zi,zj,zk,zG,zH]
         rfl
        refine one_ (i:=5) (N:=some 129) (bm_ 6 36) rfl rfl (one_of HT_.out (by kernel_rfl)) (by decide) (fun K hK => ?_);refine goes_ Tryd.func28 (by kernel_rfl) rfl #[.string ((rd_T92 t248 x10_2).f0)] (by rfl) rfl rfl (by (try simp only [zt,zu,zv]);first|done|rfl|(simp only [zw,zx];rfl)|(simp only [yr,ys,zV,zW];rfl)) ?_
        with_reducible refine (spec_l01Name.calls k2  ((rd_T92 t248 x10_2).f0) false _ A68.out).mono ?_
        rintro e w' ⟨rfl,⟨nd,rfl⟩⟩;refine ⟨_,rfl,?_⟩;refine hK.out _ _ ⟨hHeld.1,hHeld.2.1,hHeld.2.2.1,hHeld.2.2.2⟩ (fun hHeld => ?_);clear hK K;refine norm_ (a':=?_) ?_ ?_;rotate_left
        ·
         show Act.put _ (some 129) _=_
         simp only [Act.put,zi,zj,zk,zG,zH]
         rfl
        refine pure_ (i:=6) (N:=some 130) (v:=?_) (a':=?_) (bm_ 7 36) rfl rfl (any_of HT_.out (by kernel_rfl)) (fun _ _ _ h => h) (Or.inl ⟨by rfl,?_⟩) ?_ ?_;rotate_left
        ·
         intro w'
         go_simp
         with_reducible rfl
        rotate_left
        ·
         simp only [Act.put,zi,zj,zk,zG,zH]
         rfl
        refine pure_ (i:=7) (N:=some 131) (v:=?_) (a':=?_) (bm_ 8 36) rfl rfl (any_of HT_.out (by kernel_rfl)) (fun _ _ _ h => h) (Or.inl ⟨by rfl,?_⟩) ?_ ?_;rotate_left
        ·
         intro w'
         go_simp
         with_reducible rfl
        rotate_left
        ·
         simp only [Act.put,zi,zj,zk,zG,zH]
         rfl
        refine pure_ (i:=8) (N:=some 132) (v:=undef) (a':=?_) (bm_ 9 36) rfl rfl (any_of HT_.out (by kernel_rfl)) (fun _ _ _ h => h) (Or.inr ⟨by rfl,rfl⟩) ?_ ?_;rotate_left
        ·
         simp only [Act.put,zi,zj,zk,zG,zH]
         rfl
        refine pure_ (i:=9) (N:=some 133) (v:=undef) (a':=?_) (bm_ 10 36) rfl rfl (any_of HT_.out (by kernel_rfl)) (fun _ _ _ h => h) (Or.inr ⟨by rfl,rfl⟩) ?_ ?_;rotate_left
        ·
         simp only [Act.put,zi,zj,zk,zG,zH]
         rfl
        refine pure_ (i:=10) (N:=some 134) (v:=undef) (a':=?_) (bm_ 11 36) rfl rfl (any_of HT_.out (by kernel_rfl)) (fun _ _ _ h => h) (Or.inr ⟨by rfl,rfl⟩) ?_ ?_;rotate_left
        ·
         simp only [Act.put,zi,zj,zk,zG,zH]
         rfl
        refine pure_ (i:=11) (N:=some 135) (v:=undef) (a':=?_) (bm_ 12 36) rfl rfl (any_of HT_.out (by kernel_rfl)) (fun _ _ _ h => h) (Or.inr ⟨by rfl,rfl⟩) ?_ ?_;rotate_left
        ·
         simp only [Act.put,zi,zj,zk,zG,zH]
         rfl
        refine pure_ (i:=12) (N:=some 136) (v:=undef) (a':=?_) (bm_ 13 36) rfl rfl (any_of HT_.out (by kernel_rfl)) (fun _ _ _ h => h) (Or.inr ⟨by rfl,rfl⟩) ?_ ?_;rotate_left
        ·
         simp only [Act.put,zi,zj,zk,zG,zH]
         rfl
        refine pure_ (i:=13) (N:=some 137) (v:=undef) (a':=?_) (bm_ 14 36) rfl rfl (any_of HT_.out (by kernel_rfl)) (fun _ _ _ h => h) (Or.inr ⟨by rfl,rfl⟩) ?_ ?_;rotate_left
        ·
         simp only [Act.put,zi,zj,zk,zG,zH]
         rfl
        refine pure_ (i:=14) (N:=some 138) (v:=undef) (a':=?_) (bm_ 15 36) rfl rfl (any_of HT_.out (by kernel_rfl)) (fun _ _ _ h => h) (Or.inr ⟨by rfl,rfl⟩) ?_ ?_;rotate_left
        ·
         simp only [Act.put,zi,zj,zk,zG,zH]
         rfl
        refine pure_ (i:=15) (N:=some 139) (v:=undef) (a':=?_) (bm_ 16 36) rfl rfl (any_of HT_.out (by kernel_rfl)) (fun _ _ _ h => h) (Or.inr ⟨by rfl,rfl⟩) ?_ ?_;rotate_left
        ·
         simp only [Act.put,zi,zj,zk,zG,zH]
         rfl
        refine pure_ (i:=16) (N:=some 140) (v:=undef) (a':=?_) (bm_ 17 36) rfl rfl (any_of HT_.out (by kernel_rfl)) (fun _ _ _ h => h) (Or.inr ⟨by rfl,rfl⟩) ?_ ?_;rotate_left
        ·
         simp only [Act.put,zi,zj,zk,zG,zH]
         rfl
        refine pure_ (i:=17) (N:=some 141) (v:=undef) (a':=?_) (bm_ 18 36) rfl rfl (any_of HT_.out (by kernel_rfl)) (fun _ _ _ h => h) (Or.inr ⟨by rfl,rfl⟩) ?_ ?_;rotate_left
        ·
         simp only [Act.put,zi,zj,zk,zG,zH]
         rfl
        refine pure_ (i:=18) (N:=some 142) (v:=undef) (a':=?_) (bm_ 19 36) rfl rfl (any_of HT_.out (by kernel_rfl)) (fun _ _ _ h => h) (Or.inr ⟨by rfl,rfl⟩) ?_ ?_;rotate_left
        ·
         simp only [Act.put,zi,zj,zk,zG,zH]
         rfl
        refine pure_ (i:=19) (N:=some 143) (v:=undef) (a':=?_) (bm_ 20 36) rfl rfl (any_of HT_.out (by kernel_rfl)) (fun _ _ _ h => h) (Or.inr ⟨by rfl,rfl⟩) ?_ ?_;rotate_left
        ·
         simp only [Act.put,zi,zj,zk,zG,zH]
         rfl
        refine pure_ (i:=20) (N:=some 144) (v:=undef) (a':=?_) (bm_ 21 36) rfl rfl (any_of HT_.out (by kernel_rfl)) (fun _ _ _ h => h) (Or.inr ⟨by rfl,rfl⟩) ?_ ?_;rotate_left
        ·
         simp only [Act.put,zi,zj,zk,zG,zH]
         rfl
        refine pure_ (i:=21) (N:=some 145) (v:=undef) (a':=?_) (bm_ 22 36) rfl rfl (any_of HT_.out (by kernel_rfl)) (fun _ _ _ h => h) (Or.inr ⟨by rfl,rfl⟩) ?_ ?_;rotate_left
        ·
         simp only [Act.put,zi,zj,zk,zG,zH]
         rfl
        refine pure_ (i:=22) (N:=some 146) (v:=undef) (a':=?_) (bm_ 23 36) rfl rfl (any_of HT_.out (by kernel_rfl)) (fun _ _ _ h => h) (Or.inr ⟨by rfl,rfl⟩) ?_ ?_;rotate_left
        ·
         simp only [Act.put,zi,zj,zk,zG,zH]
         rfl
        refine pure_ (i:=23) (N:=some 147) (v:=undef) (a':=?_) (bm_ 24 36) rfl rfl (any_of HT_.out (by kernel_rfl)) (fun _ _ _ h => h) (Or.inr ⟨by rfl,rfl⟩) ?_ ?_;rotate_left
        ·
         simp only [Act.put,zi,zj,zk,zG,zH]
         rfl
        refine pure_ (i:=24) (N:=some 148) (v:=?_) (a':=?_) (bm_ 25 36) rfl rfl (any_of HT_.out (by kernel_rfl)) (fun _ _ _ h => h) (Or.inl ⟨by rfl,?_⟩) ?_ ?_;rotate_left
        ·
         intro w'
         go_simp
         with_reducible rfl
        rotate_left
        ·
         simp only [Act.put,zi,zj,zk,zG,zH]
         rfl
        refine pure_ (i:=25) (N:=some 149) (v:=?_) (a':=?_) (bm_ 26 36) rfl rfl (any_of HT_.out (by kernel_rfl)) (fun _ _ _ h => h) (Or.inl ⟨by rfl,?_⟩) ?_ ?_;rotate_left
        ·
         intro w'
         go_simp
         with_reducible rfl
        rotate_left
        ·
         simp only [Act.put,zi,zj,zk,zG,zH]
         rfl
        refine pure_ (i:=26) (N:=some 150) (v:=undef) (a':=?_) (bm_ 27 36) rfl rfl (any_of HT_.out (by kernel_rfl)) (fun _ _ _ h => h) (Or.inr ⟨by rfl,rfl⟩) ?_ ?_;rotate_left
        ·
         simp only [Act.put,zi,zj,zk,zG,zH]
         rfl
        refine pure_ (i:=27) (N:=some 151) (v:=undef) (a':=?_) (bm_ 28 36) rfl rfl (any_of HT_.out (by kernel_rfl)) (fun _ _ _ h => h) (Or.inr ⟨by rfl,rfl⟩) ?_ ?_;rotate_left
        ·
         simp only [Act.put,zi,zj,zk,zG,zH]
         rfl
        refine pure_ (i:=28) (N:=some 152) (v:=undef) (a':=?_) (bm_ 29 36) rfl rfl (any_of HT_.out (by kernel_rfl)) (fun _ _ _ h => h) (Or.inr ⟨by rfl,rfl⟩) ?_ ?_;rotate_left
        ·
         simp only [Act.put,zi,zj,zk,zG,zH]
         rfl
        refine pure_ (i:=29) (N:=some 153) (v:=undef) (a':=?_) (bm_ 30 36) rfl rfl (any_of HT_.out (by kernel_rfl)) (fun _ _ _ h => h) (Or.inr ⟨by rfl,rfl⟩) ?_ ?_;rotate_left
        ·
         simp only [Act.put,zi,zj,zk,zG,zH]
         rfl
        refine pure_ (i:=30) (N:=some 154) (v:=undef) (a':=?_) (bm_ 31 36) rfl rfl (any_of HT_.out (by kernel_rfl)) (fun _ _ _ h => h) (Or.inr ⟨by rfl,rfl⟩) ?_ ?_;rotate_left
        ·
         simp only [Act.put,zi,zj,zk,zG,zH]
         rfl
        refine pure_ (i:=31) (N:=some 155) (v:=undef) (a':=?_) (bm_ 32 36) rfl rfl (any_of HT_.out (by kernel_rfl)) (fun _ _ _ h => h) (Or.inr ⟨by rfl,rfl⟩) ?_ ?_;rotate_left
        ·
         simp only [Act.put,zi,zj,zk,zG,zH]
         rfl
        refine pure_ (i:=32) (N:=some 156) (v:=undef) (a':=?_) (bm_ 33 36) rfl rfl (any_of HT_.out (by kernel_rfl)) (fun _ _ _ h => h) (Or.inr ⟨by rfl,rfl⟩) ?_ ?_;rotate_left
        ·
         simp only [Act.put,zi,zj,zk,zG,zH]
         rfl
        refine pure_ (i:=33) (N:=some 157) (v:=undef) (a':=?_) (bm_ 34 36) rfl rfl (any_of HT_.out (by kernel_rfl)) (fun _ _ _ h => h) (Or.inr ⟨by rfl,rfl⟩) ?_ ?_;rotate_left
        ·
         simp only [Act.put,zi,zj,zk,zG,zH]
         rfl
        refine pure_ (i:=34) (N:=some 158) (v:=undef) (a':=?_) (bm_ 35 36) rfl rfl (any_of HT_.out (by kernel_rfl)) (fun _ _ _ h => h) (Or.inr ⟨by rfl,rfl⟩) ?_ ?_;rotate_left
        ·
         simp only [Act.put,zi,zj,zk,zG,zH]
         rfl
        refine pure_ (i:=35) (N:=some 159) (v:=?_) (a':=?_) (bm_ 36 36) rfl rfl (any_of HT_.out (by kernel_rfl)) (fun _ _ _ h => h) (Or.inl ⟨by rfl,?_⟩) ?_ ?_;rotate_left
        ·
         intro w'
         go_simp
         with_reducible rfl
        rotate_left
        ·
         simp only [Act.put,zi,zj,zk,zG,zH]
         rfl
        refine done_ (done_of HT_.out (by kernel_rfl)) ?_
        try go_wp2
        go_ret
        exact ⟨by first|rfl|(simp [yt,yu] <;> rfl)|(simp [*,yt,yu] <;> rfl),by repeat (with_reducible first|exact HB.out|apply za|apply zb|apply zc|refine zd ?_ GE239.out)⟩
       rw [if_neg c67] at H;exact absurd H (by simp)
      rw [if_neg c66] at H;have c66b0 : decide (x10_2<(t248.length : Int))=false:=decide_eq_false c66;clear c66;obtain rfl:=zU H;obtain ⟨Ao95,co95,eo95⟩:=yk HO_8.out;subst eo95
      go_wp2
      go_ret
      exact ⟨by first|rfl|(simp [yt,yu] <;> rfl)|(simp [*,yt,yu] <;> rfl),by repeat (with_reducible first|exact HB.out|apply za|apply zb|apply zc|refine zd ?_ GE239.out)⟩
 rw [if_neg c52] at H;have c52b0 : (a0_0 == 5)=false:=zY.mpr c52;have c52b1 : (a0_0 != 5)=true:=zZ.mpr c52;obtain rfl:=zU H
 go_enter Tryd.func54,Tryd.ntmps54
 go_wp2_with (first|((with_reducible refine zK (N:=2) rfl ?_);(try (refine yz (by rfl) ?_;dsimp only));refine zI ?hg (N:=2) ?hd (cs:=#[.int .i64 a0_0,.int .i64 a0_1,.string a0_2]) (t:=39) ?hr ?_;(case hd => rfl);(case hg => rfl);(case hr => first|(go_simp;done)|(go_simp;rfl));intro gb239 hg w96 hbox hb;have BK239:=zh (hbox);have GW239:=zh ((by rw [hg];exact (zB (by repeat (with_reducible first|exact HB.out|apply za|apply zb|apply zc))) : w.heap.size≤gb239));have GE239:=zh ((by rw [hg];exact (zB (by repeat (with_reducible first|exact HB.out|apply za|apply zb|apply zc))) : w.heap.size≤gb239));replace HB:=zh (zC (by repeat (with_reducible first|exact HB.out|apply za|apply zb|apply zc)) hb);clear hb hbox hg;have hcz97_0 : w96.cell? ⟨gb239,0,none⟩=some (.int .i64 a0_0):=(zz BK239.out 0).trans rfl;have hcz97_1 : w96.cell? ⟨gb239,1,none⟩=some (.int .i64 a0_1):=(zz BK239.out 1).trans rfl;have hcz97_2 : w96.cell? ⟨gb239,2,none⟩=some (.string a0_2):=(zz BK239.out 2).trans rfl;have hfz97_0:=zA BK239.out 0;have hfz97_1:=zA BK239.out 1;have hfz97_2:=zA BK239.out 2))
 go_ret
 exact ⟨by first|rfl|(simp [yt,yu] <;> rfl)|(simp [*,yt,yu] <;> rfl),by repeat (with_reducible first|exact HB.out|apply za|apply zb|apply zc|refine zd ?_ GE239.out)⟩

end Go.Proofs.YthjgfjlogilleaaDoor.Q
end
section
namespace Go.Proofs.YthjgfjlogilleaaDoor.Q
open Go.RowKit Go.Proofs.YthjgfjlogilleaaDoorW.PrintWords Go.Proofs.YthjgfjlogilleaaDoorW.PrintLast Go.Proofs.YthjgfjlogilleaaDoorW.PrintMore
attribute [local go_sem] max2_int min2_int max_two min_two max_three min_three max_four min_four max2_str min2_str str_geq str_gtr str_leq
set_option linter.unusedVariables false
set_option linter.unusedSimpArgs false

def spec_ValueOK.f (k : Nat) (a0_0 : Int) (a0_1 : Int) (a0_2 : ByteArray) : Option (Bool):=if (a0_2.size : Int)≤65536 then ((spec_l01OK.f k a0_0 a0_1 a0_2 5).bind fun t261 => (some t261)) else (some false)
theorem spec_ValueOK.mono : ∀ a0 a1 a2 k,LeO (spec_ValueOK.f k a0 a1 a2) (spec_ValueOK.f (k + 1) a0 a1 a2):=by
 intro a0 a1 a2 k;unfold spec_ValueOK.f
 repeat' first|(with_reducible first|exact spec_l01OK.mono _ _ _ _ _|exact zQ _|exact zN _|refine zP ?_ ?_|refine zO ?_ (fun _ => ?_))|refine zP ?_ ?_|refine zO ?_ (fun _ => ?_)
set_option maxHeartbeats 8000000 in
set_option maxRecDepth 100000 in
theorem spec_ValueOK.calls (k : Nat) (a0_0 : Int) (a0_1 : Int) (a0_2 : ByteArray) (r : Bool) (w : World) (h : spec_ValueOK.f k a0_0 a0_1 a0_2=some r) :
  Calls Tryd.prog 38 #[.agg #[.int .i64 a0_0,.int .i64 a0_1,.string a0_2]] w fun e w' => e = .returned (.bool r)∧Below w.heap.size w w':=by
 have hu39:=Tryd.underlying39;have HB:=zh (Below.refl w.heap.size w);have H : (if (a0_2.size : Int)≤65536 then ((spec_l01OK.f k a0_0 a0_1 a0_2 5).bind fun t261 => (some t261)) else (some false))=some r:=h;clear h
 by_cases c2 : (a0_2.size : Int)≤65536
 ·
  rw [if_pos c2] at H
  have c2b0 : decide ((a0_2.size : Int)≤65536)=true:=decide_eq_true c2;have c2b1 : decide (a0_2.size≤65536)=true:=decide_eq_true (by omega);clear c2;replace H:=zT.mp H;obtain ⟨t261,A30,H⟩:=H;replace H : (some t261)=some r:=H;have A3:=zh A30;clear A30;obtain rfl:=zU H
  go_enter Tryd.func38,Tryd.ntmps38
  go_wp2_with (first|((with_reducible refine zK (N:=1) rfl ?_);refine zI ?hg (N:=1) ?hd (cs:=#[.int .i64 a0_0,.int .i64 a0_1,.string a0_2]) (t:=39) ?hr ?_;(case hd => rfl);(case hg => rfl);(case hr => first|(go_simp;done)|(go_simp;rfl));intro gb260 hg w4 hbox hb;have BK260:=zh (hbox);have GW260:=zh ((by rw [hg];exact (zB (by repeat (with_reducible first|exact HB.out|apply za|apply zb|apply zc))) : w.heap.size≤gb260));have GE260:=zh ((by rw [hg];exact (zB (by repeat (with_reducible first|exact HB.out|apply za|apply zb|apply zc))) : w.heap.size≤gb260));replace HB:=zh (zC (by repeat (with_reducible first|exact HB.out|apply za|apply zb|apply zc)) hb);clear hb hbox hg;have hcz5_0 : w4.cell? ⟨gb260,0,none⟩=some (.int .i64 a0_0):=(zz BK260.out 0).trans rfl;have hcz5_1 : w4.cell? ⟨gb260,1,none⟩=some (.int .i64 a0_1):=(zz BK260.out 1).trans rfl;have hcz5_2 : w4.cell? ⟨gb260,2,none⟩=some (.string a0_2):=(zz BK260.out 2).trans rfl;have hfz5_0:=zA BK260.out 0;have hfz5_1:=zA BK260.out 1;have hfz5_2:=zA BK260.out 2)|(go_at_call 54;(with_reducible refine (spec_l01OK.calls k  a0_0 a0_1 a0_2 5 t261 _ A3.out).mono ?_);rintro e w6 ⟨rfl,hb⟩;replace BK260:=zh (zD (g:=gb260) (o:=.cells #[.int .i64 a0_0,.int .i64 a0_1,.string a0_2] 39 (0,0)) (by (with_reducible repeat (first|refine ze ?_ _|refine zf ?_|refine zg ?_ _));exact BK260.out) hb);replace HB:=zh (zC (by repeat (with_reducible first|exact HB.out|apply za|apply zb|apply zc|refine zd ?_ GE260.out)) hb);(try clear hb);(try clear hb2);(try clear hk);(try clear hi)))
  go_ret
  exact ⟨by first|rfl|(simp [yt,yu] <;> rfl)|(simp [*,yt,yu] <;> rfl),by repeat (with_reducible first|exact HB.out|apply za|apply zb|apply zc|refine zd ?_ GE260.out)⟩
 rw [if_neg c2] at H;have c2b0 : decide ((a0_2.size : Int)≤65536)=false:=decide_eq_false c2;have c2b1 : decide (a0_2.size≤65536)=false:=decide_eq_false (by omega);clear c2;obtain rfl:=zU H
 go_enter Tryd.func38,Tryd.ntmps38
 go_wp2_with (first|((with_reducible refine zK (N:=1) rfl ?_);refine zI ?hg (N:=1) ?hd (cs:=#[.int .i64 a0_0,.int .i64 a0_1,.string a0_2]) (t:=39) ?hr ?_;(case hd => rfl);(case hg => rfl);(case hr => first|(go_simp;done)|(go_simp;rfl));intro gb260 hg w7 hbox hb;have BK260:=zh (hbox);have GW260:=zh ((by rw [hg];exact (zB (by repeat (with_reducible first|exact HB.out|apply za|apply zb|apply zc))) : w.heap.size≤gb260));have GE260:=zh ((by rw [hg];exact (zB (by repeat (with_reducible first|exact HB.out|apply za|apply zb|apply zc))) : w.heap.size≤gb260));replace HB:=zh (zC (by repeat (with_reducible first|exact HB.out|apply za|apply zb|apply zc)) hb);clear hb hbox hg;have hcz8_0 : w7.cell? ⟨gb260,0,none⟩=some (.int .i64 a0_0):=(zz BK260.out 0).trans rfl;have hcz8_1 : w7.cell? ⟨gb260,1,none⟩=some (.int .i64 a0_1):=(zz BK260.out 1).trans rfl;have hcz8_2 : w7.cell? ⟨gb260,2,none⟩=some (.string a0_2):=(zz BK260.out 2).trans rfl;have hfz8_0:=zA BK260.out 0;have hfz8_1:=zA BK260.out 1;have hfz8_2:=zA BK260.out 2))
 go_ret
 exact ⟨by first|rfl|(simp [yt,yu] <;> rfl)|(simp [*,yt,yu] <;> rfl),by repeat (with_reducible first|exact HB.out|apply za|apply zb|apply zc|refine zd ?_ GE260.out)⟩


def impl_isNumber.f (a0 : Int) : Option (Bool):=(impl_inRange.f a0 (-1000000000000) 1000000000000).bind fun t275 => (some t275)
set_option maxHeartbeats 8000000 in
set_option maxRecDepth 100000 in
theorem impl_isNumber.calls (a0 : Int) (r : Bool) (w : World) (h : impl_isNumber.f a0=some r) :
  Calls Tryd.prog 70 #[.int .i64 a0] w fun e w' => e = .returned (.bool r)∧Drawn0 w w':=by
 have H : ((impl_inRange.f a0 (-1000000000000) 1000000000000).bind fun t275 => (some t275))=some r:=h;clear h;replace H:=zT.mp H;obtain ⟨t275,A20,H⟩:=H;replace H : (some t275)=some r:=H;have A2:=zh A20;clear A20;obtain rfl:=zU H
 go_enter Tryd.func70,Tryd.ntmps70
 go_wp2_with (first|((with_reducible refine zJ (f:=33) rfl ?_);refine yj (some 4) rfl rfl Tryd.func33 (by kernel_rfl) rfl #[.int .i64 a0,.int .i64 (-1000000000000),.int .i64 1000000000000] rfl (by (try simp only [zt,zu,zv]);first|done|rfl|(simp only [zw,zx];rfl)|(simp only [yr,ys,zV,zW];rfl)) ?_;(with_reducible refine (impl_inRange.calls  a0 (-1000000000000) 1000000000000 t275 _ A2.out).mono ?_);rintro e w' ⟨rfl,⟨nd,rfl⟩⟩;refine ⟨_,rfl,?_⟩))
 go_ret
 exact ⟨by first|rfl|(simp;done)|(simp [*];done),by repeat (first|exact yp _|apply yq)⟩

end Go.Proofs.YthjgfjlogilleaaDoor.Q
end
