/- Texts of this claim, merged by a program of this session. -/
import Derived.Test.YtgifonogfgpjdaaKLawFnTreep11
import Derived.Laws.CopyRow
import Derived.Lib.AppendZerosOnto
import Derived.Lib.Overlaps
import Derived.Lib.JoinLaws
import Derived.Laws.Externs
import Derived.Laws.Tables
import Derived.Shelf.RegionOpenPlain
section
namespace Go.Proofs.YtgifonogfgpjdaaW.PrintMore
open Go Go.RowKit
def mxs (x y : ByteArray) : ByteArray:=if Op.bytesLess x.toList y.toList then y else x
def mns (x y : ByteArray) : ByteArray:=if (Op.bytesLess x.toList y.toList || x.toList == y.toList) then x else y
theorem max2_str (x y : ByteArray) : Builtin.max2 (.string x) (.string y)=pure (.string (mxs x y)):=by
 simp only [Builtin.max2,Op.stringOp,mxs]
 cases h : Op.bytesLess x.toList y.toList <;> simp [asBool]
theorem min2_str (x y : ByteArray) : Builtin.min2 (.string x) (.string y)=pure (.string (mns x y)):=by
 simp only [Builtin.min2,Op.stringOp,mns]
 cases h : (Op.bytesLess x.toList y.toList || x.toList == y.toList) <;> simp [asBool]
theorem bytesLess_total : ∀ x y : List UInt8,(!(Op.bytesLess x y || x == y))=Op.bytesLess y x
 | [],[]=>rfl
 | [],_ :: _=>rfl
 | _ :: _,[]=>rfl
 | a :: x,b :: y=>by
  have ih:=bytesLess_total x y;simp only [Op.bytesLess]
  by_cases h : a=b
  ·
   subst h
   have h1 : (a<a)=False:=eq_false (UInt8.lt_irrefl a);simp only [h1,decide_false,Bool.false_or,beq_self_eq_true,Bool.true_and];rw [← ih]
   by_cases h2 : x=y <;> simp [h2]
  have h1 : (a == b)=false:=by simpa using h
  have h2 : (b == a)=false:=by simpa using fun e=>h e.symm
  have h3 : (a :: x == b :: y)=false:=by simp [h]
  simp only [h1,h2,h3,Bool.false_and,Bool.or_false];have h4 : a.toNat≠b.toNat:=fun e=>h (UInt8.toNat_inj.mp e)
  by_cases h5 : a<b
  ·
   have : ¬ b<a:=by rw [UInt8.lt_iff_toNat_lt] at *;omega
   simp [h5,this]
  have : b<a:=by rw [UInt8.lt_iff_toNat_lt] at *;omega
  simp [h5,this]
theorem str_geq (t : TypeId) (a b : ByteArray) : binOp .geq t (.string a) (.string b)=pure (.bool !(Op.bytesLess a.toList b.toList)):=by simp [binOp,Op.stringOp]
theorem str_gtr (t : TypeId) (a b : ByteArray) : binOp .gtr t (.string a) (.string b)=pure (.bool (Op.bytesLess b.toList a.toList)):=by
 rw [← bytesLess_total];simp [binOp,Op.stringOp]
theorem str_leq (t : TypeId) (a b : ByteArray) : binOp .leq t (.string a) (.string b)=pure (.bool !(Op.bytesLess b.toList a.toList)):=by
 rw [← bytesLess_total];simp [binOp,Op.stringOp]
open Go.Proofs.YtgifonogfgpjdaaW.PrintWords Go.Proofs.YtgifonogfgpjdaaW.PrintLast
section
variable {P : Program} {ops : Array Oper} {o : Oper} {rest : List Oper} {a : Act} {Q : Exit→Act→World→Prop}
end
end Go.Proofs.YtgifonogfgpjdaaW.PrintMore
end
section
namespace Go.Proofs.Ytgifonogfgpjdaa.Row
open Go Go.RowKit Go.Proofs.YtgifonogfgpjdaaW.PrintWords Go.Proofs.YtgifonogfgpjdaaW.PrintLast Go.Proofs.YtgifonogfgpjdaaW.PrintMore
set_option linter.unusedVariables false
set_option linter.unusedSimpArgs false
theorem run_copy_rowk {P : Program} (w : World) (dT sT ty elem : TypeId) (sz : Nat) (g o dLen dCap : Nat) (a : Addr) (sLen sCap : Nat) (cur : Array Value) (t : TypeId) (cs : List Value)
  (hu : P.underlying dT=some (.slice elem)) (hs : (P.info? elem).map (·.size)=some sz)
  (hg : w.heap[g]? = some (.cells cur t (0,0))) (hn : cs.length=Nat.min sLen dLen*sz)
  (hsrc : ∀ j v,cs[j]? = some v→w.cell? (a.add j)=some v) (hfit : o+cs.length≤cur.size) (h1 : ∀ v ∈ cs,v.oneCell' = true) :
  (Builtin.copy_ #[dT,sT] ty #[.slice (some ⟨g,o,none⟩) dLen dCap,.slice (some a) sLen sCap]).run P w =
   .ok (goInt (Nat.min sLen dLen)) (w.setRow g (cur.toList.take o++cs++cur.toList.drop (o+cs.length)).toArray):=by
 have hl:=run_loadCells_list (P:=P) w a cs hsrc
 have hst:=run_storeCells_at (P:=P) g o t cs 0 cur w hg (by simpa using hfit) h1
 cases hq : P.info? elem with
 | none=>simp [hq] at hs
 | some i =>
  have hi : i.size=sz:=by simpa [hq] using hs
  simp [Builtin.copy_,run_underlying hu,Builtin.lenOf,Builtin.firstCells,sizeOf,typeInfo,hq,hi,← hn,hl,hst]
theorem reps_drop {α : Type} {R : α→List Value→Prop} {size m : Nat} {ps : List α} {cs : List Value} (h : Reps R size ps cs) : Reps R size (ps.drop m) (cs.drop (m*size)):=by
 refine ⟨?_,fun j p hj=>?_⟩
 ·
  rw [List.length_drop,List.length_drop,h.1,Nat.sub_mul]
 ·
  rw [List.getElem?_drop] at hj
  have h2:=h.2 (m+j) p hj
  rw [List.drop_drop]
  rwa [Nat.add_mul] at h2
theorem reps_one {α : Type} {R : α→List Value→Prop} {size : Nat} {p : α} {cs : List Value} (h : R p cs) (hl : cs.length=size) : Reps R size [p] cs:=by
 have:=(Reps.none R size).snoc h hl
 simpa using this
theorem R_again {α : Type} {d : Kd α} {e base : Nat} {ok : Nat→Prop} {W w1 : World} {v v1 : Value} {ys : List α} {cells : List Value}
  (h0 : ∀ k,v.ownBlock=some k→ok k) (hr : Reps (d.M W base (fun k=>ok k∧some k≠v.ownBlock)) d.sz ys cells) (hfresh : ∀ k,W.heap.size≤k→ok k)
  (hown : w1.ownsRow base e d.sz v1 ys.length cells) (hg : W.grownBy w1 v.ownBlock) (hat : v1.ownBlock=v.ownBlock∨v1.ownBlock=none ∨ ∃ b,v1.ownBlock=some b∧W.heap.size≤b) : d.R e w1 base ok v1 ys:=by
 have hne : ∀ k,some k≠v.ownBlock→k<W.heap.size→some k≠v1.ownBlock:=by
  intro k hk hlt
  rcases hat with hat|hat|⟨b,hb,hle⟩
  ·
   rw [hat];exact hk
  ·
   rw [hat];simp
  ·
   rw [hb];intro he;injection he with he;omega
 refine ⟨fun k hk=>?_,cells,hown,?_⟩
 ·
  rcases hat with hat|hat|⟨b,hb,hle⟩
  ·
   exact h0 k (hat ▸ hk)
  ·
   rw [hat] at hk;cases hk
  ·
   rw [hb] at hk;injection hk with hk;exact hfresh k (by omega)
 ·
  refine hr.imp_ (fun q c hq=>?_)
  have h1:=d.M_move (w1:=w1) (fun k hk=>hg.block k hk.2.2.1 hk.1.2) (d.M_bound hq)
  exact d.M_mono (fun k hk=>⟨hk.1.1,hne k hk.1.2 hk.2.2.1⟩) h1
theorem exec_copy {P : Program} {w w' : World} {o : Oper} {a : Act} (d x : Operand) (t t' : TypeId) (ho : o.op = .call { callee:=.builtin .copy,args:=#[d,x],argTypes:=#[t,t'] }) {v u r : Value} (hd : a.eval d=v) (hx : a.eval x=u)
  (hr : (Builtin.copy_ #[t,t'] o.type #[v,u]).run P w = .ok r w') : (execOp a.eval o).run P w = .ok (.value r) w':=by
 unfold execOp
 simp only [ho,resolve,invoke,builtin,Sem.run_bind,Sem.run_pure,Result.andThen_ok,List.map_toArray,List.map_cons,List.map_nil,hd,hx,hr]
theorem copy_run {P : Program} {w w' : World} {ops : Array Oper} {rest : List Oper} {o : Oper} {a : Act} {Q : Exit→Act→World→Prop} (hgd : o.guard=none) (d x : Operand) (t t' : TypeId) (ho : o.op = .call { callee:=.builtin .copy,args:=#[d,x],argTypes:=#[t,t'] }) (v u : Value) (hd : a.eval d=v) (hx : a.eval x=u) {r : Value}
  (hr : (Builtin.copy_ #[t,t'] o.type #[v,u]).run P w = .ok r w') (h : wpList P ops Q rest (a.put o.dst r) w') : wpList P ops Q (o :: rest) a w:=Kd.event_run hgd (exec_copy d x t t' ho hd hx hr) h
theorem copy_step {P : Program} {w w' : World} {ops : Array Oper} {o : Oper} {a : Act} {K : Act→World→Prop} {Q : Exit→Act→World→Prop} {E : Prop} (hgd : o.guard=none) (d x : Operand) (t t' : TypeId) (ho : o.op = .call { callee:=.builtin .copy,args:=#[d,x],argTypes:=#[t,t'] }) (v u : Value) (hd : a.eval d=v) (hx : a.eval x=u) {r : Value}
  (hr : (Builtin.copy_ #[t,t'] o.type #[v,u]).run P w = .ok r w') (h : K (a.put o.dst r) w') : if Region.wanted o (yielded ops a.tmps)=true then Oper.wp P o a w K Q else E:=by
 have hw : Region.wanted o (yielded ops a.tmps)=true:=by simp [Region.wanted,hgd]
 rw [if_pos hw]
 unfold Oper.wp
 rw [exec_copy d x t t' ho hd hx hr]
 exact h
theorem R_empty {α : Type} (d : Kd α) (e base : Nat) (W : World) (ok : Nat→Prop) (hok : ok W.heap.size) (hb : base≤W.heap.size) : d.R e (W.alloc (.cells #[] e)) base ok (.slice (some ⟨W.heap.size,0,none⟩) 0 0) [] :=
 ⟨fun k hk=>by
  have h : W.heap.size=k:=by simpa [Value.ownBlock] using hk
  rw [← h];exact hok,[],⟨by simp,.inr ⟨W.heap.size,0,#[],rfl,hb,blk_new W _,Nat.le_refl _,by unfold maxLen;omega,by simp,by simp⟩⟩,Reps.none _ _⟩
end Go.Proofs.Ytgifonogfgpjdaa.Row
end
