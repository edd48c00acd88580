/- Layer 16: who is refused. -/
import Derived.Test.YtfjhdboapcckpaaGreatDoorGdN6
set_option maxRecDepth 100000
namespace Gm
open Go
section
variable {Bad Fine:Prop} {i:Int} {n:Node} {r:NO}
theorem end3 (h3:i=3->n.primary=false->∃ o,r.2=[o]∧o.err≠0) (g:Fine) :
  (bif(i==3)then(bif(!n.primary)then(bif((r.2.length:Int) != 1)then Bad else(oget (getI r.2 0) fun v=>(bif(v.err==0)then Bad else Fine)))else Fine)else Fine):=by
 refine cond_ok (fun h=>cond_ok (fun hp=>?_) (fun _=>g)) (fun _=>g)
 obtain ⟨o,e,ho⟩:=h3 (eq_t h) (not_t hp)
 rw [e]
 exact cond_f rfl (oget_ok (v:=o) rfl (cond_f (ne0 ho) g))
theorem mid3 {E3:Prop} (hp:r.1.primary=true->n.primary=false->n.store.sup.inc=false∧n.store.sup.dis=false∧r.1.store.sup.pri=true) (g:E3) :
  (bif r.1.primary then(bif(!n.primary)then(bif n.store.sup.inc then Bad else(bif n.store.sup.dis then Bad else(bif(!r.1.store.sup.pri)then Bad else E3)))else E3)else E3):=by
 refine cond_ok (fun h=>cond_ok (fun h2=>?_) (fun _=>g)) (fun _=>g)
 obtain ⟨a,b,c⟩:=hp h (not_t h2)
 exact cond_f a (cond_f b (cond_f (by rw [c];rfl) g))
def Fit (n:Node) (r:NO):Prop:=(∃ a b e,r=(n,[⟨2,a,b,e,[]⟩]))∨r.2=[]∨∃ l o,r.2=l++[o]∧l.length≤10∧(o.kind≠2∨o.err=0)
theorem tail3 {N:Nat} (on:OkN N n) (hN:N≤1000000) {E:Prop} (hf:Fit n r) (g:E) :
  (bif(decide ((r.2.length:Int) > 0))then(oget (getI r.2 (IntKind.i64.wrap ((r.2.length:Int) - 1))) fun v5=>(bif(v5.kind==2)then(oget (getI r.2 (IntKind.i64.wrap ((r.2.length:Int) - 1))) fun v6=>(bif(v6.err != 0)then(q195.F r.1 n fun r7=>(bif(!r7)then Bad else(bif((r.2.length:Int) != 1)then Bad else(oget (getI r.2 0) fun v8=>(bif(!(v8.data==([]:Str)))then Bad else E)))))else E))else E))else E):=by
 rcases hf with ⟨a,b,e,rfl⟩ | e | ⟨l,o,e,hl,ho⟩
 ·refine cond_t rfl (oget_ok (v:=⟨2,a,b,e,[]⟩) rfl (cond_t rfl (oget_ok (v:=⟨2,a,b,e,[]⟩) rfl (cond_ok (fun _=>?_) (fun _=>g)))))
  exact nodeSame_ok hN on (cond_f rfl (cond_f rfl (oget_ok (v:=⟨2,a,b,e,[]⟩) rfl (cond_f rfl g))))
 ·rw [e]
  exact cond_f rfl g
 ·rw [e]
  have ew:IntKind.i64.wrap (((l++[o]).length:Int) - 1)=(l.length:Int):=by
   have e1:((l++[o]).length:Int)=(l.length:Int)+1:=by simp
   have e2:((l.length:Int)+1) - 1=(l.length:Int):=by omega
   rw [e1,e2,wrap_i64 (by omega)]
  have eg:getI (l++[o]) (l.length:Int)=some o:=by
   rw [getI_ok (by simp)]
   simp
  rw [ew]
  refine cond_t (decide_eq_true (by simp)) (oget_ok eg (cond_ok (fun h=>?_) (fun _=>g)))
  refine oget_ok eg (cond_f ?_ g)
  rcases ho with ho | ho
  ·exact(ho (eq_t h)).elim
  ·rw [ho];rfl
end
theorem commit_sup {s:Store} {b:Super} (h:(stCommit s b).2=0):(stCommit s b).1.sup=b:=by
 unfold stCommit at h ⊢
 split
 ·rename_i e;exact e.symm
 ·rename_i e
  rw [if_neg e] at h
  exact if_pos h
theorem commitN_sup {n:Node} {b:Super} (h:(commitN n b).2=true):(commitN n b).1.store.sup=b:=by
 unfold commitN keepN at h ⊢
 split
 ·rename_i e;exact commit_sup e
 ·rename_i e;rw [if_neg e] at h;cases h
theorem commitN_pri {n:Node} {b:Super} (h:(commitN n b).1.primary=true):n.primary=true:=by
 unfold commitN keepN at h
 split at h
 ·exact h
 ·cases h
theorem refuse_fit {n:Node} {id e:Int}:Fit n (refuseN n id e):=.inl ⟨n.id,id,e,rfl⟩
theorem promote_fit {n:Node} {id:Int}:Fit n (promoteN n id):=by
 unfold promoteN
 repeat' split
 all_goals first
  | exact refuse_fit
  | exact .inr (.inl rfl)
  | exact .inr (.inr ⟨[],_,rfl,by decide,.inr rfl⟩)
  | exact .inr (.inr ⟨[],_,rfl,by decide,.inl (by show(1:Int)≠2;decide)⟩)
theorem demote_fit {n:Node} {id:Int}:Fit n (demoteN n id):=by
 unfold demoteN
 repeat' split
 all_goals first
  | exact refuse_fit
  | exact .inr (.inl rfl)
  | exact .inr (.inr ⟨_,_,rfl,by decide,.inr rfl⟩)
  | exact .inr (.inr ⟨_,_,rfl,by split <;> simp,.inr rfl⟩)
theorem discard_fit {n:Node} {id:Int}:Fit n (discardN n id):=by
 unfold discardN
 repeat' split
 all_goals first
  | exact refuse_fit
  | exact .inr (.inl rfl)
  | exact .inr (.inr ⟨[],_,rfl,by decide,.inr rfl⟩)
theorem aRead_bad {d:Disk} {i:Int} (h:(aReadV d i).2≠0):(aReadV d i).1=[]:=by
 unfold aReadV at h ⊢
 split
 ·rename_i h1
  rw [if_pos h1] at h
  split
  ·rfl
  ·rename_i h2
   rw [if_neg h2] at h
   split
   ·rename_i h3;rw [if_pos h3] at h;exact(h rfl).elim
   ·rfl
 ·rfl
theorem read_fit {n:Node} {id b:Int}:Fit n (readN n id b):=by
 unfold readN
 split
 ·exact refuse_fit
 ·split
  ·exact refuse_fit
  ·by_cases e:(stRead n.store b).2=0
   ·exact .inr (.inr ⟨[],_,rfl,by decide,.inr e⟩)
   ·refine .inl ⟨n.id,id,(stRead n.store b).2,?_⟩
    show(n,[replyO n id _ (stRead n.store b).1])=_
    rw [show (stRead n.store b).1=[] from aRead_bad e]
    rfl
def Prim (n:Node) (r:NO):Prop:=r.1.primary=true->n.primary=false->n.store.sup.inc=false∧n.store.sup.dis=false∧r.1.store.sup.pri=true
theorem promote_prim {n:Node} {id:Int}:Prim n (promoteN n id):=by
 intro h hn
 unfold promoteN refuseN at h ⊢
 split at h
 ·rw [hn] at h;cases h
 rename_i c1
 split at h
 ·rw [hn] at h;cases h
 rename_i c2
 split at h
 ·rw [hn] at h;cases h
 rename_i c3
 split at h
 ·rw [hn] at h;cases h
 rename_i c4
 split at h
 ·rw [hn] at h;cases h
 rename_i c5
 split at h
 ·rw [hn] at h;cases h
 rename_i c6
 split at h
 ·rw [show n.primary=true from h] at hn;cases hn
 rename_i c7
 split at h
 ·rename_i c8
  refine⟨by simpa using c3,by simpa using c4,?_⟩
  rw [if_neg c1,if_neg c2,if_neg c3,if_neg c4,if_neg c5,if_neg c6,if_neg c7,if_pos c8]
  show(commitN n (priS n.store.sup true)).1.store.sup.pri=true
  rw [commitN_sup c8]
  rfl
 ·have:=commitN_pri h
  rw [hn] at this;cases this
theorem demote_prim {n:Node} {id:Int}:Prim n (demoteN n id):=by
 intro h hn
 exfalso
 unfold demoteN refuseN at h
 repeat' split at h
 all_goals first
  | (rw [hn] at h;cases h)
  | cases h
  | (have:=commitN_pri h;rw [hn] at this;cases this)
theorem discard_prim {n:Node} {id:Int}:Prim n (discardN n id):=by
 intro h hn
 exfalso
 unfold discardN refuseN at h
 repeat' split at h
 all_goals first
  | (rw [hn] at h;cases h)
  | (have:=commitN_pri h;rw [hn] at this;cases this)
theorem readN_fst {n:Node} {id b:Int}:(readN n id b).1=n:=by
 unfold readN refuseN
 split
 ·rfl
 ·split
  ·rfl
  ·rfl
theorem read_prim {n:Node} {id b:Int}:Prim n (readN n id b):=by
 intro h hn
 rw [readN_fst,hn] at h;cases h
theorem read_three {n:Node} {id b:Int} (hn:n.primary=false):∃ o,(readN n id b).2=[o]∧o.err≠0:=by
 unfold readN refuseN
 split
 ·exact⟨_,rfl,by show(7:Int)≠0;decide⟩
 ·exact⟨_,rfl,by show(8:Int)≠0;decide⟩
theorem NodeRefuses_ok {c:Case} {id block:Int} (h0:0≤c.blocks) (hw:∀ e∈c.l,inK .u64 e.num) {K:Bool->Prop} (k:K true):q199.F c id block K:=by
 unfold q199.F q199.FV
 refine alive16_ok (cond_f rfl (Great_ok (most:=60) (by decide) k (fun hl he=>cond_f rfl ?_)))
 have hE:∀ e∈c.l,OkE e:=fun e h=>okE_of (hw e h) (he e h)
 have on:OkN 2000 (nodeC (reachC c.blocks c.l) c.side):=((okC_reach hE).up (by omega)).node _
 refine Node16_ok h0 (by omega) hE ?_
 generalize nodeC (reachC c.blocks c.l) c.side=n at on
 refine loop_ok (I:=fun x:q199.L0=>∃ i:Nat,i≤4∧x=⟨id,block,i,n⟩) (m:=fun x:q199.L0=>4 - x.i.toNat) ?_ ⟨0,by decide,rfl⟩
 rintro _ ⟨i,hi,rfl⟩ rec hrec
 unfold q199.b0V
 dsimp only
 refine cond_ok (fun h=>?_) (fun _=>k)
 have hlt:(i:Int) < 4:=of_decide_eq_true h
 have g:rec ⟨id,block,IntKind.i64.wrap ((i:Int)+1),n⟩:=by
  rw [wrap_i64 (by omega)]
  exact hrec _ ⟨i+1,by omega,rfl⟩ (by dsimp only;omega)
 refine cond_ok (fun h0=>?_) (fun h0=>cond_ok (fun h1=>?_) (fun h1=>cond_ok (fun h2=>?_) (fun h2=>?_)))
 ·have h0:=eq_t h0
  refine PromoteP_ok (N:=2000) (by decide) (by decide) on (tail3 on (by decide) promote_fit (mid3 promote_prim (end3 (fun h=>by omega) g)))
 ·have h1:=eq_t h1
  refine DemoteP_ok (N:=2000) (by decide) (by decide) on (tail3 on (by decide) demote_fit (mid3 demote_prim (end3 (fun h=>by omega) g)))
 ·have h2:=eq_t h2
  refine DiscardP_ok (N:=2000) (by decide) (by decide) on (tail3 on (by decide) discard_fit (mid3 discard_prim (end3 (fun h=>by omega) g)))
 ·exact ReadP_ok (N:=2000) (by decide) on (tail3 on (by decide) read_fit (mid3 read_prim (end3 (fun _=>read_three) g)))
end Gm
