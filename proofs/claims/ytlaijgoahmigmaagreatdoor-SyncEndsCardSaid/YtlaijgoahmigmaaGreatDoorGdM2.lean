/- What nodes want, third part. -/
import Derived.Test.YtlaijgoahmigmaaGreatDoorGdR2
set_option maxRecDepth 100000
namespace Gm
open Go
section
variable {B:Int} {n:Node} (hu:n.up=true) (h:NI B n)
include hu h
theorem ni_ended (s3:n.state≠4):NI B (endedN n).1:=by
 have hw:=h.w0 (fun c=>s3 c.1)
 have hc:NI B (commitN n { n.store.sup with vector:=retire n.store.sup.vector,pri:=n.primary }).1:=ni_commit h rfl
 unfold endedN
 dsimp only
 split
 ·rename_i e
  obtain ⟨q,_⟩:=keep_true (r:=stCommit n.store { n.store.sup with vector:=retire n.store.sup.vector,pri:=n.primary }) e
  have q:(commitN n { n.store.sup with vector:=retire n.store.sup.vector,pri:=n.primary }).1=_:=q
  rw [q]
  exact⟨fun e=>(nf hu e).elim,fun _=>hw,fun x=>by cases x⟩
 ·exact hc
theorem ni_done (hi:n.store.sup.inc=false):NI B (doneN n):=
 ⟨fun e=>(nf hu e).elim,fun _=>h.w0 (fun c=>by rw [hi] at c;cases c.2),fun x=>by cases x⟩
omit hu in
theorem ni_roles {k:Int}:NI B (rolesN n k).1:=by
 have hc:NI B (commitN n (priS n.store.sup true)).1:=ni_commit h rfl
 unfold rolesN
 dsimp only
 repeat' split
 all_goals first
  | exact h
  | exact h.same rfl rfl rfl rfl
  | exact hc
  | exact hc.same rfl rfl rfl rfl
theorem ni_met {N:Nat} {p:Hello} (u:UpS B n.store) (o:OkN N n) (hh:wHello p) (s1:n.state=1):NI B (metN n p).1:=by
 have hw:=h.w0 (fun c=>by rw [s1] at c;exact absurd c.1 (by decide))
 unfold metN
 dsimp only
 split
 ·exact h
 split
 ·split
  ·rename_i e
   obtain ⟨q,_⟩:=keep_true (r:=stCommit n.store { n.store.sup with vector:=retire n.store.sup.vector,pri:=n.primary }) e
   have q:(commitN n { n.store.sup with vector:=retire n.store.sup.vector,pri:=n.primary }).1=_:=q
   rw [q]
   exact⟨fun e=>(nf hu e).elim,fun _=>hw,fun x _=>absurd x (by show ¬ ((2:Int)=4);decide)⟩
  ·exact ni_commit h rfl
 have kj:NI B (keepN n (stJoin n.store (verdictN n p).2)).1:=ni_keep h (fun _=>by unfold stJoin;rw [save_sup])
 have hj:=sr_join (m:=(verdictN n p).2) u o.st.m (verdict_u32 o hh)
 split
 ·exact kj
 rename_i e
 have e:(keepN n (stJoin n.store (verdictN n p).2)).2=true:=by simpa using e
 have uj:=up_keep (n:=n) hj e
 obtain ⟨q,_⟩:=keep_true e
 rw [q] at uj ⊢
 split
 ·exact⟨fun e=>(nf hu e).elim,fun _=>hw,fun x _=>absurd x (by show ¬ ((3:Int)=4);decide)⟩
 have w:wSup { n.store.sup with inc:=true,pri:=false,vector:=fromVec n.store.sup.vector p.vector.current }:=⟨o.st.b,from_vec o.st.v hh.2.1.1⟩
 split
 ·rename_i e2
  unfold commitN keepN at e2 ⊢
  split
  ·rename_i c;rw [if_pos c] at e2;cases e2
  ·exact ni_down
 ·rename_i e2
  have e2:(commitN (setSt n (stJoin n.store (verdictN n p).2).1) { n.store.sup with inc:=true,pri:=false,vector:=fromVec n.store.sup.vector p.vector.current }).2=true:=by simpa using e2
  have uc:=up_commit (n:=setSt n (stJoin n.store (verdictN n p).2).1) uj w e2
  obtain ⟨q2,_⟩:=keep_true (n:=setSt n (stJoin n.store (verdictN n p).2).1) (r:=stCommit (stJoin n.store (verdictN n p).2).1 { n.store.sup with inc:=true,pri:=false,vector:=fromVec n.store.sup.vector p.vector.current }) e2
  have q2:(commitN (setSt n (stJoin n.store (verdictN n p).2).1) { n.store.sup with inc:=true,pri:=false,vector:=fromVec n.store.sup.vector p.vector.current }).1=_:=q2
  rw [q2] at uc ⊢
  exact ni_seek (n:=enterN (setSt (setSt n (stJoin n.store (verdictN n p).2).1) _) 4 p) uc (fun e=>(nf hu e).elim) rfl hw
end
end Gm

set_option maxRecDepth 100000
namespace Gm
open Go
theorem ni_take {B:Int} {N:Nat} {n:Node} {p:Packet} (h64:64≤N) (o:OkN N n) (u:UpS B n.store) (h:NI B n) (hp:wHello p.hello) (f:fitsN n p=true):NI B (takeN n p).1:=by
 have hu:n.up=true:=by
  cases e:n.up with
  | true=>rfl
  | false=>unfold fitsN at f;rw [if_pos (.inl e)] at f;cases f
 unfold fitsN at f
 split at f
 ·cases f
 unfold takeN
 by_cases k1:p.kind=1
 ·rw [if_pos k1] at f ⊢
  exact ni_met hu h u o hp (eq_t f)
 rw [if_neg k1] at f ⊢
 by_cases k2:p.kind=2
 ·rw [if_pos k2];exact ni_apply h
 rw [if_neg k2] at f ⊢
 by_cases k3:p.kind=3
 ·rw [if_pos k3];exact ni_acked h
 rw [if_neg k3] at f ⊢
 by_cases k4:p.kind=4
 ·rw [if_pos k4];exact ni_wipe h
 rw [if_neg k4] at f ⊢
 by_cases k5:p.kind=5
 ·rw [if_pos k5];exact h
 rw [if_neg k5]
 by_cases k6:p.kind=6
 ·rw [if_neg (by omega),if_pos k6] at f
  rw [if_pos k6]
  exact ni_got h64 o u h (eq_t f)
 rw [if_neg k6]
 by_cases k7:p.kind=7
 ·rw [if_pos k7];exact ni_copied h
 rw [if_neg k7]
 by_cases k8:p.kind=8
 ·rw [if_pos (by omega)] at f
  rw [if_pos k8]
  have f:=eq_t f
  exact ni_ended hu h (by omega)
 rw [if_neg k8]
 by_cases k9:p.kind=9
 ·rw [if_neg (by omega),if_neg k6,if_pos k9] at f
  rw [if_pos k9]
  exact ni_done hu h (by simpa using (Bool.and_eq_true_iff.1 f).2)
 rw [if_neg k9]
 exact ni_roles h
theorem ni_receive {B:Int} {N:Nat} {n:Node} {b:Str} (h64:64≤N) (o:OkN N n) (w:NW B n) (h:NI B n):NI B (receiveN n b).1:=by
 unfold receiveN
 split
 ·exact h
 rename_i c
 split
 ·exact h
 split
 ·exact h
 rename_i c2
 have hu:n.up=true:=by cases hu:n.up with | true=>rfl | false=>exact(c (.inl hu)).elim
 exact ni_take h64 o (w.2 hu) h (read_w b n.session) (by
  cases e:fitsN n (readP b n.session).1 with
  | true=>rfl
  | false=>exact(c2 (.inr e)).elim)
theorem ni_begin {B:Int} {n:Node} {s:Int} (hu:n.up=true) (h:NI B n) (s0:n.state=0):NI B (beginN n s).1:=
 ⟨fun e=>(nf hu e).elim,fun _=>h.w0 (fun c=>by rw [s0] at c;exact absurd c.1 (by decide)),fun x _=>absurd x (by show ¬ ((1:Int)=4);decide)⟩
theorem ni_attach {B:Int} {n:Node} {keeps:List Bool} (h:NI B n):NI B (attachN n keeps).1:=by
 unfold attachN
 split
 ·exact h
 rename_i c
 have hd:n.up=false:=by simpa using c
 have s0:=h.dn hd
 split
 ·exact⟨h.dn,fun _=>h.w0 (fun c=>by rw [s0] at c;exact absurd c.1 (by decide)),fun x _=>by have x:n.state=4:=x;rw [s0] at x;cases x⟩
 ·exact ni_bare
end Gm

set_option maxRecDepth 100000
namespace Gm
open Go
structure CI (B:Int) (c:Cluster):Prop where
 a:NI B c.n0
 b:NI B c.n1
 dl:c.link.up=false->c.n0.state=0∧c.n1.state=0
theorem lose_false {B:Int} {c:CO} (a:NI B c.1.n0):NI B (loseC c false).1.n0∧(loseC c false).1.n0.state=0∧(loseC c false).1.n1=c.1.n1:=by
 unfold loseC
 split
 ·rename_i e;exact⟨a,a.dn e,rfl⟩
 ·have h:=ni_lose a
  dsimp only
  split
  ·exact⟨h.1,h.2,rfl⟩
  ·exact⟨h.1,h.2,rfl⟩
theorem lose_true {B:Int} {c:CO} (b:NI B c.1.n1):NI B (loseC c true).1.n1∧(loseC c true).1.n1.state=0∧(loseC c true).1.n0=c.1.n0:=by
 unfold loseC
 split
 ·rename_i e;exact⟨b,b.dn e,rfl⟩
 ·have h:=ni_lose b
  dsimp only
  split
  ·exact⟨h.1,h.2,rfl⟩
  ·exact⟨h.1,h.2,rfl⟩
theorem ci_end {B:Int} {c:Cluster} {out:List Outp} (a:NI B c.n0) (b:NI B c.n1):CI B (endC c out).1:=by
 obtain ⟨h1,h2,h3⟩:=lose_false (c:=({ c with link:=closeL c.link },out)) a
 obtain ⟨k1,k2,k3⟩:=lose_true (c:=loseC ({ c with link:=closeL c.link },out) false) (by rw [h3];exact b)
 unfold endC
 exact⟨by rw [k3];exact h1,k1,fun _=>⟨by rw [k3];exact h2,k2⟩⟩
theorem ci_set {B:Int} {c:Cluster} {n:Node} (h:CI B c) (hn:NI B n) (i:Bool) (h0:c.link.up=false->n.state=0):CI B (setN c i n):=by
 cases i
 ·exact⟨hn,h.b,fun e=>⟨h0 e,(h.dl e).2⟩⟩
 ·exact⟨h.a,hn,fun e=>⟨(h.dl e).1,h0 e⟩⟩
theorem ci_want {B:Int} {c:Cluster} (h:CI B c) (i w:Bool):CI B (setW c i w):=by cases i <;> exact⟨h.a,h.b,h.dl⟩
theorem ci_put {B:Int} {c:Cluster} {l:List Outp} (h:CI B c) (i:Bool):CI B (putC c i l):=by
 unfold putC
 split
 ·rename_i e
  have:(setTo c.link (!i) (toC c.link (!i)++(l.filter fun o=>o.kind==1).map (·.data))).up=c.link.up:=by cases i <;> rfl
  exact⟨h.a,h.b,fun x=>by rw [this] at x;exact h.dl x⟩
 ·exact h
theorem ci_after {B:Int} {c:Cluster} {r:NO} (h:CI B c) (i:Bool) (hn:NI B r.1) (h0:c.link.up=false->r.1.state=0):CI B (afterC c i r).1:=by
 have h1:CI B (putC (setN c i r.1) i r.2):=ci_put (ci_set h hn i h0) i
 unfold afterC
 dsimp only
 have h2:CI B (if r.1.up=false then setW (putC (setN c i r.1) i r.2) i false else putC (setN c i r.1) i r.2):=by
  split
  ·exact ci_want h1 _ _
  ·exact h1
 generalize (if r.1.up=false then setW (putC (setN c i r.1) i r.2) i false else putC (setN c i r.1) i r.2)=c2 at h2 ⊢
 split
 ·exact h2
 ·split
  ·exact ci_end h2.a h2.b
  ·exact ci_end h2.a h2.b
theorem CI.node {B:Int} {c:Cluster} (h:CI B c) (i:Bool):NI B (nodeC c i):=by cases i;exact h.a;exact h.b
theorem CI.zero {B:Int} {c:Cluster} (h:CI B c) (i:Bool) (e:c.link.up=false):(nodeC c i).state=0:=by cases i;exact(h.dl e).1;exact(h.dl e).2
end Gm

set_option maxRecDepth 100000
namespace Gm
open Go
theorem keep0 {m:Node} {r:Store×Int} (hm:m.state=0):(keepN m r).1.state=0:=by
 unfold keepN
 split
 ·exact hm
 ·rfl
section
variable {n:Node} (s:n.state=0)
include s
theorem promote0 {id:Int}:(promoteN n id).1.state=0:=by
 have hc:(commitN n (priS n.store.sup true)).1.state=0:=keep0 s
 unfold promoteN
 repeat' split
 all_goals first
  | exact s
  | exact hc
theorem demote0 {id:Int}:(demoteN n id).1.state=0:=by
 have hc:(commitN n (priS n.store.sup false)).1.state=0:=keep0 s
 unfold demoteN
 repeat' split
 all_goals first
  | exact s
  | exact hc
theorem discard0 {id:Int}:(discardN n id).1.state=0:=by
 have hc:(commitN n { n.store.sup with dis:=true }).1.state=0:=keep0 s
 unfold discardN
 repeat' split
 all_goals first
  | exact s
  | exact hc
theorem mint0:(mintN n).1.state=0:=by
 unfold mintN
 split
 ·exact s
 split
 ·exact s
 dsimp only
 split
 ·exact keep0 s
 ·exact keep0 s
theorem wrote0 {id b:Int} {data:Str}:(wroteN n id b data).1.state=0:=by
 have hl:(layN n b data).1.state=0:=by
  unfold layN
  dsimp only
  split
  ·exact keep0 (keep0 s)
  ·exact keep0 s
 unfold wroteN
 repeat' split
 all_goals exact hl
theorem write0 {id b:Int} {data:Str}:(writeN n id b data).1.state=0:=by
 have hm:(if n.state=0∧n.minted=false then mintN n else(n,0)).1.state=0:=by
  split
  ·exact mint0 s
  ·exact s
 rw [write_of]
 generalize (if n.state=0∧n.minted=false then mintN n else(n,0))=q at hm ⊢
 repeat' split
 all_goals first
  | exact s
  | exact hm
  | exact wrote0 hm
theorem receive0 {b:Str}:(receiveN n b).1.state=0:=by
 unfold receiveN
 rw [if_pos (.inr s)]
 exact s
theorem attach0 {keeps:List Bool}:(attachN n keeps).1.state=0:=by
 unfold attachN
 repeat' split
 all_goals first
  | exact s
  | rfl
end
theorem ni_read {B:Int} {n:Node} (h:NI B n) {id b:Int}:NI B (readN n id b).1:=by
 unfold readN
 repeat' split
 all_goals exact h
theorem read0 {n:Node} (s:n.state=0) {id b:Int}:(readN n id b).1.state=0:=by
 unfold readN
 repeat' split
 all_goals exact s
theorem after_begin {c:Cluster} {i:Bool} {s:Int} (hu:(nodeC c i).up=true):(afterC c i (beginN (nodeC c i) s)).1=putC (setN c i (beginN (nodeC c i) s).1) i (beginN (nodeC c i) s).2:=by
 unfold afterC
 dsimp only
 have h1:(beginN (nodeC c i) s).1.up=true:=hu
 have h2:((beginN (nodeC c i) s).2.any fun o=>o.kind==3)=false:=rfl
 rw [if_neg (show ¬ (beginN (nodeC c i) s).1.up=false from nf h1),if_pos (.inr ⟨h1,h2⟩)]
theorem put_n1 (c:Cluster) (n:Node) (l:List Outp):(putC (setN c false n) false l).n1=c.n1:=by
 unfold putC
 split <;> rfl
theorem ci_connect {B:Int} {c:Cluster} (h:CI B c) (i:Bool):CI B (connectC c i).1:=by
 unfold connectC
 split
 ·exact h
 rename_i u1
 dsimp only
 split
 ·exact ci_want h _ _
 rename_i u2
 have up1:(nodeC c i).up=true:=by simpa using u1
 have hw:=ci_want h i true
 have l0:(setW c i true).link.up=false:=by
  cases e:(setW c i true).link.up with
  | false=>rfl
  | true=>exact(u2 (.inr (.inr e))).elim
 have up2:(nodeC (setW c i true) (!i)).up=true:=by
  cases e:(nodeC (setW c i true) (!i)).up with
  | true=>rfl
  | false=>exact(u2 (.inr (.inl e))).elim
 have ups:(setW c i true).n0.up=true∧(setW c i true).n1.up=true:=by
  cases i
  ·exact⟨up1,up2⟩
  ·exact⟨up2,up1⟩
 have h2:CI B { setW c i true with link:=openL (setW c i true).link }:=⟨hw.a,hw.b,fun e=>by cases e⟩
 have ha:=ci_after h2 false (ni_begin (s:=(openL (setW c i true).link).session) ups.1 hw.a (hw.dl l0).1) (fun e=>by cases e)
 have e1:=after_begin (c:={ setW c i true with link:=openL (setW c i true).link }) (i:=false) (s:=(openL (setW c i true).link).session) ups.1
 have n1:(afterC { setW c i true with link:=openL (setW c i true).link } false (beginN (setW c i true).n0 (openL (setW c i true).link).session)).1.n1=(setW c i true).n1:=by
  have e1:(afterC { setW c i true with link:=openL (setW c i true).link } false (beginN (setW c i true).n0 (openL (setW c i true).link).session)).1=_:=e1
  rw [e1]
  exact put_n1 _ _ _
 refine ci_after ha true (ni_begin (by rw [n1];exact ups.2) (by rw [n1];exact hw.b) (by rw [n1];exact(hw.dl l0).2)) (fun e=>?_)
 have e1:(afterC { setW c i true with link:=openL (setW c i true).link } false (beginN (setW c i true).n0 (openL (setW c i true).link).session)).1=_:=e1
 rw [e1] at e
 unfold putC at e
 rw [if_pos (show(setN { setW c i true with link:=openL (setW c i true).link } false _).link.up=true from rfl)] at e
 cases e
end Gm

set_option maxRecDepth 100000
namespace Gm
open Go
theorem dw_fmt {b:Int} {g:Nat} (hb:1≤b∧b≤32) (hg:g≠0) (h64:g < 18446744073709551616):DW b (fmtV b g).1:=by
 unfold fmtV
 rw [if_pos ⟨hb.1,hb.2,hg⟩]
 have w:wSup (supN b g):=⟨⟨by show(-9223372036854775808:Int)≤b;omega,by show b≤(9223372036854775807:Int);omega⟩,⟨by show(0:Int)≤(g:Int);omega,by show(g:Int)≤(18446744073709551615:Int);omega⟩,u64_0,u64_0,u64_0⟩
 have r:supR (supN b g)=true:=by
  unfold supR supN
  rw [Bool.and_eq_true]
  refine⟨decide_eq_true hb,?_⟩
  have:((g:Int)==0)=false:=beq_eq_false_iff_ne.2 (by omega)
  rw [this];rfl
 refine⟨?_,hb,fun w m=>(by cases m),fun x=>⟨fun y hy=>?_,fun w m=>(by cases m)⟩⟩
 ·show((fmtS b.toNat g).length:Int)=b+2
  unfold fmtS
  simp only [List.length_cons,List.length_replicate]
  omega
 ·have hy:(fmtS b.toNat g)[x]? = some y:=hy
  unfold fmtS at hy
  match x,hy with
  | 0,hy=>
   cases hy
   refine⟨fun _=>⟨supN b g,?_,rfl,r,w⟩,fun h=>(by cases h),fun h=>(by omega)⟩
   rfl
  | 1,hy=>
   cases hy
   refine⟨fun h=>(by cases h),fun _=>⟨0,rfl,?_⟩,fun h=>(by omega)⟩
   unfold maskR
   refine decide_eq_true ⟨hb.1,hb.2,?_⟩
   have:=Nat.two_pow_pos b.toNat
   have h2:(2:Int) ^ b.toNat=((2 ^ b.toNat:Nat):Int):=by simp
   rw [h2]
   omega
  | x+2,hy=>
   simp only [List.getElem?_cons_succ,List.getElem?_replicate] at hy
   split at hy
   ·cases hy
    exact good_data (by omega) rfl
   ·cases hy
theorem cw_reach {b:Int} {l:List Event} (he:∀ e∈l,OkE e):CW (1+b % 4) (reachC b l):=by
 unfold reachC
 have hb:1≤1+b % 4∧1+b % 4≤32:=by omega
 refine cw_play (N:=64) (by omega) okC_new he ?_
 have d:=dw_fmt (g:=7) hb (by decide) (by decide)
 have nw:∀ i:Int,NW (1+b % 4) (newN i (1+b % 4) 7):=fun i=>nw_attach ⟨d,fun e=>by cases e⟩
 unfold newC
 rw [if_neg ?_]
 ·exact⟨nw 0,nw 1⟩
 ·unfold fmtV
  rw [if_pos ⟨hb.1,hb.2,by decide⟩]
  simp
theorem val_commit {s:Store} {b:Super} {x:Nat} {P:Str->Prop} (hs:Sec s.disk) (h:Val s.disk x P) (hx:x≠0):Val (stCommit s b).1.disk x P:=by
 have hw:Val (writeV s.disk 0 (sealV (sBytes b))).1 x P:=val_write h (fun e=>by omega)
 unfold stCommit
 split
 ·exact h
 show Val (commitD s.disk b).1 x P
 unfold commitD
 split
 ·split
  ·exact hw
  ·exact val_flush (sec_write hs) hw
 ·exact h
theorem val_put {s:Store} {i:Int} {data:Str} {x:Nat} {P:Str->Prop} (hs:Sec s.disk) (h:Val s.disk x P) (hp:i+2=(x:Int)->P data):Val (stPut s i data).1.disk x P:=by
 show Val (putV s.disk i data).1 x P
 have hw:Val (writeV s.disk (i+2) data).1 x P:=val_write h hp
 unfold putV
 split
 ·split
  ·split
   ·exact hw
   ·exact val_flush (sec_write hs) hw
  ·exact h
 ·exact h
theorem put_last {s:Store} {i:Int} {data:Str} {x:Nat} (hx:i+2=(x:Int)) (e:(stPut s i data).2=0):Val (stPut s i data).1.disk x (fun y=>y=data):=by
 obtain ⟨_,_,f,hd⟩:=put_okv e
 show Val (putV s.disk i data).1 x _
 rw [hd,hx]
 exact val_last
end Gm

set_option maxRecDepth 100000
namespace Gm
open Go
theorem ci_at {B:Int} {N:Nat} {c:Cluster} {e:Event} (h64:64≤N) (o:OkC N c) (w:CW B c) (h:CI B c) (i:Bool):CI B (doAt c e i).1:=by
 have on:=o.node i
 have hw:=w.node i
 have hn:=h.node i
 have hz:=h.zero i
 unfold doAt
 refine ite_of (P:=fun r:CO=>CI B r.1) (fun _=>?_) (fun _=>?_)
 ·exact ci_after h i (ni_promote hn) (fun e=>promote0 (hz e))
 refine ite_of (P:=fun r:CO=>CI B r.1) (fun _=>?_) (fun _=>?_)
 ·exact ci_after h i (ni_demote hn) (fun e=>demote0 (hz e))
 refine ite_of (P:=fun r:CO=>CI B r.1) (fun _=>?_) (fun _=>?_)
 ·exact ci_after h i (ni_discard hn) (fun e=>discard0 (hz e))
 refine ite_of (P:=fun r:CO=>CI B r.1) (fun _=>?_) (fun _=>?_)
 ·exact ci_after h i (ni_read hn) (fun e=>read0 (hz e))
 refine ite_of (P:=fun r:CO=>CI B r.1) (fun _=>?_) (fun _=>?_)
 ·exact ci_after h i (ni_write hn) (fun e=>write0 (hz e))
 refine ite_of (P:=fun r:CO=>CI B r.1) (fun _=>?_) (fun _=>?_)
 ·exact ci_connect h i
 refine ite_of (P:=fun r:CO=>CI B r.1) (fun _=>?_) (fun _=>?_)
 ·have h1:CI B (if e.kind=7 then setW c i false else c):=by
   split
   ·exact ci_want h _ _
   ·exact h
  generalize (if e.kind=7 then setW c i false else c)=c1 at h1 ⊢
  split
  ·exact ci_end h1.a h1.b
  ·exact h1
 refine ite_of (P:=fun r:CO=>CI B r.1) (fun _=>?_) (fun _=>?_)
 ·split
  ·exact h
  ·rename_i b r hq
   have e:(setTo c.link i r).up=c.link.up:=by cases i <;> rfl
   have h1:CI B { c with link:=setTo c.link i r }:=⟨h.a,h.b,fun x=>h.dl (e ▸ x)⟩
   exact ci_after h1 i (ni_receive h64 on hw hn) (fun x=>receive0 (hz (e ▸ x)))
 refine ite_of (P:=fun r:CO=>CI B r.1) (fun _=>?_) (fun _=>?_)
 ·split
  ·exact ci_after h i ni_down (fun _=>rfl)
  ·exact h
 refine ite_of (P:=fun r:CO=>CI B r.1) (fun _=>?_) (fun _=>?_)
 ·exact ci_set h (ni_attach hn) i (fun e=>attach0 (hz e))
 refine ite_of (P:=fun r:CO=>CI B r.1) (fun _=>?_) (fun _=>?_)
 ·split
  ·exact ci_after h i (hn.same rfl rfl rfl rfl) (fun e=>hz e)
  ·exact ci_after h i hn (fun e=>hz e)
 refine ite_of (P:=fun r:CO=>CI B r.1) (fun _=>?_) (fun _=>?_)
 ·split
  ·refine ci_set h ?_ i ?_
   ·exact hn.same rfl rfl rfl rfl
   ·exact fun e=>hz e
  ·exact ci_set h hn i (fun e=>hz e)
 refine ite_of (P:=fun r:CO=>CI B r.1) (fun _=>?_) (fun _=>?_)
 ·split
  ·exact h
  ·exact ci_after h i (ni_receive h64 on hw hn) (fun x=>receive0 (hz x))
 ·exact h
theorem ci_do {B:Int} {N:Nat} {c:Cluster} {e:Event} (h64:64≤N) (o:OkC N c) (w:CW B c) (h:CI B c):CI B (doC c e).1:=by
 unfold doC
 split
 ·exact ci_at h64 o w h false
 split
 ·exact ci_at h64 o w h true
 ·exact h
theorem ci_play {B:Int}:∀ {l:List Event} {N:Nat} {c:Cluster},64≤N->OkC N c->(∀ e∈l,OkE e)->CW B c->CI B c->CI B (playC c l)
 | [],_,_,_,_,_,_,h=>h
 | e :: l,_,_,h64,o,he,w,h=>ci_play (l:=l) (by omega) (okC_do o h64 (he e (by simp))) (fun x hx=>he x (by simp [hx])) (cw_do h64 o (he e (by simp)) w) (ci_do h64 o w h)
theorem ci_reach {b:Int} {l:List Event} (he:∀ e∈l,OkE e):CI (1+b % 4) (reachC b l):=by
 have nr:∀ (i:Int) (d:Disk),NI (1+b % 4) ⟨i,false,⟨d,zS,0⟩,false,0,0,zeroH,false,zR,false,0,0,false,[],[]⟩:=fun i d=>⟨fun _=>rfl,fun _=>rfl,fun x=>absurd x (by show ¬ ((0:Int)=4);decide)⟩
 have hc:CI (1+b % 4) (newC (1+b % 4) 7).1:=by
  unfold newC
  split
  ·exact⟨nr 0 noD,nr 0 noD,fun _=>⟨rfl,rfl⟩⟩
  ·exact⟨ni_attach (nr 0 _),ni_attach (nr 1 _),fun _=>⟨attach0 rfl,attach0 rfl⟩⟩
 have w0:CW (1+b % 4) (reachC b []):=cw_reach (l:=[]) (fun x h=>by cases h)
 exact ci_play (N:=64) (by omega) okC_new he w0 hc
end Gm

set_option maxRecDepth 100000
namespace Gm
open Go
def yyy:Str:=[121,121,121,121,121,121,121,121]
theorem val_wipe {s:Store} {i:Int} {x:Nat} {P:Str->Prop} (h:Val s.disk x P) (hx:x≠1):Val (stWipe s i).1.disk x P:=by
 have hn:∀ m,Val (noteV s.disk m).1 x P:=by
  intro m
  unfold noteV
  split
  ·exact val_write h (fun e=>by omega)
  ·exact h
 unfold stWipe
 split
 ·unfold stNote
  split
  ·exact h
  ·exact hn _
 ·exact h
theorem clr_bit {m i:Int} (k:Nat) (hk:(k:Int)≠i) (hi:0≤i):(clrM m i).toNat.testBit k=m.toNat.testBit k:=by
 unfold clrM
 split
 ·rename_i hh
  unfold hasM at hh
  obtain ⟨h1,h2⟩:=Bool.and_eq_true_iff.1 hh
  obtain ⟨h3,h4,h5⟩:=sub_bit h2
  have hp:=Nat.two_pow_pos i.toNat
  have e:(m - ((2 ^ i.toNat:Nat):Int)).toNat=m.toNat - 2 ^ i.toNat:=by
   generalize 2 ^ i.toNat=p at h3 hp
   omega
  rw [e]
  have hki:i.toNat≠k:=by omega
  conv=>rhs;rw [h5]
  rw [Nat.testBit_or,Nat.testBit_two_pow_of_ne hki,Bool.or_false]
 ·rfl
theorem clr_gone {m i:Int} (hi:0≤i∧i < 32):(clrM m i).toNat.testBit i.toNat=false:=by
 unfold clrM
 split
 ·rename_i hh
  unfold hasM at hh
  obtain ⟨h1,h2⟩:=Bool.and_eq_true_iff.1 hh
  obtain ⟨h3,h4,h5⟩:=sub_bit h2
  have hp:=Nat.two_pow_pos i.toNat
  have e:(m - ((2 ^ i.toNat:Nat):Int)).toNat=m.toNat - 2 ^ i.toNat:=by
   generalize 2 ^ i.toNat=p at h3 hp
   omega
  rw [e]
  exact h4
 ·rename_i hh
  unfold hasM at hh
  cases hb:m.toNat.testBit i.toNat with
  | false=>rfl
  | true=>exact(hh (by rw [hb,Bool.and_true];exact decide_eq_true hi)).elim
theorem got_steps {n:Node} {b:Int} {data:Str} (hw:n.wanted=b+1) :
  gotN n b data=(let a:=keepN n (stPut n.store b data)
   if a.2=false then(a.1,[])else
    let c:=wipeN a.1 b
    if c.2=false then(c.1,[])else((seekN { c.1 with wanted:=0 }).1,sendO { c.1 with wanted:=0 } (pk 7 b []) :: (seekN { c.1 with wanted:=0 }).2)):=by
 unfold gotN
 rw [if_neg (fun e=>e hw)]
end Gm

set_option maxRecDepth 100000
namespace Gm
open Go
theorem bits_nodup (m:Int):(bitsM m).Nodup:=List.Nodup.sublist (List.filter_sublist) List.nodup_range
theorem bits_clr {m b:Int} (hb:0≤b):bitsM (clrM m b)=(bitsM m).erase b.toNat:=by
 rw [(bits_nodup m).erase_eq_filter]
 unfold bitsM
 rw [List.filter_filter]
 apply List.filter_congr
 intro k hk
 have hk:=List.mem_range.1 hk
 by_cases e:k=b.toNat
 ·subst e
  rw [clr_gone ⟨hb,by omega⟩]
  simp
 ·rw [clr_bit k (by omega) hb]
  simp [e]
theorem bits_most {m b:Int} (hb:0≤b):(bitsM m).length≤(bitsM (clrM m b)).length+1:=by
 rw [bits_clr hb,List.length_erase]
 split <;> omega
theorem bits_fewer {m b:Int} (hb:0≤b) (h:hasM m b=true):(bitsM (clrM m b)).length+1≤(bitsM m).length:=by
 unfold hasM at h
 obtain ⟨h1,h2⟩:=Bool.and_eq_true_iff.1 h
 have h1:=of_decide_eq_true h1
 have hm:b.toNat∈bitsM m:=List.mem_filter.2 ⟨List.mem_range.2 (by omega),h2⟩
 have:=List.length_pos_of_mem hm
 rw [bits_clr hb,List.length_erase_of_mem hm]
 omega
theorem bits_32 (m:Int):(bitsM m).length≤32:=by
 have:=List.length_filter_le (fun i=>m.toNat.testBit i) (List.range 32)
 rwa [List.length_range] at this
theorem next_has {m:Int} (h:(nextM m).2=true):hasM m (nextM m).1=true:=by
 unfold nextM at h ⊢
 split
 ·rename_i i r hb
  have:i∈bitsM m:=by rw [hb];simp
  obtain ⟨h1,h2⟩:=List.mem_filter.1 this
  have h1:=List.mem_range.1 h1
  unfold hasM
  rw [Bool.and_eq_true]
  exact⟨decide_eq_true (by omega),by rw [Int.toNat_natCast];exact h2⟩
 ·rename_i hb
  rw [hb] at h
  cases h
theorem nextM_none {m:Int} (hm:inK .u32 m) (h:(nextM m).2=false):m=0∧bitsM m=[]:=by
 have hb:bitsM m=[]:=by
  unfold nextM at h
  split at h
  ·cases h
  ·rename_i hb;exact hb
 refine⟨?_,hb⟩
 obtain ⟨h1,h2⟩:=u32_toNat hm
 have:m.toNat=0:=by
  apply Nat.eq_of_testBit_eq
  intro k
  rw [Nat.zero_testBit]
  by_cases hk:k < 32
  ·cases e:m.toNat.testBit k with
   | false=>rfl
   | true=>
    have:k∈bitsM m:=List.mem_filter.2 ⟨List.mem_range.2 hk,e⟩
    rw [hb] at this
    cases this
  ·refine Nat.testBit_lt_two_pow ?_
   have:2 ^ 32≤2 ^ k:=Nat.pow_le_pow_right (by decide) (by omega)
   have h4:(2:Nat) ^ 32=4294967296:=by decide
   omega
 omega
theorem bit_lt {m B:Int} (hr:maskR m.toNat B=true) {k:Nat} (hbit:m.toNat.testBit k=true):(k:Int) < B:=by
 unfold maskR at hr
 have hr:=of_decide_eq_true hr
 have h1:=Nat.ge_two_pow_of_testBit hbit
 by_cases hi:(k:Int) < B
 ·exact hi
 ·have h2:2 ^ B.toNat≤2 ^ k:=Nat.pow_le_pow_right (by decide) (by omega)
  have h3:((2 ^ B.toNat:Nat):Int)=(2:Int) ^ B.toNat:=by simp
  have:=hr.2.2
  rw [← h3] at this
  omega
def IncY (y:Str):Prop:=∃ s:Super,y=sealV (sBytes s)∧s.inc=true
def WholeD (m0:Int) (d:Disk):Prop:=∀ k:Nat,m0.toNat.testBit k=true->Val d (k+2) (fun y=>y=yyy)
def Fin3 (m0:Int) (d:Disk):Prop:=Val d 0 IncY∨WholeD m0 d
structure Rnd (B m0:Int) (j:Nat) (n:Node):Prop where
 ok:OkN (2000+4 * j) n
 up:n.up=true
 u:UpS B n.store
 st:n.state=4
 inc:n.store.sup.inc=true
 wa:1≤n.wanted∧n.wanted≤B
 cp:∀ k:Nat,m0.toNat.testBit k=true->n.store.mask.toNat.testBit k=true∨Val n.store.disk (k+2) (fun y=>y=yyy)
 cnt:(bitsM m0).length≤j+(bitsM n.store.mask).length
 b5:j=0∨(hasM n.store.mask (n.wanted - 1)=true∧j+(bitsM n.store.mask).length≤33)
theorem Rnd.few {B m0:Int} {j:Nat} {n:Node} (h:Rnd B m0 j n):j≤32:=by
 rcases h.b5 with e | ⟨e1,e2⟩
 ·omega
 ·have:=bits_fewer (m:=n.store.mask) (b:=n.wanted - 1) (by have:=h.wa;omega) e1
  omega
structure EndY (m0:Int) (j:Nat) (n:Node):Prop where
 up:n.up=true
 inc:n.store.sup.inc=false
 mask:n.store.mask=0
 wa:n.wanted=0
 cnt:(bitsM m0).length≤j
structure EndX (B m0:Int) (n:Node):Prop where
 up:n.up=false
 dw:DW B n.store.disk
 fin:Fin3 m0 n.store.disk
theorem wipe_mask {s:Store} {B b:Int} (u:UpS B s) (hb:0≤b∧b < B) (e:(stWipe s b).2=0):(stWipe s b).1.mask=clrM s.mask b:=by
 have hc:0≤b∧b < s.sup.blocks:=by rw [u.bl];exact hb
 unfold stWipe at e ⊢
 rw [if_pos hc] at e ⊢
 unfold stNote at e ⊢
 split
 ·rename_i c;exact c.symm
 ·rename_i c
  rw [if_neg c] at e
  exact if_pos e
theorem inc_val {B:Int} {s:Store} (u:UpS B s) (hi:s.sup.inc=true):Val s.disk 0 IncY:=u.sb.imp (fun _ e=>⟨s.sup,e,hi⟩)
theorem endX_keep {B m0:Int} {n:Node} {r:Store×Int} (h:SR B r) (e:r.2≠0) (f:Fin3 m0 r.1.disk):EndX B m0 (keepN n r).1:=by
 have q:(keepN n r).1=downN (setSt n r.1):=by unfold keepN;rw [if_neg e]
 rw [q]
 exact⟨rfl,dw_crash h.1,f⟩
theorem seek_next {n:Node} (hi:n.store.sup.inc=true) (hw:n.wanted=0) (e:(nextM n.store.mask).2=true):(seekN n).1 = { n with wanted:=(nextM n.store.mask).1+1 }:=by
 unfold seekN
 rw [if_neg (fun c=>c.elim (fun c=>by rw [hi] at c;cases c) (fun c=>c hw)),if_pos e]
theorem seek_last {n:Node} (hi:n.store.sup.inc=true) (hw:n.wanted=0) (e:(nextM n.store.mask).2=false):(seekN n).1=(keepN n (stCommit n.store ⟨n.store.sup.blocks,retire n.peer.vector,false,false,false⟩)).1:=by
 unfold seekN
 rw [if_neg (fun c=>c.elim (fun c=>by rw [hi] at c;cases c) (fun c=>c hw)),if_neg (by rw [e];simp)]
 dsimp only
 split <;> rfl
theorem round_got {B m0:Int} {j:Nat} {n:Node} (h:Rnd B m0 j n) :
  Rnd B m0 (j+1) (gotN n (n.wanted - 1) yyy).1∨EndY m0 (j+1) (gotN n (n.wanted - 1) yyy).1∨EndX B m0 (gotN n (n.wanted - 1) yyy).1:=by
 have hw:=h.wa
 have og:OkN (2000+4 * (j+1)) (gotN n (n.wanted - 1) yyy).1:=by
  have:=okN_got (b:=n.wanted - 1) (data:=yyy) h.ok (by omega)
  rwa [show 2000+4 * (j+1)=2000+4 * j+4 by omega]
 have hb:0≤n.wanted - 1∧n.wanted - 1 < B:=by omega
 have hb5:=h.b5
 have eb:n.wanted=(n.wanted - 1)+1:=by omega
 revert og
 rw [got_steps eb]
 generalize n.wanted - 1=b at hb hb5 eb ⊢
 have hB:=h.u.dw.one
 have sp:=sr_put (i:=b) (data:=yyy) h.u
 have v0:Val (stPut n.store b yyy).1.disk 0 IncY:=val_put h.u.dw.sec (inc_val h.u h.inc) (fun e=>by omega)
 dsimp only
 by_cases e1:(stPut n.store b yyy).2=0
 case neg=>
  have q:(keepN n (stPut n.store b yyy)).2=false:=by unfold keepN;rw [if_neg e1]
  rw [if_pos q]
  exact fun _=>.inr (.inr (endX_keep sp e1 (.inl v0)))
 have q:keepN n (stPut n.store b yyy)=(setSt n (stPut n.store b yyy).1,true):=by unfold keepN;rw [if_pos e1]
 rw [q,if_neg (by simp)]
 have u1:=sp.2 e1
 have last:∀ k:Nat,(k:Int)=b->Val (stPut n.store b yyy).1.disk (k+2) (fun y=>y=yyy):=fun k hk=>put_last (by omega) e1
 have cp1:∀ k:Nat,m0.toNat.testBit k=true->(k:Int)=b∨n.store.mask.toNat.testBit k=true∨Val (stPut n.store b yyy).1.disk (k+2) (fun y=>y=yyy):=by
  intro k hk
  rcases h.cp k hk with c | c
  ·exact .inr (.inl c)
  ·exact .inr (.inr (val_put h.u.dw.sec c (fun _=>rfl)))
 have hi1:(stPut n.store b yyy).1.sup.inc=true:=h.inc
 have hm1:(stPut n.store b yyy).1.mask=n.store.mask:=rfl
 have o1:OkS (2000+4 * j+1) (stPut n.store b yyy).1:=okS_put (i:=b) (data:=yyy) h.ok.st (by omega)
 generalize (stPut n.store b yyy).1=s1 at u1 last cp1 hi1 hm1 o1 ⊢
 have sw:=sr_wipe (i:=b) u1 o1.m
 have w0:Val (stWipe s1 b).1.disk 0 IncY:=val_wipe (inc_val u1 hi1) (by decide)
 have es:wipeN (setSt n s1) b=keepN (setSt n s1) (stWipe s1 b):=rfl
 rw [es]
 by_cases e2:(stWipe s1 b).2=0
 case neg=>
  have q:(keepN (setSt n s1) (stWipe s1 b)).2=false:=by unfold keepN;rw [if_neg e2]
  rw [if_pos q]
  exact fun _=>.inr (.inr (endX_keep sw e2 (.inl w0)))
 have q2:keepN (setSt n s1) (stWipe s1 b)=(setSt n (stWipe s1 b).1,true):=by unfold keepN;rw [if_pos e2];rfl
 rw [q2,if_neg (by simp)]
 have u2:=sw.2 e2
 have hm2:(stWipe s1 b).1.mask=clrM n.store.mask b:=by rw [wipe_mask u1 hb e2,hm1]
 have hi2:(stWipe s1 b).1.sup.inc=true:=by rw [wipe_sup];exact hi1
 have o2:OkS (2000+4 * j+1+1) (stWipe s1 b).1:=okS_wipe (i:=b) o1 (by omega)
 have cp2:∀ k:Nat,m0.toNat.testBit k=true->(stWipe s1 b).1.mask.toNat.testBit k=true∨Val (stWipe s1 b).1.disk (k+2) (fun y=>y=yyy):=by
  intro k hk
  by_cases hkb:(k:Int)=b
  ·exact .inr (val_wipe (last k hkb) (by omega))
  ·rcases cp1 k hk with c | c | c
   ·exact(hkb c).elim
   ·exact .inl (by rw [hm2,clr_bit k hkb hb.1];exact c)
   ·exact .inr (val_wipe c (by omega))
 have c2:(bitsM m0).length≤(j+1)+(bitsM (stWipe s1 b).1.mask).length:=by
  have:=h.cnt
  have:=bits_most (m:=n.store.mask) hb.1
  rw [hm2]
  omega
 have b2:(j+1)+(bitsM (stWipe s1 b).1.mask).length≤33:=by
  rw [hm2]
  rcases hb5 with e | ⟨x1,x2⟩
  ·have h3:=bits_32 (clrM n.store.mask b)
   omega
  ·have:=bits_fewer hb.1 x1
   omega
 generalize (stWipe s1 b).1=s2 at u2 hm2 hi2 o2 cp2 c2 b2 ⊢
 have hi3:({ setSt n s2 with wanted:=0 }:Node).store.sup.inc=true:=hi2
 by_cases e3:(nextM s2.mask).2=true
 ·have e4:(nextM ({ setSt n s2 with wanted:=0 }:Node).store.mask).2=true:=e3
  rw [seek_next hi3 rfl e4]
  intro og
  have nl:=next_lt u2.mb e3
  have nb:=next_bound s2.mask
  refine .inl ⟨og,h.up,u2,h.st,hi2,by show 1≤(nextM s2.mask).1+1∧(nextM s2.mask).1+1≤B;omega,cp2,c2,.inr ⟨?_,b2⟩⟩
  show hasM s2.mask ((nextM s2.mask).1+1 - 1)=true
  rw [show (nextM s2.mask).1+1 - 1=(nextM s2.mask).1 by omega]
  exact next_has e3
 ·have e3:(nextM s2.mask).2=false:=by simpa using e3
  have e4:(nextM ({ setSt n s2 with wanted:=0 }:Node).store.mask).2=false:=e3
  rw [seek_last hi3 rfl e4]
  intro _
  obtain ⟨z1,z2⟩:=nextM_none o2.m e3
  have wh:WholeD m0 s2.disk:=by
   intro k hk
   rcases cp2 k hk with c | c
   ·rw [z1] at c
    simp at c
   ·exact c
  have sc:SR B (stCommit s2 ⟨s2.sup.blocks,retire n.peer.vector,false,false,false⟩):=sr_commit u2 ⟨o2.b,retire_vec h.ok.pe.2.1⟩
  show _∨EndY m0 (j+1) (keepN { setSt n s2 with wanted:=0 } (stCommit s2 ⟨s2.sup.blocks,retire n.peer.vector,false,false,false⟩)).1∨EndX B m0 (keepN { setSt n s2 with wanted:=0 } (stCommit s2 ⟨s2.sup.blocks,retire n.peer.vector,false,false,false⟩)).1
  by_cases e5:(stCommit s2 ⟨s2.sup.blocks,retire n.peer.vector,false,false,false⟩).2=0
  ·have hs:=commit_inc e5
   have hmk:(stCommit s2 ⟨s2.sup.blocks,retire n.peer.vector,false,false,false⟩).1.mask=s2.mask:=by unfold stCommit;split <;> rfl
   have q:(keepN { setSt n s2 with wanted:=0 } (stCommit s2 ⟨s2.sup.blocks,retire n.peer.vector,false,false,false⟩)).1=setSt { setSt n s2 with wanted:=0 } (stCommit s2 ⟨s2.sup.blocks,retire n.peer.vector,false,false,false⟩).1:=by unfold keepN;rw [if_pos e5]
   rw [q]
   refine .inr (.inl ⟨h.up,?_,?_,rfl,?_⟩)
   ·show(stCommit s2 ⟨s2.sup.blocks,retire n.peer.vector,false,false,false⟩).1.sup.inc=false
    rw [hs]
   ·show(stCommit s2 ⟨s2.sup.blocks,retire n.peer.vector,false,false,false⟩).1.mask=0
    rw [hmk,z1]
   ·rw [z2] at c2
    exact c2
  ·refine .inr (.inr (endX_keep sc e5 (.inr fun k hk=>val_commit u2.dw.sec (wh k hk) (by omega))))
theorem read_in3 {B b:Int} {d:Disk} (h:DW B d) (hd:d.dead=false) (hc:∀ w∈d.cache,w.sector=1) (hb:0≤b∧b < B) :
  ∃ y,d.sure[b.toNat+2]? = some y∧aReadV d b=(y,0):=by
 have hl:=h.len
 have hx:b.toNat+2 < d.sure.length:=by omega
 refine⟨d.sure[b.toNat+2],List.getElem?_eq_getElem hx,?_⟩
 have g:=(h.val (b.toNat+2)).1 _ (List.getElem?_eq_getElem hx)
 have r:readV d (b+2)=(d.sure[b.toNat+2],0):=by
  have:=read_sec hd hx (fun w m=>by rw [hc w m];omega)
  rwa [show ((b.toNat+2:Nat):Int)=b+2 by omega] at this
 unfold aReadV
 rw [if_pos (show bd d b from ⟨by omega,by omega⟩),r,if_neg (by simp),if_pos (g.2.2 (by omega))]
theorem sBytes_inc {a b:Super} (h:sBytes a=sBytes b):a.inc=b.inc:=by
 have e:∀ s:Super,(sBytes s).getD 4 0=UInt8.ofNat (fv [s.inc,s.pri,s.dis]):=fun s=>by
  unfold sBytes
  rfl
 have h4:=e a
 rw [h,e b] at h4
 revert h4
 cases a.inc <;> cases a.pri <;> cases a.dis <;> cases b.inc <;> cases b.pri <;> cases b.dis <;> decide
theorem fin3_found {B m0:Int} {d:Disk} (h:DW B d) (f:Fin3 m0 d) (hm:maskR m0.toNat B=true) (keeps:List Bool) :
  ∃ s:Store,stAttach (reviveV d keeps)=(s,0)∧(s.sup.inc=true∨∀ k:Nat,m0.toNat.testBit k=true->stRead s (k:Int)=(yyy,0)):=by
 have hd:DW B (reviveV d keeps):=dw_revive h keeps
 obtain ⟨s,m,e,_,_,_,h0,_⟩:=attach_dw hd rfl rfl
 refine⟨_,e,?_⟩
 rcases f with f | f
 ·left
  obtain ⟨s',q1,q2⟩:=(val_revive h.sec f keeps).1 _ h0
  have q3:openV (sealV (sBytes s))=openV (sealV (sBytes s')):=by rw [q1]
  rw [openV_seal,openV_seal] at q3
  show s.inc=true
  rw [sBytes_inc (Prod.mk.inj q3).1]
  exact q2
 ·right
  intro k hk
  have hkB:=bit_lt hm hk
  obtain ⟨y,hy,hr⟩:=read_in3 hd rfl (fun w m=>by cases m) ⟨by omega,hkB⟩
  have hv:=(val_revive h.sec (f k hk) keeps).1 y hy
  subst hv
  exact hr
theorem bitsI_mem {m x:Int} (h:x∈bitsI m 32):∃ k:Nat,x=(k:Int)∧m.toNat.testBit k=true:=by
 unfold bitsI at h
 obtain ⟨k,hk,rfl⟩:=List.mem_map.1 h
 exact⟨k,rfl,(List.mem_filter.1 hk).2⟩
theorem bitsI_bits (m:Int):(bitsI m 32).length=(bitsM m).length:=by
 unfold bitsI bitsM
 rw [List.length_map]
end Gm

set_option maxRecDepth 100000
namespace Gm
open Go
theorem diskSame_ok {d:Disk} (h1:d.sure.length≤1000000) (h2:d.cache.length≤1000000) {K:Bool->Prop} (k:K true):q175.F d d K:=by
 unfold q175.F
 refine cond_f (by simp) (cond_f (by simp) (cond_f (by simp) (cond_f (by simp) ?_)))
 refine loop_ok (I:=fun x:q175.L0=>∃ j:Nat,j≤d.sure.length∧x=⟨j,d,d⟩) (m:=fun x:q175.L0=>d.sure.length - x.i.toNat) ?_ ⟨0,by omega,rfl⟩
 rintro _ ⟨j,hj,rfl⟩ rec hrec
 unfold q175.b0
 dsimp only
 refine cond_ok (fun h=>?_) (fun _=>?_)
 ·have hlt:=lt_of_dec h
  rw [wrap_lt hlt (by unfold big;omega)]
  exact oget_ok (getI_ok hlt) (oget_ok (getI_ok hlt) (cond_f (by simp) (hrec _ ⟨j+1,hlt,rfl⟩ (by dsimp only;omega))))
 ·refine loop_ok (I:=fun x:q175.L2=>∃ j:Nat,j≤d.cache.length∧x=⟨j,d,d⟩) (m:=fun x:q175.L2=>d.cache.length - x.i.toNat) ?_ ⟨0,by omega,rfl⟩
  rintro _ ⟨j,hj,rfl⟩ rec hrec
  unfold q175.b2
  dsimp only
  refine cond_ok (fun h=>?_) (fun _=>k)
  have hlt:=lt_of_dec h
  rw [wrap_lt hlt (by unfold big;omega)]
  exact oget_ok (getI_ok hlt) (oget_ok (getI_ok hlt) (cond_f (by simp) (hrec _ ⟨j+1,hlt,rfl⟩ (by dsimp only;omega))))
theorem storeSame_ok {s:Store} (h1:s.disk.sure.length≤1000000) (h2:s.disk.cache.length≤1000000) {K:Bool->Prop} (k:K true):q176.F s s K:=by
 unfold q176.F q176.FV
 refine diskSame_ok h1 h2 (cond_t rfl (cond_t (by simp) ?_))
 rw [beq_self_eq_true]
 exact k
theorem drawsSame_ok {l:List Int} (h:l.length≤1000000) {K:Bool->Prop} (k:K true):q177.F l l K:=by
 unfold q177.F
 refine cond_f (by simp) ?_
 refine loop_ok (I:=fun x:q177.L0=>∃ j:Nat,j≤l.length∧x=⟨l,l,j⟩) (m:=fun x:q177.L0=>l.length - x.i.toNat) ?_ ⟨0,by omega,rfl⟩
 rintro _ ⟨j,hj,rfl⟩ rec hrec
 unfold q177.b0
 dsimp only
 refine cond_ok (fun h=>?_) (fun _=>k)
 have hlt:=lt_of_dec h
 rw [wrap_lt hlt (by unfold big;omega)]
 exact oget_ok (getI_ok hlt) (oget_ok (getI_ok hlt) (cond_f (by simp) (hrec _ ⟨j+1,hlt,rfl⟩ (by dsimp only;omega))))
theorem mintsSame_ok {l:List Mint} (h:l.length≤1000000) {K:Bool->Prop} (k:K true):q178.F l l K:=by
 unfold q178.F
 refine cond_f (by simp) ?_
 refine loop_ok (I:=fun x:q178.L0=>∃ j:Nat,j≤l.length∧x=⟨l,l,j⟩) (m:=fun x:q178.L0=>l.length - x.i.toNat) ?_ ⟨0,by omega,rfl⟩
 rintro _ ⟨j,hj,rfl⟩ rec hrec
 unfold q178.b0
 dsimp only
 refine cond_ok (fun h=>?_) (fun _=>k)
 have hlt:=lt_of_dec h
 rw [wrap_lt hlt (by unfold big;omega)]
 exact oget_ok (getI_ok hlt) (oget_ok (getI_ok hlt) (cond_f (by simp) (hrec _ ⟨j+1,hlt,rfl⟩ (by dsimp only;omega))))
theorem nodeSame_ok {N:Nat} {n:Node} (hN:N≤1000000) (o:OkN N n) {K:Bool->Prop} (k:K true):q179.F n n K:=by
 unfold q179.F q179.FV
 have h1:=o.st.d.s
 have h2:=o.st.d.c
 have h3:=o.dl
 have h4:=o.ml
 refine storeSame_ok (by omega) (by omega) (cond_f rfl (drawsSame_ok (by omega) (cond_f rfl (mintsSame_ok (by omega) (cond_f rfl ?_)))))
 refine cond_t (by simp) (cond_t (by simp) (cond_t (by simp) (cond_t (by simp) (cond_t (by simp) (cond_t (by simp) (cond_t (by simp) (cond_t (by simp) (cond_t (by simp) (cond_t (by simp) (cond_t (by simp) ?_))))))))))
 rw [beq_self_eq_true]
 exact k
theorem ctz_bits {m:Nat} (h0:m≠0) (h:m < 2 ^ 32):Lib.ctz 32 m < 32∧m.testBit (Lib.ctz 32 m)=true∧∀ j,j < Lib.ctz 32 m->m.testBit j=false:=by
 have e:Lib.ctz 32 m=Lib.ctzFrom 32 m:=by unfold Lib.ctz;rw [if_neg h0]
 obtain ⟨q,h1,h2⟩:=Lib.ctzFrom_spec 32 m (by omega) h
 rw [e]
 generalize Lib.ctzFrom 32 m=c at h1 h2 ⊢
 subst h1
 refine⟨h2,?_,fun j hj=>?_⟩
 ·rw [Nat.mul_comm,Nat.testBit_mul_two_pow]
  simp [Nat.testBit_zero]
 ·rw [Nat.mul_comm,Nat.testBit_mul_two_pow]
  simp only [show ¬ (c≤j) by omega,decide_false,Bool.false_and]
theorem Next_ok {m:Int} (hm:inK .u32 m) {K:(Int×Bool)->Prop} (k:K (nextM m)):q163.F m 0 K:=by
 obtain ⟨h1,h2⟩:=u32_toNat hm
 have e:ishl .u32 (ishr .u32 m (maxI2 0 0)) (maxI2 0 0)=m:=by
  have hr:ishr .u32 m (maxI2 0 0)=m:=by
   show m.fdiv (2 ^ 0)=m
   simp
  rw [hr]
  show IntKind.u32.wrap (m * 2 ^ 0)=m
  rw [wrap_u32]
  have:(0:Int)≤m∧m≤4294967295:=hm
  omega
 unfold q163.F q163.FV
 rw [e]
 refine cond_f (by decide) (cond_t (by decide) (cond_t (by decide) (cond_ok (fun h=>?_) (fun h=>?_))))
 ·have h:m=0:=eq_t h
  subst h
  exact use_eq k (next_none (fun j _=>by simp))
 ·have h:=eq_f h
  obtain ⟨c1,c2,c3⟩:=ctz_bits (m:=m.toNat) (by omega) (by simpa using h1)
  unfold math_bits_TrailingZeros32.F
  have h0:0≤m:=hm.1
  refine cond_t (by simp;omega) ?_
  exact use_eq k (next_at c1 c2 c3)
end Gm

set_option maxRecDepth 100000
namespace Gm
open Go
theorem Retire_ok {v:Vec} {K:Vec->Prop} (k:K (retire v)):q164.F v K:=by
 unfold q164.F
 unfold retire at k
 refine cond_ok (fun h=>?_) (fun h=>?_)
 ·rw [if_neg (ne_t h)] at k;exact k
 ·rw [if_pos (ne_f h)] at k;exact k
theorem diskRead_ok {N:Nat} {d:Disk} {i:Int} (hN:N≤100000) (o:OkD N d) {K:(Str×Int)->Prop} (k:K (readV d i)):disk_Read.F d i K:=by
 have h1:=o.s
 have h2:=o.c
 unfold disk_Read.F
 refine cond_t ?_ k
 rw [Bool.and_eq_true]
 exact⟨Nat.ble_eq_true_of_le (by omega),Nat.ble_eq_true_of_le (by omega)⟩
theorem areaRead_ok {N:Nat} {d:Disk} {i:Int} (hN:N≤100000) (o:OkD N d) {K:(Str×Int)->Prop} (k:K (aReadV d i)):q129.F d i K:=by
 have hs:=o.s
 unfold q129.F q129.FV
 unfold aReadV at k
 refine area_there_ok (by omega) (cond_ok (fun h=>?_) (fun h=>?_))
 ·rw [if_neg (of_decide_eq_false (not_t h))] at k;exact k
 have hb:=of_decide_eq_true (not_f h)
 rw [if_pos hb] at k
 rw [add2 (by omega) hb]
 refine diskRead_ok hN o (cond_ok (fun h=>?_) (fun h=>?_))
 ·rw [if_pos (ne_t h)] at k;exact k
 rw [if_neg (fun e=>e (ne_f h))] at k
 refine cond_ok (fun h=>?_) (fun h=>?_)
 ·rw [if_neg (bne_nat (b:=8) h)] at k;exact k
 ·rw [if_pos (bne_nat' (b:=8) h)] at k;exact k
section
variable {N:Nat} {n:Node} (hN:N≤6900) (h64:64≤N) (o:OkN N n)
include hN h64 o
omit h64 in
theorem GiveP_ok {b:Int} {K:NO->Prop} (k:K (giveN n b)):q148.F n b K:=by
 unfold q148.F q148.FV q130.F q130.FV
 refine areaRead_ok (by omega) o.st.d ?_
 refine packet_Encode_ok (by exact wZH) (by exact o.se) (gd_ok out1 ?_)
 exact k
theorem CopiedP_ok {b:Int} {K:NO->Prop} (k:K (copiedN n b)):q171.F n b K:=by
 unfold q171.F q171.FV
 unfold copiedN wipeN keepN at k
 refine cond_ok (fun h=>?_) (fun h=>?_)
 ·rw [if_neg (fun e=>nt (not_t h) e.1)] at k
  refine storeWipe_ok (by omega) h64 o.st (cond_ok (fun h=>?_) (fun h=>?_))
  ·rw [if_neg (ne_t h)] at k;exact nodeDown_ok k
  ·rw [if_pos (ne_f h)] at k;exact k
 refine cond_ok (fun h2=>?_) (fun h2=>?_)
 ·rw [if_neg (fun e=>ne_t h2 e.2)] at k
  refine storeWipe_ok (by omega) h64 o.st (cond_ok (fun h=>?_) (fun h=>?_))
  ·rw [if_neg (ne_t h)] at k;exact nodeDown_ok k
  ·rw [if_pos (ne_f h)] at k;exact k
 ·rw [if_pos ⟨not_f h,ne_f h2⟩] at k;exact k
theorem EndedP_ok {K:NO->Prop} (k:K (endedN n)):q172.F n K:=by
 unfold q172.F q172.FV
 unfold endedN commitN keepN at k
 dsimp only at k
 refine Retire_ok (storeCommit_ok (b:={ n.store.sup with vector:=retire n.store.sup.vector,pri:=n.primary }) (by omega) h64 o.st ⟨o.st.b,retire_vec o.st.v⟩ (cond_ok (fun h=>?_) (fun h=>?_)))
 ·have h:=ne_t h
  rw [if_neg h] at k
  exact nodeDown_ok (cond_f (ne0 h) k)
 ·have h:=ne_f h
  rw [if_pos h] at k
  refine cond_t (eq0 h) (packet_Encode_ok (by exact wZH) (by exact o.se) (gd_ok out1 ?_))
  exact k
omit hN h64 o in
theorem DoneP_ok {K:Node->Prop} (k:K (doneN n)):q173.F n K:=k
omit hN h64 o in
theorem next_wrap {m:Int}:IntKind.i64.wrap ((nextM m).1+1)=(nextM m).1+1:=by
 have:=next_bound m
 exact wrap_i64 (by omega)
theorem SeekP_ok {K:NO->Prop} (k:K (seekN n)):q174.F n K:=by
 unfold q174.F q174.FV
 unfold seekN commitN keepN at k
 dsimp only at k
 refine cond_ok (fun h=>?_) (fun h=>?_)
 ·rw [if_pos (.inl (not_t h))] at k;exact k
 refine cond_ok (fun h2=>?_) (fun h2=>?_)
 ·rw [if_pos (.inr (ne_t h2))] at k;exact k
 rw [if_neg (fun e=>e.elim (nf (not_f h)) (fun e=>e (ne_f h2)))] at k
 refine Next_ok o.st.m (cond_ok (fun h3=>?_) (fun h3=>?_))
 ·rw [if_pos h3] at k
  rw [next_wrap]
  refine packet_Encode_ok (by exact wZH) (by exact o.se) (gd_ok out1 ?_)
  exact k
 ·rw [if_neg (nt h3)] at k
  refine Retire_ok (storeCommit_ok (b:=⟨n.store.sup.blocks,retire n.peer.vector,false,false,false⟩) (by omega) h64 o.st ⟨o.st.b,retire_vec o.pe.2.1⟩ (cond_ok (fun h=>?_) (fun h=>?_)))
  ·have h:=ne_t h
   rw [if_neg h] at k
   exact nodeDown_ok (cond_f (ne0 h) k)
  ·have h:=ne_f h
   rw [if_pos h] at k
   refine cond_t (eq0 h) (packet_Encode_ok (by exact wZH) (by exact o.se) (gd_ok out1 ?_))
   exact k
theorem GotP_ok {b:Int} (hb:0≤b∧b < 9223372036854775807) {data:Str} {K:NO->Prop} (k:K (gotN n b data)):q170.F n b data K:=by
 unfold q170.F q170.FV
 rw [wrap_i64 (by omega)]
 unfold gotN at k
 refine cond_ok (fun h=>?_) (fun h=>?_)
 ·rw [if_pos (ne_t h)] at k;exact k
 rw [if_neg (fun e=>e (ne_f h))] at k
 dsimp only at k
 have op:=okS_put (i:=b) (data:=data) o.st h64
 refine storePut_ok (by omega) h64 o.st (cond_ok (fun h1=>?_) (fun h1=>?_))
 ·have h1:=ne_t h1
  have e:keepN n (stPut n.store b data)=(downN (setSt n (stPut n.store b data).1),false):=by unfold keepN;rw [if_neg h1]
  rw [e,if_pos rfl] at k
  exact nodeDown_ok (cond_t (by rw [ne0 h1];rfl) k)
 have h1:=ne_f h1
 have e:keepN n (stPut n.store b data)=(setSt n (stPut n.store b data).1,true):=by unfold keepN;rw [if_pos h1]
 rw [e,if_neg (by simp)] at k
 refine cond_f (by rw [eq0 h1];rfl) (storeWipe_ok (N:=N+1) (by omega) (by omega) op (cond_ok (fun h2=>?_) (fun h2=>?_)))
 ·have h2:=ne_t h2
  have e:wipeN (setSt n (stPut n.store b data).1) b=(downN (setSt n (stWipe (stPut n.store b data).1 b).1),false):=by unfold wipeN keepN;exact if_neg h2
  rw [e,if_pos rfl] at k
  exact nodeDown_ok (cond_t (by rw [ne0 h2];rfl) k)
 have h2:=ne_f h2
 have e:wipeN (setSt n (stPut n.store b data).1) b=(setSt n (stWipe (stPut n.store b data).1 b).1,true):=by unfold wipeN keepN;exact if_pos h2
 rw [e,if_neg (by simp)] at k
 have ow:=okS_wipe (i:=b) op (by omega)
 refine cond_f (by rw [eq0 h2];rfl) (packet_Encode_ok (by exact wZH) (by exact o.se) (gd_ok out1 ?_))
 dsimp only at k
 unfold seekN commitN keepN setSt at k
 dsimp only at k
 refine cond_ok (fun h=>?_) (fun h=>?_)
 ·rw [if_pos (.inl (not_t h))] at k;exact k
 rw [if_neg (fun e=>e.elim (nf (not_f h)) (fun e=>e rfl))] at k
 refine Next_ok ow.m (cond_ok (fun h3=>?_) (fun h3=>?_))
 ·rw [if_pos h3] at k
  rw [next_wrap]
  refine packet_Encode_ok (by exact wZH) (by exact o.se) (gd_ok (out_ok (by simp)) ?_)
  exact k
 ·rw [if_neg (nt h3)] at k
  refine Retire_ok (storeCommit_ok (N:=N+2) (b:=⟨(stWipe (stPut n.store b data).1 b).1.sup.blocks,retire n.peer.vector,false,false,false⟩) (by omega) (by omega) ow ⟨ow.b,retire_vec o.pe.2.1⟩ (cond_ok (fun h=>?_) (fun h=>?_)))
  ·have h:=ne_t h
   rw [if_neg h] at k
   exact nodeDown_ok (cond_f (ne0 h) k)
  ·have h:=ne_f h
   rw [if_pos h] at k
   refine cond_t (eq0 h) (packet_Encode_ok (by exact wZH) (by exact o.se) (gd_ok (out_ok (by simp)) ?_))
   exact k
end
end Gm

set_option maxRecDepth 100000
namespace Gm
open Go
theorem Side18_ok {c:Case} {K:Int->Prop} (k:K (bI c.side)):q182.F c K:=by
 unfold q182.F
 cases h:c.side <;> rw [h] at k
 ·exact k
 ·exact k
theorem Node18_ok {c:Case} (h0:0≤c.blocks) (hl:c.l.length≤100) (he:∀ e∈c.l,OkE e) {K:Node->Prop} (k:K (nodeC (reachC c.blocks c.l) c.side)):q183.F c K:=by
 unfold q183.F q183.FV
 refine Reach_ok h0 hl he (Side18_ok ?_)
 cases h:c.side <;> rw [h] at k
 ·exact cond_t rfl k
 ·exact cond_f rfl (cond_t rfl k)
def evS:List Event:=[⟨1,0,0,0,[],0,[]⟩,⟨13,0,0,0,[],9,[]⟩,⟨5,0,1,1,d8,0,[]⟩,⟨6,0,0,0,[],0,[]⟩,⟨6,1,0,0,[],0,[]⟩,⟨9,0,0,0,[],0,[]⟩,⟨9,1,0,0,[],0,[]⟩]
theorem evS_ok:∀ e∈evS,OkE e:=by
 intro e h
 simp only [evS,List.mem_cons,List.not_mem_nil,or_false] at h
 rcases h with rfl | rfl | rfl | rfl | rfl | rfl | rfl
 ·exact okE_lit u64_0
 ·exact okE_lit ⟨by decide,by decide⟩
 ·exact⟨u64_0,by decide,by decide⟩
 all_goals exact okE_lit u64_0
def z8:Str:=[122,122,122,122,122,122,122,122]
def srcN:Node:=(reachC 1 evS).n0
def tgtN:Node:=(reachC 1 evS).n1
theorem oS:OkN 274 srcN:=(okC_reach (b:=1) evS_ok).a
theorem oT:OkN 274 tgtN:=(okC_reach (b:=1) evS_ok).b
theorem started_ok {K:Cluster->Prop} (k:K (reachC 1 evS)):q127.F K:=by
 unfold q127.F q127.FV
 exact Reach_ok (l:=evS) (by decide) (by decide) evS_ok k
def gv:NO:=giveN srcN 1
def gt1:NO:=gotN tgtN 1 d8
def gt0:NO:=gotN tgtN 0 z8
def cp1:NO:=copiedN srcN 1
def en1:NO:=endedN cp1.1
def sk1:NO:=seekN tgtN
theorem oCp:OkN 278 cp1.1:=okN_copied oS (by decide)
theorem gv_len:((h0 gv.2).data).length≤10000:=of_decide_eq_true (by kernel_rfl)
theorem alive18_ok {K:Bool->Prop} (k:K true):q180.F K:=by
 unfold q180.F q180.FV
 refine started_ok ?_
 refine cond_f (show(srcN.state != 3)=false by kernel_rfl) (cond_f (show(tgtN.state != 4)=false by kernel_rfl) ?_)
 refine GiveP_ok (N:=274) (by decide) oS ?_
 refine GotP_ok (N:=274) (by decide) (by decide) oT (by decide) ?_
 refine GotP_ok (N:=274) (by decide) (by decide) oT (by decide) ?_
 refine CopiedP_ok (N:=274) (by decide) (by decide) oS ?_
 refine EndedP_ok (N:=278) (by decide) (by decide) oCp ?_
 refine DoneP_ok ?_
 refine SeekP_ok (N:=274) (by decide) (by decide) oT ?_
 refine cond_f (show((gv.2.length:Int) != 1)=false by kernel_rfl) ?_
 refine cond_f (show((gt1.2.length:Int) != 2)=false by kernel_rfl) ?_
 refine cond_f (show(IntKind.i64.wrap ((IntKind.i64.wrap ((gt0.2.length:Int)+(cp1.2.length:Int)))+(sk1.2.length:Int)) != 0)=false by kernel_rfl) ?_
 refine cond_f (show((en1.2.length:Int) != 1)=false by kernel_rfl) ?_
 refine oget_ok (show getI gv.2 0=some (h0 gv.2) by kernel_rfl) ?_
 refine ref13_Decode_ok gv_len ?_
 refine cond_t (show((decP (h0 gv.2).data).2==0)=true by kernel_rfl) ?_
 refine cond_t (show((decP (h0 gv.2).data).1.kind==6)=true by kernel_rfl) ?_
 refine cond_t (show((decP (h0 gv.2).data).1.data==d8)=true by kernel_rfl) ?_
 refine cond_t (show(!gt1.1.store.sup.inc)=true by kernel_rfl) ?_
 refine first_ok (cond_t (show((gt1.1.store.sup.vector.current==9)&&((gt1.1.store.sup.vector.bitmap==0)&&(((gt1.1.store.sup.vector.old0==7)&&((gt1.1.store.sup.vector.old1==0)&&true))&&true)))=true by kernel_rfl) ?_)
 refine cond_t (show(gt1.1.store.mask==0)=true by kernel_rfl) ?_
 have es:gt0.1=tgtN:=by kernel_rfl
 show q179.F gt0.1 tgtN _
 rw [es]
 refine nodeSame_ok (N:=274) (by decide) oT (cond_t rfl ?_)
 refine cond_t (show(cp1.1.store.mask==0)=true by kernel_rfl) ?_
 refine cond_t (show(en1.1.state==2)=true by kernel_rfl) ?_
 refine cond_t (show((en1.1.store.sup.vector.current==gt1.1.store.sup.vector.current)&&((en1.1.store.sup.vector.bitmap==gt1.1.store.sup.vector.bitmap)&&(((en1.1.store.sup.vector.old0==gt1.1.store.sup.vector.old0)&&((en1.1.store.sup.vector.old1==gt1.1.store.sup.vector.old1)&&true))&&true)))=true by kernel_rfl) ?_
 have e:((doneN gt1.1).state==2)=true:=by kernel_rfl
 show K ((doneN gt1.1).state==2)
 rw [e]
 exact k
end Gm

set_option maxRecDepth 100000
namespace Gm
open Go
def InvE (B m0:Int) (keep:Bool) (blocks:List Int) (x:q184.L0):Prop:=
 keep=x.keep∧blocks=x.blocks∧∃ j:Nat,j≤40∧(j:Int)=x.got∧(j:Int)=x.i∧OkN (2000+4 * j) x.m1∧(Rnd B m0 j x.m1∨EndY m0 j x.m1∨EndX B m0 x.m1)
theorem SyncEnds_ok {c:Case} {fuse:Int} {keep:Bool} (h0:0≤c.blocks) (hw:∀ e∈c.l,inK .u64 e.num) (hf:inK .u8 fuse) {K:Bool->Prop} (k:K true):q184.F c fuse keep K:=by
 unfold q184.F q184.FV
 refine alive18_ok (cond_f rfl (Great_ok (most:=60) (by decide) k (fun hl he=>cond_f rfl ?_)))
 have hE:∀ e∈c.l,OkE e:=fun e h=>okE_of (hw e h) (he e h)
 have on:OkN 2000 (nodeC (reachC c.blocks c.l) c.side):=((okC_reach hE).up (by omega)).node _
 have nw:NW (1+c.blocks % 4) (nodeC (reachC c.blocks c.l) c.side):=(cw_reach hE).node _
 have ni:NI (1+c.blocks % 4) (nodeC (reachC c.blocks c.l) c.side):=(ci_reach hE).node _
 refine Node18_ok h0 (by omega) hE ?_
 generalize nodeC (reachC c.blocks c.l) c.side=n at on nw ni
 generalize 1+c.blocks % 4=B at nw ni
 refine cond_ok (fun _=>k) (fun h1=>cond_ok (fun _=>k) (fun h2=>?_))
 have s4:n.state=4:=ne_f h1
 have hi:n.store.sup.inc=true:=not_f h2
 have hu:n.up=true:=by
  cases e:n.up with
  | true=>rfl
  | false=>have:=ni.dn e;omega
 have u:=nw.2 hu
 have hf:0≤fuse∧fuse≤255:=hf
 refine ref03_List_ok on.st.m (ref04_Arm_ok ?_)
 rw [wrap_i64 (by omega)]
 have oa:=okN_arm (k:=fuse) on (by omega) (by omega)
 have ua:UpS B (setSt n ⟨armV n.store.disk fuse,n.store.sup,n.store.mask⟩).store:=⟨dw_arm u.dw,u.dead,u.bl,u.one,u.mv,u.sb,u.mb⟩
 have hm0:maskR n.store.mask.toNat B=true:=u.mb
 have r0:Rnd B n.store.mask 0 (setSt n ⟨armV n.store.disk fuse,n.store.sup,n.store.mask⟩):=
  ⟨oa,hu,ua,s4,hi,ni.w4 s4 hi,fun _ hk=>.inl hk,by show(bitsM n.store.mask).length≤0+(bitsM n.store.mask).length;omega,.inl rfl⟩
 generalize hn:setSt n ⟨armV n.store.disk fuse,n.store.sup,n.store.mask⟩=n0 at oa r0
 have hbits:=bitsI_bits n.store.mask
 have hmem:∀ x∈bitsI n.store.mask 32,∃ k:Nat,x=(k:Int)∧n.store.mask.toNat.testBit k=true:=fun x hx=>bitsI_mem hx
 have hb32:=bits_32 n.store.mask
 generalize bitsI n.store.mask 32=blocks at hbits hmem
 show ∃ n,loopB (q184.b0V _ _ _ _ _ _ _ _ _) n _ _ ⟨keep,blocks,0,0,setSt _ _⟩
 refine loop_ok (I:=InvE B n.store.mask keep blocks) (m:=fun x:q184.L0=>50 - x.i.toNat) ?_ ⟨rfl,rfl,0,by omega,rfl,rfl,by rw [hn];exact oa,.inl (by rw [hn];exact r0)⟩
 rintro ⟨_,_,_,_,m⟩ ⟨rfl,rfl,j,hj,rfl,rfl,om,hr⟩ rec hrec
 unfold q184.b0V
 dsimp only at om hr ⊢
 -- behind the loop
 have fin:(EndY n.store.mask j m∨EndX B n.store.mask m)->(bif m.up then(bif(!m.store.sup.inc)then(bif(m.store.mask==0)then(bif(m.wanted==0)then(K (decide ((j:Int)≥(blocks.length:Int))))else(K false))else(K false))else(K false))else(q24.F m.store.disk ([keep,keep,keep,keep]:List Bool) fun r9=>(q43.F r9 fun r10=>(bif(r10.2 != 0)then(K false)else(∃ n,loopB (q184.b2V q180.F q181.F q183.F q99.F q123.F q170.F q24.F q43.F q68.F) n (fun x13=>(K true)) (fun r14=>(K r14.t6)) ⟨blocks,0,r10.1⟩))))):=by
  rintro (y | x)
  ·refine cond_t y.up (cond_t (by rw [y.inc];rfl) (cond_t (by rw [y.mask];rfl) (cond_t (by rw [y.wa];rfl) ?_)))
   have:=y.cnt
   rw [decide_eq_true (by omega)]
   exact k
  ·have od:=om.st.d
   have os:=od.s
   have oc:=od.c
   refine cond_f x.up (ref04_Revive_ok (by omega) (by omega) od.r ?_)
   generalize ([keep,keep,keep,keep]:List Bool)=keeps
   have ord:OkD (2000+4 * j) (reviveV m.store.disk keeps):=revive_ok od keeps
   refine ref15_Attach_ok (N:=2000+4 * j) (by omega) ord ?_
   obtain ⟨s,ea,hs⟩:=fin3_found x.dw x.fin hm0 keeps
   have os2:OkS (2000+4 * j) (stAttach (reviveV m.store.disk keeps)).1:=okS_attach ord
   rw [ea] at os2 ⊢
   refine cond_f rfl ?_
   refine loop_ok (I:=fun x:q184.L2=>∃ i:Nat,i≤blocks.length∧x=⟨blocks,(i:Int),s⟩) (m:=fun x:q184.L2=>blocks.length - x.i.toNat) ?_ ⟨0,by omega,rfl⟩
   rintro _ ⟨i,hi2,rfl⟩ rec2 hrec2
   unfold q184.b2V
   dsimp only
   refine cond_ok (fun h3=>?_) (fun _=>k)
   have h3:(i:Int) < (blocks.length:Int):=of_decide_eq_true h3
   have hil:i < blocks.length:=by omega
   rcases hs with hs | hs
   ·exact cond_f (by rw [hs];rfl) k
   ·refine cond_ok (fun _=>?_) (fun _=>k)
    refine oget_ok (v:=blocks[i]) (by unfold getI;rw [if_pos (by omega),Int.toNat_natCast];exact List.getElem?_eq_getElem hil) ?_
    obtain ⟨kk,ek,hk⟩:=hmem blocks[i] (List.getElem_mem hil)
    refine ref15_Read_ok (N:=2000+4 * j) (by omega) os2 ?_
    rw [ek,hs kk hk]
    refine cond_f rfl ?_
    rw [wrap_i64 (by omega)]
    exact hrec2 _ ⟨i+1,by omega,rfl⟩ (by dsimp only;omega)
 rcases hr with r | e
 ·have hfew:=r.few
  have hwa:=r.wa
  have hbl:m.store.sup.blocks=B:=r.u.bl
  have hB:=r.u.dw.one
  refine cond_t (decide_eq_true (by omega)) (cond_t r.up (cond_t r.inc (cond_f (decide_eq_false (by omega)) (cond_f (decide_eq_false (by omega)) ?_))))
  rw [wrap_i64 (by omega),wrap_i64 (by omega)]
  refine GotP_ok (N:=2000+4 * j) (by omega) (by omega) om (by omega) ?_
  have og:OkN (2000+4 * (j+1)) (gotN m (m.wanted - 1) yyy).1:=by
   have:=okN_got (b:=m.wanted - 1) (data:=yyy) om (by omega)
   rwa [show 2000+4 * (j+1)=2000+4 * j+4 by omega]
  exact hrec _ ⟨rfl,rfl,j+1,by omega,by simp,by simp,og,round_got r⟩ (by dsimp only;omega)
 ·have hf:=fin e
  refine cond_ok (fun _=>cond_ok (fun hup=>cond_ok (fun hinc=>?_) (fun _=>hf)) (fun _=>hf)) (fun _=>hf)
  rcases e with e | e
  ·rw [e.inc] at hinc;cases hinc
  ·rw [e.up] at hup;cases hup
end Gm
