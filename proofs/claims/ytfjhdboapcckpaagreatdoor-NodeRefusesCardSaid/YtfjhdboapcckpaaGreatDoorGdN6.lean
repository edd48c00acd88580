/- The program's node comes up: as the document's, or with its vector not yet filled in. -/
import Derived.Test.YtfjhdboapcckpaaGreatDoorGdN3
set_option maxRecDepth 100000
namespace Gm
open Go
theorem metaLoad_by {N:Nat} {d:Disk} {s:Super} {b:Str} (hN:N≤100000) (o:OkD N d) (hd:readV d 0=(b,0)) (hb:∀ K:(Super×Int)->Prop,K (s,0)->K (zv s,0)->q91.F b K) (hf:fitsS d s=true) {K:(Super×Int)->Prop} (k:K (s,0)) (kz:K (zv s,0)):q92.F d K:=by
 unfold q92.F q92.FV
 have hs:=o.s
 refine diskRead_ok hN o ?_
 have hz:fitsS d (zv s)=true:=hf
 rw [hd]
 refine cond_f rfl (hb _ (cond_t rfl (fitsM_ok (by omega) ?_)) (cond_t rfl (fitsM_ok (by omega) ?_)))
 ·rw [hf]
  exact cond_f rfl k
 ·rw [hz]
  exact cond_f rfl kz
theorem metaLoad_ok {N:Nat} {d:Disk} {s:Super} {b:Str} (hN:N≤100000) (o:OkD N d) (hd:readV d 0=(b,0)) (eb:b=sealV (sBytes s)) (hw:wSup s) (hr:supR s=true) (hf:fitsS d s=true) {K:(Super×Int)->Prop} (k:K (s,0)) (kz:K (zv s,0)):q92.F d K:=by
 have hb:∀ K:(Super×Int)->Prop,K (s,0)->K (zv s,0)->q91.F b K:=fun _=>superDecode_ok eb hw hr
 exact metaLoad_by hN o hd hb hf k kz
theorem bitsLoad_ok {N:Nat} {d:Disk} (hN:N≤100000) (o:OkD N d) {K:(Int×Int)->Prop} (h:K (loadV d)):q94.F d K:=by
 unfold q94.F q94.FV q93.F q93.FV
 have hs:=o.s
 have hc:=o.c
 have hl:=read_le o 1
 refine diskRead_ok hN o ?_
 unfold loadV at h
 refine cond_ok (fun h1=>?_) (fun h1=>?_)
 ·have h1:(readV d 1).2≠0:=by simpa using h1
  rw [if_pos h1] at h;exact h
 have h1:(readV d 1).2=0:=by simpa using h1
 rw [if_neg (by simp [h1])] at h
 refine check_Open_ok (wStr_of (by omega)) (cond_ok (fun h2=>?_) (fun h2=>?_))
 ·have h2:(openV (readV d 1).1).2≠0:=by simpa using h2
  rw [if_pos h2] at h;exact h
 have h2:(openV (readV d 1).1).2=0:=by simpa using h2
 rw [if_neg (by simp [h2])] at h
 refine num_Get32_ok ?_
 unfold getN
 by_cases h3:(openV (readV d 1).1).1.length=4
 ·rw [if_pos h3]
  refine cond_f rfl ?_
  have hlt:=unbe_lt 4 _ h3
  rw [sub2 (by omega)]
  refine mask_Right_ok (inK32 (by omega)) (in_sub2 (by omega)) (cond_ok (fun h4=>?_) (fun h4=>?_))
  ·rw [if_neg (by rintro ⟨_,h5⟩;rw [h5] at h4;cases h4)] at h;exact h
  ·rw [if_pos ⟨h3,by simpa using h4⟩] at h;exact h
 ·rw [if_neg h3]
  rw [if_neg (by rintro ⟨h5,_⟩;exact h3 h5)] at h
  exact cond_t rfl h
theorem areaAll_ok {N:Nat} {d:Disk} (hN:N≤10000) (o:OkD N d) (h2:2≤d.sure.length) {K:(List Str×Int)->Prop} (h:K (allV d)):q95.F d K:=by
 have hs:=o.s
 unfold q95.F q95.FV
 have em:maxI2 (IntKind.i64.wrap ((d.sure.length:Int) - 2)) 0=((d.sure.length - 2:Nat):Int):=by
  rw [sub2 (by omega)]
  unfold maxI2
  split <;> omega
 rw [em]
 refine loop_ok (I:=fun x:q95.L0=>∃ k:Nat,k≤d.sure.length - 2∧(allN d k).2=0∧x=⟨(allN d k).1,((d.sure.length - 2:Nat):Int),k,d⟩) (m:=fun x:q95.L0=>d.sure.length - x.t13.toNat) ?_ ⟨0,by omega,rfl,rfl⟩
 rintro _ ⟨k,hk,he,rfl⟩ rec hrec
 unfold q95.b0V
 dsimp only
 refine cond_ok (fun h1=>?_) (fun h1=>?_)
 ·have h1:(k:Int) < ((d.sure.length - 2:Nat):Int):=of_decide_eq_true h1
  have h1:k < d.sure.length - 2:=by omega
  refine areaRead_ok (N:=N) (by omega) o (cond_ok (fun h2=>?_) (fun h2=>?_))
  ·have h2:(aReadV d k).2≠0:=by simpa using h2
   have e1:allN d (k+1)=([],(aReadV d k).2):=by
    show(if (allN d k).2≠0 then _ else _)=_
    rw [if_neg (by simp [he]),if_pos h2]
   have e2:=allN_bad (n:=k+1) (by rw [e1];exact h2) (d.sure.length - 2) (by omega)
   unfold allV at h
   rw [e2,e1] at h
   exact h
  ·have h2:(aReadV d k).2=0:=by simpa using h2
   have e1:allN d (k+1)=((allN d k).1++[(aReadV d k).1],0):=by
    show(if (allN d k).2≠0 then _ else _)=_
    rw [if_neg (by simp [he]),if_neg (by simp [h2])]
   have hl:=allN_len he
   refine gd_ok (fit_ok (by simp;omega)) (hrec _ ⟨k+1,by omega,by rw [e1],?_⟩ ?_)
   ·rw [wrap_succ (by unfold big;omega),e1]
   ·rw [wrap_succ (by unfold big;omega)]
    dsimp only
    omega
 ·have h1:¬ (k:Int) < ((d.sure.length - 2:Nat):Int):=of_decide_eq_false h1
  have:k=d.sure.length - 2:=by omega
  subst this
  unfold allV at h
  rw [← he]
  exact h
theorem kept_snoc:∀ (ws:List Write) (ks:List Bool) (w:Write),keptW (ws++[w]) ks=keptW ws ks++(if ks.getD ws.length false=true then [w] else [])
 | [],[],w=>rfl
 | [],k :: ks,w=>by cases k <;> simp [keptW]
 | a :: ws,[],w=>by simp [keptW]
 | a :: ws,k :: ks,w=>by
  have e:=kept_snoc ws ks w
  show keptW (a :: (ws++[w])) (k :: ks)=_
  unfold keptW
  split
  ·rw [e];rfl
  ·rw [e];rfl
theorem diskRevive_ok {d:Disk} {keeps:List Bool} (h1:d.sure.length≤1000000) (h2:d.cache.length≤1000000) (hr:InR d.sure.length d.cache) {K:Disk->Prop} (h:K (reviveV d keeps)):q82.F d keeps K:=by
 unfold q82.F q82.FV
 refine loop_ok (I:=fun x:q82.L0=>∃ i:Nat,i≤d.cache.length∧x=⟨keeps,keptW (d.cache.take i) keeps,d.cache,d.cache.length,i,d,⟨[],[],0,false⟩⟩) (m:=fun x:q82.L0=>d.cache.length - x.t11.toNat) ?_ ⟨0,by simp,by simp [keptW]⟩
 rintro _ ⟨i,hi,rfl⟩ rec hrec
 unfold q82.b0V
 dsimp only
 refine cond_ok (fun h4=>?_) (fun h4=>?_)
 ·have hlt:=lt_of_dec h4
  have e:=kept_snoc (d.cache.take i) keeps d.cache[i]
  rw [← take_succ hlt,List.length_take_of_le hi] at e
  have hk:=kept_length (d.cache.take i) keeps
  rw [List.length_take_of_le hi] at hk
  refine oget_ok (getI_ok hlt) (cond_ok (fun h5=>?_) (fun h5=>?_))
  ·have hlk:=lt_of_dec h5
   rw [List.getD_eq_getElem?_getD,List.getElem?_eq_getElem hlk] at e
   refine oget_ok (getI_ok hlk) (cond_ok (fun h6=>?_) (fun h6=>?_))
   ·refine gd_ok (fit_ok (by simp;omega)) ?_
    rw [wrap_succ (by unfold big;omega)]
    refine hrec _ ⟨i+1,hlt,?_⟩ (by simp;omega)
    rw [e,if_pos (by simpa using h6)]
   ·rw [wrap_succ (by unfold big;omega)]
    refine hrec _ ⟨i+1,hlt,?_⟩ (by simp;omega)
    rw [e,if_neg (by simp [h6]),List.append_nil]
  ·have h5:¬ (i:Int) < (keeps.length:Int):=of_decide_eq_false h5
   rw [List.getD_eq_getElem?_getD,List.getElem?_eq_none (by omega)] at e
   rw [wrap_succ (by unfold big;omega)]
   refine hrec _ ⟨i+1,hlt,?_⟩ (by simp;omega)
   rw [e,if_neg (by simp),List.append_nil]
 ·have e:=le_of_dec h4 hi
  subst e
  rw [List.take_length]
  have hk:=kept_length d.cache keeps
  exact disk_settle_ok h1 (by omega) (fun w m=>hr w (kept_sub d.cache keeps w m)) h
end Gm

set_option maxRecDepth 100000
namespace Gm
open Go
def stZ (r:Store×Int):Store×Int:=if r.2=0 then(⟨r.1.disk,zv r.1.sup,r.1.mask⟩,0)else r
theorem loadS_dw {B:Int} {d:Disk} (h:DW B d) (hd:d.dead=false) (hc:d.cache=[]):∃ (s:Super) (b:Str),readV d 0=(b,0)∧b=sealV (sBytes s)∧wSup s∧supR s=true∧fitsS d s=true∧loadS d=(s,0):=by
 have hl:=h.len
 have h1:=h.one
 have hx:0 < d.sure.length:=by omega
 have hr:=read_sec (d:=d) (x:=0) hd hx (fun w m=>by rw [hc] at m;cases m)
 obtain ⟨s,eb,es,hs,hw⟩:=((h.val 0).1 d.sure[0] (List.getElem?_eq_getElem hx)).1 rfl
 have hf:fitsS d s=true:=beq_iff_eq.2 (by omega)
 have e:decS6 d.sure[0]=(s,0):=(congrArg decS6 eb).trans (decS6_seal hw hs)
 have hr:readV d 0=(d.sure[0],0):=hr
 refine⟨s,d.sure[0],hr,eb,hw,hs,hf,?_⟩
 generalize d.sure[0]=b at hr e
 unfold loadS
 rw [hr]
 dsimp only
 rw [if_neg (by simp),e]
 dsimp only
 rw [if_neg (by simp),if_pos hf]
theorem storeAttachP_ok {N:Nat} {d:Disk} {B:Int} (hN:N≤8000) (o:OkD N d) (h:DW B d) (hd:d.dead=false) (hc:d.cache=[]) {K:(Store×Int)->Prop} (k:K (stAttach d)) (kz:K (stZ (stAttach d))):q96.F d K:=by
 unfold q96.F q96.FV
 obtain ⟨s,b,h1,eb,hw,hr,hf,hl⟩:=loadS_dw h hd hc
 have hlen:=h.len
 have hone:=h.one
 have e:stAttach d=if (loadV d).2≠0 then(zSt,(loadV d).2)else if (allV d).2≠0 then(zSt,(allV d).2)else(⟨d,s,(loadV d).1⟩,0):=by
  unfold stAttach
  rw [hl,if_neg (by simp)]
 rw [e] at k
 refine metaLoad_ok (by omega) o h1 eb hw hr hf (cond_f rfl (bitsLoad_ok (by omega) o (cond_ok (fun h2=>?_) (fun h2=>?_)))) (cond_f rfl (bitsLoad_ok (by omega) o (cond_ok (fun h2=>?_) (fun h2=>?_))))
 ·rw [if_pos (ne_t h2)] at k;exact k
 ·rw [if_neg (fun e=>e (ne_f h2))] at k
  refine areaAll_ok (by omega) o (by omega) (cond_ok (fun h3=>?_) (fun h3=>?_))
  ·rw [if_pos (ne_t h3)] at k;exact k
  ·rw [if_neg (fun e=>e (ne_f h3))] at k;exact k
 ·rw [if_pos (ne_t h2)] at e
  rw [e] at kz
  unfold stZ at kz
  rw [if_neg (ne_t h2)] at kz;exact kz
 ·rw [if_neg (fun e=>e (ne_f h2))] at e
  refine areaAll_ok (by omega) o (by omega) (cond_ok (fun h3=>?_) (fun h3=>?_))
  ·rw [if_pos (ne_t h3)] at e
   rw [e] at kz
   unfold stZ at kz
   rw [if_neg (ne_t h3)] at kz;exact kz
  ·rw [if_neg (fun e=>e (ne_f h3))] at e
   rw [e] at kz
   unfold stZ at kz
   rw [if_pos rfl] at kz;exact kz
def attachZ (n:Node) (keeps:List Bool):Node×Int:=
 if n.up=true then(n,7)
 else if (stZ (stAttach (reviveV n.store.disk keeps))).2≠0 then(setSt n ⟨reviveV n.store.disk keeps,n.store.sup,n.store.mask⟩,(stZ (stAttach (reviveV n.store.disk keeps))).2)
 else(bareN n true (stZ (stAttach (reviveV n.store.disk keeps))).1 false,0)
theorem AttachP_ok {N:Nat} {n:Node} {B:Int} (hN:N≤6800) (o:OkN N n) (h:DW B n.store.disk) {keeps:List Bool} {K:(Node×Int)->Prop} (k:K (attachN n keeps)) (kz:K (attachZ n keeps)):q97.F n keeps K:=by
 unfold q97.F q97.FV
 unfold attachN at k
 unfold attachZ at kz
 have hs:=o.st.d.s
 have hc:=o.st.d.c
 refine cond_ok (fun h=>?_) (fun hu=>?_)
 ·rw [if_pos h] at k;exact k
 rw [if_neg (nt hu)] at k kz
 refine diskRevive_ok (by omega) (by omega) o.st.d.r (storeAttachP_ok (by omega) (revive_ok o.st.d keeps) (dw_revive h keeps) rfl rfl (cond_ok (fun h2=>?_) (fun h2=>?_)) (cond_ok (fun h2=>?_) (fun h2=>?_)))
 ·rw [if_pos (ne_t h2)] at k;exact k
 ·rw [if_neg (fun e=>e (ne_f h2))] at k;exact k
 ·rw [if_pos (ne_t h2)] at kz;exact kz
 ·rw [if_neg (fun e=>e (ne_f h2))] at kz;exact kz
end Gm

set_option maxRecDepth 100000
namespace Gm
open Go
def n16:Node:=(newC 2 7).1.n1
def p16:NO:=promoteN n16 5
def s16:NO:=demoteN p16.1 8
def x16:NO:=discardN s16.1 9
def w16:Node:=downN x16.1
def y16:Node×Int:=attachN w16 []
def z16:Node×Int:=attachZ w16 []
def a16:NO:=readN n16 4 0
def d16:NO:=readN p16.1 6 1
def e16:NO:=discardN p16.1 7
def h16:NO:=promoteN x16.1 10
theorem on16:OkN 64 n16:=okC_new.b
theorem op16:OkN 68 p16.1:=okN_promote on16 (by decide)
theorem os16:OkN 72 s16.1:=okN_demote op16 (by decide)
theorem ox16:OkN 76 x16.1:=okN_discard os16 (by decide)
theorem ow16:OkN 76 w16:=okN_down ox16
theorem nw_n16:NW 2 n16:=by
 have d:=dw_fmt (b:=2) (g:=7) (by decide) (by decide) (by decide)
 have nw:∀ i:Int,NW 2 (newN i 2 7):=fun i=>nw_attach ⟨d,fun e=>by cases e⟩
 unfold n16 newC
 rw [if_neg ?_]
 ·exact nw 1
 ·unfold fmtV
  rw [if_pos (by decide)]
  simp
theorem nw_p16:NW 2 p16.1:=nw_promote on16 (nw_n16.2 (by kernel_rfl))
theorem nw_s16:NW 2 s16.1:=nw_demote op16 (nw_p16.2 (by kernel_rfl))
theorem nw_x16:NW 2 x16.1:=nw_discard os16 (nw_s16.2 (by kernel_rfl))
theorem nw_w16:NW 2 w16:=dw_down nw_x16.1
theorem attachUp_ok {n:Node} {keeps:List Bool} (h:n.up=true) {K:(Node×Int)->Prop} (k:K (n,7)):q97.F n keeps K:=by
 unfold q97.F q97.FV
 exact cond_t h k
theorem y0:y16.2=0∧y16.1.up=true∧y16.1.store.sup.dis=true:=⟨by kernel_rfl,by kernel_rfl,by kernel_rfl⟩
theorem z0:z16.2=0∧z16.1.up=true∧z16.1.store.sup.dis=true:=⟨by kernel_rfl,by kernel_rfl,by kernel_rfl⟩
theorem alive16_ok {K:Bool->Prop} (k:K true):q105.F K:=by
 unfold q105.F q105.FV
 refine New_ok (b:=2) (g:=7) (by decide) ?_
 refine ReadP_ok (N:=64) (n:=n16) (by decide) on16 (PromoteP_ok (N:=64) (n:=n16) (by decide) (by decide) on16 ?_)
 refine ReadP_ok (N:=68) (n:=p16.1) (by decide) op16 (DiscardP_ok (N:=68) (n:=p16.1) (by decide) (by decide) op16 (DemoteP_ok (N:=68) (n:=p16.1) (by decide) (by decide) op16 ?_))
 refine DiscardP_ok (N:=72) (n:=s16.1) (by decide) (by decide) os16 (PromoteP_ok (N:=76) (n:=x16.1) (by decide) (by decide) ox16 (nodeDown_ok ?_))
 have key:∀ P:Node×Int->Prop,(∀ r,r.2=0->r.1.up=true->r.1.store.sup.dis=true->P r)->q97.F w16 [] P:=
  fun P h=>AttachP_ok (N:=76) (n:=w16) (by decide) ow16 nw_w16.1 (h y16 y0.1 y0.2.1 y0.2.2) (h z16 z0.1 z0.2.1 z0.2.2)
 refine key _ (fun r h1 h2 h3=>attachUp_ok h2 ?_)
 refine cond_f (show(IntKind.i64.wrap ((IntKind.i64.wrap ((IntKind.i64.wrap ((IntKind.i64.wrap ((IntKind.i64.wrap ((IntKind.i64.wrap ((a16.2.length:Int)+(p16.2.length:Int)))+(d16.2.length:Int)))+(e16.2.length:Int)))+(s16.2.length:Int)))+(x16.2.length:Int)))+(h16.2.length:Int)) != 7)=false by kernel_rfl) ?_
 refine cond_f (show((a16.2.length:Int) != 1)=false by kernel_rfl) (cond_f (show((p16.2.length:Int) != 1)=false by kernel_rfl) (cond_f (show((d16.2.length:Int) != 1)=false by kernel_rfl) ?_))
 refine cond_f (show((e16.2.length:Int) != 1)=false by kernel_rfl) (cond_f (show((s16.2.length:Int) != 1)=false by kernel_rfl) (cond_f (show((x16.2.length:Int) != 1)=false by kernel_rfl) ?_))
 refine oget_ok (v:=h0 a16.2) (show getI a16.2 0=some (h0 a16.2) by kernel_rfl) ?_
 refine cond_t (show(((h0 a16.2).kind==2)&&(((h0 a16.2).node==1)&&(((h0 a16.2).id==4)&&(((h0 a16.2).err==8)&&(((h0 a16.2).data==([]:Str))&&true)))))=true by kernel_rfl) ?_
 refine oget_ok (v:=h0 p16.2) (show getI p16.2 0=some (h0 p16.2) by kernel_rfl) (cond_t (show((h0 p16.2).err==0)=true by kernel_rfl) ?_)
 refine oget_ok (v:=h0 p16.2) (show getI p16.2 0=some (h0 p16.2) by kernel_rfl) (cond_t (show((h0 p16.2).id==5)=true by kernel_rfl) ?_)
 refine cond_t (show p16.1.primary=true by kernel_rfl) (cond_t (show p16.1.store.sup.pri=true by kernel_rfl) ?_)
 refine oget_ok (v:=h0 d16.2) (show getI d16.2 0=some (h0 d16.2) by kernel_rfl) (cond_t (show((h0 d16.2).err==0)=true by kernel_rfl) ?_)
 refine oget_ok (v:=h0 d16.2) (show getI d16.2 0=some (h0 d16.2) by kernel_rfl) (cond_t (show(((h0 d16.2).data.length:Int)==8)=true by kernel_rfl) ?_)
 refine oget_ok (v:=h0 e16.2) (show getI e16.2 0=some (h0 e16.2) by kernel_rfl) (cond_t (show((h0 e16.2).err==8)=true by kernel_rfl) ?_)
 refine oget_ok (v:=h0 s16.2) (show getI s16.2 0=some (h0 s16.2) by kernel_rfl) (cond_t (show((h0 s16.2).err==0)=true by kernel_rfl) ?_)
 refine oget_ok (v:=h0 x16.2) (show getI x16.2 0=some (h0 x16.2) by kernel_rfl) (cond_t (show((h0 x16.2).err==0)=true by kernel_rfl) ?_)
 refine oget_ok (v:=h0 h16.2) (show getI h16.2 0=some (h0 h16.2) by kernel_rfl) (cond_t (show((h0 h16.2).err==10)=true by kernel_rfl) ?_)
 refine cond_t (eq0 h1) (cond_t rfl (cond_t h2 (cond_t h3 ?_)))
 refine nodeSameP_ok (N:=64) (n:=n16) (by decide) on16 (cond_t rfl ?_)
 exact nodeOther_ok (show(n16.primary==p16.1.primary)=false by kernel_rfl) k
theorem Side16_ok {c:Case} {K:Int->Prop} (k:K (bI c.side)):q189.F c K:=by
 unfold q189.F
 cases h:c.side <;> rw [h] at k
 ·exact k
 ·exact k
theorem Node16_ok {c:Case} (h0:0≤c.blocks) (hl:c.l.length≤100) (he:∀ e∈c.l,OkE e) {K:Node->Prop} (k:K (nodeC (reachC c.blocks c.l) c.side)):q190.F c K:=by
 unfold q190.F q190.FV
 refine Reach_ok h0 hl he (Side16_ok ?_)
 cases h:c.side <;> rw [h] at k
 ·exact cond_t rfl k
 ·exact cond_f rfl (cond_t rfl k)
theorem outs16 {l:List Outp} (h:OkO 3 l) {K:Bool->Prop} (k:K true):q196.F l l K:=outsSame_ok (by have:=h.1;omega) k
theorem NodeReads_ok {c:Case} {id block:Int} (h0:0≤c.blocks) (hw:∀ e∈c.l,inK .u64 e.num) {K:Bool->Prop} (k:K true):q198.F c id block K:=by
 unfold q198.F q198.FV
 refine alive16_ok (cond_f rfl (Great_ok (most:=60) (by decide) k (fun hl he=>cond_f rfl ?_)))
 have hE:∀ e∈c.l,OkE e:=fun e h=>okE_of (hw e h) (he e h)
 have on:OkN 2000 (nodeC (reachC c.blocks c.l) c.side):=((okC_reach hE).up (by omega)).node _
 refine Node16_ok h0 (by omega) hE ?_
 generalize nodeC (reachC c.blocks c.l) c.side=n at on
 refine ReadP_ok (N:=2000) (by decide) on (nread_ok (N:=2000) (by decide) (by decide) on ?_)
 have hf:(readN n id block).1=n:=by
  unfold readN refuseN
  split
  ·rfl
  ·split
   ·rfl
   ·rfl
 refine nodeSame_ok (N:=2000) (by decide) (by rw [hf];exact on) (cond_t rfl (outs16 (okO_read _ _ _) (cond_t rfl ?_)))
 rw [hf]
 exact nodeSame_ok (N:=2000) (by decide) on (cond_t rfl (nodeSameP_ok (N:=2000) (by decide) on k))
theorem NodeRoles_ok {c:Case} {id:Int} (h0:0≤c.blocks) (hw:∀ e∈c.l,inK .u64 e.num) {K:Bool->Prop} (k:K true):q197.F c id K:=by
 unfold q197.F q197.FV
 refine alive16_ok (cond_f rfl (Great_ok (most:=60) (by decide) k (fun hl he=>cond_f rfl ?_)))
 have hE:∀ e∈c.l,OkE e:=fun e h=>okE_of (hw e h) (he e h)
 have on:OkN 2000 (nodeC (reachC c.blocks c.l) c.side):=((okC_reach hE).up (by omega)).node _
 refine Node16_ok h0 (by omega) hE ?_
 generalize nodeC (reachC c.blocks c.l) c.side=n at on
 refine PromoteP_ok (N:=2000) (by decide) (by decide) on (promote_ok (N:=2000) (by decide) (by decide) on ?_)
 refine DemoteP_ok (N:=2000) (by decide) (by decide) on (demote_ok (N:=2000) (by decide) (by decide) on ?_)
 refine DiscardP_ok (N:=2000) (by decide) (by decide) on (discard_ok (N:=2000) (by decide) (by decide) on ?_)
 have h1:OkN 2004 (promoteN n id).1:=okN_promote on (by decide)
 have h2:OkN 2004 (demoteN n id).1:=okN_demote on (by decide)
 have h3:OkN 2004 (discardN n id).1:=okN_discard on (by decide)
 refine nodeSame_ok (N:=2004) (by decide) h1 (cond_t rfl (outs16 (okO_promote _ _) (cond_t rfl ?_)))
 refine nodeSame_ok (N:=2004) (by decide) h2 (cond_t rfl (outs16 (okO_demote _ _) (cond_t rfl ?_)))
 exact nodeSame_ok (N:=2004) (by decide) h3 (cond_t rfl (outs16 (okO_discard _ _) k))
end Gm
