/- Printed by a program (gen.py): the functions' answers, and that they are so. -/
import Derived.Test.YtlaijgoahmigmaaGreatDoorGdT4
import Derived.Test.YtlaijgoahmigmaaGreatDoorGdCo
set_option linter.unusedVariables false
set_option maxRecDepth 100000
noncomputable section
namespace Gm
open Go Go.Proofs
namespace q121
abbrev A:List Ty:=[(.st 13),(.int .i64)]
abbrev C:=(cTwo (.st 13) (.slice (.st 11)))
abbrev T:Type:=Node->Int->((Node×(List Outp))->Prop)->Prop
def tv (f0:q56.T) (f1:q46.T) (f2:q64.T):Tab:=[(108,mkEntry q56.A q56.C fun x=>f0 x.1 x.2.1),(192,mkEntry q46.A q46.C fun x=>f1 x.1 x.2.1 x.2.2.1 x.2.2.2.1),(123,mkEntry q64.A q64.C fun x=>f2 x.1 x.2.1)]
def tab:Tab:=tv q56.F q46.F q64.F
def FV (f0:q56.T) (f1:q46.T) (f2:q64.T) (n_0:Node) (kind:Int) (K:(Node×(List Outp))->Prop):Prop:=
 (bif(kind==10)then(bif n_0.primary then(f0 n_0 (⟨12,0,(⟨0,(⟨0,0,0,0⟩:Vec),false,false,false,false,0⟩:Hello),0,([]:Str)⟩:Packet) fun r1=>(K (n_0,([(⟨1,r1.1,0,0,r1.2⟩:Outp)]:List Outp))))else(bif n_0.asking then(f0 n_0 (⟨12,0,(⟨0,(⟨0,0,0,0⟩:Vec),false,false,false,false,0⟩:Hello),0,([]:Str)⟩:Packet) fun r2=>(K (n_0,([(⟨1,r2.1,0,0,r2.2⟩:Outp)]:List Outp))))else(f0 (⟨n_0.id,n_0.up,n_0.store,n_0.primary,n_0.state,n_0.session,n_0.peer,true,n_0.req,n_0.asking,n_0.askId,n_0.wanted,n_0.minted,n_0.draws,n_0.mints⟩:Node) (⟨11,0,(⟨0,(⟨0,0,0,0⟩:Vec),false,false,false,false,0⟩:Hello),0,([]:Str)⟩:Packet) fun r3=>(K ((⟨n_0.id,n_0.up,n_0.store,n_0.primary,n_0.state,n_0.session,n_0.peer,true,n_0.req,n_0.asking,n_0.askId,n_0.wanted,n_0.minted,n_0.draws,n_0.mints⟩:Node),([(⟨1,r3.1,0,0,r3.2⟩:Outp)]:List Outp))))))else(bif(kind==12)then(f1 (⟨n_0.id,n_0.up,n_0.store,n_0.primary,n_0.state,n_0.session,n_0.peer,n_0.peerPri,n_0.req,false,0,n_0.wanted,n_0.minted,n_0.draws,n_0.mints⟩:Node) n_0.askId 12 ([]:Str) fun r4=>(K ((⟨n_0.id,n_0.up,n_0.store,n_0.primary,n_0.state,n_0.session,n_0.peer,n_0.peerPri,n_0.req,false,0,n_0.wanted,n_0.minted,n_0.draws,n_0.mints⟩:Node),([r4]:List Outp))))else(bif(kind==13)then(K ((⟨n_0.id,n_0.up,n_0.store,n_0.primary,n_0.state,n_0.session,n_0.peer,false,n_0.req,n_0.asking,n_0.askId,n_0.wanted,n_0.minted,n_0.draws,n_0.mints⟩:Node),([]:List Outp)))else(f2 n_0 (⟨n_0.store.sup.blocks,n_0.store.sup.vector,n_0.store.sup.inc,true,n_0.store.sup.dis⟩:Super) fun r5=>(bif(!r5.2)then(K (r5.1,([]:List Outp)))else(f1 (⟨r5.1.id,r5.1.up,r5.1.store,true,r5.1.state,r5.1.session,r5.1.peer,r5.1.peerPri,r5.1.req,false,0,r5.1.wanted,r5.1.minted,r5.1.draws,r5.1.mints⟩:Node) n_0.askId 0 ([]:Str) fun r6=>(K ((⟨r5.1.id,r5.1.up,r5.1.store,true,r5.1.state,r5.1.session,r5.1.peer,r5.1.peerPri,r5.1.req,false,0,r5.1.wanted,r5.1.minted,r5.1.draws,r5.1.mints⟩:Node),([r6]:List Outp)))))))))
def F (n_0:Node) (kind:Int) (K:(Node×(List Outp))->Prop):Prop:=FV q56.F q46.F q64.F n_0 kind K
def en:Entry:=mkEntry A C fun x=>F x.1 x.2.1
theorem eqv (f0:q56.T) (f1:q46.T) (f2:q64.T) (n_0:Node) (kind:Int) (K:(Node×(List Outp))->Prop):apure E (tv f0 f1 f2) (fun _=>none) 4 245 [enc (.st 13) n_0,enc (.int .i64) kind] (ansK C K)=FV f0 f1 f2 n_0 kind K:=by kernel_rfl
theorem loops:LoopsOk E tab (fun _=>none) 4 245:=lpn _ _ _ _
theorem det (n_0:Node) (kind:Int):Det (F n_0 kind):=by
 unfold F FV
 repeat' with_reducible first|exact det_ret _|refine det_cond _ ?_ ?_|refine det_bind (q56.det _ _) (fun _=>?_)|refine det_bind (q46.det _ _ _ _) (fun _=>?_)|refine det_bind (q64.det _ _) (fun _=>?_)
theorem edet a:Det (en a):=mkD (fun x:Dens A=>det x.1 x.2.1) a
theorem ground:Ground E tab:=gnd (tbc q56.sound (tbc q46.sound (tbc q64.sound (tab_nil _)))) (dtc q56.edet (dtc q46.edet (dtc q64.edet dtn)))
theorem sound:EntrySound E 245 en:=mkSound ground loops (by kernel_rfl) (fun x K=>eqv q56.F q46.F q64.F x.1 x.2.1 K)
end q121
namespace q122
abbrev A:List Ty:=[(.st 13),.str]
abbrev C:=(cTwo (.st 13) (.slice (.st 11)))
abbrev T:Type:=Node->Str->((Node×(List Outp))->Prop)->Prop
def tv (f0:q92.T) (f1:q93.T) (f2:q109.T) (f3:q110.T) (f4:q114.T) (f5:q115.T) (f6:q116.T) (f7:q117.T) (f8:q118.T) (f9:q119.T) (f10:q120.T) (f11:q121.T):Tab:=[(30,mkEntry q92.A q92.C fun x=>f0 x.1 x.2.1),(236,mkEntry q93.A q93.C fun x=>f1 x.1 x.2.1),(70,mkEntry q109.A q109.C fun x=>f2 x.1 x.2.1),(237,mkEntry q110.A q110.C fun x=>f3 x.1 x.2.1 x.2.2.1),(238,mkEntry q114.A q114.C fun x=>f4 x.1 x.2.1),(239,mkEntry q115.A q115.C fun x=>f5 x.1 x.2.1),(240,mkEntry q116.A q116.C fun x=>f6 x.1 x.2.1),(241,mkEntry q117.A q117.C fun x=>f7 x.1 x.2.1 x.2.2.1),(242,mkEntry q118.A q118.C fun x=>f8 x.1 x.2.1),(243,mkEntry q119.A q119.C fun x=>f9 x.1),(244,mkEntry q120.A q120.C fun x=>f10 x.1),(245,mkEntry q121.A q121.C fun x=>f11 x.1 x.2.1)]
def tab:Tab:=tv q92.F q93.F q109.F q110.F q114.F q115.F q116.F q117.F q118.F q119.F q120.F q121.F
def FV (f0:q92.T) (f1:q93.T) (f2:q109.T) (f3:q110.T) (f4:q114.T) (f5:q115.T) (f6:q116.T) (f7:q117.T) (f8:q118.T) (f9:q119.T) (f10:q120.T) (f11:q121.T) (n_0:Node) (b_1:Str) (K:(Node×(List Outp))->Prop):Prop:=
 (bif(!n_0.up)then(K (n_0,([]:List Outp)))else(bif(n_0.state==0)then(K (n_0,([]:List Outp)))else(f0 b_1 n_0.session fun r1=>(bif(r1.2==16)then(K (n_0,([]:List Outp)))else(bif(r1.2 != 0)then(K (n_0,([(⟨3,n_0.id,0,0,([]:Str)⟩:Outp)]:List Outp)))else(f1 n_0 r1.1 fun r2=>(bif(!r2)then(K (n_0,([(⟨3,n_0.id,0,0,([]:Str)⟩:Outp)]:List Outp)))else(bif(r1.1.kind==1)then(f2 n_0 r1.1.hello fun r3=>(K (r3.1,r3.2)))else(bif(r1.1.kind==2)then(f3 n_0 r1.1.block r1.1.data fun r4=>(K (r4.1,r4.2)))else(bif(r1.1.kind==3)then(f4 n_0 r1.1.block fun r5=>(K (r5.1,r5.2)))else(bif(r1.1.kind==4)then(f5 n_0 r1.1.block fun r6=>(K (r6.1,r6.2)))else(bif(r1.1.kind==5)then(f6 n_0 r1.1.block fun r7=>(K (r7.1,r7.2)))else(bif(r1.1.kind==6)then(f7 n_0 r1.1.block r1.1.data fun r8=>(K (r8.1,r8.2)))else(bif(r1.1.kind==7)then(f8 n_0 r1.1.block fun r9=>(K (r9.1,r9.2)))else(bif(r1.1.kind==8)then(f9 n_0 fun r10=>(K (r10.1,r10.2)))else(bif(r1.1.kind==9)then(f10 n_0 fun r11=>(K (r11,([]:List Outp))))else(f11 n_0 r1.1.kind fun r12=>(K (r12.1,r12.2)))))))))))))))))))
def F (n_0:Node) (b_1:Str) (K:(Node×(List Outp))->Prop):Prop:=FV q92.F q93.F q109.F q110.F q114.F q115.F q116.F q117.F q118.F q119.F q120.F q121.F n_0 b_1 K
def en:Entry:=mkEntry A C fun x=>F x.1 x.2.1
theorem eqv (f0:q92.T) (f1:q93.T) (f2:q109.T) (f3:q110.T) (f4:q114.T) (f5:q115.T) (f6:q116.T) (f7:q117.T) (f8:q118.T) (f9:q119.T) (f10:q120.T) (f11:q121.T) (n_0:Node) (b_1:Str) (K:(Node×(List Outp))->Prop):apure E (tv f0 f1 f2 f3 f4 f5 f6 f7 f8 f9 f10 f11) (fun _=>none) 4 191 [enc (.st 13) n_0,enc .str b_1] (ansK C K)=FV f0 f1 f2 f3 f4 f5 f6 f7 f8 f9 f10 f11 n_0 b_1 K:=by kernel_rfl
theorem loops:LoopsOk E tab (fun _=>none) 4 191:=lpn _ _ _ _
theorem det (n_0:Node) (b_1:Str):Det (F n_0 b_1):=by
 unfold F FV
 repeat' with_reducible first|exact det_ret _|refine det_cond _ ?_ ?_|refine det_bind (q92.det _ _) (fun _=>?_)|refine det_bind (q93.det _ _) (fun _=>?_)|refine det_bind (q109.det _ _) (fun _=>?_)|refine det_bind (q110.det _ _ _) (fun _=>?_)|refine det_bind (q114.det _ _) (fun _=>?_)|refine det_bind (q115.det _ _) (fun _=>?_)|refine det_bind (q116.det _ _) (fun _=>?_)|refine det_bind (q117.det _ _ _) (fun _=>?_)|refine det_bind (q118.det _ _) (fun _=>?_)|refine det_bind (q119.det _) (fun _=>?_)|refine det_bind (q120.det _) (fun _=>?_)|refine det_bind (q121.det _ _) (fun _=>?_)
theorem edet a:Det (en a):=mkD (fun x:Dens A=>det x.1 x.2.1) a
theorem ground:Ground E tab:=gnd (tbc q92.sound (tbc q93.sound (tbc q109.sound (tbc q110.sound (tbc q114.sound (tbc q115.sound (tbc q116.sound (tbc q117.sound (tbc q118.sound (tbc q119.sound (tbc q120.sound (tbc q121.sound (tab_nil _))))))))))))) (dtc q92.edet (dtc q93.edet (dtc q109.edet (dtc q110.edet (dtc q114.edet (dtc q115.edet (dtc q116.edet (dtc q117.edet (dtc q118.edet (dtc q119.edet (dtc q120.edet (dtc q121.edet dtn))))))))))))
theorem sound:EntrySound E 191 en:=mkSound ground loops (by kernel_rfl) (fun x K=>eqv q92.F q93.F q109.F q110.F q114.F q115.F q116.F q117.F q118.F q119.F q120.F q121.F x.1 x.2.1 K)
end q122
namespace q123
abbrev A:List Ty:=[(.st 1),(.int .i64)]
abbrev C:=(cTy (.st 1))
abbrev T:Type:=Disk->Int->(Disk->Prop)->Prop
def tab:Tab:=[]
def F (d:Disk) (n_1:Int) (K:Disk->Prop):Prop:=
 (K (⟨d.sure,d.cache,(maxI2 n_1 0),d.dead⟩:Disk))
def en:Entry:=mkEntry A C fun x=>F x.1 x.2.1
theorem eqv (d:Disk) (n_1:Int) (K:Disk->Prop):apure E tab (fun _=>none) 4 13 [enc (.st 1) d,enc (.int .i64) n_1] (ansK C K)=F d n_1 K:=by kernel_rfl
theorem loops:LoopsOk E tab (fun _=>none) 4 13:=lpn _ _ _ _
theorem det (d:Disk) (n_1:Int):Det (F d n_1):=by
 unfold F
 repeat' with_reducible first|exact det_ret _
theorem edet a:Det (en a):=mkD (fun x:Dens A=>det x.1 x.2.1) a
theorem ground:Ground E tab:=gnd (tab_nil _) dtn
theorem sound:EntrySound E 13 en:=mkSound ground loops (by kernel_rfl) (fun x K=>eqv  x.1 x.2.1 K)
end q123
namespace q124
abbrev A:List Ty:=[(.st 15),(.st 12)]
abbrev C:=(cTwo (.st 15) (.slice (.st 11)))
abbrev T:Type:=Cluster->Event->((Cluster×(List Outp))->Prop)->Prop
def tv (f0:q65.T) (f1:q87.T) (f2:q66.T) (f3:q67.T) (f4:q69.T) (f5:q81.T) (f6:q88.T) (f7:q85.T) (f8:q86.T) (f9:q122.T) (f10:q63.T) (f11:q44.T) (f12:q46.T) (f13:q123.T) (f14:q92.T):Tab:=[(183,mkEntry q65.A q65.C fun x=>f0 x.1 x.2.1),(193,mkEntry q87.A q87.C fun x=>f1 x.1 x.2.1 x.2.2.1 x.2.2.2.1),(184,mkEntry q66.A q66.C fun x=>f2 x.1 x.2.1),(185,mkEntry q67.A q67.C fun x=>f3 x.1 x.2.1),(186,mkEntry q69.A q69.C fun x=>f4 x.1 x.2.1 x.2.2.1),(187,mkEntry q81.A q81.C fun x=>f5 x.1 x.2.1 x.2.2.1 x.2.2.2.1),(188,mkEntry q88.A q88.C fun x=>f6 x.1 x.2.1),(234,mkEntry q85.A q85.C fun x=>f7 x.1),(235,mkEntry q86.A q86.C fun x=>f8 x.1),(191,mkEntry q122.A q122.C fun x=>f9 x.1 x.2.1),(176,mkEntry q63.A q63.C fun x=>f10 x.1),(129,mkEntry q44.A q44.C fun x=>f11 x.1 x.2.1),(192,mkEntry q46.A q46.C fun x=>f12 x.1 x.2.1 x.2.2.1 x.2.2.2.1),(13,mkEntry q123.A q123.C fun x=>f13 x.1 x.2.1),(30,mkEntry q92.A q92.C fun x=>f14 x.1 x.2.1)]
def tab:Tab:=tv q65.F q87.F q66.F q67.F q69.F q81.F q88.F q85.F q86.F q122.F q63.F q44.F q46.F q123.F q92.F
def FV (f0:q65.T) (f1:q87.T) (f2:q66.T) (f3:q67.T) (f4:q69.T) (f5:q81.T) (f6:q88.T) (f7:q85.T) (f8:q86.T) (f9:q122.T) (f10:q63.T) (f11:q44.T) (f12:q46.T) (f13:q123.T) (f14:q92.T) (c:Cluster) (e:Event) (K:(Cluster×(List Outp))->Prop):Prop:=
 (bif(e.node==0)then(bif(e.kind==1)then(f0 c.n0 e.id fun r1=>(f1 c 0 r1.1 r1.2 fun r2=>(K (r2.1,r2.2))))else(bif(e.kind==2)then(f2 c.n0 e.id fun r3=>(f1 c 0 r3.1 r3.2 fun r4=>(K (r4.1,r4.2))))else(bif(e.kind==3)then(f3 c.n0 e.id fun r5=>(f1 c 0 r5.1 r5.2 fun r6=>(K (r6.1,r6.2))))else(bif(e.kind==4)then(f4 c.n0 e.id e.block fun r7=>(f1 c 0 r7.1 r7.2 fun r8=>(K (r8.1,r8.2))))else(bif(e.kind==5)then(f5 c.n0 e.id e.block e.data fun r9=>(f1 c 0 r9.1 r9.2 fun r10=>(K (r10.1,r10.2))))else(bif(e.kind==6)then(f6 c 0 fun r11=>(K (r11.1,r11.2)))else(bif(e.kind==7)then(bif(e.kind==7)then(bif(!c.link.up)then(K ((⟨c.n0,c.n1,c.link,false,c.w1⟩:Cluster),([]:List Outp)))else(f7 c.link fun r12=>(bif(!c.n0.up)then(bif(!c.n1.up)then(K ((⟨c.n0,c.n1,r12,false,c.w1⟩:Cluster),([]:List Outp)))else(f8 c.n1 fun r13=>(bif(decide (r13.2.length * 48≤room))then(bif(!r13.1.up)then(K ((⟨c.n0,r13.1,r12,false,false⟩:Cluster),r13.2))else(K ((⟨c.n0,r13.1,r12,false,c.w1⟩:Cluster),r13.2)))else False)))else(f8 c.n0 fun r14=>(bif(decide (r14.2.length * 48≤room))then(bif(!r14.1.up)then(bif(!c.n1.up)then(K ((⟨r14.1,c.n1,r12,false,c.w1⟩:Cluster),r14.2))else(f8 c.n1 fun r15=>(bif(decide ((r14.2.length+r15.2.length) * 48≤room))then(bif(!r15.1.up)then(K ((⟨r14.1,r15.1,r12,false,false⟩:Cluster),(r14.2++r15.2)))else(K ((⟨r14.1,r15.1,r12,false,c.w1⟩:Cluster),(r14.2++r15.2))))else False)))else(bif(!c.n1.up)then(K ((⟨r14.1,c.n1,r12,false,c.w1⟩:Cluster),r14.2))else(f8 c.n1 fun r16=>(bif(decide ((r14.2.length+r16.2.length) * 48≤room))then(bif(!r16.1.up)then(K ((⟨r14.1,r16.1,r12,false,false⟩:Cluster),(r14.2++r16.2)))else(K ((⟨r14.1,r16.1,r12,false,c.w1⟩:Cluster),(r14.2++r16.2))))else False))))else False)))))else(bif(!c.link.up)then(K (c,([]:List Outp)))else(f7 c.link fun r17=>(bif(!c.n0.up)then(bif(!c.n1.up)then(K ((⟨c.n0,c.n1,r17,c.w0,c.w1⟩:Cluster),([]:List Outp)))else(f8 c.n1 fun r18=>(bif(decide (r18.2.length * 48≤room))then(bif(!r18.1.up)then(K ((⟨c.n0,r18.1,r17,c.w0,false⟩:Cluster),r18.2))else(K ((⟨c.n0,r18.1,r17,c.w0,c.w1⟩:Cluster),r18.2)))else False)))else(f8 c.n0 fun r19=>(bif(decide (r19.2.length * 48≤room))then(bif(!r19.1.up)then(bif(!c.n1.up)then(K ((⟨r19.1,c.n1,r17,false,c.w1⟩:Cluster),r19.2))else(f8 c.n1 fun r20=>(bif(decide ((r19.2.length+r20.2.length) * 48≤room))then(bif(!r20.1.up)then(K ((⟨r19.1,r20.1,r17,false,false⟩:Cluster),(r19.2++r20.2)))else(K ((⟨r19.1,r20.1,r17,false,c.w1⟩:Cluster),(r19.2++r20.2))))else False)))else(bif(!c.n1.up)then(K ((⟨r19.1,c.n1,r17,c.w0,c.w1⟩:Cluster),r19.2))else(f8 c.n1 fun r21=>(bif(decide ((r19.2.length+r21.2.length) * 48≤room))then(bif(!r21.1.up)then(K ((⟨r19.1,r21.1,r17,c.w0,false⟩:Cluster),(r19.2++r21.2)))else(K ((⟨r19.1,r21.1,r17,c.w0,c.w1⟩:Cluster),(r19.2++r21.2))))else False))))else False))))))else(bif(e.kind==8)then(bif(e.kind==7)then(bif(!c.link.up)then(K ((⟨c.n0,c.n1,c.link,false,c.w1⟩:Cluster),([]:List Outp)))else(f7 c.link fun r22=>(bif(!c.n0.up)then(bif(!c.n1.up)then(K ((⟨c.n0,c.n1,r22,false,c.w1⟩:Cluster),([]:List Outp)))else(f8 c.n1 fun r23=>(bif(decide (r23.2.length * 48≤room))then(bif(!r23.1.up)then(K ((⟨c.n0,r23.1,r22,false,false⟩:Cluster),r23.2))else(K ((⟨c.n0,r23.1,r22,false,c.w1⟩:Cluster),r23.2)))else False)))else(f8 c.n0 fun r24=>(bif(decide (r24.2.length * 48≤room))then(bif(!r24.1.up)then(bif(!c.n1.up)then(K ((⟨r24.1,c.n1,r22,false,c.w1⟩:Cluster),r24.2))else(f8 c.n1 fun r25=>(bif(decide ((r24.2.length+r25.2.length) * 48≤room))then(bif(!r25.1.up)then(K ((⟨r24.1,r25.1,r22,false,false⟩:Cluster),(r24.2++r25.2)))else(K ((⟨r24.1,r25.1,r22,false,c.w1⟩:Cluster),(r24.2++r25.2))))else False)))else(bif(!c.n1.up)then(K ((⟨r24.1,c.n1,r22,false,c.w1⟩:Cluster),r24.2))else(f8 c.n1 fun r26=>(bif(decide ((r24.2.length+r26.2.length) * 48≤room))then(bif(!r26.1.up)then(K ((⟨r24.1,r26.1,r22,false,false⟩:Cluster),(r24.2++r26.2)))else(K ((⟨r24.1,r26.1,r22,false,c.w1⟩:Cluster),(r24.2++r26.2))))else False))))else False)))))else(bif(!c.link.up)then(K (c,([]:List Outp)))else(f7 c.link fun r27=>(bif(!c.n0.up)then(bif(!c.n1.up)then(K ((⟨c.n0,c.n1,r27,c.w0,c.w1⟩:Cluster),([]:List Outp)))else(f8 c.n1 fun r28=>(bif(decide (r28.2.length * 48≤room))then(bif(!r28.1.up)then(K ((⟨c.n0,r28.1,r27,c.w0,false⟩:Cluster),r28.2))else(K ((⟨c.n0,r28.1,r27,c.w0,c.w1⟩:Cluster),r28.2)))else False)))else(f8 c.n0 fun r29=>(bif(decide (r29.2.length * 48≤room))then(bif(!r29.1.up)then(bif(!c.n1.up)then(K ((⟨r29.1,c.n1,r27,false,c.w1⟩:Cluster),r29.2))else(f8 c.n1 fun r30=>(bif(decide ((r29.2.length+r30.2.length) * 48≤room))then(bif(!r30.1.up)then(K ((⟨r29.1,r30.1,r27,false,false⟩:Cluster),(r29.2++r30.2)))else(K ((⟨r29.1,r30.1,r27,false,c.w1⟩:Cluster),(r29.2++r30.2))))else False)))else(bif(!c.n1.up)then(K ((⟨r29.1,c.n1,r27,c.w0,c.w1⟩:Cluster),r29.2))else(f8 c.n1 fun r31=>(bif(decide ((r29.2.length+r31.2.length) * 48≤room))then(bif(!r31.1.up)then(K ((⟨r29.1,r31.1,r27,c.w0,false⟩:Cluster),(r29.2++r31.2)))else(K ((⟨r29.1,r31.1,r27,c.w0,c.w1⟩:Cluster),(r29.2++r31.2))))else False))))else False))))))else(bif(e.kind==9)then(bif((maxI2 (minI 0 1) 0)==0)then(bif((c.link.to0.length:Int)==0)then(K (c,([]:List Outp)))else(oget (getI c.link.to0 0) fun v35=>(bif(decide (0≤1)&&decide (1≤(c.link.to0.length:Int)))then(bif(decide ((sub c.link.to0 (Int.toNat 1) c.link.to0.length).length * 16≤room))then(f9 c.n0 v35 fun r36=>(f1 (⟨c.n0,c.n1,(⟨c.link.up,c.link.session,(sub c.link.to0 (Int.toNat 1) c.link.to0.length),c.link.to1⟩:Link),c.w0,c.w1⟩:Cluster) 0 r36.1 r36.2 fun r37=>(K (r37.1,r37.2))))else False)else False)))else(bif((maxI2 (minI 0 1) 0)==1)then(bif((c.link.to1.length:Int)==0)then(K (c,([]:List Outp)))else(oget (getI c.link.to0 0) fun v32=>(bif(decide (0≤1)&&decide (1≤(c.link.to0.length:Int)))then(bif(decide ((sub c.link.to0 (Int.toNat 1) c.link.to0.length).length * 16≤room))then(f9 c.n0 v32 fun r33=>(f1 (⟨c.n0,c.n1,(⟨c.link.up,c.link.session,(sub c.link.to0 (Int.toNat 1) c.link.to0.length),c.link.to1⟩:Link),c.w0,c.w1⟩:Cluster) 0 r33.1 r33.2 fun r34=>(K (r34.1,r34.2))))else False)else False)))else False))else(bif(e.kind==10)then(bif(!c.n0.up)then(K (c,([]:List Outp)))else(f10 c.n0 fun r38=>(f1 c 0 r38 ([]:List Outp) fun r39=>(K (r39.1,r39.2)))))else(bif(e.kind==11)then(f11 c.n0 e.keeps fun r40=>(f12 r40.1 e.id r40.2 ([]:Str) fun r41=>(K ((⟨r40.1,c.n1,c.link,c.w0,c.w1⟩:Cluster),([r41]:List Outp)))))else(bif(e.kind==12)then(bif c.n0.up then(f13 c.n0.store.disk (IntKind.i64.wrap (minI e.num 1000)) fun r42=>(f1 c 0 (⟨c.n0.id,c.n0.up,(⟨r42,c.n0.store.sup,c.n0.store.mask⟩:Store),c.n0.primary,c.n0.state,c.n0.session,c.n0.peer,c.n0.peerPri,c.n0.req,c.n0.asking,c.n0.askId,c.n0.wanted,c.n0.minted,c.n0.draws,c.n0.mints⟩:Node) ([]:List Outp) fun r43=>(K (r43.1,r43.2))))else(f1 c 0 c.n0 ([]:List Outp) fun r44=>(K (r44.1,r44.2))))else(bif(e.kind==13)then(bif(decide ((c.n0.draws.length:Int) < 1000))then(bif(decide (c.n0.draws.length * 8≤room))then(bif(decide ((c.n0.draws.length+([e.num]:List Int).length) * 8≤room))then(K ((⟨(⟨c.n0.id,c.n0.up,c.n0.store,c.n0.primary,c.n0.state,c.n0.session,c.n0.peer,c.n0.peerPri,c.n0.req,c.n0.asking,c.n0.askId,c.n0.wanted,c.n0.minted,(c.n0.draws++([e.num]:List Int)),c.n0.mints⟩:Node),c.n1,c.link,c.w0,c.w1⟩:Cluster),([]:List Outp)))else False)else False)else(K (c,([]:List Outp))))else(bif(e.kind==14)then(f14 e.data c.link.session fun r45=>(bif(r45.2==0)then(K (c,([]:List Outp)))else(f9 c.n0 e.data fun r46=>(f1 c 0 r46.1 r46.2 fun r47=>(K (r47.1,r47.2))))))else(K (c,([]:List Outp)))))))))))))))))else(bif(e.node==1)then(bif(e.kind==1)then(f0 c.n1 e.id fun r48=>(f1 c 1 r48.1 r48.2 fun r49=>(K (r49.1,r49.2))))else(bif(e.kind==2)then(f2 c.n1 e.id fun r50=>(f1 c 1 r50.1 r50.2 fun r51=>(K (r51.1,r51.2))))else(bif(e.kind==3)then(f3 c.n1 e.id fun r52=>(f1 c 1 r52.1 r52.2 fun r53=>(K (r53.1,r53.2))))else(bif(e.kind==4)then(f4 c.n1 e.id e.block fun r54=>(f1 c 1 r54.1 r54.2 fun r55=>(K (r55.1,r55.2))))else(bif(e.kind==5)then(f5 c.n1 e.id e.block e.data fun r56=>(f1 c 1 r56.1 r56.2 fun r57=>(K (r57.1,r57.2))))else(bif(e.kind==6)then(f6 c 1 fun r58=>(K (r58.1,r58.2)))else(bif(e.kind==7)then(bif(e.kind==7)then(bif(!c.link.up)then(K ((⟨c.n0,c.n1,c.link,c.w0,false⟩:Cluster),([]:List Outp)))else(f7 c.link fun r59=>(bif(!c.n0.up)then(bif(!c.n1.up)then(K ((⟨c.n0,c.n1,r59,c.w0,false⟩:Cluster),([]:List Outp)))else(f8 c.n1 fun r60=>(bif(decide (r60.2.length * 48≤room))then(bif(!r60.1.up)then(K ((⟨c.n0,r60.1,r59,c.w0,false⟩:Cluster),r60.2))else(K ((⟨c.n0,r60.1,r59,c.w0,false⟩:Cluster),r60.2)))else False)))else(f8 c.n0 fun r61=>(bif(decide (r61.2.length * 48≤room))then(bif(!r61.1.up)then(bif(!c.n1.up)then(K ((⟨r61.1,c.n1,r59,false,false⟩:Cluster),r61.2))else(f8 c.n1 fun r62=>(bif(decide ((r61.2.length+r62.2.length) * 48≤room))then(bif(!r62.1.up)then(K ((⟨r61.1,r62.1,r59,false,false⟩:Cluster),(r61.2++r62.2)))else(K ((⟨r61.1,r62.1,r59,false,false⟩:Cluster),(r61.2++r62.2))))else False)))else(bif(!c.n1.up)then(K ((⟨r61.1,c.n1,r59,c.w0,false⟩:Cluster),r61.2))else(f8 c.n1 fun r63=>(bif(decide ((r61.2.length+r63.2.length) * 48≤room))then(bif(!r63.1.up)then(K ((⟨r61.1,r63.1,r59,c.w0,false⟩:Cluster),(r61.2++r63.2)))else(K ((⟨r61.1,r63.1,r59,c.w0,false⟩:Cluster),(r61.2++r63.2))))else False))))else False)))))else(bif(!c.link.up)then(K (c,([]:List Outp)))else(f7 c.link fun r64=>(bif(!c.n0.up)then(bif(!c.n1.up)then(K ((⟨c.n0,c.n1,r64,c.w0,c.w1⟩:Cluster),([]:List Outp)))else(f8 c.n1 fun r65=>(bif(decide (r65.2.length * 48≤room))then(bif(!r65.1.up)then(K ((⟨c.n0,r65.1,r64,c.w0,false⟩:Cluster),r65.2))else(K ((⟨c.n0,r65.1,r64,c.w0,c.w1⟩:Cluster),r65.2)))else False)))else(f8 c.n0 fun r66=>(bif(decide (r66.2.length * 48≤room))then(bif(!r66.1.up)then(bif(!c.n1.up)then(K ((⟨r66.1,c.n1,r64,false,c.w1⟩:Cluster),r66.2))else(f8 c.n1 fun r67=>(bif(decide ((r66.2.length+r67.2.length) * 48≤room))then(bif(!r67.1.up)then(K ((⟨r66.1,r67.1,r64,false,false⟩:Cluster),(r66.2++r67.2)))else(K ((⟨r66.1,r67.1,r64,false,c.w1⟩:Cluster),(r66.2++r67.2))))else False)))else(bif(!c.n1.up)then(K ((⟨r66.1,c.n1,r64,c.w0,c.w1⟩:Cluster),r66.2))else(f8 c.n1 fun r68=>(bif(decide ((r66.2.length+r68.2.length) * 48≤room))then(bif(!r68.1.up)then(K ((⟨r66.1,r68.1,r64,c.w0,false⟩:Cluster),(r66.2++r68.2)))else(K ((⟨r66.1,r68.1,r64,c.w0,c.w1⟩:Cluster),(r66.2++r68.2))))else False))))else False))))))else(bif(e.kind==8)then(bif(e.kind==7)then(bif(!c.link.up)then(K ((⟨c.n0,c.n1,c.link,c.w0,false⟩:Cluster),([]:List Outp)))else(f7 c.link fun r69=>(bif(!c.n0.up)then(bif(!c.n1.up)then(K ((⟨c.n0,c.n1,r69,c.w0,false⟩:Cluster),([]:List Outp)))else(f8 c.n1 fun r70=>(bif(decide (r70.2.length * 48≤room))then(bif(!r70.1.up)then(K ((⟨c.n0,r70.1,r69,c.w0,false⟩:Cluster),r70.2))else(K ((⟨c.n0,r70.1,r69,c.w0,false⟩:Cluster),r70.2)))else False)))else(f8 c.n0 fun r71=>(bif(decide (r71.2.length * 48≤room))then(bif(!r71.1.up)then(bif(!c.n1.up)then(K ((⟨r71.1,c.n1,r69,false,false⟩:Cluster),r71.2))else(f8 c.n1 fun r72=>(bif(decide ((r71.2.length+r72.2.length) * 48≤room))then(bif(!r72.1.up)then(K ((⟨r71.1,r72.1,r69,false,false⟩:Cluster),(r71.2++r72.2)))else(K ((⟨r71.1,r72.1,r69,false,false⟩:Cluster),(r71.2++r72.2))))else False)))else(bif(!c.n1.up)then(K ((⟨r71.1,c.n1,r69,c.w0,false⟩:Cluster),r71.2))else(f8 c.n1 fun r73=>(bif(decide ((r71.2.length+r73.2.length) * 48≤room))then(bif(!r73.1.up)then(K ((⟨r71.1,r73.1,r69,c.w0,false⟩:Cluster),(r71.2++r73.2)))else(K ((⟨r71.1,r73.1,r69,c.w0,false⟩:Cluster),(r71.2++r73.2))))else False))))else False)))))else(bif(!c.link.up)then(K (c,([]:List Outp)))else(f7 c.link fun r74=>(bif(!c.n0.up)then(bif(!c.n1.up)then(K ((⟨c.n0,c.n1,r74,c.w0,c.w1⟩:Cluster),([]:List Outp)))else(f8 c.n1 fun r75=>(bif(decide (r75.2.length * 48≤room))then(bif(!r75.1.up)then(K ((⟨c.n0,r75.1,r74,c.w0,false⟩:Cluster),r75.2))else(K ((⟨c.n0,r75.1,r74,c.w0,c.w1⟩:Cluster),r75.2)))else False)))else(f8 c.n0 fun r76=>(bif(decide (r76.2.length * 48≤room))then(bif(!r76.1.up)then(bif(!c.n1.up)then(K ((⟨r76.1,c.n1,r74,false,c.w1⟩:Cluster),r76.2))else(f8 c.n1 fun r77=>(bif(decide ((r76.2.length+r77.2.length) * 48≤room))then(bif(!r77.1.up)then(K ((⟨r76.1,r77.1,r74,false,false⟩:Cluster),(r76.2++r77.2)))else(K ((⟨r76.1,r77.1,r74,false,c.w1⟩:Cluster),(r76.2++r77.2))))else False)))else(bif(!c.n1.up)then(K ((⟨r76.1,c.n1,r74,c.w0,c.w1⟩:Cluster),r76.2))else(f8 c.n1 fun r78=>(bif(decide ((r76.2.length+r78.2.length) * 48≤room))then(bif(!r78.1.up)then(K ((⟨r76.1,r78.1,r74,c.w0,false⟩:Cluster),(r76.2++r78.2)))else(K ((⟨r76.1,r78.1,r74,c.w0,c.w1⟩:Cluster),(r76.2++r78.2))))else False))))else False))))))else(bif(e.kind==9)then(bif((maxI2 (minI 1 1) 0)==0)then(bif((c.link.to0.length:Int)==0)then(K (c,([]:List Outp)))else(oget (getI c.link.to1 0) fun v82=>(bif(decide (0≤1)&&decide (1≤(c.link.to1.length:Int)))then(bif(decide ((sub c.link.to1 (Int.toNat 1) c.link.to1.length).length * 16≤room))then(f9 c.n1 v82 fun r83=>(f1 (⟨c.n0,c.n1,(⟨c.link.up,c.link.session,c.link.to0,(sub c.link.to1 (Int.toNat 1) c.link.to1.length)⟩:Link),c.w0,c.w1⟩:Cluster) 1 r83.1 r83.2 fun r84=>(K (r84.1,r84.2))))else False)else False)))else(bif((maxI2 (minI 1 1) 0)==1)then(bif((c.link.to1.length:Int)==0)then(K (c,([]:List Outp)))else(oget (getI c.link.to1 0) fun v79=>(bif(decide (0≤1)&&decide (1≤(c.link.to1.length:Int)))then(bif(decide ((sub c.link.to1 (Int.toNat 1) c.link.to1.length).length * 16≤room))then(f9 c.n1 v79 fun r80=>(f1 (⟨c.n0,c.n1,(⟨c.link.up,c.link.session,c.link.to0,(sub c.link.to1 (Int.toNat 1) c.link.to1.length)⟩:Link),c.w0,c.w1⟩:Cluster) 1 r80.1 r80.2 fun r81=>(K (r81.1,r81.2))))else False)else False)))else False))else(bif(e.kind==10)then(bif(!c.n1.up)then(K (c,([]:List Outp)))else(f10 c.n1 fun r85=>(f1 c 1 r85 ([]:List Outp) fun r86=>(K (r86.1,r86.2)))))else(bif(e.kind==11)then(f11 c.n1 e.keeps fun r87=>(f12 r87.1 e.id r87.2 ([]:Str) fun r88=>(K ((⟨c.n0,r87.1,c.link,c.w0,c.w1⟩:Cluster),([r88]:List Outp)))))else(bif(e.kind==12)then(bif c.n1.up then(f13 c.n1.store.disk (IntKind.i64.wrap (minI e.num 1000)) fun r89=>(f1 c 1 (⟨c.n1.id,c.n1.up,(⟨r89,c.n1.store.sup,c.n1.store.mask⟩:Store),c.n1.primary,c.n1.state,c.n1.session,c.n1.peer,c.n1.peerPri,c.n1.req,c.n1.asking,c.n1.askId,c.n1.wanted,c.n1.minted,c.n1.draws,c.n1.mints⟩:Node) ([]:List Outp) fun r90=>(K (r90.1,r90.2))))else(f1 c 1 c.n1 ([]:List Outp) fun r91=>(K (r91.1,r91.2))))else(bif(e.kind==13)then(bif(decide ((c.n1.draws.length:Int) < 1000))then(bif(decide (c.n1.draws.length * 8≤room))then(bif(decide ((c.n1.draws.length+([e.num]:List Int).length) * 8≤room))then(K ((⟨c.n0,(⟨c.n1.id,c.n1.up,c.n1.store,c.n1.primary,c.n1.state,c.n1.session,c.n1.peer,c.n1.peerPri,c.n1.req,c.n1.asking,c.n1.askId,c.n1.wanted,c.n1.minted,(c.n1.draws++([e.num]:List Int)),c.n1.mints⟩:Node),c.link,c.w0,c.w1⟩:Cluster),([]:List Outp)))else False)else False)else(K (c,([]:List Outp))))else(bif(e.kind==14)then(f14 e.data c.link.session fun r92=>(bif(r92.2==0)then(K (c,([]:List Outp)))else(f9 c.n1 e.data fun r93=>(f1 c 1 r93.1 r93.2 fun r94=>(K (r94.1,r94.2))))))else(K (c,([]:List Outp)))))))))))))))))else(K (c,([]:List Outp)))))
def F (c:Cluster) (e:Event) (K:(Cluster×(List Outp))->Prop):Prop:=FV q65.F q87.F q66.F q67.F q69.F q81.F q88.F q85.F q86.F q122.F q63.F q44.F q46.F q123.F q92.F c e K
def en:Entry:=mkEntry A C fun x=>F x.1 x.2.1
theorem eqv (f0:q65.T) (f1:q87.T) (f2:q66.T) (f3:q67.T) (f4:q69.T) (f5:q81.T) (f6:q88.T) (f7:q85.T) (f8:q86.T) (f9:q122.T) (f10:q63.T) (f11:q44.T) (f12:q46.T) (f13:q123.T) (f14:q92.T) (c:Cluster) (e:Event) (K:(Cluster×(List Outp))->Prop) (k:FV f0 f1 f2 f3 f4 f5 f6 f7 f8 f9 f10 f11 f12 f13 f14 c e K):apure E (tv f0 f1 f2 f3 f4 f5 f6 f7 f8 f9 f10 f11 f12 f13 f14) (fun _=>none) 4 130 [enc (.st 15) c,enc (.st 12) e] (ansK C K):=by
 obtain ⟨kd,nd,id,bl,dt,nm,kp⟩:=e
 rcases nd with (_ | _ | n) | n
 ·exact cast (by kernel_rfl) k
 ·exact cast (by kernel_rfl) k
 ·exact cast (by kernel_rfl) k
 ·exact cast (by kernel_rfl) k
theorem loops:LoopsOk E tab (fun _=>none) 4 130:=lpn _ _ _ _
theorem det (c:Cluster) (e:Event):Det (F c e):=by
 unfold F FV
 repeat' with_reducible first|exact det_ret _|exact det_false|refine det_cond _ ?_ ?_|refine det_oget _ (fun _=>?_)|refine det_bind (q65.det _ _) (fun _=>?_)|refine det_bind (q87.det _ _ _ _) (fun _=>?_)|refine det_bind (q66.det _ _) (fun _=>?_)|refine det_bind (q67.det _ _) (fun _=>?_)|refine det_bind (q69.det _ _ _) (fun _=>?_)|refine det_bind (q81.det _ _ _ _) (fun _=>?_)|refine det_bind (q88.det _ _) (fun _=>?_)|refine det_bind (q85.det _) (fun _=>?_)|refine det_bind (q86.det _) (fun _=>?_)|refine det_bind (q122.det _ _) (fun _=>?_)|refine det_bind (q63.det _) (fun _=>?_)|refine det_bind (q44.det _ _) (fun _=>?_)|refine det_bind (q46.det _ _ _ _) (fun _=>?_)|refine det_bind (q123.det _ _) (fun _=>?_)|refine det_bind (q92.det _ _) (fun _=>?_)
theorem edet a:Det (en a):=mkD (fun x:Dens A=>det x.1 x.2.1) a
theorem ground:Ground E tab:=gnd (tbc q65.sound (tbc q87.sound (tbc q66.sound (tbc q67.sound (tbc q69.sound (tbc q81.sound (tbc q88.sound (tbc q85.sound (tbc q86.sound (tbc q122.sound (tbc q63.sound (tbc q44.sound (tbc q46.sound (tbc q123.sound (tbc q92.sound (tab_nil _)))))))))))))))) (dtc q65.edet (dtc q87.edet (dtc q66.edet (dtc q67.edet (dtc q69.edet (dtc q81.edet (dtc q88.edet (dtc q85.edet (dtc q86.edet (dtc q122.edet (dtc q63.edet (dtc q44.edet (dtc q46.edet (dtc q123.edet (dtc q92.edet dtn)))))))))))))))
theorem sound:EntrySound E 130 en:=mkSoundI ground loops (by kernel_rfl) (fun (x:Dens A) K k=>eqv q65.F q87.F q66.F q67.F q69.F q81.F q88.F q85.F q86.F q122.F q63.F q44.F q46.F q123.F q92.F x.1 x.2.1 K k)
end q124
namespace q125
abbrev A:List Ty:=[(.st 15),(.slice (.st 12))]
abbrev C:=(cTwo (.st 15) (.slice (.st 11)))
abbrev T:Type:=Cluster->(List Event)->((Cluster×(List Outp))->Prop)->Prop
def tv (f0:q124.T):Tab:=[(130,mkEntry q124.A q124.C fun x=>f0 x.1 x.2.1)]
def tab:Tab:=tv q124.F
structure R where
def cR (_:R):St:={ fr:=fun _=>.top,hs:=hs0 }
def kR:Keep:={ ks:=[],bs:=[],hn:=0 }
structure L0 where
 l:(List Event)
 out:(List Outp)
 i:Int
 m0:Cluster
 m1:Cluster
def c0 (x:L0):St:={ fr:=lookL .top [(1,(.sl .any (.st 12) x.l)),(2,(.ptr 0 0)),(4,(.ptr 1 0)),(6,(.slr 3)),(7,(.int .i64 x.i))],hs:={ hp:=lookL .dead [(3,(.row false (.st 11) x.out)),(0,(.cells [(.int .i64 x.m0.n0.id),(.bool x.m0.n0.up),(.sl .any .str x.m0.n0.store.disk.sure),(.sl .any (.st 0) x.m0.n0.store.disk.cache),(.int .i64 x.m0.n0.store.disk.fuse),(.bool x.m0.n0.store.disk.dead),(.int .i64 x.m0.n0.store.sup.blocks),(.int .u64 x.m0.n0.store.sup.vector.current),(.int .u64 x.m0.n0.store.sup.vector.bitmap),(.int .u64 x.m0.n0.store.sup.vector.old0),(.int .u64 x.m0.n0.store.sup.vector.old1),(.bool x.m0.n0.store.sup.inc),(.bool x.m0.n0.store.sup.pri),(.bool x.m0.n0.store.sup.dis),(.int .u32 x.m0.n0.store.mask),(.bool x.m0.n0.primary),(.int .i64 x.m0.n0.state),(.int .u64 x.m0.n0.session),(.int .i64 x.m0.n0.peer.blocks),(.int .u64 x.m0.n0.peer.vector.current),(.int .u64 x.m0.n0.peer.vector.bitmap),(.int .u64 x.m0.n0.peer.vector.old0),(.int .u64 x.m0.n0.peer.vector.old1),(.bool x.m0.n0.peer.inc),(.bool x.m0.n0.peer.was),(.bool x.m0.n0.peer.dis),(.bool x.m0.n0.peer.pri),(.int .u32 x.m0.n0.peer.mask),(.bool x.m0.n0.peerPri),(.bool x.m0.n0.req.on),(.int .i64 x.m0.n0.req.id),(.int .i64 x.m0.n0.req.block),(.str x.m0.n0.req.data),(.bool x.m0.n0.asking),(.int .i64 x.m0.n0.askId),(.int .i64 x.m0.n0.wanted),(.bool x.m0.n0.minted),(.sl .any (.int .u64) x.m0.n0.draws),(.sl .any (.st 10) x.m0.n0.mints),(.int .i64 x.m0.n1.id),(.bool x.m0.n1.up),(.sl .any .str x.m0.n1.store.disk.sure),(.sl .any (.st 0) x.m0.n1.store.disk.cache),(.int .i64 x.m0.n1.store.disk.fuse),(.bool x.m0.n1.store.disk.dead),(.int .i64 x.m0.n1.store.sup.blocks),(.int .u64 x.m0.n1.store.sup.vector.current),(.int .u64 x.m0.n1.store.sup.vector.bitmap),(.int .u64 x.m0.n1.store.sup.vector.old0),(.int .u64 x.m0.n1.store.sup.vector.old1),(.bool x.m0.n1.store.sup.inc),(.bool x.m0.n1.store.sup.pri),(.bool x.m0.n1.store.sup.dis),(.int .u32 x.m0.n1.store.mask),(.bool x.m0.n1.primary),(.int .i64 x.m0.n1.state),(.int .u64 x.m0.n1.session),(.int .i64 x.m0.n1.peer.blocks),(.int .u64 x.m0.n1.peer.vector.current),(.int .u64 x.m0.n1.peer.vector.bitmap),(.int .u64 x.m0.n1.peer.vector.old0),(.int .u64 x.m0.n1.peer.vector.old1),(.bool x.m0.n1.peer.inc),(.bool x.m0.n1.peer.was),(.bool x.m0.n1.peer.dis),(.bool x.m0.n1.peer.pri),(.int .u32 x.m0.n1.peer.mask),(.bool x.m0.n1.peerPri),(.bool x.m0.n1.req.on),(.int .i64 x.m0.n1.req.id),(.int .i64 x.m0.n1.req.block),(.str x.m0.n1.req.data),(.bool x.m0.n1.asking),(.int .i64 x.m0.n1.askId),(.int .i64 x.m0.n1.wanted),(.bool x.m0.n1.minted),(.sl .any (.int .u64) x.m0.n1.draws),(.sl .any (.st 10) x.m0.n1.mints),(.bool x.m0.link.up),(.int .u64 x.m0.link.session),(.sl .any .str x.m0.link.to0),(.sl .any .str x.m0.link.to1),(.bool x.m0.w0),(.bool x.m0.w1)])),(1,(.cells [(.int .i64 x.m1.n0.id),(.bool x.m1.n0.up),(.sl .any .str x.m1.n0.store.disk.sure),(.sl .any (.st 0) x.m1.n0.store.disk.cache),(.int .i64 x.m1.n0.store.disk.fuse),(.bool x.m1.n0.store.disk.dead),(.int .i64 x.m1.n0.store.sup.blocks),(.int .u64 x.m1.n0.store.sup.vector.current),(.int .u64 x.m1.n0.store.sup.vector.bitmap),(.int .u64 x.m1.n0.store.sup.vector.old0),(.int .u64 x.m1.n0.store.sup.vector.old1),(.bool x.m1.n0.store.sup.inc),(.bool x.m1.n0.store.sup.pri),(.bool x.m1.n0.store.sup.dis),(.int .u32 x.m1.n0.store.mask),(.bool x.m1.n0.primary),(.int .i64 x.m1.n0.state),(.int .u64 x.m1.n0.session),(.int .i64 x.m1.n0.peer.blocks),(.int .u64 x.m1.n0.peer.vector.current),(.int .u64 x.m1.n0.peer.vector.bitmap),(.int .u64 x.m1.n0.peer.vector.old0),(.int .u64 x.m1.n0.peer.vector.old1),(.bool x.m1.n0.peer.inc),(.bool x.m1.n0.peer.was),(.bool x.m1.n0.peer.dis),(.bool x.m1.n0.peer.pri),(.int .u32 x.m1.n0.peer.mask),(.bool x.m1.n0.peerPri),(.bool x.m1.n0.req.on),(.int .i64 x.m1.n0.req.id),(.int .i64 x.m1.n0.req.block),(.str x.m1.n0.req.data),(.bool x.m1.n0.asking),(.int .i64 x.m1.n0.askId),(.int .i64 x.m1.n0.wanted),(.bool x.m1.n0.minted),(.sl .any (.int .u64) x.m1.n0.draws),(.sl .any (.st 10) x.m1.n0.mints),(.int .i64 x.m1.n1.id),(.bool x.m1.n1.up),(.sl .any .str x.m1.n1.store.disk.sure),(.sl .any (.st 0) x.m1.n1.store.disk.cache),(.int .i64 x.m1.n1.store.disk.fuse),(.bool x.m1.n1.store.disk.dead),(.int .i64 x.m1.n1.store.sup.blocks),(.int .u64 x.m1.n1.store.sup.vector.current),(.int .u64 x.m1.n1.store.sup.vector.bitmap),(.int .u64 x.m1.n1.store.sup.vector.old0),(.int .u64 x.m1.n1.store.sup.vector.old1),(.bool x.m1.n1.store.sup.inc),(.bool x.m1.n1.store.sup.pri),(.bool x.m1.n1.store.sup.dis),(.int .u32 x.m1.n1.store.mask),(.bool x.m1.n1.primary),(.int .i64 x.m1.n1.state),(.int .u64 x.m1.n1.session),(.int .i64 x.m1.n1.peer.blocks),(.int .u64 x.m1.n1.peer.vector.current),(.int .u64 x.m1.n1.peer.vector.bitmap),(.int .u64 x.m1.n1.peer.vector.old0),(.int .u64 x.m1.n1.peer.vector.old1),(.bool x.m1.n1.peer.inc),(.bool x.m1.n1.peer.was),(.bool x.m1.n1.peer.dis),(.bool x.m1.n1.peer.pri),(.int .u32 x.m1.n1.peer.mask),(.bool x.m1.n1.peerPri),(.bool x.m1.n1.req.on),(.int .i64 x.m1.n1.req.id),(.int .i64 x.m1.n1.req.block),(.str x.m1.n1.req.data),(.bool x.m1.n1.asking),(.int .i64 x.m1.n1.askId),(.int .i64 x.m1.n1.wanted),(.bool x.m1.n1.minted),(.sl .any (.int .u64) x.m1.n1.draws),(.sl .any (.st 10) x.m1.n1.mints),(.bool x.m1.link.up),(.int .u64 x.m1.link.session),(.sl .any .str x.m1.link.to0),(.sl .any .str x.m1.link.to1),(.bool x.m1.w0),(.bool x.m1.w1)]))],hn:=4 } }
def kp0:Keep:={ ks:=[(1,none),(2,none),(4,none),(6,some 3),(7,none)],bs:=[0,1],hn:=4,ts:=[(0,15),(1,15)] }
def p0 (st:St) (K:L0->Prop):Prop:=gHomes kp0 st <| gSl .any (.st 12) (st.fr 1) fun a1=>gPtr 0 0 (st.fr 2) <| gPtr 1 0 (st.fr 4) <| gSlr (st.fr 6) fun c2=>gRow false (.st 11) (st.hs.hp c2) fun a3=>gInt .i64 (st.fr 7) fun a4=>gBlkS 15 (st.hs.hp 0) fun a5=>gBlkS 15 (st.hs.hp 1) fun a6=>K ⟨a1,a3,a4,a5,a6⟩
set_option maxHeartbeats 4000000 in
theorem p0_ok (st:St) (K:L0->Prop) (h:p0 st K):∃ x,keepSt kp0 st=c0 x∧K x:=by
 obtain ⟨h0,h⟩:=gHomes_elim h
 obtain ⟨a1,h1,h⟩:=gSl_elim h
 obtain ⟨h2,h⟩:=gPtr_elim h
 obtain ⟨h3,h⟩:=gPtr_elim h
 obtain ⟨c2,h4,h⟩:=gSlr_elim h
 obtain ⟨a3,h5,h⟩:=gRow_elim h
 obtain ⟨a4,h6,h⟩:=gInt_elim h
 obtain ⟨z7,a5,h7,y7,h⟩:=gBlkS_elim h
 have q7:∀ ok,keptB kp0 ok 0 (.cells z7)=.cells (encS 15 a5):=fun _=>y7
 simp only [kp0] at q7
 obtain ⟨z8,a6,h8,y8,h⟩:=gBlkS_elim h
 have q8:∀ ok,keptB kp0 ok 1 (.cells z8)=.cells (encS 15 a6):=fun _=>y8
 simp only [kp0] at q8
 refine⟨_,?_,h⟩
 simp only [keepSt,h0]
 simp only [kp0,List.map,List.filterMap,homeOf,h1,h2,h3,h4,h5,h6,h7,h8,q7,q8,hmOf,List.append_nil,cond_true]
 rfl
def b0V (f0:q124.T) (rec kx:L0->Prop) (kr:R->Prop) (x:L0):Prop:=
 (bif(decide (x.i < (x.l.length:Int)))then(oget (getI x.l x.i) fun v1=>(f0 x.m0 v1 fun r2=>(bif(decide ((x.out.length+r2.2.length) * 48≤room))then(rec ⟨x.l,(x.out++r2.2),(IntKind.i64.wrap (x.i+1)),r2.1,x.m1⟩)else False)))else(kx ⟨x.l,x.out,x.i,x.m0,x.m1⟩))
def ltV (f0:q124.T):Nat->Option LSpec
 | 0=>some (mkLoop 0 kp0 kR p0 c0 cR (b0V f0))
 | _=>none
def lt:Nat->Option LSpec:=ltV q124.F
def FV (f0:q124.T) (c:Cluster) (l:(List Event)) (K:(Cluster×(List Outp))->Prop):Prop:=
 (∃ n,loopB (b0V f0) n (fun x3=>(K (x3.m0,x3.out))) (fun _=>False) ⟨l,([]:List Outp),0,c,(⟨(⟨0,false,(⟨(⟨([]:List Str),([]:List Write),0,false⟩:Disk),(⟨0,(⟨0,0,0,0⟩:Vec),false,false,false⟩:Super),0⟩:Store),false,0,0,(⟨0,(⟨0,0,0,0⟩:Vec),false,false,false,false,0⟩:Hello),false,(⟨false,0,0,([]:Str)⟩:Req),false,0,0,false,([]:List Int),([]:List Mint)⟩:Node),(⟨0,false,(⟨(⟨([]:List Str),([]:List Write),0,false⟩:Disk),(⟨0,(⟨0,0,0,0⟩:Vec),false,false,false⟩:Super),0⟩:Store),false,0,0,(⟨0,(⟨0,0,0,0⟩:Vec),false,false,false,false,0⟩:Hello),false,(⟨false,0,0,([]:Str)⟩:Req),false,0,0,false,([]:List Int),([]:List Mint)⟩:Node),(⟨false,0,([]:List Str),([]:List Str)⟩:Link),false,false⟩:Cluster)⟩)
def F (c:Cluster) (l:(List Event)) (K:(Cluster×(List Outp))->Prop):Prop:=FV q124.F c l K
def en:Entry:=mkEntry A C fun x=>F x.1 x.2.1
theorem eqv (f0:q124.T) (c:Cluster) (l:(List Event)) (K:(Cluster×(List Outp))->Prop):apure E (tv f0) (ltV f0) 4 72 [enc (.st 15) c,enc (.slice (.st 12)) l] (ansK C K)=FV f0 c l K:=by kernel_rfl
theorem l0v (f0:q124.T) (R:St->Prop) (Kx:Nat->St->Prop) (Kr:St->Prop) (x:L0):acode E (tv f0) (afun E (tv f0) 4) 31 (ltV f0) ((loopsIn E.P 72).getD 0 (0,.skip)).2 0 (fun s=>R (keepSt kp0 s)) (fun j s=>Kx j (keepSt kp0 s)) (fun s=>Kr (keepSt kR s)) (c0 x)=b0V f0 (fun x=>R (c0 x)) (fun x=>Kx 0 (c0 x)) (fun r=>Kr (cR r)) x:=by kernel_rfl
theorem l0_ok:LSound E tab (afun E tab 4) 31 lt 0 ((loopsIn E.P 72).getD 0 (0,.skip)).2 (mkLoop 0 kp0 kR p0 c0 cR (b0V q124.F)):=mkLoop_sound (by decide) (by decide) p0_ok (fun R Kx Kr x=>l0v q124.F R Kx Kr x)
theorem loops:LoopsOk E tab lt 4 72:=loops_of (nt:=31) (ids:=[0]) (by kernel_rfl) (by kernel_rfl) (by
 intro k i hk l hl
 match k,hk with
 | 0,hk=>cases hk;cases hl;exact l0_ok
 | _+1,hk=>exact absurd hk (by simp))
theorem det (c:Cluster) (l:(List Event)):Det (F c l):=by
 unfold F FV
 repeat' with_reducible first|exact det_ret _|exact det_false|refine det_cond _ ?_ ?_|refine det_oget _ (fun _=>?_)|refine det_bind (q124.det _ _) (fun _=>?_)|refine det_loop (fun _=>?_) (fun _=>?_) (fun _=>?_) _ | unfold b0V
theorem edet a:Det (en a):=mkD (fun x:Dens A=>det x.1 x.2.1) a
theorem ground:Ground E tab:=gnd (tbc q124.sound (tab_nil _)) (dtc q124.edet dtn)
theorem sound:EntrySound E 72 en:=mkSound ground loops (by kernel_rfl) (fun x K=>eqv q124.F x.1 x.2.1 K)
end q125
namespace q126
abbrev A:List Ty:=[(.int .u8),(.slice (.st 12))]
abbrev C:=(cTy (.st 15))
abbrev T:Type:=Int->(List Event)->(Cluster->Prop)->Prop
def tv (f0:q9.T) (f1:q45.T) (f2:q125.T):Tab:=[(41,mkEntry q9.A q9.C fun _=>f0),(71,mkEntry q45.A q45.C fun x=>f1 x.1 x.2.1),(72,mkEntry q125.A q125.C fun x=>f2 x.1 x.2.1)]
def tab:Tab:=tv q9.F q45.F q125.F
def FV (f0:q9.T) (f1:q45.T) (f2:q125.T) (blocks:Int) (l:(List Event)) (K:Cluster->Prop):Prop:=
 (bif(4==0)then False else(f0 fun r1=>(f1 (IntKind.i64.wrap (1+(IntKind.i64.wrap (blocks.tmod 4)))) r1 fun r2=>(f2 r2.1 l fun r3=>(K r3.1)))))
def F (blocks:Int) (l:(List Event)) (K:Cluster->Prop):Prop:=FV q9.F q45.F q125.F blocks l K
def en:Entry:=mkEntry A C fun x=>F x.1 x.2.1
theorem eqv (f0:q9.T) (f1:q45.T) (f2:q125.T) (blocks:Int) (l:(List Event)) (K:Cluster->Prop):apure E (tv f0 f1 f2) (fun _=>none) 4 27 [enc (.int .u8) blocks,enc (.slice (.st 12)) l] (ansK C K)=FV f0 f1 f2 blocks l K:=by kernel_rfl
theorem loops:LoopsOk E tab (fun _=>none) 4 27:=lpn _ _ _ _
theorem det (blocks:Int) (l:(List Event)):Det (F blocks l):=by
 unfold F FV
 repeat' with_reducible first|exact det_ret _|exact det_false|refine det_cond _ ?_ ?_|refine det_bind (q9.det) (fun _=>?_)|refine det_bind (q45.det _ _) (fun _=>?_)|refine det_bind (q125.det _ _) (fun _=>?_)
theorem edet a:Det (en a):=mkD (fun x:Dens A=>det x.1 x.2.1) a
theorem ground:Ground E tab:=gnd (tbc q9.sound (tbc q45.sound (tbc q125.sound (tab_nil _)))) (dtc q9.edet (dtc q45.edet (dtc q125.edet dtn)))
theorem sound:EntrySound E 27 en:=mkSound ground loops (by kernel_rfl) (fun x K=>eqv q9.F q45.F q125.F x.1 x.2.1 K)
end q126
namespace q127
abbrev A:List Ty:=[.str]
abbrev C:=(cTy (.int .u64))
abbrev T:Type:=Str->(Int->Prop)->Prop
def tab:Tab:=[]
structure R where
def cR (_:R):St:={ fr:=fun _=>.top,hs:=hs0 }
def kR:Keep:={ ks:=[],bs:=[],hn:=0 }
structure L0 where
 s:Str
 n0:Int
 t5:Int
 t6:Int
def c0 (x:L0):St:={ fr:=lookL .top [(0,(.str x.s)),(2,(.int .u64 x.n0)),(5,(.int .i64 x.t5)),(6,(.int .i64 x.t6))],hs:={ hp:=lookL .dead [],hn:=0 } }
def kp0:Keep:={ ks:=[(0,none),(2,none),(5,none),(6,none)],bs:=[],hn:=0 }
def p0 (st:St) (K:L0->Prop):Prop:=gStr (st.fr 0) fun a1=>gInt .u64 (st.fr 2) fun a2=>gInt .i64 (st.fr 5) fun a3=>gInt .i64 (st.fr 6) fun a4=>K ⟨a1,a2,a3,a4⟩
set_option maxHeartbeats 4000000 in
theorem p0_ok (st:St) (K:L0->Prop) (h:p0 st K):∃ x,keepSt kp0 st=c0 x∧K x:=by
 obtain ⟨a1,h0,h⟩:=gStr_elim h
 obtain ⟨a2,h1,h⟩:=gInt_elim h
 obtain ⟨a3,h2,h⟩:=gInt_elim h
 obtain ⟨a4,h3,h⟩:=gInt_elim h
 refine⟨_,?_,h⟩
 simp only [keepSt,kp0,List.map,h0,h1,h2,h3]
 rfl
def b0 (rec kx:L0->Prop) (kr:R->Prop) (x:L0):Prop:=
 (bif(decide (x.t6 < x.t5))then(oget (getI x.s x.t6) fun v1=>(rec ⟨x.s,(ior .u64 (ishl .u64 x.n0 8) (IntKind.u64.wrap (v1.toNat:Int))),x.t5,(IntKind.i64.wrap (x.t6+1))⟩))else(kx ⟨x.s,x.n0,x.t5,x.t6⟩))
def lt:Nat->Option LSpec
 | 0=>some (mkLoop 0 kp0 kR p0 c0 cR b0)
 | _=>none
def F (s:Str) (K:Int->Prop):Prop:=
 (∃ n,loopB b0 n (fun x2=>(K x2.n0)) (fun _=>False) ⟨s,0,(s.length:Int),0⟩)
def en:Entry:=mkEntry A C fun x=>F x.1
theorem eqv (s:Str) (K:Int->Prop):apure E tab lt 4 268 [enc .str s] (ansK C K)=F s K:=by kernel_rfl
theorem l0v (R:St->Prop) (Kx:Nat->St->Prop) (Kr:St->Prop) (x:L0):acode E tab (afun E tab 4) 18 lt ((loopsIn E.P 268).getD 0 (0,.skip)).2 0 (fun s=>R (keepSt kp0 s)) (fun j s=>Kx j (keepSt kp0 s)) (fun s=>Kr (keepSt kR s)) (c0 x)=b0 (fun x=>R (c0 x)) (fun x=>Kx 0 (c0 x)) (fun r=>Kr (cR r)) x:=by kernel_rfl
theorem l0_ok:LSound E tab (afun E tab 4) 18 lt 0 ((loopsIn E.P 268).getD 0 (0,.skip)).2 (mkLoop 0 kp0 kR p0 c0 cR b0):=mkLoop_sound (by decide) (by decide) p0_ok (fun R Kx Kr x=>l0v  R Kx Kr x)
theorem loops:LoopsOk E tab lt 4 268:=loops_of (nt:=18) (ids:=[0]) (by kernel_rfl) (by kernel_rfl) (by
 intro k i hk l hl
 match k,hk with
 | 0,hk=>cases hk;cases hl;exact l0_ok
 | _+1,hk=>exact absurd hk (by simp))
theorem det (s:Str):Det (F s):=by
 unfold F
 repeat' with_reducible first|exact det_ret _|exact det_false|refine det_cond _ ?_ ?_|refine det_oget _ (fun _=>?_)|refine det_loop (fun _=>?_) (fun _=>?_) (fun _=>?_) _ | unfold b0
theorem edet a:Det (en a):=mkD (fun x:Dens A=>det x.1) a
theorem ground:Ground E tab:=gnd (tab_nil _) dtn
theorem sound:EntrySound E 268 en:=mkSound ground loops (by kernel_rfl) (fun x K=>eqv  x.1 K)
end q127
namespace q128
abbrev A:List Ty:=[.str]
abbrev C:=(cTwo (.int .u32) .bool)
abbrev T:Type:=Str->((Int×Bool)->Prop)->Prop
def tv (f0:q127.T):Tab:=[(268,mkEntry q127.A q127.C fun x=>f0 x.1)]
def tab:Tab:=tv q127.F
def FV (f0:q127.T) (s:Str) (K:(Int×Bool)->Prop):Prop:=
 (bif((s.length:Int) != 4)then(K (0,false))else(f0 s fun r1=>(K ((IntKind.u32.wrap r1),true))))
def F (s:Str) (K:(Int×Bool)->Prop):Prop:=FV q127.F s K
def en:Entry:=mkEntry A C fun x=>F x.1
theorem eqv (f0:q127.T) (s:Str) (K:(Int×Bool)->Prop):apure E (tv f0) (fun _=>none) 4 267 [enc .str s] (ansK C K)=FV f0 s K:=by kernel_rfl
theorem loops:LoopsOk E tab (fun _=>none) 4 267:=lpn _ _ _ _
theorem det (s:Str):Det (F s):=by
 unfold F FV
 repeat' with_reducible first|exact det_ret _|refine det_cond _ ?_ ?_|refine det_bind (q127.det _) (fun _=>?_)
theorem edet a:Det (en a):=mkD (fun x:Dens A=>det x.1) a
theorem ground:Ground E tab:=gnd (tbc q127.sound (tab_nil _)) (dtc q127.edet dtn)
theorem sound:EntrySound E 267 en:=mkSound ground loops (by kernel_rfl) (fun x K=>eqv q127.F x.1 K)
end q128
namespace q129
abbrev A:List Ty:=[.str]
abbrev C:=(cTy (.int .u32))
abbrev T:Type:=Str->(Int->Prop)->Prop
def tab:Tab:=[]
structure R where
def cR (_:R):St:={ fr:=fun _=>.top,hs:=hs0 }
def kR:Keep:={ ks:=[],bs:=[],hn:=0 }
structure L0 where
 s:Str
 n0:Int
 t6:Int
 t7:Int
def c0 (x:L0):St:={ fr:=lookL .top [(0,(.str x.s)),(3,(.int .u32 x.n0)),(6,(.int .i64 x.t6)),(7,(.int .i64 x.t7))],hs:={ hp:=lookL .dead [],hn:=0 } }
def kp0:Keep:={ ks:=[(0,none),(3,none),(6,none),(7,none)],bs:=[],hn:=0 }
def p0 (st:St) (K:L0->Prop):Prop:=gStr (st.fr 0) fun a1=>gInt .u32 (st.fr 3) fun a2=>gInt .i64 (st.fr 6) fun a3=>gInt .i64 (st.fr 7) fun a4=>K ⟨a1,a2,a3,a4⟩
set_option maxHeartbeats 4000000 in
theorem p0_ok (st:St) (K:L0->Prop) (h:p0 st K):∃ x,keepSt kp0 st=c0 x∧K x:=by
 obtain ⟨a1,h0,h⟩:=gStr_elim h
 obtain ⟨a2,h1,h⟩:=gInt_elim h
 obtain ⟨a3,h2,h⟩:=gInt_elim h
 obtain ⟨a4,h3,h⟩:=gInt_elim h
 refine⟨_,?_,h⟩
 simp only [keepSt,kp0,List.map,h0,h1,h2,h3]
 rfl
def b0 (rec kx:L0->Prop) (kr:R->Prop) (x:L0):Prop:=
 (bif(decide (x.t7 < x.t6))then(oget (getI x.s x.t7) fun v1=>(rec ⟨x.s,(IntKind.u32.wrap ((ixor .u32 x.n0 (IntKind.u32.wrap (v1.toNat:Int))) * 16777619)),x.t6,(IntKind.i64.wrap (x.t7+1))⟩))else(kx ⟨x.s,x.n0,x.t6,x.t7⟩))
def lt:Nat->Option LSpec
 | 0=>some (mkLoop 0 kp0 kR p0 c0 cR b0)
 | _=>none
def F (s:Str) (K:Int->Prop):Prop:=
 (∃ n,loopB b0 n (fun x2=>(K x2.n0)) (fun _=>False) ⟨s,2166136261,(s.length:Int),0⟩)
def en:Entry:=mkEntry A C fun x=>F x.1
theorem eqv (s:Str) (K:Int->Prop):apure E tab lt 4 217 [enc .str s] (ansK C K)=F s K:=by kernel_rfl
theorem l0v (R:St->Prop) (Kx:Nat->St->Prop) (Kr:St->Prop) (x:L0):acode E tab (afun E tab 4) 19 lt ((loopsIn E.P 217).getD 0 (0,.skip)).2 0 (fun s=>R (keepSt kp0 s)) (fun j s=>Kx j (keepSt kp0 s)) (fun s=>Kr (keepSt kR s)) (c0 x)=b0 (fun x=>R (c0 x)) (fun x=>Kx 0 (c0 x)) (fun r=>Kr (cR r)) x:=by kernel_rfl
theorem l0_ok:LSound E tab (afun E tab 4) 19 lt 0 ((loopsIn E.P 217).getD 0 (0,.skip)).2 (mkLoop 0 kp0 kR p0 c0 cR b0):=mkLoop_sound (by decide) (by decide) p0_ok (fun R Kx Kr x=>l0v  R Kx Kr x)
theorem loops:LoopsOk E tab lt 4 217:=loops_of (nt:=19) (ids:=[0]) (by kernel_rfl) (by kernel_rfl) (by
 intro k i hk l hl
 match k,hk with
 | 0,hk=>cases hk;cases hl;exact l0_ok
 | _+1,hk=>exact absurd hk (by simp))
theorem det (s:Str):Det (F s):=by
 unfold F
 repeat' with_reducible first|exact det_ret _|exact det_false|refine det_cond _ ?_ ?_|refine det_oget _ (fun _=>?_)|refine det_loop (fun _=>?_) (fun _=>?_) (fun _=>?_) _ | unfold b0
theorem edet a:Det (en a):=mkD (fun x:Dens A=>det x.1) a
theorem ground:Ground E tab:=gnd (tab_nil _) dtn
theorem sound:EntrySound E 217 en:=mkSound ground loops (by kernel_rfl) (fun x K=>eqv  x.1 K)
end q129
namespace q130
abbrev A:List Ty:=[.str]
abbrev C:=(cTwo .str (.int .i64))
abbrev T:Type:=Str->((Str×Int)->Prop)->Prop
def tv (f0:q128.T) (f1:q129.T):Tab:=[(267,mkEntry q128.A q128.C fun x=>f0 x.1),(217,mkEntry q129.A q129.C fun x=>f1 x.1)]
def tab:Tab:=tv q128.F q129.F
def FV (f0:q128.T) (f1:q129.T) (s:Str) (K:(Str×Int)->Prop):Prop:=
 (bif(decide ((IntKind.i64.wrap ((s.length:Int) - 4)) < 0))then(K (([]:Str),2))else(bif(decide (0≤(IntKind.i64.wrap ((s.length:Int) - 4)))&&decide ((IntKind.i64.wrap ((s.length:Int) - 4))≤(s.length:Int)))then(f0 (sub s (Int.toNat (IntKind.i64.wrap ((s.length:Int) - 4))) s.length) fun r1=>(bif(decide (0≤(IntKind.i64.wrap ((s.length:Int) - 4)))&&decide ((IntKind.i64.wrap ((s.length:Int) - 4))≤(s.length:Int)))then(f1 (sub s 0 (Int.toNat (IntKind.i64.wrap ((s.length:Int) - 4)))) fun r2=>(bif(r1.1 != r2)then(K (([]:Str),3))else(bif(decide (0≤(IntKind.i64.wrap ((s.length:Int) - 4)))&&decide ((IntKind.i64.wrap ((s.length:Int) - 4))≤(s.length:Int)))then(K ((sub s 0 (Int.toNat (IntKind.i64.wrap ((s.length:Int) - 4)))),0))else False)))else False))else False))
def F (s:Str) (K:(Str×Int)->Prop):Prop:=FV q128.F q129.F s K
def en:Entry:=mkEntry A C fun x=>F x.1
theorem eqv (f0:q128.T) (f1:q129.T) (s:Str) (K:(Str×Int)->Prop):apure E (tv f0 f1) (fun _=>none) 4 247 [enc .str s] (ansK C K)=FV f0 f1 s K:=by kernel_rfl
theorem loops:LoopsOk E tab (fun _=>none) 4 247:=lpn _ _ _ _
theorem det (s:Str):Det (F s):=by
 unfold F FV
 repeat' with_reducible first|exact det_ret _|exact det_false|refine det_cond _ ?_ ?_|refine det_bind (q128.det _) (fun _=>?_)|refine det_bind (q129.det _) (fun _=>?_)
theorem edet a:Det (en a):=mkD (fun x:Dens A=>det x.1) a
theorem ground:Ground E tab:=gnd (tbc q128.sound (tbc q129.sound (tab_nil _))) (dtc q128.edet (dtc q129.edet dtn))
theorem sound:EntrySound E 247 en:=mkSound ground loops (by kernel_rfl) (fun x K=>eqv q128.F q129.F x.1 K)
end q130
namespace q131
abbrev A:List Ty:=[.str]
abbrev C:=(cTwo (.int .u64) .bool)
abbrev T:Type:=Str->((Int×Bool)->Prop)->Prop
def tv (f0:q127.T):Tab:=[(268,mkEntry q127.A q127.C fun x=>f0 x.1)]
def tab:Tab:=tv q127.F
def FV (f0:q127.T) (s:Str) (K:(Int×Bool)->Prop):Prop:=
 (bif((s.length:Int) != 8)then(K (0,false))else(f0 s fun r1=>(K (r1,true))))
def F (s:Str) (K:(Int×Bool)->Prop):Prop:=FV q127.F s K
def en:Entry:=mkEntry A C fun x=>F x.1
theorem eqv (f0:q127.T) (s:Str) (K:(Int×Bool)->Prop):apure E (tv f0) (fun _=>none) 4 248 [enc .str s] (ansK C K)=FV f0 s K:=by kernel_rfl
theorem loops:LoopsOk E tab (fun _=>none) 4 248:=lpn _ _ _ _
theorem det (s:Str):Det (F s):=by
 unfold F FV
 repeat' with_reducible first|exact det_ret _|refine det_cond _ ?_ ?_|refine det_bind (q127.det _) (fun _=>?_)
theorem edet a:Det (en a):=mkD (fun x:Dens A=>det x.1) a
theorem ground:Ground E tab:=gnd (tbc q127.sound (tab_nil _)) (dtc q127.edet dtn)
theorem sound:EntrySound E 248 en:=mkSound ground loops (by kernel_rfl) (fun x K=>eqv q127.F x.1 K)
end q131
namespace q132
abbrev A:List Ty:=[(.int .i64)]
abbrev C:=(cTwo (.st 6) .bool)
abbrev T:Type:=Int->((Shape×Bool)->Prop)->Prop
def tab:Tab:=[]
def F (kind:Int) (K:(Shape×Bool)->Prop):Prop:=
 (bif(kind==1)then(K ((⟨true,false,false⟩:Shape),true))else(bif(kind==2)then(K ((⟨false,true,true⟩:Shape),true))else(bif(kind==6)then(K ((⟨false,true,true⟩:Shape),true))else(bif(kind==3)then(K ((⟨false,true,false⟩:Shape),true))else(bif(kind==4)then(K ((⟨false,true,false⟩:Shape),true))else(bif(kind==5)then(K ((⟨false,true,false⟩:Shape),true))else(bif(kind==7)then(K ((⟨false,true,false⟩:Shape),true))else(bif(kind==8)then(K ((⟨false,false,false⟩:Shape),true))else(bif(kind==9)then(K ((⟨false,false,false⟩:Shape),true))else(bif(kind==10)then(K ((⟨false,false,false⟩:Shape),true))else(bif(kind==11)then(K ((⟨false,false,false⟩:Shape),true))else(bif(kind==12)then(K ((⟨false,false,false⟩:Shape),true))else(bif(kind==13)then(K ((⟨false,false,false⟩:Shape),true))else(K ((⟨false,false,false⟩:Shape),false)))))))))))))))
def en:Entry:=mkEntry A C fun x=>F x.1
theorem eqv (kind:Int) (K:(Shape×Bool)->Prop):apure E tab (fun _=>none) 4 165 [enc (.int .i64) kind] (ansK C K)=F kind K:=by kernel_rfl
theorem loops:LoopsOk E tab (fun _=>none) 4 165:=lpn _ _ _ _
theorem det (kind:Int):Det (F kind):=by
 unfold F
 repeat' with_reducible first|exact det_ret _|refine det_cond _ ?_ ?_
theorem edet a:Det (en a):=mkD (fun x:Dens A=>det x.1) a
theorem ground:Ground E tab:=gnd (tab_nil _) dtn
theorem sound:EntrySound E 165 en:=mkSound ground loops (by kernel_rfl) (fun x K=>eqv  x.1 K)
end q132
namespace q133
abbrev A:List Ty:=[(.int .u8),(.int .i64)]
abbrev C:=(cTwo (.slice .bool) .bool)
abbrev T:Type:=Int->Int->(((List Bool)×Bool)->Prop)->Prop
def tab:Tab:=[]
structure R where
def cR (_:R):St:={ fr:=fun _=>.top,hs:=hs0 }
def kR:Keep:={ ks:=[],bs:=[],hn:=0 }
structure L0 where
 b0:Int
 l:(List Bool)
 t23:Int
 t24:Int
def c0 (x:L0):St:={ fr:=lookL .top [(0,(.int .u8 x.b0)),(6,(.slr 1)),(23,(.int .i64 x.t23)),(24,(.int .i64 x.t24))],hs:={ hp:=lookL .dead [(1,(.row false .bool x.l))],hn:=2 } }
def kp0:Keep:={ ks:=[(0,none),(6,some 1),(23,none),(24,none)],bs:=[],hn:=2 }
def p0 (st:St) (K:L0->Prop):Prop:=gHomes kp0 st <| gInt .u8 (st.fr 0) fun a1=>gSlr (st.fr 6) fun c2=>gRow false .bool (st.hs.hp c2) fun a3=>gInt .i64 (st.fr 23) fun a4=>gInt .i64 (st.fr 24) fun a5=>K ⟨a1,a3,a4,a5⟩
set_option maxHeartbeats 4000000 in
theorem p0_ok (st:St) (K:L0->Prop) (h:p0 st K):∃ x,keepSt kp0 st=c0 x∧K x:=by
 obtain ⟨h0,h⟩:=gHomes_elim h
 obtain ⟨a1,h1,h⟩:=gInt_elim h
 obtain ⟨c2,h2,h⟩:=gSlr_elim h
 obtain ⟨a3,h3,h⟩:=gRow_elim h
 obtain ⟨a4,h4,h⟩:=gInt_elim h
 obtain ⟨a5,h5,h⟩:=gInt_elim h
 refine⟨_,?_,h⟩
 simp only [keepSt,h0]
 simp only [kp0,List.map,List.filterMap,homeOf,h1,h2,h3,h4,h5,hmOf,List.append_nil,cond_true]
 rfl
def b0 (rec kx:L0->Prop) (kr:R->Prop) (x:L0):Prop:=
 (bif(decide (x.t24 < x.t23))then(bif(decide (0≤x.t24))then(bif(decide (0≤x.t24)&&decide (x.t24 < (x.l.length:Int)))then(rec ⟨x.b0,(x.l.set (Int.toNat x.t24) ((iand .u8 (ishr .u8 x.b0 x.t24) 1)==1)),x.t23,(IntKind.i64.wrap (x.t24+1))⟩)else False)else False)else(kx ⟨x.b0,x.l,x.t23,x.t24⟩))
def lt:Nat->Option LSpec
 | 0=>some (mkLoop 0 kp0 kR p0 c0 cR b0)
 | _=>none
def F (b_0:Int) (n_1:Int) (K:((List Bool)×Bool)->Prop):Prop:=
 (bif(decide (n_1 < 0))then(K (([]:List Bool),false))else(bif(decide (n_1 > 8))then(K (([]:List Bool),false))else(bif(decide (0≤n_1))then(bif((ishr .u8 b_0 n_1) != 0)then(K (([]:List Bool),false))else(bif(n_1==n_1&&(decide (0≤n_1)&&decide (n_1 * (1:Nat)≤(room:Int))))then(∃ n,loopB b0 n (fun x1=>(K (x1.l,true))) (fun _=>False) ⟨b_0,(List.replicate (Int.toNat n_1) (false:Bool)),((List.replicate (Int.toNat n_1) (false:Bool)).length:Int),0⟩)else False))else False)))
def en:Entry:=mkEntry A C fun x=>F x.1 x.2.1
theorem eqv (b_0:Int) (n_1:Int) (K:((List Bool)×Bool)->Prop):apure E tab lt 4 278 [enc (.int .u8) b_0,enc (.int .i64) n_1] (ansK C K)=F b_0 n_1 K:=by kernel_rfl
theorem l0v (R:St->Prop) (Kx:Nat->St->Prop) (Kr:St->Prop) (x:L0):acode E tab (afun E tab 4) 37 lt ((loopsIn E.P 278).getD 0 (0,.skip)).2 0 (fun s=>R (keepSt kp0 s)) (fun j s=>Kx j (keepSt kp0 s)) (fun s=>Kr (keepSt kR s)) (c0 x)=b0 (fun x=>R (c0 x)) (fun x=>Kx 0 (c0 x)) (fun r=>Kr (cR r)) x:=by kernel_rfl
theorem l0_ok:LSound E tab (afun E tab 4) 37 lt 0 ((loopsIn E.P 278).getD 0 (0,.skip)).2 (mkLoop 0 kp0 kR p0 c0 cR b0):=mkLoop_sound (by decide) (by decide) p0_ok (fun R Kx Kr x=>l0v  R Kx Kr x)
theorem loops:LoopsOk E tab lt 4 278:=loops_of (nt:=37) (ids:=[0]) (by kernel_rfl) (by kernel_rfl) (by
 intro k i hk l hl
 match k,hk with
 | 0,hk=>cases hk;cases hl;exact l0_ok
 | _+1,hk=>exact absurd hk (by simp))
theorem det (b_0:Int) (n_1:Int):Det (F b_0 n_1):=by
 unfold F
 repeat' with_reducible first|exact det_ret _|exact det_false|refine det_cond _ ?_ ?_|refine det_loop (fun _=>?_) (fun _=>?_) (fun _=>?_) _ | unfold b0
theorem edet a:Det (en a):=mkD (fun x:Dens A=>det x.1 x.2.1) a
theorem ground:Ground E tab:=gnd (tab_nil _) dtn
theorem sound:EntrySound E 278 en:=mkSound ground loops (by kernel_rfl) (fun x K=>eqv  x.1 x.2.1 K)
end q133
namespace q134
abbrev A:List Ty:=[(.st 2)]
abbrev C:=(cTy .bool)
abbrev T:Type:=Vec->(Bool->Prop)->Prop
def tab:Tab:=[]
def F (v:Vec) (K:Bool->Prop):Prop:=
 (K (v.current != 0))
def en:Entry:=mkEntry A C fun x=>F x.1
theorem eqv (v:Vec) (K:Bool->Prop):apure E tab (fun _=>none) 4 259 [enc (.st 2) v] (ansK C K)=F v K:=by kernel_rfl
theorem loops:LoopsOk E tab (fun _=>none) 4 259:=lpn _ _ _ _
theorem det (v:Vec):Det (F v):=by
 unfold F
 repeat' with_reducible first|exact det_ret _
theorem edet a:Det (en a):=mkD (fun x:Dens A=>det x.1) a
theorem ground:Ground E tab:=gnd (tab_nil _) dtn
theorem sound:EntrySound E 259 en:=mkSound ground loops (by kernel_rfl) (fun x K=>eqv  x.1 K)
end q134
namespace q135
abbrev A:List Ty:=[(.int .i64)]
abbrev C:=(cTy .bool)
abbrev T:Type:=Int->(Bool->Prop)->Prop
def tab:Tab:=[]
def F (i:Int) (K:Bool->Prop):Prop:=
 (bif(decide (i≥0))then(K (decide (i < 32)))else(K false))
def en:Entry:=mkEntry A C fun x=>F x.1
theorem eqv (i:Int) (K:Bool->Prop):apure E tab (fun _=>none) 4 173 [enc (.int .i64) i] (ansK C K)=F i K:=by kernel_rfl
theorem loops:LoopsOk E tab (fun _=>none) 4 173:=lpn _ _ _ _
theorem det (i:Int):Det (F i):=by
 unfold F
 repeat' with_reducible first|exact det_ret _|refine det_cond _ ?_ ?_
theorem edet a:Det (en a):=mkD (fun x:Dens A=>det x.1) a
theorem ground:Ground E tab:=gnd (tab_nil _) dtn
theorem sound:EntrySound E 173 en:=mkSound ground loops (by kernel_rfl) (fun x K=>eqv  x.1 K)
end q135
namespace q136
abbrev A:List Ty:=[(.int .i64)]
abbrev C:=(cTy (.int .u32))
abbrev T:Type:=Int->(Int->Prop)->Prop
def tv (f0:q135.T):Tab:=[(173,mkEntry q135.A q135.C fun x=>f0 x.1)]
def tab:Tab:=tv q135.F
def FV (f0:q135.T) (blocks:Int) (K:Int->Prop):Prop:=
 (f0 (IntKind.i64.wrap (blocks - 1)) fun r1=>(bif(!r1)then(K 0)else(bif(decide (0≤blocks))then(K (IntKind.u32.wrap ((ishl .u32 1 blocks) - 1)))else False)))
def F (blocks:Int) (K:Int->Prop):Prop:=FV q135.F blocks K
def en:Entry:=mkEntry A C fun x=>F x.1
theorem eqv (f0:q135.T) (blocks:Int) (K:Int->Prop):apure E (tv f0) (fun _=>none) 4 119 [enc (.int .i64) blocks] (ansK C K)=FV f0 blocks K:=by kernel_rfl
theorem loops:LoopsOk E tab (fun _=>none) 4 119:=lpn _ _ _ _
theorem det (blocks:Int):Det (F blocks):=by
 unfold F FV
 repeat' with_reducible first|exact det_ret _|exact det_false|refine det_cond _ ?_ ?_|refine det_bind (q135.det _) (fun _=>?_)
theorem edet a:Det (en a):=mkD (fun x:Dens A=>det x.1) a
theorem ground:Ground E tab:=gnd (tbc q135.sound (tab_nil _)) (dtc q135.edet dtn)
theorem sound:EntrySound E 119 en:=mkSound ground loops (by kernel_rfl) (fun x K=>eqv q135.F x.1 K)
end q136
namespace q137
abbrev A:List Ty:=[(.int .u32),(.int .i64)]
abbrev C:=(cTy .bool)
abbrev T:Type:=Int->Int->(Bool->Prop)->Prop
def tv (f0:q135.T) (f1:q136.T):Tab:=[(173,mkEntry q135.A q135.C fun x=>f0 x.1),(119,mkEntry q136.A q136.C fun x=>f1 x.1)]
def tab:Tab:=tv q135.F q136.F
def FV (f0:q135.T) (f1:q136.T) (m:Int) (blocks:Int) (K:Bool->Prop):Prop:=
 (f0 (IntKind.i64.wrap (blocks - 1)) fun r1=>(bif r1 then(f1 blocks fun r2=>(K ((iandn .u32 m r2)==0)))else(K false)))
def F (m:Int) (blocks:Int) (K:Bool->Prop):Prop:=FV q135.F q136.F m blocks K
def en:Entry:=mkEntry A C fun x=>F x.1 x.2.1
theorem eqv (f0:q135.T) (f1:q136.T) (m:Int) (blocks:Int) (K:Bool->Prop):apure E (tv f0 f1) (fun _=>none) 4 216 [enc (.int .u32) m,enc (.int .i64) blocks] (ansK C K)=FV f0 f1 m blocks K:=by kernel_rfl
theorem loops:LoopsOk E tab (fun _=>none) 4 216:=lpn _ _ _ _
theorem det (m:Int) (blocks:Int):Det (F m blocks):=by
 unfold F FV
 repeat' with_reducible first|exact det_ret _|refine det_cond _ ?_ ?_|refine det_bind (q135.det _) (fun _=>?_)|refine det_bind (q136.det _) (fun _=>?_)
theorem edet a:Det (en a):=mkD (fun x:Dens A=>det x.1 x.2.1) a
theorem ground:Ground E tab:=gnd (tbc q135.sound (tbc q136.sound (tab_nil _))) (dtc q135.edet (dtc q136.edet dtn))
theorem sound:EntrySound E 216 en:=mkSound ground loops (by kernel_rfl) (fun x K=>eqv q135.F q136.F x.1 x.2.1 K)
end q137
namespace q138
abbrev A:List Ty:=[(.st 4)]
abbrev C:=(cTy .bool)
abbrev T:Type:=Hello->(Bool->Prop)->Prop
def tv (f0:q134.T) (f1:q137.T):Tab:=[(259,mkEntry q134.A q134.C fun x=>f0 x.1),(216,mkEntry q137.A q137.C fun x=>f1 x.1 x.2.1)]
def tab:Tab:=tv q134.F q137.F
def FV (f0:q134.T) (f1:q137.T) (h:Hello) (K:Bool->Prop):Prop:=
 (f0 h.vector fun r1=>(bif r1 then(f1 h.mask h.blocks fun r2=>(bif r2 then(bif(!h.pri)then(K true)else(bif(!h.was)then(K (!h.inc))else(K false)))else(K false)))else(K false)))
def F (h:Hello) (K:Bool->Prop):Prop:=FV q134.F q137.F h K
def en:Entry:=mkEntry A C fun x=>F x.1
theorem eqv (f0:q134.T) (f1:q137.T) (h:Hello) (K:Bool->Prop):apure E (tv f0 f1) (fun _=>none) 4 219 [enc (.st 4) h] (ansK C K)=FV f0 f1 h K:=by kernel_rfl
theorem loops:LoopsOk E tab (fun _=>none) 4 219:=lpn _ _ _ _
theorem det (h:Hello):Det (F h):=by
 unfold F FV
 repeat' with_reducible first|exact det_ret _|refine det_cond _ ?_ ?_|refine det_bind (q134.det _) (fun _=>?_)|refine det_bind (q137.det _ _) (fun _=>?_)
theorem edet a:Det (en a):=mkD (fun x:Dens A=>det x.1) a
theorem ground:Ground E tab:=gnd (tbc q134.sound (tbc q137.sound (tab_nil _))) (dtc q134.edet (dtc q137.edet dtn))
theorem sound:EntrySound E 219 en:=mkSound ground loops (by kernel_rfl) (fun x K=>eqv q134.F q137.F x.1 K)
end q138
namespace q139
abbrev A:List Ty:=[.str]
abbrev C:=(cTwo (.st 4) (.int .i64))
abbrev T:Type:=Str->((Hello×Int)->Prop)->Prop
def tv (f0:q133.T) (f1:q131.T) (f2:q128.T) (f3:q138.T):Tab:=[(278,mkEntry q133.A q133.C fun x=>f0 x.1 x.2.1),(248,mkEntry q131.A q131.C fun x=>f1 x.1),(267,mkEntry q128.A q128.C fun x=>f2 x.1),(219,mkEntry q138.A q138.C fun x=>f3 x.1)]
def tab:Tab:=tv q133.F q131.F q128.F q138.F
def FV (f0:q133.T) (f1:q131.T) (f2:q128.T) (f3:q138.T) (b_0:Str) (K:(Hello×Int)->Prop):Prop:=
 (bif((b_0.length:Int) != 38)then(K ((⟨0,(⟨0,0,0,0⟩:Vec),false,false,false,false,0⟩:Hello),2))else(oget (getI b_0 1) fun v1=>(f0 (v1.toNat:Int) 4 fun r2=>(bif(!r2.2)then(K ((⟨0,(⟨0,0,0,0⟩:Vec),false,false,false,false,0⟩:Hello),2))else(oget (getI b_0 0) fun v3=>(oget (getI r2.1 0) fun v4=>(oget (getI r2.1 1) fun v5=>(oget (getI r2.1 2) fun v6=>(oget (getI r2.1 3) fun v7=>(bif(decide (0≤2)&&decide (2≤10)&&decide (10≤(b_0.length:Int)))then(f1 (sub b_0 (Int.toNat 2) (Int.toNat 10)) fun r8=>(bif(decide (0≤10)&&decide (10≤18)&&decide (18≤(b_0.length:Int)))then(f1 (sub b_0 (Int.toNat 10) (Int.toNat 18)) fun r9=>(bif(decide (0≤18)&&decide (18≤26)&&decide (26≤(b_0.length:Int)))then(f1 (sub b_0 (Int.toNat 18) (Int.toNat 26)) fun r10=>(bif(decide (0≤26)&&decide (26≤34)&&decide (34≤(b_0.length:Int)))then(f1 (sub b_0 (Int.toNat 26) (Int.toNat 34)) fun r11=>(bif(decide (0≤34)&&decide (34≤(b_0.length:Int)))then(f2 (sub b_0 (Int.toNat 34) b_0.length) fun r12=>(f3 (⟨(IntKind.i64.wrap (v3.toNat:Int)),(⟨r8.1,r9.1,r10.1,r11.1⟩:Vec),v4,v5,v6,v7,r12.1⟩:Hello) fun r13=>(bif(!r13)then(K ((⟨0,(⟨0,0,0,0⟩:Vec),false,false,false,false,0⟩:Hello),2))else(K ((⟨(IntKind.i64.wrap (v3.toNat:Int)),(⟨r8.1,r9.1,r10.1,r11.1⟩:Vec),v4,v5,v6,v7,r12.1⟩:Hello),0)))))else False))else False))else False))else False))else False))))))))))
def F (b_0:Str) (K:(Hello×Int)->Prop):Prop:=FV q133.F q131.F q128.F q138.F b_0 K
def en:Entry:=mkEntry A C fun x=>F x.1
theorem eqv (f0:q133.T) (f1:q131.T) (f2:q128.T) (f3:q138.T) (b_0:Str) (K:(Hello×Int)->Prop):apure E (tv f0 f1 f2 f3) (fun _=>none) 4 269 [enc .str b_0] (ansK C K)=FV f0 f1 f2 f3 b_0 K:=by kernel_rfl
theorem loops:LoopsOk E tab (fun _=>none) 4 269:=lpn _ _ _ _
theorem det (b_0:Str):Det (F b_0):=by
 unfold F FV
 repeat' with_reducible first|exact det_ret _|exact det_false|refine det_cond _ ?_ ?_|refine det_oget _ (fun _=>?_)|refine det_bind (q133.det _ _) (fun _=>?_)|refine det_bind (q131.det _) (fun _=>?_)|refine det_bind (q128.det _) (fun _=>?_)|refine det_bind (q138.det _) (fun _=>?_)
theorem edet a:Det (en a):=mkD (fun x:Dens A=>det x.1) a
theorem ground:Ground E tab:=gnd (tbc q133.sound (tbc q131.sound (tbc q128.sound (tbc q138.sound (tab_nil _))))) (dtc q133.edet (dtc q131.edet (dtc q128.edet (dtc q138.edet dtn))))
theorem sound:EntrySound E 269 en:=mkSound ground loops (by kernel_rfl) (fun x K=>eqv q133.F q131.F q128.F q138.F x.1 K)
end q139
namespace q140
abbrev A:List Ty:=[(.slice (.int .i64))]
abbrev C:=(cTy (.int .u32))
abbrev T:Type:=(List Int)->(Int->Prop)->Prop
def tv (f0:q135.T):Tab:=[(173,mkEntry q135.A q135.C fun x=>f0 x.1)]
def tab:Tab:=tv q135.F
structure R where
def cR (_:R):St:={ fr:=fun _=>.top,hs:=hs0 }
def kR:Keep:={ ks:=[],bs:=[],hn:=0 }
structure L0 where
 m:Int
 t5:(List Int)
 t6:Int
 t7:Int
def c0 (x:L0):St:={ fr:=lookL .top [(2,(.int .u32 x.m)),(5,(.sl .any (.int .i64) x.t5)),(6,(.int .i64 x.t6)),(7,(.int .i64 x.t7))],hs:={ hp:=lookL .dead [],hn:=0 } }
def kp0:Keep:={ ks:=[(2,none),(5,none),(6,none),(7,none)],bs:=[],hn:=0 }
def p0 (st:St) (K:L0->Prop):Prop:=gInt .u32 (st.fr 2) fun a1=>gSl .any (.int .i64) (st.fr 5) fun a2=>gInt .i64 (st.fr 6) fun a3=>gInt .i64 (st.fr 7) fun a4=>K ⟨a1,a2,a3,a4⟩
set_option maxHeartbeats 4000000 in
theorem p0_ok (st:St) (K:L0->Prop) (h:p0 st K):∃ x,keepSt kp0 st=c0 x∧K x:=by
 obtain ⟨a1,h0,h⟩:=gInt_elim h
 obtain ⟨a2,h1,h⟩:=gSl_elim h
 obtain ⟨a3,h2,h⟩:=gInt_elim h
 obtain ⟨a4,h3,h⟩:=gInt_elim h
 refine⟨_,?_,h⟩
 simp only [keepSt,kp0,List.map,h0,h1,h2,h3]
 rfl
def b0V (f0:q135.T) (rec kx:L0->Prop) (kr:R->Prop) (x:L0):Prop:=
 (bif(decide (x.t7 < x.t6))then(oget (getI x.t5 x.t7) fun v1=>(f0 v1 fun r2=>(bif r2 then(bif(decide (0≤v1))then(rec ⟨(ior .u32 x.m (ishl .u32 1 v1)),x.t5,x.t6,(IntKind.i64.wrap (x.t7+1))⟩)else False)else(rec ⟨x.m,x.t5,x.t6,(IntKind.i64.wrap (x.t7+1))⟩))))else(kx ⟨x.m,x.t5,x.t6,x.t7⟩))
def ltV (f0:q135.T):Nat->Option LSpec
 | 0=>some (mkLoop 0 kp0 kR p0 c0 cR (b0V f0))
 | _=>none
def lt:Nat->Option LSpec:=ltV q135.F
def FV (f0:q135.T) (l:(List Int)) (K:Int->Prop):Prop:=
 (∃ n,loopB (b0V f0) n (fun x3=>(K x3.m)) (fun _=>False) ⟨0,l,(l.length:Int),0⟩)
def F (l:(List Int)) (K:Int->Prop):Prop:=FV q135.F l K
def en:Entry:=mkEntry A C fun x=>F x.1
theorem eqv (f0:q135.T) (l:(List Int)) (K:Int->Prop):apure E (tv f0) (ltV f0) 4 155 [enc (.slice (.int .i64)) l] (ansK C K)=FV f0 l K:=by kernel_rfl
theorem l0v (f0:q135.T) (R:St->Prop) (Kx:Nat->St->Prop) (Kr:St->Prop) (x:L0):acode E (tv f0) (afun E (tv f0) 4) 19 (ltV f0) ((loopsIn E.P 155).getD 0 (0,.skip)).2 0 (fun s=>R (keepSt kp0 s)) (fun j s=>Kx j (keepSt kp0 s)) (fun s=>Kr (keepSt kR s)) (c0 x)=b0V f0 (fun x=>R (c0 x)) (fun x=>Kx 0 (c0 x)) (fun r=>Kr (cR r)) x:=by kernel_rfl
theorem l0_ok:LSound E tab (afun E tab 4) 19 lt 0 ((loopsIn E.P 155).getD 0 (0,.skip)).2 (mkLoop 0 kp0 kR p0 c0 cR (b0V q135.F)):=mkLoop_sound (by decide) (by decide) p0_ok (fun R Kx Kr x=>l0v q135.F R Kx Kr x)
theorem loops:LoopsOk E tab lt 4 155:=loops_of (nt:=19) (ids:=[0]) (by kernel_rfl) (by kernel_rfl) (by
 intro k i hk l hl
 match k,hk with
 | 0,hk=>cases hk;cases hl;exact l0_ok
 | _+1,hk=>exact absurd hk (by simp))
theorem det (l:(List Int)):Det (F l):=by
 unfold F FV
 repeat' with_reducible first|exact det_ret _|exact det_false|refine det_cond _ ?_ ?_|refine det_oget _ (fun _=>?_)|refine det_bind (q135.det _) (fun _=>?_)|refine det_loop (fun _=>?_) (fun _=>?_) (fun _=>?_) _ | unfold b0V
theorem edet a:Det (en a):=mkD (fun x:Dens A=>det x.1) a
theorem ground:Ground E tab:=gnd (tbc q135.sound (tab_nil _)) (dtc q135.edet dtn)
theorem sound:EntrySound E 155 en:=mkSound ground loops (by kernel_rfl) (fun x K=>eqv q135.F x.1 K)
end q140
namespace q141
abbrev A:List Ty:=[(.int .u32),(.slice (.int .i64))]
abbrev C:=(cTy (.int .u32))
abbrev T:Type:=Int->(List Int)->(Int->Prop)->Prop
def tv (f0:q140.T):Tab:=[(155,mkEntry q140.A q140.C fun x=>f0 x.1)]
def tab:Tab:=tv q140.F
def FV (f0:q140.T) (m:Int) (l:(List Int)) (K:Int->Prop):Prop:=
 (f0 l fun r1=>(K (ior .u32 m r1)))
def F (m:Int) (l:(List Int)) (K:Int->Prop):Prop:=FV q140.F m l K
def en:Entry:=mkEntry A C fun x=>F x.1 x.2.1
theorem eqv (f0:q140.T) (m:Int) (l:(List Int)) (K:Int->Prop):apure E (tv f0) (fun _=>none) 4 220 [enc (.int .u32) m,enc (.slice (.int .i64)) l] (ansK C K)=FV f0 m l K:=by kernel_rfl
theorem loops:LoopsOk E tab (fun _=>none) 4 220:=lpn _ _ _ _
theorem det (m:Int) (l:(List Int)):Det (F m l):=by
 unfold F FV
 repeat' with_reducible first|exact det_ret _|refine det_bind (q140.det _) (fun _=>?_)
theorem edet a:Det (en a):=mkD (fun x:Dens A=>det x.1 x.2.1) a
theorem ground:Ground E tab:=gnd (tbc q140.sound (tab_nil _)) (dtc q140.edet dtn)
theorem sound:EntrySound E 220 en:=mkSound ground loops (by kernel_rfl) (fun x K=>eqv q140.F x.1 x.2.1 K)
end q141
namespace q142
abbrev A:List Ty:=[(.st 5)]
abbrev C:=(cTy .bool)
abbrev T:Type:=Packet->(Bool->Prop)->Prop
def tv (f0:q132.T) (f1:q138.T) (f2:q141.T):Tab:=[(165,mkEntry q132.A q132.C fun x=>f0 x.1),(219,mkEntry q138.A q138.C fun x=>f1 x.1),(220,mkEntry q141.A q141.C fun x=>f2 x.1 x.2.1)]
def tab:Tab:=tv q132.F q138.F q141.F
def FV (f0:q132.T) (f1:q138.T) (f2:q141.T) (p:Packet) (K:Bool->Prop):Prop:=
 (f0 p.kind fun r1=>(bif(!r1.2)then(K false)else(f1 p.hello fun r2=>(bif(!(r1.1.hello==r2))then(K false)else(bif(!r1.1.hello)then(bif(!((p.hello.blocks==0)&&(((p.hello.vector.current==0)&&((p.hello.vector.bitmap==0)&&(((p.hello.vector.old0==0)&&((p.hello.vector.old1==0)&&true))&&true)))&&((p.hello.inc==false)&&((p.hello.was==false)&&((p.hello.dis==false)&&((p.hello.pri==false)&&((p.hello.mask==0)&&true))))))))then(K false)else(bif r1.1.block then(f2 0 ([p.block]:List Int) fun r3=>(bif(r3==0)then(K false)else(bif(!r1.1.block)then(bif(p.block != 0)then(K false)else(bif r1.1.data then(K ((p.data.length:Int)==8))else(K (p.data==([]:Str)))))else(bif r1.1.data then(K ((p.data.length:Int)==8))else(K (p.data==([]:Str)))))))else(bif(!r1.1.block)then(bif(p.block != 0)then(K false)else(bif r1.1.data then(K ((p.data.length:Int)==8))else(K (p.data==([]:Str)))))else(bif r1.1.data then(K ((p.data.length:Int)==8))else(K (p.data==([]:Str)))))))else(bif r1.1.block then(f2 0 ([p.block]:List Int) fun r4=>(bif(r4==0)then(K false)else(bif(!r1.1.block)then(bif(p.block != 0)then(K false)else(bif r1.1.data then(K ((p.data.length:Int)==8))else(K (p.data==([]:Str)))))else(bif r1.1.data then(K ((p.data.length:Int)==8))else(K (p.data==([]:Str)))))))else(bif(!r1.1.block)then(bif(p.block != 0)then(K false)else(bif r1.1.data then(K ((p.data.length:Int)==8))else(K (p.data==([]:Str)))))else(bif r1.1.data then(K ((p.data.length:Int)==8))else(K (p.data==([]:Str)))))))))))
def F (p:Packet) (K:Bool->Prop):Prop:=FV q132.F q138.F q141.F p K
def en:Entry:=mkEntry A C fun x=>F x.1
theorem eqv (f0:q132.T) (f1:q138.T) (f2:q141.T) (p:Packet) (K:Bool->Prop):apure E (tv f0 f1 f2) (fun _=>none) 4 164 [enc (.st 5) p] (ansK C K)=FV f0 f1 f2 p K:=by kernel_rfl
theorem loops:LoopsOk E tab (fun _=>none) 4 164:=lpn _ _ _ _
theorem det (p:Packet):Det (F p):=by
 unfold F FV
 repeat' with_reducible first|exact det_ret _|refine det_cond _ ?_ ?_|refine det_bind (q132.det _) (fun _=>?_)|refine det_bind (q138.det _) (fun _=>?_)|refine det_bind (q141.det _ _) (fun _=>?_)
theorem edet a:Det (en a):=mkD (fun x:Dens A=>det x.1) a
theorem ground:Ground E tab:=gnd (tbc q132.sound (tbc q138.sound (tbc q141.sound (tab_nil _)))) (dtc q132.edet (dtc q138.edet (dtc q141.edet dtn)))
theorem sound:EntrySound E 164 en:=mkSound ground loops (by kernel_rfl) (fun x K=>eqv q132.F q138.F q141.F x.1 K)
end q142
namespace q143
abbrev A:List Ty:=[.str]
abbrev C:=(cTwo (.st 5) (.int .i64))
abbrev T:Type:=Str->((Packet×Int)->Prop)->Prop
def tv (f0:q130.T) (f1:q131.T) (f2:q132.T) (f3:q139.T) (f4:q142.T):Tab:=[(247,mkEntry q130.A q130.C fun x=>f0 x.1),(195,packet_code.en),(248,mkEntry q131.A q131.C fun x=>f1 x.1),(165,mkEntry q132.A q132.C fun x=>f2 x.1),(269,mkEntry q139.A q139.C fun x=>f3 x.1),(164,mkEntry q142.A q142.C fun x=>f4 x.1)]
def tab:Tab:=tv q130.F q131.F q132.F q139.F q142.F
def FV (f0:q130.T) (f1:q131.T) (f2:q132.T) (f3:q139.T) (f4:q142.T) (b_0:Str) (K:(Packet×Int)->Prop):Prop:=
 (f0 b_0 fun r1=>(bif(r1.2 != 0)then(bif(r1.2 != 0)then(K ((⟨0,0,(⟨0,(⟨0,0,0,0⟩:Vec),false,false,false,false,0⟩:Hello),0,([]:Str)⟩:Packet),r1.2))else(K ((⟨0,0,(⟨0,(⟨0,0,0,0⟩:Vec),false,false,false,false,0⟩:Hello),0,([]:Str)⟩:Packet),0)))else(bif(decide ((r1.1.length:Int) < 9))then(K ((⟨0,0,(⟨0,(⟨0,0,0,0⟩:Vec),false,false,false,false,0⟩:Hello),0,([]:Str)⟩:Packet),2))else(oget (getI r1.1 0) fun v2=>(bif(decide (0≤1)&&decide (1≤9)&&decide (9≤(r1.1.length:Int)))then(f1 (sub r1.1 (Int.toNat 1) (Int.toNat 9)) fun r3=>(f2 (IntKind.i64.wrap (v2.toNat:Int)) fun r4=>(bif(!r4.2)then(K ((⟨0,0,(⟨0,(⟨0,0,0,0⟩:Vec),false,false,false,false,0⟩:Hello),0,([]:Str)⟩:Packet),2))else(bif(decide (0≤9)&&decide (9≤(r1.1.length:Int)))then(bif r4.1.hello then(f3 (sub r1.1 (Int.toNat 9) r1.1.length) fun r5=>(bif(r5.2 != 0)then(bif(r5.2 != 0)then(K ((⟨0,0,(⟨0,(⟨0,0,0,0⟩:Vec),false,false,false,false,0⟩:Hello),0,([]:Str)⟩:Packet),r5.2))else(K ((⟨(IntKind.i64.wrap (v2.toNat:Int)),r3.1,(⟨0,(⟨0,0,0,0⟩:Vec),false,false,false,false,0⟩:Hello),0,([]:Str)⟩:Packet),0)))else(f4 (⟨(IntKind.i64.wrap (v2.toNat:Int)),r3.1,r5.1,0,([]:Str)⟩:Packet) fun r6=>(bif(!r6)then(K ((⟨0,0,(⟨0,(⟨0,0,0,0⟩:Vec),false,false,false,false,0⟩:Hello),0,([]:Str)⟩:Packet),2))else(K ((⟨(IntKind.i64.wrap (v2.toNat:Int)),r3.1,r5.1,0,([]:Str)⟩:Packet),0))))))else(bif r4.1.block then(bif((sub r1.1 (Int.toNat 9) r1.1.length)==([]:Str))then(K ((⟨0,0,(⟨0,(⟨0,0,0,0⟩:Vec),false,false,false,false,0⟩:Hello),0,([]:Str)⟩:Packet),2))else(oget (getI (sub r1.1 (Int.toNat 9) r1.1.length) 0) fun v7=>(bif(decide (0≤1)&&decide (1≤((sub r1.1 (Int.toNat 9) r1.1.length).length:Int)))then(f4 (⟨(IntKind.i64.wrap (v2.toNat:Int)),r3.1,(⟨0,(⟨0,0,0,0⟩:Vec),false,false,false,false,0⟩:Hello),(IntKind.i64.wrap (v7.toNat:Int)),(sub (sub r1.1 (Int.toNat 9) r1.1.length) (Int.toNat 1) (sub r1.1 (Int.toNat 9) r1.1.length).length)⟩:Packet) fun r8=>(bif(!r8)then(K ((⟨0,0,(⟨0,(⟨0,0,0,0⟩:Vec),false,false,false,false,0⟩:Hello),0,([]:Str)⟩:Packet),2))else(K ((⟨(IntKind.i64.wrap (v2.toNat:Int)),r3.1,(⟨0,(⟨0,0,0,0⟩:Vec),false,false,false,false,0⟩:Hello),(IntKind.i64.wrap (v7.toNat:Int)),(sub (sub r1.1 (Int.toNat 9) r1.1.length) (Int.toNat 1) (sub r1.1 (Int.toNat 9) r1.1.length).length)⟩:Packet),0))))else False)))else(f4 (⟨(IntKind.i64.wrap (v2.toNat:Int)),r3.1,(⟨0,(⟨0,0,0,0⟩:Vec),false,false,false,false,0⟩:Hello),0,(sub r1.1 (Int.toNat 9) r1.1.length)⟩:Packet) fun r9=>(bif(!r9)then(K ((⟨0,0,(⟨0,(⟨0,0,0,0⟩:Vec),false,false,false,false,0⟩:Hello),0,([]:Str)⟩:Packet),2))else(K ((⟨(IntKind.i64.wrap (v2.toNat:Int)),r3.1,(⟨0,(⟨0,0,0,0⟩:Vec),false,false,false,false,0⟩:Hello),0,(sub r1.1 (Int.toNat 9) r1.1.length)⟩:Packet),0))))))else False))))else False)))))
def F (b_0:Str) (K:(Packet×Int)->Prop):Prop:=FV q130.F q131.F q132.F q139.F q142.F b_0 K
def en:Entry:=mkEntry A C fun x=>F x.1
theorem eqv (f0:q130.T) (f1:q131.T) (f2:q132.T) (f3:q139.T) (f4:q142.T) (b_0:Str) (K:(Packet×Int)->Prop):apure E (tv f0 f1 f2 f3 f4) (fun _=>none) 4 136 [enc .str b_0] (ansK C K)=FV f0 f1 f2 f3 f4 b_0 K:=by kernel_rfl
theorem loops:LoopsOk E tab (fun _=>none) 4 136:=lpn _ _ _ _
theorem det (b_0:Str):Det (F b_0):=by
 unfold F FV
 repeat' with_reducible first|exact det_ret _|exact det_false|refine det_cond _ ?_ ?_|refine det_oget _ (fun _=>?_)|refine det_bind (q130.det _) (fun _=>?_)|refine det_bind (q131.det _) (fun _=>?_)|refine det_bind (q132.det _) (fun _=>?_)|refine det_bind (q139.det _) (fun _=>?_)|refine det_bind (q142.det _) (fun _=>?_)
theorem edet a:Det (en a):=mkD (fun x:Dens A=>det x.1) a
theorem ground:Ground E tab:=gnd (tbc q130.sound (tbc packet_code.sound (tbc q131.sound (tbc q132.sound (tbc q139.sound (tbc q142.sound (tab_nil _))))))) (dtc q130.edet (dtc packet_code.edet (dtc q131.edet (dtc q132.edet (dtc q139.edet (dtc q142.edet dtn))))))
theorem sound:EntrySound E 136 en:=mkSound ground loops (by kernel_rfl) (fun x K=>eqv q130.F q131.F q132.F q139.F q142.F x.1 K)
end q143
namespace q144
abbrev A:List Ty:=[.str,(.int .u64)]
abbrev C:=(cTwo (.st 5) (.int .i64))
abbrev T:Type:=Str->Int->((Packet×Int)->Prop)->Prop
def tv (f0:q143.T):Tab:=[(136,mkEntry q143.A q143.C fun x=>f0 x.1)]
def tab:Tab:=tv q143.F
def FV (f0:q143.T) (b_0:Str) (session:Int) (K:(Packet×Int)->Prop):Prop:=
 (f0 b_0 fun r1=>(bif(r1.2==0)then(bif(r1.1.session != session)then(K ((⟨0,0,(⟨0,(⟨0,0,0,0⟩:Vec),false,false,false,false,0⟩:Hello),0,([]:Str)⟩:Packet),16))else(K (r1.1,r1.2)))else(K (r1.1,r1.2))))
def F (b_0:Str) (session:Int) (K:(Packet×Int)->Prop):Prop:=FV q143.F b_0 session K
def en:Entry:=mkEntry A C fun x=>F x.1 x.2.1
theorem eqv (f0:q143.T) (b_0:Str) (session:Int) (K:(Packet×Int)->Prop):apure E (tv f0) (fun _=>none) 4 81 [enc .str b_0,enc (.int .u64) session] (ansK C K)=FV f0 b_0 session K:=by kernel_rfl
theorem loops:LoopsOk E tab (fun _=>none) 4 81:=lpn _ _ _ _
theorem det (b_0:Str) (session:Int):Det (F b_0 session):=by
 unfold F FV
 repeat' with_reducible first|exact det_ret _|refine det_cond _ ?_ ?_|refine det_bind (q143.det _) (fun _=>?_)
theorem edet a:Det (en a):=mkD (fun x:Dens A=>det x.1 x.2.1) a
theorem ground:Ground E tab:=gnd (tbc q143.sound (tab_nil _)) (dtc q143.edet dtn)
theorem sound:EntrySound E 81 en:=mkSound ground loops (by kernel_rfl) (fun x K=>eqv q143.F x.1 x.2.1 K)
end q144
namespace q145
abbrev A:List Ty:=[(.int .i64)]
abbrev C:=(cTy .bool)
abbrev T:Type:=Int->(Bool->Prop)->Prop
def tab:Tab:=[]
def F (kind:Int) (K:Bool->Prop):Prop:=
 (bif(decide (kind≥2))then(K (decide (kind≤7)))else(K false))
def en:Entry:=mkEntry A C fun x=>F x.1
theorem eqv (kind:Int) (K:Bool->Prop):apure E tab (fun _=>none) 4 133 [enc (.int .i64) kind] (ansK C K)=F kind K:=by kernel_rfl
theorem loops:LoopsOk E tab (fun _=>none) 4 133:=lpn _ _ _ _
theorem det (kind:Int):Det (F kind):=by
 unfold F
 repeat' with_reducible first|exact det_ret _|refine det_cond _ ?_ ?_
theorem edet a:Det (en a):=mkD (fun x:Dens A=>det x.1) a
theorem ground:Ground E tab:=gnd (tab_nil _) dtn
theorem sound:EntrySound E 133 en:=mkSound ground loops (by kernel_rfl) (fun x K=>eqv  x.1 K)
end q145
end Gm
end
