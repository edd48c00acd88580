/- Printed by a program (gen.py): the functions' answers, and that they are so. -/
import Derived.Test.YtfjhdboapcckpaaGreatDoorGdT6
set_option linter.unusedVariables false
set_option maxRecDepth 100000
noncomputable section
namespace Gm
open Go Go.Proofs
namespace q186
abbrev A:List Ty:=[(.st 15),(.st 12)]
abbrev C:=(cTwo (.st 15) (.slice (.st 11)))
abbrev T:Type:=Cluster->Event->((Cluster×(List Outp))->Prop)->Prop
def tv (f0:q127.T) (f1:q149.T) (f2:q128.T) (f3:q129.T) (f4:q131.T) (f5:q143.T) (f6:q150.T) (f7:q147.T) (f8:q148.T) (f9:q184.T) (f10:q125.T) (f11:q44.T) (f12:q108.T) (f13:q185.T) (f14:q154.T):Tab:=[(13,mkEntry q127.A q127.C fun x=>f0 x.1 x.2.1),(172,mkEntry q149.A q149.C fun x=>f1 x.1 x.2.1 x.2.2.1 x.2.2.2.1),(15,mkEntry q128.A q128.C fun x=>f2 x.1 x.2.1),(17,mkEntry q129.A q129.C fun x=>f3 x.1 x.2.1),(21,mkEntry q131.A q131.C fun x=>f4 x.1 x.2.1 x.2.2.1),(166,mkEntry q143.A q143.C fun x=>f5 x.1 x.2.1 x.2.2.1 x.2.2.2.1),(167,mkEntry q150.A q150.C fun x=>f6 x.1 x.2.1),(203,mkEntry q147.A q147.C fun x=>f7 x.1),(204,mkEntry q148.A q148.C fun x=>f8 x.1),(170,mkEntry q184.A q184.C fun x=>f9 x.1 x.2.1),(90,mkEntry q125.A q125.C fun x=>f10 x.1),(85,mkEntry q44.A q44.C fun x=>f11 x.1 x.2.1),(51,mkEntry q108.A q108.C fun x=>f12 x.1 x.2.1 x.2.2.1 x.2.2.2.1),(33,mkEntry q185.A q185.C fun x=>f13 x.1 x.2.1),(171,mkEntry q154.A q154.C fun x=>f14 x.1 x.2.1)]
def tab:Tab:=tv q127.F q149.F q128.F q129.F q131.F q143.F q150.F q147.F q148.F q184.F q125.F q44.F q108.F q185.F q154.F
def FV (f0:q127.T) (f1:q149.T) (f2:q128.T) (f3:q129.T) (f4:q131.T) (f5:q143.T) (f6:q150.T) (f7:q147.T) (f8:q148.T) (f9:q184.T) (f10:q125.T) (f11:q44.T) (f12:q108.T) (f13:q185.T) (f14:q154.T) (c:Cluster) (e:Event) (K:(Cluster×(List Outp))->Prop):Prop:=
 (bif(e.node==0)then(bif(e.kind==1)then(f0 c.n0 e.id fun r1=>(f1 c 0 r1.1 r1.2 fun r2=>(K (r2.1,r2.2))))else(bif(e.kind==2)then(f2 c.n0 e.id fun r3=>(f1 c 0 r3.1 r3.2 fun r4=>(K (r4.1,r4.2))))else(bif(e.kind==3)then(f3 c.n0 e.id fun r5=>(f1 c 0 r5.1 r5.2 fun r6=>(K (r6.1,r6.2))))else(bif(e.kind==4)then(f4 c.n0 e.id e.block fun r7=>(f1 c 0 r7.1 r7.2 fun r8=>(K (r8.1,r8.2))))else(bif(e.kind==5)then(f5 c.n0 e.id e.block e.data fun r9=>(f1 c 0 r9.1 r9.2 fun r10=>(K (r10.1,r10.2))))else(bif(e.kind==6)then(f6 c 0 fun r11=>(K (r11.1,r11.2)))else(bif(e.kind==7)then(bif(e.kind==7)then(bif(!c.link.up)then(K ((⟨c.n0,c.n1,c.link,false,c.w1⟩:Cluster),([]:List Outp)))else(f7 c.link fun r12=>(bif(!c.n0.up)then(bif(!c.n1.up)then(K ((⟨c.n0,c.n1,r12,false,c.w1⟩:Cluster),([]:List Outp)))else(f8 c.n1 fun r13=>(bif(decide (r13.2.length * 48≤room))then(bif(!r13.1.up)then(K ((⟨c.n0,r13.1,r12,false,false⟩:Cluster),r13.2))else(K ((⟨c.n0,r13.1,r12,false,c.w1⟩:Cluster),r13.2)))else False)))else(f8 c.n0 fun r14=>(bif(decide (r14.2.length * 48≤room))then(bif(!r14.1.up)then(bif(!c.n1.up)then(K ((⟨r14.1,c.n1,r12,false,c.w1⟩:Cluster),r14.2))else(f8 c.n1 fun r15=>(bif(decide ((r14.2.length+r15.2.length) * 48≤room))then(bif(!r15.1.up)then(K ((⟨r14.1,r15.1,r12,false,false⟩:Cluster),(r14.2++r15.2)))else(K ((⟨r14.1,r15.1,r12,false,c.w1⟩:Cluster),(r14.2++r15.2))))else False)))else(bif(!c.n1.up)then(K ((⟨r14.1,c.n1,r12,false,c.w1⟩:Cluster),r14.2))else(f8 c.n1 fun r16=>(bif(decide ((r14.2.length+r16.2.length) * 48≤room))then(bif(!r16.1.up)then(K ((⟨r14.1,r16.1,r12,false,false⟩:Cluster),(r14.2++r16.2)))else(K ((⟨r14.1,r16.1,r12,false,c.w1⟩:Cluster),(r14.2++r16.2))))else False))))else False)))))else(bif(!c.link.up)then(K (c,([]:List Outp)))else(f7 c.link fun r17=>(bif(!c.n0.up)then(bif(!c.n1.up)then(K ((⟨c.n0,c.n1,r17,c.w0,c.w1⟩:Cluster),([]:List Outp)))else(f8 c.n1 fun r18=>(bif(decide (r18.2.length * 48≤room))then(bif(!r18.1.up)then(K ((⟨c.n0,r18.1,r17,c.w0,false⟩:Cluster),r18.2))else(K ((⟨c.n0,r18.1,r17,c.w0,c.w1⟩:Cluster),r18.2)))else False)))else(f8 c.n0 fun r19=>(bif(decide (r19.2.length * 48≤room))then(bif(!r19.1.up)then(bif(!c.n1.up)then(K ((⟨r19.1,c.n1,r17,false,c.w1⟩:Cluster),r19.2))else(f8 c.n1 fun r20=>(bif(decide ((r19.2.length+r20.2.length) * 48≤room))then(bif(!r20.1.up)then(K ((⟨r19.1,r20.1,r17,false,false⟩:Cluster),(r19.2++r20.2)))else(K ((⟨r19.1,r20.1,r17,false,c.w1⟩:Cluster),(r19.2++r20.2))))else False)))else(bif(!c.n1.up)then(K ((⟨r19.1,c.n1,r17,c.w0,c.w1⟩:Cluster),r19.2))else(f8 c.n1 fun r21=>(bif(decide ((r19.2.length+r21.2.length) * 48≤room))then(bif(!r21.1.up)then(K ((⟨r19.1,r21.1,r17,c.w0,false⟩:Cluster),(r19.2++r21.2)))else(K ((⟨r19.1,r21.1,r17,c.w0,c.w1⟩:Cluster),(r19.2++r21.2))))else False))))else False))))))else(bif(e.kind==8)then(bif(e.kind==7)then(bif(!c.link.up)then(K ((⟨c.n0,c.n1,c.link,false,c.w1⟩:Cluster),([]:List Outp)))else(f7 c.link fun r22=>(bif(!c.n0.up)then(bif(!c.n1.up)then(K ((⟨c.n0,c.n1,r22,false,c.w1⟩:Cluster),([]:List Outp)))else(f8 c.n1 fun r23=>(bif(decide (r23.2.length * 48≤room))then(bif(!r23.1.up)then(K ((⟨c.n0,r23.1,r22,false,false⟩:Cluster),r23.2))else(K ((⟨c.n0,r23.1,r22,false,c.w1⟩:Cluster),r23.2)))else False)))else(f8 c.n0 fun r24=>(bif(decide (r24.2.length * 48≤room))then(bif(!r24.1.up)then(bif(!c.n1.up)then(K ((⟨r24.1,c.n1,r22,false,c.w1⟩:Cluster),r24.2))else(f8 c.n1 fun r25=>(bif(decide ((r24.2.length+r25.2.length) * 48≤room))then(bif(!r25.1.up)then(K ((⟨r24.1,r25.1,r22,false,false⟩:Cluster),(r24.2++r25.2)))else(K ((⟨r24.1,r25.1,r22,false,c.w1⟩:Cluster),(r24.2++r25.2))))else False)))else(bif(!c.n1.up)then(K ((⟨r24.1,c.n1,r22,false,c.w1⟩:Cluster),r24.2))else(f8 c.n1 fun r26=>(bif(decide ((r24.2.length+r26.2.length) * 48≤room))then(bif(!r26.1.up)then(K ((⟨r24.1,r26.1,r22,false,false⟩:Cluster),(r24.2++r26.2)))else(K ((⟨r24.1,r26.1,r22,false,c.w1⟩:Cluster),(r24.2++r26.2))))else False))))else False)))))else(bif(!c.link.up)then(K (c,([]:List Outp)))else(f7 c.link fun r27=>(bif(!c.n0.up)then(bif(!c.n1.up)then(K ((⟨c.n0,c.n1,r27,c.w0,c.w1⟩:Cluster),([]:List Outp)))else(f8 c.n1 fun r28=>(bif(decide (r28.2.length * 48≤room))then(bif(!r28.1.up)then(K ((⟨c.n0,r28.1,r27,c.w0,false⟩:Cluster),r28.2))else(K ((⟨c.n0,r28.1,r27,c.w0,c.w1⟩:Cluster),r28.2)))else False)))else(f8 c.n0 fun r29=>(bif(decide (r29.2.length * 48≤room))then(bif(!r29.1.up)then(bif(!c.n1.up)then(K ((⟨r29.1,c.n1,r27,false,c.w1⟩:Cluster),r29.2))else(f8 c.n1 fun r30=>(bif(decide ((r29.2.length+r30.2.length) * 48≤room))then(bif(!r30.1.up)then(K ((⟨r29.1,r30.1,r27,false,false⟩:Cluster),(r29.2++r30.2)))else(K ((⟨r29.1,r30.1,r27,false,c.w1⟩:Cluster),(r29.2++r30.2))))else False)))else(bif(!c.n1.up)then(K ((⟨r29.1,c.n1,r27,c.w0,c.w1⟩:Cluster),r29.2))else(f8 c.n1 fun r31=>(bif(decide ((r29.2.length+r31.2.length) * 48≤room))then(bif(!r31.1.up)then(K ((⟨r29.1,r31.1,r27,c.w0,false⟩:Cluster),(r29.2++r31.2)))else(K ((⟨r29.1,r31.1,r27,c.w0,c.w1⟩:Cluster),(r29.2++r31.2))))else False))))else False))))))else(bif(e.kind==9)then(bif((maxI2 (minI 0 1) 0)==0)then(bif((c.link.to0.length:Int)==0)then(K (c,([]:List Outp)))else(oget (getI c.link.to0 0) fun v35=>(bif(decide (0≤1)&&decide (1≤(c.link.to0.length:Int)))then(bif(decide ((sub c.link.to0 (Int.toNat 1) c.link.to0.length).length * 16≤room))then(f9 c.n0 v35 fun r36=>(f1 (⟨c.n0,c.n1,(⟨c.link.up,c.link.session,(sub c.link.to0 (Int.toNat 1) c.link.to0.length),c.link.to1⟩:Link),c.w0,c.w1⟩:Cluster) 0 r36.1 r36.2 fun r37=>(K (r37.1,r37.2))))else False)else False)))else(bif((maxI2 (minI 0 1) 0)==1)then(bif((c.link.to1.length:Int)==0)then(K (c,([]:List Outp)))else(oget (getI c.link.to0 0) fun v32=>(bif(decide (0≤1)&&decide (1≤(c.link.to0.length:Int)))then(bif(decide ((sub c.link.to0 (Int.toNat 1) c.link.to0.length).length * 16≤room))then(f9 c.n0 v32 fun r33=>(f1 (⟨c.n0,c.n1,(⟨c.link.up,c.link.session,(sub c.link.to0 (Int.toNat 1) c.link.to0.length),c.link.to1⟩:Link),c.w0,c.w1⟩:Cluster) 0 r33.1 r33.2 fun r34=>(K (r34.1,r34.2))))else False)else False)))else False))else(bif(e.kind==10)then(bif(!c.n0.up)then(K (c,([]:List Outp)))else(f10 c.n0 fun r38=>(f1 c 0 r38 ([]:List Outp) fun r39=>(K (r39.1,r39.2)))))else(bif(e.kind==11)then(f11 c.n0 e.keeps fun r40=>(f12 r40.1 e.id r40.2 ([]:Str) fun r41=>(K ((⟨r40.1,c.n1,c.link,c.w0,c.w1⟩:Cluster),([r41]:List Outp)))))else(bif(e.kind==12)then(bif c.n0.up then(f13 c.n0.store.disk (IntKind.i64.wrap (minI e.num 1000)) fun r42=>(f1 c 0 (⟨c.n0.id,c.n0.up,(⟨r42,c.n0.store.sup,c.n0.store.mask⟩:Store),c.n0.primary,c.n0.state,c.n0.session,c.n0.peer,c.n0.peerPri,c.n0.req,c.n0.asking,c.n0.askId,c.n0.wanted,c.n0.minted,c.n0.draws,c.n0.mints⟩:Node) ([]:List Outp) fun r43=>(K (r43.1,r43.2))))else(f1 c 0 c.n0 ([]:List Outp) fun r44=>(K (r44.1,r44.2))))else(bif(e.kind==13)then(bif(decide ((c.n0.draws.length:Int) < 1000))then(bif(decide (c.n0.draws.length * 8≤room))then(bif(decide ((c.n0.draws.length+([e.num]:List Int).length) * 8≤room))then(K ((⟨(⟨c.n0.id,c.n0.up,c.n0.store,c.n0.primary,c.n0.state,c.n0.session,c.n0.peer,c.n0.peerPri,c.n0.req,c.n0.asking,c.n0.askId,c.n0.wanted,c.n0.minted,(c.n0.draws++([e.num]:List Int)),c.n0.mints⟩:Node),c.n1,c.link,c.w0,c.w1⟩:Cluster),([]:List Outp)))else False)else False)else(K (c,([]:List Outp))))else(bif(e.kind==14)then(f14 e.data c.link.session fun r45=>(bif(r45.2==0)then(K (c,([]:List Outp)))else(f9 c.n0 e.data fun r46=>(f1 c 0 r46.1 r46.2 fun r47=>(K (r47.1,r47.2))))))else(K (c,([]:List Outp)))))))))))))))))else(bif(e.node==1)then(bif(e.kind==1)then(f0 c.n1 e.id fun r48=>(f1 c 1 r48.1 r48.2 fun r49=>(K (r49.1,r49.2))))else(bif(e.kind==2)then(f2 c.n1 e.id fun r50=>(f1 c 1 r50.1 r50.2 fun r51=>(K (r51.1,r51.2))))else(bif(e.kind==3)then(f3 c.n1 e.id fun r52=>(f1 c 1 r52.1 r52.2 fun r53=>(K (r53.1,r53.2))))else(bif(e.kind==4)then(f4 c.n1 e.id e.block fun r54=>(f1 c 1 r54.1 r54.2 fun r55=>(K (r55.1,r55.2))))else(bif(e.kind==5)then(f5 c.n1 e.id e.block e.data fun r56=>(f1 c 1 r56.1 r56.2 fun r57=>(K (r57.1,r57.2))))else(bif(e.kind==6)then(f6 c 1 fun r58=>(K (r58.1,r58.2)))else(bif(e.kind==7)then(bif(e.kind==7)then(bif(!c.link.up)then(K ((⟨c.n0,c.n1,c.link,c.w0,false⟩:Cluster),([]:List Outp)))else(f7 c.link fun r59=>(bif(!c.n0.up)then(bif(!c.n1.up)then(K ((⟨c.n0,c.n1,r59,c.w0,false⟩:Cluster),([]:List Outp)))else(f8 c.n1 fun r60=>(bif(decide (r60.2.length * 48≤room))then(bif(!r60.1.up)then(K ((⟨c.n0,r60.1,r59,c.w0,false⟩:Cluster),r60.2))else(K ((⟨c.n0,r60.1,r59,c.w0,false⟩:Cluster),r60.2)))else False)))else(f8 c.n0 fun r61=>(bif(decide (r61.2.length * 48≤room))then(bif(!r61.1.up)then(bif(!c.n1.up)then(K ((⟨r61.1,c.n1,r59,false,false⟩:Cluster),r61.2))else(f8 c.n1 fun r62=>(bif(decide ((r61.2.length+r62.2.length) * 48≤room))then(bif(!r62.1.up)then(K ((⟨r61.1,r62.1,r59,false,false⟩:Cluster),(r61.2++r62.2)))else(K ((⟨r61.1,r62.1,r59,false,false⟩:Cluster),(r61.2++r62.2))))else False)))else(bif(!c.n1.up)then(K ((⟨r61.1,c.n1,r59,c.w0,false⟩:Cluster),r61.2))else(f8 c.n1 fun r63=>(bif(decide ((r61.2.length+r63.2.length) * 48≤room))then(bif(!r63.1.up)then(K ((⟨r61.1,r63.1,r59,c.w0,false⟩:Cluster),(r61.2++r63.2)))else(K ((⟨r61.1,r63.1,r59,c.w0,false⟩:Cluster),(r61.2++r63.2))))else False))))else False)))))else(bif(!c.link.up)then(K (c,([]:List Outp)))else(f7 c.link fun r64=>(bif(!c.n0.up)then(bif(!c.n1.up)then(K ((⟨c.n0,c.n1,r64,c.w0,c.w1⟩:Cluster),([]:List Outp)))else(f8 c.n1 fun r65=>(bif(decide (r65.2.length * 48≤room))then(bif(!r65.1.up)then(K ((⟨c.n0,r65.1,r64,c.w0,false⟩:Cluster),r65.2))else(K ((⟨c.n0,r65.1,r64,c.w0,c.w1⟩:Cluster),r65.2)))else False)))else(f8 c.n0 fun r66=>(bif(decide (r66.2.length * 48≤room))then(bif(!r66.1.up)then(bif(!c.n1.up)then(K ((⟨r66.1,c.n1,r64,false,c.w1⟩:Cluster),r66.2))else(f8 c.n1 fun r67=>(bif(decide ((r66.2.length+r67.2.length) * 48≤room))then(bif(!r67.1.up)then(K ((⟨r66.1,r67.1,r64,false,false⟩:Cluster),(r66.2++r67.2)))else(K ((⟨r66.1,r67.1,r64,false,c.w1⟩:Cluster),(r66.2++r67.2))))else False)))else(bif(!c.n1.up)then(K ((⟨r66.1,c.n1,r64,c.w0,c.w1⟩:Cluster),r66.2))else(f8 c.n1 fun r68=>(bif(decide ((r66.2.length+r68.2.length) * 48≤room))then(bif(!r68.1.up)then(K ((⟨r66.1,r68.1,r64,c.w0,false⟩:Cluster),(r66.2++r68.2)))else(K ((⟨r66.1,r68.1,r64,c.w0,c.w1⟩:Cluster),(r66.2++r68.2))))else False))))else False))))))else(bif(e.kind==8)then(bif(e.kind==7)then(bif(!c.link.up)then(K ((⟨c.n0,c.n1,c.link,c.w0,false⟩:Cluster),([]:List Outp)))else(f7 c.link fun r69=>(bif(!c.n0.up)then(bif(!c.n1.up)then(K ((⟨c.n0,c.n1,r69,c.w0,false⟩:Cluster),([]:List Outp)))else(f8 c.n1 fun r70=>(bif(decide (r70.2.length * 48≤room))then(bif(!r70.1.up)then(K ((⟨c.n0,r70.1,r69,c.w0,false⟩:Cluster),r70.2))else(K ((⟨c.n0,r70.1,r69,c.w0,false⟩:Cluster),r70.2)))else False)))else(f8 c.n0 fun r71=>(bif(decide (r71.2.length * 48≤room))then(bif(!r71.1.up)then(bif(!c.n1.up)then(K ((⟨r71.1,c.n1,r69,false,false⟩:Cluster),r71.2))else(f8 c.n1 fun r72=>(bif(decide ((r71.2.length+r72.2.length) * 48≤room))then(bif(!r72.1.up)then(K ((⟨r71.1,r72.1,r69,false,false⟩:Cluster),(r71.2++r72.2)))else(K ((⟨r71.1,r72.1,r69,false,false⟩:Cluster),(r71.2++r72.2))))else False)))else(bif(!c.n1.up)then(K ((⟨r71.1,c.n1,r69,c.w0,false⟩:Cluster),r71.2))else(f8 c.n1 fun r73=>(bif(decide ((r71.2.length+r73.2.length) * 48≤room))then(bif(!r73.1.up)then(K ((⟨r71.1,r73.1,r69,c.w0,false⟩:Cluster),(r71.2++r73.2)))else(K ((⟨r71.1,r73.1,r69,c.w0,false⟩:Cluster),(r71.2++r73.2))))else False))))else False)))))else(bif(!c.link.up)then(K (c,([]:List Outp)))else(f7 c.link fun r74=>(bif(!c.n0.up)then(bif(!c.n1.up)then(K ((⟨c.n0,c.n1,r74,c.w0,c.w1⟩:Cluster),([]:List Outp)))else(f8 c.n1 fun r75=>(bif(decide (r75.2.length * 48≤room))then(bif(!r75.1.up)then(K ((⟨c.n0,r75.1,r74,c.w0,false⟩:Cluster),r75.2))else(K ((⟨c.n0,r75.1,r74,c.w0,c.w1⟩:Cluster),r75.2)))else False)))else(f8 c.n0 fun r76=>(bif(decide (r76.2.length * 48≤room))then(bif(!r76.1.up)then(bif(!c.n1.up)then(K ((⟨r76.1,c.n1,r74,false,c.w1⟩:Cluster),r76.2))else(f8 c.n1 fun r77=>(bif(decide ((r76.2.length+r77.2.length) * 48≤room))then(bif(!r77.1.up)then(K ((⟨r76.1,r77.1,r74,false,false⟩:Cluster),(r76.2++r77.2)))else(K ((⟨r76.1,r77.1,r74,false,c.w1⟩:Cluster),(r76.2++r77.2))))else False)))else(bif(!c.n1.up)then(K ((⟨r76.1,c.n1,r74,c.w0,c.w1⟩:Cluster),r76.2))else(f8 c.n1 fun r78=>(bif(decide ((r76.2.length+r78.2.length) * 48≤room))then(bif(!r78.1.up)then(K ((⟨r76.1,r78.1,r74,c.w0,false⟩:Cluster),(r76.2++r78.2)))else(K ((⟨r76.1,r78.1,r74,c.w0,c.w1⟩:Cluster),(r76.2++r78.2))))else False))))else False))))))else(bif(e.kind==9)then(bif((maxI2 (minI 1 1) 0)==0)then(bif((c.link.to0.length:Int)==0)then(K (c,([]:List Outp)))else(oget (getI c.link.to1 0) fun v82=>(bif(decide (0≤1)&&decide (1≤(c.link.to1.length:Int)))then(bif(decide ((sub c.link.to1 (Int.toNat 1) c.link.to1.length).length * 16≤room))then(f9 c.n1 v82 fun r83=>(f1 (⟨c.n0,c.n1,(⟨c.link.up,c.link.session,c.link.to0,(sub c.link.to1 (Int.toNat 1) c.link.to1.length)⟩:Link),c.w0,c.w1⟩:Cluster) 1 r83.1 r83.2 fun r84=>(K (r84.1,r84.2))))else False)else False)))else(bif((maxI2 (minI 1 1) 0)==1)then(bif((c.link.to1.length:Int)==0)then(K (c,([]:List Outp)))else(oget (getI c.link.to1 0) fun v79=>(bif(decide (0≤1)&&decide (1≤(c.link.to1.length:Int)))then(bif(decide ((sub c.link.to1 (Int.toNat 1) c.link.to1.length).length * 16≤room))then(f9 c.n1 v79 fun r80=>(f1 (⟨c.n0,c.n1,(⟨c.link.up,c.link.session,c.link.to0,(sub c.link.to1 (Int.toNat 1) c.link.to1.length)⟩:Link),c.w0,c.w1⟩:Cluster) 1 r80.1 r80.2 fun r81=>(K (r81.1,r81.2))))else False)else False)))else False))else(bif(e.kind==10)then(bif(!c.n1.up)then(K (c,([]:List Outp)))else(f10 c.n1 fun r85=>(f1 c 1 r85 ([]:List Outp) fun r86=>(K (r86.1,r86.2)))))else(bif(e.kind==11)then(f11 c.n1 e.keeps fun r87=>(f12 r87.1 e.id r87.2 ([]:Str) fun r88=>(K ((⟨c.n0,r87.1,c.link,c.w0,c.w1⟩:Cluster),([r88]:List Outp)))))else(bif(e.kind==12)then(bif c.n1.up then(f13 c.n1.store.disk (IntKind.i64.wrap (minI e.num 1000)) fun r89=>(f1 c 1 (⟨c.n1.id,c.n1.up,(⟨r89,c.n1.store.sup,c.n1.store.mask⟩:Store),c.n1.primary,c.n1.state,c.n1.session,c.n1.peer,c.n1.peerPri,c.n1.req,c.n1.asking,c.n1.askId,c.n1.wanted,c.n1.minted,c.n1.draws,c.n1.mints⟩:Node) ([]:List Outp) fun r90=>(K (r90.1,r90.2))))else(f1 c 1 c.n1 ([]:List Outp) fun r91=>(K (r91.1,r91.2))))else(bif(e.kind==13)then(bif(decide ((c.n1.draws.length:Int) < 1000))then(bif(decide (c.n1.draws.length * 8≤room))then(bif(decide ((c.n1.draws.length+([e.num]:List Int).length) * 8≤room))then(K ((⟨c.n0,(⟨c.n1.id,c.n1.up,c.n1.store,c.n1.primary,c.n1.state,c.n1.session,c.n1.peer,c.n1.peerPri,c.n1.req,c.n1.asking,c.n1.askId,c.n1.wanted,c.n1.minted,(c.n1.draws++([e.num]:List Int)),c.n1.mints⟩:Node),c.link,c.w0,c.w1⟩:Cluster),([]:List Outp)))else False)else False)else(K (c,([]:List Outp))))else(bif(e.kind==14)then(f14 e.data c.link.session fun r92=>(bif(r92.2==0)then(K (c,([]:List Outp)))else(f9 c.n1 e.data fun r93=>(f1 c 1 r93.1 r93.2 fun r94=>(K (r94.1,r94.2))))))else(K (c,([]:List Outp)))))))))))))))))else(K (c,([]:List Outp)))))
def F (c:Cluster) (e:Event) (K:(Cluster×(List Outp))->Prop):Prop:=FV q127.F q149.F q128.F q129.F q131.F q143.F q150.F q147.F q148.F q184.F q125.F q44.F q108.F q185.F q154.F c e K
def en:Entry:=mkEntry A C fun x=>F x.1 x.2.1
theorem eqv (f0:q127.T) (f1:q149.T) (f2:q128.T) (f3:q129.T) (f4:q131.T) (f5:q143.T) (f6:q150.T) (f7:q147.T) (f8:q148.T) (f9:q184.T) (f10:q125.T) (f11:q44.T) (f12:q108.T) (f13:q185.T) (f14:q154.T) (c:Cluster) (e:Event) (K:(Cluster×(List Outp))->Prop) (k:FV f0 f1 f2 f3 f4 f5 f6 f7 f8 f9 f10 f11 f12 f13 f14 c e K):apure E (tv f0 f1 f2 f3 f4 f5 f6 f7 f8 f9 f10 f11 f12 f13 f14) (fun _=>none) 4 123 [enc (.st 15) c,enc (.st 12) e] (ansK C K):=by
 obtain ⟨kd,nd,id,bl,dt,nm,kp⟩:=e
 rcases nd with (_ | _ | n) | n
 ·exact cast (by kernel_rfl) k
 ·exact cast (by kernel_rfl) k
 ·exact cast (by kernel_rfl) k
 ·exact cast (by kernel_rfl) k
theorem loops:LoopsOk E tab (fun _=>none) 4 123:=lpn _ _ _ _
theorem det (c:Cluster) (e:Event):Det (F c e):=by
 unfold F FV
 repeat' with_reducible first|exact det_ret _|exact det_false|refine det_cond _ ?_ ?_|refine det_oget _ (fun _=>?_)|refine det_bind (q127.det _ _) (fun _=>?_)|refine det_bind (q149.det _ _ _ _) (fun _=>?_)|refine det_bind (q128.det _ _) (fun _=>?_)|refine det_bind (q129.det _ _) (fun _=>?_)|refine det_bind (q131.det _ _ _) (fun _=>?_)|refine det_bind (q143.det _ _ _ _) (fun _=>?_)|refine det_bind (q150.det _ _) (fun _=>?_)|refine det_bind (q147.det _) (fun _=>?_)|refine det_bind (q148.det _) (fun _=>?_)|refine det_bind (q184.det _ _) (fun _=>?_)|refine det_bind (q125.det _) (fun _=>?_)|refine det_bind (q44.det _ _) (fun _=>?_)|refine det_bind (q108.det _ _ _ _) (fun _=>?_)|refine det_bind (q185.det _ _) (fun _=>?_)|refine det_bind (q154.det _ _) (fun _=>?_)
theorem edet a:Det (en a):=mkD (fun x:Dens A=>det x.1 x.2.1) a
theorem ground:Ground E tab:=gnd (tbc q127.sound (tbc q149.sound (tbc q128.sound (tbc q129.sound (tbc q131.sound (tbc q143.sound (tbc q150.sound (tbc q147.sound (tbc q148.sound (tbc q184.sound (tbc q125.sound (tbc q44.sound (tbc q108.sound (tbc q185.sound (tbc q154.sound (tab_nil _)))))))))))))))) (dtc q127.edet (dtc q149.edet (dtc q128.edet (dtc q129.edet (dtc q131.edet (dtc q143.edet (dtc q150.edet (dtc q147.edet (dtc q148.edet (dtc q184.edet (dtc q125.edet (dtc q44.edet (dtc q108.edet (dtc q185.edet (dtc q154.edet dtn)))))))))))))))
theorem sound:EntrySound E 123 en:=mkSoundI ground loops (by kernel_rfl) (fun (x:Dens A) K k=>eqv q127.F q149.F q128.F q129.F q131.F q143.F q150.F q147.F q148.F q184.F q125.F q44.F q108.F q185.F q154.F x.1 x.2.1 K k)
end q186
namespace q187
abbrev A:List Ty:=[(.st 15),(.slice (.st 12))]
abbrev C:=(cTwo (.st 15) (.slice (.st 11)))
abbrev T:Type:=Cluster->(List Event)->((Cluster×(List Outp))->Prop)->Prop
def tv (f0:q186.T):Tab:=[(123,mkEntry q186.A q186.C fun x=>f0 x.1 x.2.1)]
def tab:Tab:=tv q186.F
structure R where
def cR (_:R):St:={ fr:=fun _=>.top,hs:=hs0 }
def kR:Keep:={ ks:=[],bs:=[],hn:=0 }
structure L0 where
 l:(List Event)
 out:(List Outp)
 i:Int
 m0:Cluster
 m1:Cluster
def c0 (x:L0):St:={ fr:=lookL .top [(1,(.sl .any (.st 12) x.l)),(2,(.ptr 0 0)),(4,(.ptr 1 0)),(6,(.slr 3)),(7,(.int .i64 x.i))],hs:={ hp:=lookL .dead [(3,(.row false (.st 11) x.out)),(0,(.cells (encS 15 x.m0))),(1,(.cells (encS 15 x.m1)))],hn:=4 } }
def kp0:Keep:={ ks:=[(1,none),(2,none),(4,none),(6,some 3),(7,none)],bs:=[0,1],hn:=4,ts:=[(0,15),(1,15)] }
def p0 (st:St) (K:L0->Prop):Prop:=gHomes kp0 st <| gSl .any (.st 12) (st.fr 1) fun a1=>gPtr 0 0 (st.fr 2) <| gPtr 1 0 (st.fr 4) <| gSlr (st.fr 6) fun c2=>gRow false (.st 11) (st.hs.hp c2) fun a3=>gInt .i64 (st.fr 7) fun a4=>gBlkS 15 (st.hs.hp 0) fun a5=>gBlkS 15 (st.hs.hp 1) fun a6=>K ⟨a1,a3,a4,a5,a6⟩
set_option maxHeartbeats 4000000 in
theorem p0_ok (st:St) (K:L0->Prop) (h:p0 st K):∃ x,keepSt kp0 st=c0 x∧K x:=by
 obtain ⟨h0,h⟩:=gHomes_elim h
 obtain ⟨a1,h1,h⟩:=gSl_elim h
 obtain ⟨h2,h⟩:=gPtr_elim h
 obtain ⟨h3,h⟩:=gPtr_elim h
 obtain ⟨c2,h4,h⟩:=gSlr_elim h
 obtain ⟨a3,h5,h⟩:=gRow_elim h
 obtain ⟨a4,h6,h⟩:=gInt_elim h
 obtain ⟨z7,a5,h7,y7,h⟩:=gBlkS_elim h
 have q7:∀ ok,keptB kp0 ok 0 (.cells z7)=.cells (encS 15 a5):=fun _=>y7
 simp only [kp0] at q7
 obtain ⟨z8,a6,h8,y8,h⟩:=gBlkS_elim h
 have q8:∀ ok,keptB kp0 ok 1 (.cells z8)=.cells (encS 15 a6):=fun _=>y8
 simp only [kp0] at q8
 refine⟨_,?_,h⟩
 simp only [keepSt,h0]
 simp only [kp0,List.map,List.filterMap,homeOf,h1,h2,h3,h4,h5,h6,h7,h8,q7,q8,hmOf,List.append_nil,cond_true]
 rfl
def b0V (f0:q186.T) (rec kx:L0->Prop) (kr:R->Prop) (x:L0):Prop:=
 (bif(decide (x.i < (x.l.length:Int)))then(oget (getI x.l x.i) fun v1=>(f0 x.m0 v1 fun r2=>(bif(decide ((x.out.length+r2.2.length) * 48≤room))then(rec ⟨x.l,(x.out++r2.2),(IntKind.i64.wrap (x.i+1)),r2.1,x.m1⟩)else False)))else(kx ⟨x.l,x.out,x.i,x.m0,x.m1⟩))
def ltV (f0:q186.T):Nat->Option LSpec
 | 0=>some (mkLoop 0 kp0 kR p0 c0 cR (b0V f0))
 | _=>none
def lt:Nat->Option LSpec:=ltV q186.F
def FV (f0:q186.T) (c:Cluster) (l:(List Event)) (K:(Cluster×(List Outp))->Prop):Prop:=
 (∃ n,loopB (b0V f0) n (fun x3=>(K (x3.m0,x3.out))) (fun _=>False) ⟨l,([]:List Outp),0,c,(⟨(⟨0,false,(⟨(⟨([]:List Str),([]:List Write),0,false⟩:Disk),(⟨0,(⟨0,0,0,0⟩:Vec),false,false,false⟩:Super),0⟩:Store),false,0,0,(⟨0,(⟨0,0,0,0⟩:Vec),false,false,false,false,0⟩:Hello),false,(⟨false,0,0,([]:Str)⟩:Req),false,0,0,false,([]:List Int),([]:List Mint)⟩:Node),(⟨0,false,(⟨(⟨([]:List Str),([]:List Write),0,false⟩:Disk),(⟨0,(⟨0,0,0,0⟩:Vec),false,false,false⟩:Super),0⟩:Store),false,0,0,(⟨0,(⟨0,0,0,0⟩:Vec),false,false,false,false,0⟩:Hello),false,(⟨false,0,0,([]:Str)⟩:Req),false,0,0,false,([]:List Int),([]:List Mint)⟩:Node),(⟨false,0,([]:List Str),([]:List Str)⟩:Link),false,false⟩:Cluster)⟩)
def F (c:Cluster) (l:(List Event)) (K:(Cluster×(List Outp))->Prop):Prop:=FV q186.F c l K
def en:Entry:=mkEntry A C fun x=>F x.1 x.2.1
theorem eqv (f0:q186.T) (c:Cluster) (l:(List Event)) (K:(Cluster×(List Outp))->Prop):apure E (tv f0) (ltV f0) 4 87 [enc (.st 15) c,enc (.slice (.st 12)) l] (ansK C K)=FV f0 c l K:=by kernel_rfl
theorem l0v (f0:q186.T) (R:St->Prop) (Kx:Nat->St->Prop) (Kr:St->Prop) (x:L0):acode E (tv f0) (afun E (tv f0) 4) 31 (ltV f0) ((loopsIn E.P 87).getD 0 (0,.skip)).2 0 (fun s=>R (keepSt kp0 s)) (fun j s=>Kx j (keepSt kp0 s)) (fun s=>Kr (keepSt kR s)) (c0 x)=b0V f0 (fun x=>R (c0 x)) (fun x=>Kx 0 (c0 x)) (fun r=>Kr (cR r)) x:=by kernel_rfl
theorem l0_ok:LSound E tab (afun E tab 4) 31 lt 0 ((loopsIn E.P 87).getD 0 (0,.skip)).2 (mkLoop 0 kp0 kR p0 c0 cR (b0V q186.F)):=mkLoop_sound (by decide) (by decide) p0_ok (fun R Kx Kr x=>l0v q186.F R Kx Kr x)
theorem loops:LoopsOk E tab lt 4 87:=loops_of (nt:=31) (ids:=[0]) (by kernel_rfl) (by kernel_rfl) (by
 intro k i hk l hl
 match k,hk with
 | 0,hk=>cases hk;cases hl;exact l0_ok
 | _+1,hk=>exact absurd hk (by simp))
theorem det (c:Cluster) (l:(List Event)):Det (F c l):=by
 unfold F FV
 repeat' with_reducible first|exact det_ret _|exact det_false|refine det_cond _ ?_ ?_|refine det_oget _ (fun _=>?_)|refine det_bind (q186.det _ _) (fun _=>?_)|refine det_loop (fun _=>?_) (fun _=>?_) (fun _=>?_) _ | unfold b0V
theorem edet a:Det (en a):=mkD (fun x:Dens A=>det x.1 x.2.1) a
theorem ground:Ground E tab:=gnd (tbc q186.sound (tab_nil _)) (dtc q186.edet dtn)
theorem sound:EntrySound E 87 en:=mkSound ground loops (by kernel_rfl) (fun x K=>eqv q186.F x.1 x.2.1 K)
end q187
namespace q188
abbrev A:List Ty:=[(.int .u8),(.slice (.st 12))]
abbrev C:=(cTy (.st 15))
abbrev T:Type:=Int->(List Event)->(Cluster->Prop)->Prop
def tv (f0:q107.T) (f1:q45.T) (f2:q187.T):Tab:=[(86,mkEntry q107.A q107.C fun _=>f0),(37,mkEntry q45.A q45.C fun x=>f1 x.1 x.2.1),(87,mkEntry q187.A q187.C fun x=>f2 x.1 x.2.1)]
def tab:Tab:=tv q107.F q45.F q187.F
def FV (f0:q107.T) (f1:q45.T) (f2:q187.T) (blocks:Int) (l:(List Event)) (K:Cluster->Prop):Prop:=
 (bif(4==0)then False else(f0 fun r1=>(f1 (IntKind.i64.wrap (1+(IntKind.i64.wrap (blocks.tmod 4)))) r1 fun r2=>(f2 r2.1 l fun r3=>(K r3.1)))))
def F (blocks:Int) (l:(List Event)) (K:Cluster->Prop):Prop:=FV q107.F q45.F q187.F blocks l K
def en:Entry:=mkEntry A C fun x=>F x.1 x.2.1
theorem eqv (f0:q107.T) (f1:q45.T) (f2:q187.T) (blocks:Int) (l:(List Event)) (K:Cluster->Prop):apure E (tv f0 f1 f2) (fun _=>none) 4 38 [enc (.int .u8) blocks,enc (.slice (.st 12)) l] (ansK C K)=FV f0 f1 f2 blocks l K:=by kernel_rfl
theorem loops:LoopsOk E tab (fun _=>none) 4 38:=lpn _ _ _ _
theorem det (blocks:Int) (l:(List Event)):Det (F blocks l):=by
 unfold F FV
 repeat' with_reducible first|exact det_ret _|exact det_false|refine det_cond _ ?_ ?_|refine det_bind (q107.det) (fun _=>?_)|refine det_bind (q45.det _ _) (fun _=>?_)|refine det_bind (q187.det _ _) (fun _=>?_)
theorem edet a:Det (en a):=mkD (fun x:Dens A=>det x.1 x.2.1) a
theorem ground:Ground E tab:=gnd (tbc q107.sound (tbc q45.sound (tbc q187.sound (tab_nil _)))) (dtc q107.edet (dtc q45.edet (dtc q187.edet dtn)))
theorem sound:EntrySound E 38 en:=mkSound ground loops (by kernel_rfl) (fun x K=>eqv q107.F q45.F q187.F x.1 x.2.1 K)
end q188
namespace q189
abbrev A:List Ty:=[(.st 16)]
abbrev C:=(cTy (.int .i64))
abbrev T:Type:=Case->(Int->Prop)->Prop
def tab:Tab:=[]
def F (c:Case) (K:Int->Prop):Prop:=
 (bif c.side then(K 1)else(K 0))
def en:Entry:=mkEntry A C fun x=>F x.1
theorem eqv (c:Case) (K:Int->Prop):apure E tab (fun _=>none) 4 39 [enc (.st 16) c] (ansK C K)=F c K:=by kernel_rfl
theorem eq (x:Dens A) (K:Int->Prop):apure E tab (fun _=>none) 4 39 (encA A x) (ansK C K)=F x.1 K:=eqv  x.1 K
theorem loops:LoopsOk E tab (fun _=>none) 4 39:=lpn _ _ _ _
theorem det (c:Case):Det (F c):=by
 unfold F
 repeat' with_reducible first|exact det_ret _|refine det_cond _ ?_ ?_
theorem edet a:Det (en a):=mkD (fun x:Dens A=>det x.1) a
theorem ground:Ground E tab:=gnd (tab_nil _) dtn
theorem sound:EntrySound E 39 en:=mkSound ground loops (by kernel_rfl) (eq)
end q189
namespace q190
abbrev A:List Ty:=[(.st 16)]
abbrev C:=(cTy (.st 13))
abbrev T:Type:=Case->(Node->Prop)->Prop
def tv (f0:q188.T) (f1:q189.T):Tab:=[(38,mkEntry q188.A q188.C fun x=>f0 x.1 x.2.1),(39,mkEntry q189.A q189.C fun x=>f1 x.1)]
def tab:Tab:=tv q188.F q189.F
def FV (f0:q188.T) (f1:q189.T) (c:Case) (K:Node->Prop):Prop:=
 (f0 c.blocks c.l fun r1=>(f1 c fun r2=>(bif(r2==0)then(K r1.n0)else(bif(r2==1)then(K r1.n1)else False))))
def F (c:Case) (K:Node->Prop):Prop:=FV q188.F q189.F c K
def en:Entry:=mkEntry A C fun x=>F x.1
theorem eqv (f0:q188.T) (f1:q189.T) (c:Case) (K:Node->Prop):apure E (tv f0 f1) (fun _=>none) 4 11 [enc (.st 16) c] (ansK C K)=FV f0 f1 c K:=by kernel_rfl
theorem eq (x:Dens A) (K:Node->Prop):apure E tab (fun _=>none) 4 11 (encA A x) (ansK C K)=F x.1 K:=eqv q188.F q189.F x.1 K
theorem loops:LoopsOk E tab (fun _=>none) 4 11:=lpn _ _ _ _
theorem det (c:Case):Det (F c):=by
 unfold F FV
 repeat' with_reducible first|exact det_ret _|exact det_false|refine det_cond _ ?_ ?_|refine det_bind (q188.det _ _) (fun _=>?_)|refine det_bind (q189.det _) (fun _=>?_)
theorem edet a:Det (en a):=mkD (fun x:Dens A=>det x.1) a
theorem ground:Ground E tab:=gnd (tbc q188.sound (tbc q189.sound (tab_nil _))) (dtc q188.edet (dtc q189.edet dtn))
theorem sound:EntrySound E 11 en:=mkSound ground loops (by kernel_rfl) (eq)
end q190
end Gm
end
