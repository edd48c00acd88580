/- Printed by a program (gen.py): the functions' answers, and that they are so. -/
import Derived.Test.YtlaijgoahmigmaaGreatDoorGdT7
set_option linter.unusedVariables false
set_option maxRecDepth 100000
noncomputable section
namespace Gm
open Go Go.Proofs
namespace q210
abbrev A:List Ty:=[(.st 13),(.st 5)]
abbrev C:=(cTwo (.st 13) (.slice (.st 11)))
abbrev T:Type:=Node->Packet->((Node×(List Outp))->Prop)->Prop
def tv (f0:q191.T) (f1:q197.T) (f2:q200.T) (f3:q201.T) (f4:q204.T) (f5:q205.T) (f6:q206.T) (f7:q207.T) (f8:q208.T) (f9:q209.T):Tab:=[(25,mkEntry q191.A q191.C fun x=>f0 x.1 x.2.1),(137,mkEntry q197.A q197.C fun x=>f1 x.1 x.2.1 x.2.2.1),(138,mkEntry q200.A q200.C fun x=>f2 x.1 x.2.1),(139,mkEntry q201.A q201.C fun x=>f3 x.1 x.2.1),(35,mkEntry q204.A q204.C fun x=>f4 x.1 x.2.1),(14,mkEntry q205.A q205.C fun x=>f5 x.1 x.2.1 x.2.2.1),(36,mkEntry q206.A q206.C fun x=>f6 x.1 x.2.1),(37,mkEntry q207.A q207.C fun x=>f7 x.1),(38,mkEntry q208.A q208.C fun x=>f8 x.1),(140,mkEntry q209.A q209.C fun x=>f9 x.1 x.2.1)]
def tab:Tab:=tv q191.F q197.F q200.F q201.F q204.F q205.F q206.F q207.F q208.F q209.F
def FV (f0:q191.T) (f1:q197.T) (f2:q200.T) (f3:q201.T) (f4:q204.T) (f5:q205.T) (f6:q206.T) (f7:q207.T) (f8:q208.T) (f9:q209.T) (n_0:Node) (p:Packet) (K:(Node×(List Outp))->Prop):Prop:=
 (bif(p.kind==1)then(f0 n_0 p.hello fun r1=>(K (r1.1,r1.2)))else(bif(p.kind==2)then(f1 n_0 p.block p.data fun r2=>(K (r2.1,r2.2)))else(bif(p.kind==3)then(f2 n_0 p.block fun r3=>(K (r3.1,r3.2)))else(bif(p.kind==4)then(f3 n_0 p.block fun r4=>(K (r4.1,r4.2)))else(bif(p.kind==5)then(f4 n_0 p.block fun r5=>(K (r5.1,r5.2)))else(bif(p.kind==6)then(f5 n_0 p.block p.data fun r6=>(K (r6.1,r6.2)))else(bif(p.kind==7)then(f6 n_0 p.block fun r7=>(K (r7.1,r7.2)))else(bif(p.kind==8)then(f7 n_0 fun r8=>(K (r8.1,r8.2)))else(bif(p.kind==9)then(f8 n_0 fun r9=>(K (r9,([]:List Outp))))else(f9 n_0 p.kind fun r10=>(K (r10.1,r10.2))))))))))))
def F (n_0:Node) (p:Packet) (K:(Node×(List Outp))->Prop):Prop:=FV q191.F q197.F q200.F q201.F q204.F q205.F q206.F q207.F q208.F q209.F n_0 p K
def en:Entry:=mkEntry A C fun x=>F x.1 x.2.1
theorem eqv (f0:q191.T) (f1:q197.T) (f2:q200.T) (f3:q201.T) (f4:q204.T) (f5:q205.T) (f6:q206.T) (f7:q207.T) (f8:q208.T) (f9:q209.T) (n_0:Node) (p:Packet) (K:(Node×(List Outp))->Prop):apure E (tv f0 f1 f2 f3 f4 f5 f6 f7 f8 f9) (fun _=>none) 4 82 [enc (.st 13) n_0,enc (.st 5) p] (ansK C K)=FV f0 f1 f2 f3 f4 f5 f6 f7 f8 f9 n_0 p K:=by kernel_rfl
theorem loops:LoopsOk E tab (fun _=>none) 4 82:=lpn _ _ _ _
theorem det (n_0:Node) (p:Packet):Det (F n_0 p):=by
 unfold F FV
 repeat' with_reducible first|exact det_ret _|refine det_cond _ ?_ ?_|refine det_bind (q191.det _ _) (fun _=>?_)|refine det_bind (q197.det _ _ _) (fun _=>?_)|refine det_bind (q200.det _ _) (fun _=>?_)|refine det_bind (q201.det _ _) (fun _=>?_)|refine det_bind (q204.det _ _) (fun _=>?_)|refine det_bind (q205.det _ _ _) (fun _=>?_)|refine det_bind (q206.det _ _) (fun _=>?_)|refine det_bind (q207.det _) (fun _=>?_)|refine det_bind (q208.det _) (fun _=>?_)|refine det_bind (q209.det _ _) (fun _=>?_)
theorem edet a:Det (en a):=mkD (fun x:Dens A=>det x.1 x.2.1) a
theorem ground:Ground E tab:=gnd (tbc q191.sound (tbc q197.sound (tbc q200.sound (tbc q201.sound (tbc q204.sound (tbc q205.sound (tbc q206.sound (tbc q207.sound (tbc q208.sound (tbc q209.sound (tab_nil _))))))))))) (dtc q191.edet (dtc q197.edet (dtc q200.edet (dtc q201.edet (dtc q204.edet (dtc q205.edet (dtc q206.edet (dtc q207.edet (dtc q208.edet (dtc q209.edet dtn))))))))))
theorem sound:EntrySound E 82 en:=mkSound ground loops (by kernel_rfl) (fun x K=>eqv q191.F q197.F q200.F q201.F q204.F q205.F q206.F q207.F q208.F q209.F x.1 x.2.1 K)
end q210
namespace q211
abbrev A:List Ty:=[(.st 13),.str]
abbrev C:=(cTwo (.st 13) (.slice (.st 11)))
abbrev T:Type:=Node->Str->((Node×(List Outp))->Prop)->Prop
def tv (f0:q144.T) (f1:q148.T) (f2:q210.T):Tab:=[(81,mkEntry q144.A q144.C fun x=>f0 x.1 x.2.1),(79,mkEntry q148.A q148.C fun x=>f1 x.1 x.2.1),(82,mkEntry q210.A q210.C fun x=>f2 x.1 x.2.1)]
def tab:Tab:=tv q144.F q148.F q210.F
def FV (f0:q144.T) (f1:q148.T) (f2:q210.T) (n_0:Node) (b_1:Str) (K:(Node×(List Outp))->Prop):Prop:=
 (bif(!n_0.up)then(K (n_0,([]:List Outp)))else(bif(n_0.state==0)then(K (n_0,([]:List Outp)))else(f0 b_1 n_0.session fun r1=>(bif(r1.2==16)then(K (n_0,([]:List Outp)))else(bif(r1.2 != 0)then(K (n_0,([(⟨3,n_0.id,0,0,([]:Str)⟩:Outp)]:List Outp)))else(f1 n_0 r1.1 fun r2=>(bif(!r2)then(K (n_0,([(⟨3,n_0.id,0,0,([]:Str)⟩:Outp)]:List Outp)))else(f2 n_0 r1.1 fun r3=>(K (r3.1,r3.2))))))))))
def F (n_0:Node) (b_1:Str) (K:(Node×(List Outp))->Prop):Prop:=FV q144.F q148.F q210.F n_0 b_1 K
def en:Entry:=mkEntry A C fun x=>F x.1 x.2.1
theorem eqv (f0:q144.T) (f1:q148.T) (f2:q210.T) (n_0:Node) (b_1:Str) (K:(Node×(List Outp))->Prop):apure E (tv f0 f1 f2) (fun _=>none) 4 33 [enc (.st 13) n_0,enc .str b_1] (ansK C K)=FV f0 f1 f2 n_0 b_1 K:=by kernel_rfl
theorem loops:LoopsOk E tab (fun _=>none) 4 33:=lpn _ _ _ _
theorem det (n_0:Node) (b_1:Str):Det (F n_0 b_1):=by
 unfold F FV
 repeat' with_reducible first|exact det_ret _|refine det_cond _ ?_ ?_|refine det_bind (q144.det _ _) (fun _=>?_)|refine det_bind (q148.det _ _) (fun _=>?_)|refine det_bind (q210.det _ _) (fun _=>?_)
theorem edet a:Det (en a):=mkD (fun x:Dens A=>det x.1 x.2.1) a
theorem ground:Ground E tab:=gnd (tbc q144.sound (tbc q148.sound (tbc q210.sound (tab_nil _)))) (dtc q144.edet (dtc q148.edet (dtc q210.edet dtn)))
theorem sound:EntrySound E 33 en:=mkSound ground loops (by kernel_rfl) (fun x K=>eqv q144.F q148.F q210.F x.1 x.2.1 K)
end q211
namespace q212
abbrev A:List Ty:=[(.st 5),(.int .u64)]
abbrev C:=(cTy .str)
abbrev T:Type:=Packet->Int->(Str->Prop)->Prop
def tv (f0:q55.T):Tab:=[(132,mkEntry q55.A q55.C fun x=>f0 x.1)]
def tab:Tab:=tv q55.F
def FV (f0:q55.T) (p:Packet) (session:Int) (K:Str->Prop):Prop:=
 (f0 (⟨p.kind,session,p.hello,p.block,p.data⟩:Packet) fun r1=>(K r1.1))
def F (p:Packet) (session:Int) (K:Str->Prop):Prop:=FV q55.F p session K
def en:Entry:=mkEntry A C fun x=>F x.1 x.2.1
theorem eqv (f0:q55.T) (p:Packet) (session:Int) (K:Str->Prop):apure E (tv f0) (fun _=>none) 4 78 [enc (.st 5) p,enc (.int .u64) session] (ansK C K)=FV f0 p session K:=by kernel_rfl
theorem eq (x:Dens A) (K:Str->Prop):apure E tab (fun _=>none) 4 78 (encA A x) (ansK C K)=F x.1 x.2.1 K:=eqv q55.F x.1 x.2.1 K
theorem loops:LoopsOk E tab (fun _=>none) 4 78:=lpn _ _ _ _
theorem det (p:Packet) (session:Int):Det (F p session):=by
 unfold F FV
 repeat' with_reducible first|exact det_ret _|refine det_bind (q55.det _) (fun _=>?_)
theorem edet a:Det (en a):=mkD (fun x:Dens A=>det x.1 x.2.1) a
theorem ground:Ground E tab:=gnd (tbc q55.sound (tab_nil _)) (dtc q55.edet dtn)
theorem sound:EntrySound E 78 en:=mkSound ground loops (by kernel_rfl) (eq)
end q212
namespace q213
abbrev A:List Ty:=[]
abbrev C:=(cTy .bool)
abbrev T:Type:=(Bool->Prop)->Prop
def tv (f0:q126.T) (f1:q211.T) (f2:q212.T) (f3:q148.T):Tab:=[(27,mkEntry q126.A q126.C fun x=>f0 x.1 x.2.1),(33,mkEntry q211.A q211.C fun x=>f1 x.1 x.2.1),(78,mkEntry q212.A q212.C fun x=>f2 x.1 x.2.1),(79,mkEntry q148.A q148.C fun x=>f3 x.1 x.2.1)]
def tab:Tab:=tv q126.F q211.F q212.F q148.F
def FV (f0:q126.T) (f1:q211.T) (f2:q212.T) (f3:q148.T) (K:Bool->Prop):Prop:=
 (f0 1 ([(⟨6,0,0,0,([]:Str),0,([]:List Bool)⟩:Event),(⟨6,1,0,0,([]:Str),0,([]:List Bool)⟩:Event),(⟨9,0,0,0,([]:Str),0,([]:List Bool)⟩:Event),(⟨9,1,0,0,([]:Str),0,([]:List Bool)⟩:Event),(⟨1,0,5,0,([]:Str),0,([]:List Bool)⟩:Event)]:List Event) fun r1=>(bif(r1.n0.state != 2)then(K false)else(bif(r1.n1.state != 2)then(K false)else(bif(!r1.n0.asking)then(K false)else(f1 r1.n0 ([106,117,110,107]:Str) fun r2=>(f2 (⟨11,0,(⟨0,(⟨0,0,0,0⟩:Vec),false,false,false,false,0⟩:Hello),0,([]:Str)⟩:Packet) (IntKind.u64.wrap (r1.n0.session+1)) fun r3=>(f1 r1.n0 r3 fun r4=>(f2 (⟨11,0,(⟨0,(⟨0,0,0,0⟩:Vec),false,false,false,false,0⟩:Hello),0,([]:Str)⟩:Packet) r1.n0.session fun r5=>(f1 r1.n0 r5 fun r6=>(f2 (⟨10,0,(⟨0,(⟨0,0,0,0⟩:Vec),false,false,false,false,0⟩:Hello),0,([]:Str)⟩:Packet) r1.n1.session fun r7=>(f1 r1.n1 r7 fun r8=>(f2 (⟨12,0,(⟨0,(⟨0,0,0,0⟩:Vec),false,false,false,false,0⟩:Hello),0,([]:Str)⟩:Packet) r1.n0.session fun r9=>(f1 r1.n0 r9 fun r10=>(f2 (⟨10,0,(⟨0,(⟨0,0,0,0⟩:Vec),false,false,false,false,0⟩:Hello),0,([]:Str)⟩:Packet) r6.1.session fun r11=>(f1 r6.1 r11 fun r12=>(bif((r2.2.length:Int) != 1)then(K false)else(bif((r4.2.length:Int) != 0)then(K false)else(bif((r6.2.length:Int) != 1)then(K false)else(bif((r8.2.length:Int) != 1)then(K false)else(bif((r10.2.length:Int) != 1)then(K false)else(bif((r12.2.length:Int) != 1)then(K false)else(oget (getI r2.2 0) fun v13=>(bif((v13.kind==3)&&((v13.node==0)&&((v13.id==0)&&((v13.err==0)&&((v13.data==([]:Str))&&true)))))then(oget (getI r6.2 0) fun v14=>(bif((v14.kind==2)&&((v14.node==0)&&((v14.id==5)&&((v14.err==0)&&((v14.data==([]:Str))&&true)))))then(bif r6.1.primary then(bif(!r6.1.asking)then(bif r6.1.store.sup.pri then(bif r8.1.peerPri then(oget (getI r8.2 0) fun v15=>(f2 (⟨11,0,(⟨0,(⟨0,0,0,0⟩:Vec),false,false,false,false,0⟩:Hello),0,([]:Str)⟩:Packet) r1.n1.session fun r16=>(bif(v15.data==r16)then(oget (getI r10.2 0) fun v17=>(bif(v17.err==12)then(bif(!r10.1.asking)then(oget (getI r12.2 0) fun v18=>(f2 (⟨12,0,(⟨0,(⟨0,0,0,0⟩:Vec),false,false,false,false,0⟩:Hello),0,([]:Str)⟩:Packet) r1.n0.session fun r19=>(bif(v18.data==r19)then(f3 r1.n0 (⟨10,0,(⟨0,(⟨0,0,0,0⟩:Vec),false,false,false,false,0⟩:Hello),0,([]:Str)⟩:Packet) fun r20=>(bif r20 then(f3 r1.n0 (⟨8,0,(⟨0,(⟨0,0,0,0⟩:Vec),false,false,false,false,0⟩:Hello),0,([]:Str)⟩:Packet) fun r21=>(K (!r21)))else(K false)))else(K false))))else(K false))else(K false)))else(K false))))else(K false))else(K false))else(K false))else(K false))else(K false)))else(K false))))))))))))))))))))))))
def F (K:Bool->Prop):Prop:=FV q126.F q211.F q212.F q148.F K
def en:Entry:=mkEntry A C fun _=>F
theorem eqv (f0:q126.T) (f1:q211.T) (f2:q212.T) (f3:q148.T) (K:Bool->Prop):apure E (tv f0 f1 f2 f3) (fun _=>none) 4 31 [] (ansK C K)=FV f0 f1 f2 f3 K:=by kernel_rfl
theorem eq (x:Dens A) (K:Bool->Prop):apure E tab (fun _=>none) 4 31 (encA A x) (ansK C K)=F K:=eqv q126.F q211.F q212.F q148.F K
theorem loops:LoopsOk E tab (fun _=>none) 4 31:=lpn _ _ _ _
theorem det:Det (F):=by
 unfold F FV
 repeat' with_reducible first|exact det_ret _|refine det_cond _ ?_ ?_|refine det_oget _ (fun _=>?_)|refine det_bind (q126.det _ _) (fun _=>?_)|refine det_bind (q211.det _ _) (fun _=>?_)|refine det_bind (q212.det _ _) (fun _=>?_)|refine det_bind (q148.det _ _) (fun _=>?_)
theorem edet a:Det (en a):=mkD (fun _:Dens A=>det) a
theorem ground:Ground E tab:=gnd (tbc q126.sound (tbc q211.sound (tbc q212.sound (tbc q148.sound (tab_nil _))))) (dtc q126.edet (dtc q211.edet (dtc q212.edet (dtc q148.edet dtn))))
theorem sound:EntrySound E 31 en:=mkSound ground loops (by kernel_rfl) (eq)
end q213
namespace q214
abbrev A:List Ty:=[(.slice (.st 12)),(.int .i64)]
abbrev C:=(cTy .bool)
abbrev T:Type:=(List Event)->Int->(Bool->Prop)->Prop
def tab:Tab:=[]
structure R where
 t4:Bool
def cR (x:R):St:={ fr:=lookL .top [(4,(.bool x.t4))],hs:={ hp:=lookL .dead [],hn:=0 } }
def kR:Keep:={ ks:=[(4,none)],bs:=[],hn:=0 }
structure L0 where
 l:(List Event)
 i:Int
def c0 (x:L0):St:={ fr:=lookL .top [(0,(.sl .any (.st 12) x.l)),(5,(.int .i64 x.i))],hs:={ hp:=lookL .dead [],hn:=0 } }
def kp0:Keep:={ ks:=[(0,none),(5,none)],bs:=[],hn:=0 }
def p0 (st:St) (K:L0->Prop):Prop:=gSl .any (.st 12) (st.fr 0) fun a1=>gInt .i64 (st.fr 5) fun a2=>K ⟨a1,a2⟩
set_option maxHeartbeats 4000000 in
theorem p0_ok (st:St) (K:L0->Prop) (h:p0 st K):∃ x,keepSt kp0 st=c0 x∧K x:=by
 obtain ⟨a1,h0,h⟩:=gSl_elim h
 obtain ⟨a2,h1,h⟩:=gInt_elim h
 refine⟨_,?_,h⟩
 simp only [keepSt,kp0,List.map,h0,h1]
 rfl
def b0 (rec kx:L0->Prop) (kr:R->Prop) (x:L0):Prop:=
 (bif(decide (x.i < (x.l.length:Int)))then(oget (getI x.l x.i) fun v1=>(bif(decide ((v1.data.length:Int) > 300))then(kr ⟨true⟩)else(oget (getI x.l x.i) fun v2=>(bif(decide ((v2.keeps.length:Int) > 100))then(kr ⟨true⟩)else(rec ⟨x.l,(IntKind.i64.wrap (x.i+1))⟩)))))else(kx ⟨x.l,x.i⟩))
def lt:Nat->Option LSpec
 | 0=>some (mkLoop 0 kp0 kR p0 c0 cR b0)
 | _=>none
def F (l:(List Event)) (most:Int) (K:Bool->Prop):Prop:=
 (bif(decide ((l.length:Int) > most))then(K true)else(∃ n,loopB b0 n (fun x3=>(K false)) (fun r4=>(K r4.t4)) ⟨l,0⟩))
def en:Entry:=mkEntry A C fun x=>F x.1 x.2.1
theorem eqv (l:(List Event)) (most:Int) (K:Bool->Prop):apure E tab lt 4 10 [enc (.slice (.st 12)) l,enc (.int .i64) most] (ansK C K)=F l most K:=by kernel_rfl
theorem l0v (R:St->Prop) (Kx:Nat->St->Prop) (Kr:St->Prop) (x:L0):acode E tab (afun E tab 4) 32 lt ((loopsIn E.P 10).getD 0 (0,.skip)).2 0 (fun s=>R (keepSt kp0 s)) (fun j s=>Kx j (keepSt kp0 s)) (fun s=>Kr (keepSt kR s)) (c0 x)=b0 (fun x=>R (c0 x)) (fun x=>Kx 0 (c0 x)) (fun r=>Kr (cR r)) x:=by kernel_rfl
theorem l0_ok:LSound E tab (afun E tab 4) 32 lt 0 ((loopsIn E.P 10).getD 0 (0,.skip)).2 (mkLoop 0 kp0 kR p0 c0 cR b0):=mkLoop_sound (by decide) (by decide) p0_ok (fun R Kx Kr x=>l0v  R Kx Kr x)
theorem loops:LoopsOk E tab lt 4 10:=loops_of (nt:=32) (ids:=[0]) (by kernel_rfl) (by kernel_rfl) (by
 intro k i hk l hl
 match k,hk with
 | 0,hk=>cases hk;cases hl;exact l0_ok
 | _+1,hk=>exact absurd hk (by simp))
theorem det (l:(List Event)) (most:Int):Det (F l most):=by
 unfold F
 repeat' with_reducible first|exact det_ret _|refine det_cond _ ?_ ?_|refine det_oget _ (fun _=>?_)|refine det_loop (fun _=>?_) (fun _=>?_) (fun _=>?_) _ | unfold b0
theorem edet a:Det (en a):=mkD (fun x:Dens A=>det x.1 x.2.1) a
theorem ground:Ground E tab:=gnd (tab_nil _) dtn
theorem sound:EntrySound E 10 en:=mkSound ground loops (by kernel_rfl) (fun x K=>eqv  x.1 x.2.1 K)
end q214
namespace q215
abbrev A:List Ty:=[(.st 16)]
abbrev C:=(cTy (.int .i64))
abbrev T:Type:=Case->(Int->Prop)->Prop
def tab:Tab:=[]
def F (c:Case) (K:Int->Prop):Prop:=
 (bif c.side then(K 1)else(K 0))
def en:Entry:=mkEntry A C fun x=>F x.1
theorem eqv (c:Case) (K:Int->Prop):apure E tab (fun _=>none) 4 80 [enc (.st 16) c] (ansK C K)=F c K:=by kernel_rfl
theorem eq (x:Dens A) (K:Int->Prop):apure E tab (fun _=>none) 4 80 (encA A x) (ansK C K)=F x.1 K:=eqv  x.1 K
theorem loops:LoopsOk E tab (fun _=>none) 4 80:=lpn _ _ _ _
theorem det (c:Case):Det (F c):=by
 unfold F
 repeat' with_reducible first|exact det_ret _|refine det_cond _ ?_ ?_
theorem edet a:Det (en a):=mkD (fun x:Dens A=>det x.1) a
theorem ground:Ground E tab:=gnd (tab_nil _) dtn
theorem sound:EntrySound E 80 en:=mkSound ground loops (by kernel_rfl) (eq)
end q215
namespace q216
abbrev A:List Ty:=[(.st 16)]
abbrev C:=(cTy (.st 13))
abbrev T:Type:=Case->(Node->Prop)->Prop
def tv (f0:q126.T) (f1:q215.T):Tab:=[(27,mkEntry q126.A q126.C fun x=>f0 x.1 x.2.1),(80,mkEntry q215.A q215.C fun x=>f1 x.1)]
def tab:Tab:=tv q126.F q215.F
def FV (f0:q126.T) (f1:q215.T) (c:Case) (K:Node->Prop):Prop:=
 (f0 c.blocks c.l fun r1=>(f1 c fun r2=>(bif(r2==0)then(K r1.n0)else(bif(r2==1)then(K r1.n1)else False))))
def F (c:Case) (K:Node->Prop):Prop:=FV q126.F q215.F c K
def en:Entry:=mkEntry A C fun x=>F x.1
theorem eqv (f0:q126.T) (f1:q215.T) (c:Case) (K:Node->Prop):apure E (tv f0 f1) (fun _=>none) 4 32 [enc (.st 16) c] (ansK C K)=FV f0 f1 c K:=by kernel_rfl
theorem eq (x:Dens A) (K:Node->Prop):apure E tab (fun _=>none) 4 32 (encA A x) (ansK C K)=F x.1 K:=eqv q126.F q215.F x.1 K
theorem loops:LoopsOk E tab (fun _=>none) 4 32:=lpn _ _ _ _
theorem det (c:Case):Det (F c):=by
 unfold F FV
 repeat' with_reducible first|exact det_ret _|exact det_false|refine det_cond _ ?_ ?_|refine det_bind (q126.det _ _) (fun _=>?_)|refine det_bind (q215.det _) (fun _=>?_)
theorem edet a:Det (en a):=mkD (fun x:Dens A=>det x.1) a
theorem ground:Ground E tab:=gnd (tbc q126.sound (tbc q215.sound (tab_nil _))) (dtc q126.edet (dtc q215.edet dtn))
theorem sound:EntrySound E 32 en:=mkSound ground loops (by kernel_rfl) (eq)
end q216
namespace q217
abbrev A:List Ty:=[(.st 1),(.st 1)]
abbrev C:=(cTy .bool)
abbrev T:Type:=Disk->Disk->(Bool->Prop)->Prop
def tab:Tab:=[]
structure R where
 t4:Bool
def cR (x:R):St:={ fr:=lookL .top [(4,(.bool x.t4))],hs:={ hp:=lookL .dead [],hn:=2 } }
def kR:Keep:={ ks:=[(4,none)],bs:=[],hn:=2 }
structure L0 where
 i:Int
 m0:Disk
 m1:Disk
def c0 (x:L0):St:={ fr:=lookL .top [(2,(.ptr 0 0)),(3,(.ptr 1 0)),(5,(.int .i64 x.i))],hs:={ hp:=lookL .dead [(0,(.cells [(.sl .any .str x.m0.sure),(.sl .any (.st 0) x.m0.cache),(.int .i64 x.m0.fuse),(.bool x.m0.dead)])),(1,(.cells [(.sl .any .str x.m1.sure),(.sl .any (.st 0) x.m1.cache),(.int .i64 x.m1.fuse),(.bool x.m1.dead)]))],hn:=2 } }
def kp0:Keep:={ ks:=[(2,none),(3,none),(5,none)],bs:=[0,1],hn:=2,ts:=[(0,1),(1,1)] }
def p0 (st:St) (K:L0->Prop):Prop:=gPtr 0 0 (st.fr 2) <| gPtr 1 0 (st.fr 3) <| gInt .i64 (st.fr 5) fun a1=>gBlkS 1 (st.hs.hp 0) fun a2=>gBlkS 1 (st.hs.hp 1) fun a3=>K ⟨a1,a2,a3⟩
set_option maxHeartbeats 4000000 in
theorem p0_ok (st:St) (K:L0->Prop) (h:p0 st K):∃ x,keepSt kp0 st=c0 x∧K x:=by
 obtain ⟨h0,h⟩:=gPtr_elim h
 obtain ⟨h1,h⟩:=gPtr_elim h
 obtain ⟨a1,h2,h⟩:=gInt_elim h
 obtain ⟨z3,a2,h3,y3,h⟩:=gBlkS_elim h
 have q3:∀ ok,keptB kp0 ok 0 (.cells z3)=.cells (encS 1 a2):=fun _=>y3
 simp only [kp0] at q3
 obtain ⟨z4,a3,h4,y4,h⟩:=gBlkS_elim h
 have q4:∀ ok,keptB kp0 ok 1 (.cells z4)=.cells (encS 1 a3):=fun _=>y4
 simp only [kp0] at q4
 refine⟨_,?_,h⟩
 simp only [keepSt,kp0,List.map,h0,h1,h2,h3,h4,q3,q4]
 rfl
structure L2 where
 i:Int
 m0:Disk
 m1:Disk
def c2 (x:L2):St:={ fr:=lookL .top [(2,(.ptr 0 0)),(3,(.ptr 1 0)),(6,(.int .i64 x.i))],hs:={ hp:=lookL .dead [(0,(.cells [(.sl .any .str x.m0.sure),(.sl .any (.st 0) x.m0.cache),(.int .i64 x.m0.fuse),(.bool x.m0.dead)])),(1,(.cells [(.sl .any .str x.m1.sure),(.sl .any (.st 0) x.m1.cache),(.int .i64 x.m1.fuse),(.bool x.m1.dead)]))],hn:=2 } }
def kp2:Keep:={ ks:=[(2,none),(3,none),(6,none)],bs:=[0,1],hn:=2,ts:=[(0,1),(1,1)] }
def p2 (st:St) (K:L2->Prop):Prop:=gPtr 0 0 (st.fr 2) <| gPtr 1 0 (st.fr 3) <| gInt .i64 (st.fr 6) fun a1=>gBlkS 1 (st.hs.hp 0) fun a2=>gBlkS 1 (st.hs.hp 1) fun a3=>K ⟨a1,a2,a3⟩
set_option maxHeartbeats 4000000 in
theorem p2_ok (st:St) (K:L2->Prop) (h:p2 st K):∃ x,keepSt kp2 st=c2 x∧K x:=by
 obtain ⟨h0,h⟩:=gPtr_elim h
 obtain ⟨h1,h⟩:=gPtr_elim h
 obtain ⟨a1,h2,h⟩:=gInt_elim h
 obtain ⟨z3,a2,h3,y3,h⟩:=gBlkS_elim h
 have q3:∀ ok,keptB kp2 ok 0 (.cells z3)=.cells (encS 1 a2):=fun _=>y3
 simp only [kp2] at q3
 obtain ⟨z4,a3,h4,y4,h⟩:=gBlkS_elim h
 have q4:∀ ok,keptB kp2 ok 1 (.cells z4)=.cells (encS 1 a3):=fun _=>y4
 simp only [kp2] at q4
 refine⟨_,?_,h⟩
 simp only [keepSt,kp2,List.map,h0,h1,h2,h3,h4,q3,q4]
 rfl
def b0 (rec kx:L0->Prop) (kr:R->Prop) (x:L0):Prop:=
 (bif(decide (x.i < (x.m0.sure.length:Int)))then(oget (getI x.m0.sure x.i) fun v1=>(oget (getI x.m1.sure x.i) fun v2=>(bif(!(v1==v2))then(kr ⟨false⟩)else(rec ⟨(IntKind.i64.wrap (x.i+1)),x.m0,x.m1⟩))))else(kx ⟨x.i,x.m0,x.m1⟩))
def b2 (rec kx:L2->Prop) (kr:R->Prop) (x:L2):Prop:=
 (bif(decide (x.i < (x.m0.cache.length:Int)))then(oget (getI x.m0.cache x.i) fun v5=>(oget (getI x.m1.cache x.i) fun v6=>(bif(!((v5.sector==v6.sector)&&((v5.data==v6.data)&&true)))then(kr ⟨false⟩)else(rec ⟨(IntKind.i64.wrap (x.i+1)),x.m0,x.m1⟩))))else(kx ⟨x.i,x.m0,x.m1⟩))
def lt:Nat->Option LSpec
 | 0=>some (mkLoop 0 kp0 kR p0 c0 cR b0)
 | 2=>some (mkLoop 2 kp2 kR p2 c2 cR b2)
 | _=>none
def F (a:Disk) (b_1:Disk) (K:Bool->Prop):Prop:=
 (bif((a.sure.length:Int) != (b_1.sure.length:Int))then(K false)else(bif((a.cache.length:Int) != (b_1.cache.length:Int))then(K false)else(bif(a.fuse != b_1.fuse)then(K false)else(bif(!(a.dead==b_1.dead))then(K false)else(∃ n,loopB b0 n (fun x3=>(∃ n,loopB b2 n (fun x7=>(K true)) (fun r8=>(K r8.t4)) ⟨0,x3.m0,x3.m1⟩)) (fun r4=>(K r4.t4)) ⟨0,a,b_1⟩)))))
def en:Entry:=mkEntry A C fun x=>F x.1 x.2.1
theorem eqv (a:Disk) (b_1:Disk) (K:Bool->Prop):apure E tab lt 4 109 [enc (.st 1) a,enc (.st 1) b_1] (ansK C K)=F a b_1 K:=by kernel_rfl
theorem l0v (R:St->Prop) (Kx:Nat->St->Prop) (Kr:St->Prop) (x:L0):acode E tab (afun E tab 4) 73 lt ((loopsIn E.P 109).getD 0 (0,.skip)).2 0 (fun s=>R (keepSt kp0 s)) (fun j s=>Kx j (keepSt kp0 s)) (fun s=>Kr (keepSt kR s)) (c0 x)=b0 (fun x=>R (c0 x)) (fun x=>Kx 0 (c0 x)) (fun r=>Kr (cR r)) x:=by kernel_rfl
theorem l0_ok:LSound E tab (afun E tab 4) 73 lt 0 ((loopsIn E.P 109).getD 0 (0,.skip)).2 (mkLoop 0 kp0 kR p0 c0 cR b0):=mkLoop_sound (by decide) (by decide) p0_ok (fun R Kx Kr x=>l0v  R Kx Kr x)
theorem l2v (R:St->Prop) (Kx:Nat->St->Prop) (Kr:St->Prop) (x:L2):acode E tab (afun E tab 4) 73 lt ((loopsIn E.P 109).getD 1 (0,.skip)).2 2 (fun s=>R (keepSt kp2 s)) (fun j s=>Kx j (keepSt kp2 s)) (fun s=>Kr (keepSt kR s)) (c2 x)=b2 (fun x=>R (c2 x)) (fun x=>Kx 2 (c2 x)) (fun r=>Kr (cR r)) x:=by kernel_rfl
theorem l2_ok:LSound E tab (afun E tab 4) 73 lt 2 ((loopsIn E.P 109).getD 1 (0,.skip)).2 (mkLoop 2 kp2 kR p2 c2 cR b2):=mkLoop_sound (by decide) (by decide) p2_ok (fun R Kx Kr x=>l2v  R Kx Kr x)
theorem loops:LoopsOk E tab lt 4 109:=loops_of (nt:=73) (ids:=[0,2]) (by kernel_rfl) (by kernel_rfl) (by
 intro k i hk l hl
 match k,hk with
 | 0,hk=>cases hk;cases hl;exact l0_ok
 | 1,hk=>cases hk;cases hl;exact l2_ok
 | _+2,hk=>exact absurd hk (by simp))
theorem det (a:Disk) (b_1:Disk):Det (F a b_1):=by
 unfold F
 repeat' with_reducible first|exact det_ret _|refine det_cond _ ?_ ?_|refine det_oget _ (fun _=>?_)|refine det_loop (fun _=>?_) (fun _=>?_) (fun _=>?_) _ | unfold b0 | unfold b2
theorem edet a:Det (en a):=mkD (fun x:Dens A=>det x.1 x.2.1) a
theorem ground:Ground E tab:=gnd (tab_nil _) dtn
theorem sound:EntrySound E 109 en:=mkSound ground loops (by kernel_rfl) (fun x K=>eqv  x.1 x.2.1 K)
end q217
namespace q218
abbrev A:List Ty:=[(.st 8),(.st 8)]
abbrev C:=(cTy .bool)
abbrev T:Type:=Store->Store->(Bool->Prop)->Prop
def tv (f0:q217.T):Tab:=[(109,mkEntry q217.A q217.C fun x=>f0 x.1 x.2.1)]
def tab:Tab:=tv q217.F
def FV (f0:q217.T) (a:Store) (b_1:Store) (K:Bool->Prop):Prop:=
 (f0 a.disk b_1.disk fun r1=>(bif r1 then(bif((a.sup.blocks==b_1.sup.blocks)&&(((a.sup.vector.current==b_1.sup.vector.current)&&((a.sup.vector.bitmap==b_1.sup.vector.bitmap)&&(((a.sup.vector.old0==b_1.sup.vector.old0)&&((a.sup.vector.old1==b_1.sup.vector.old1)&&true))&&true)))&&((a.sup.inc==b_1.sup.inc)&&((a.sup.pri==b_1.sup.pri)&&((a.sup.dis==b_1.sup.dis)&&true)))))then(K (a.mask==b_1.mask))else(K false))else(K false)))
def F (a:Store) (b_1:Store) (K:Bool->Prop):Prop:=FV q217.F a b_1 K
def en:Entry:=mkEntry A C fun x=>F x.1 x.2.1
theorem eqv (f0:q217.T) (a:Store) (b_1:Store) (K:Bool->Prop):apure E (tv f0) (fun _=>none) 4 59 [enc (.st 8) a,enc (.st 8) b_1] (ansK C K)=FV f0 a b_1 K:=by kernel_rfl
theorem loops:LoopsOk E tab (fun _=>none) 4 59:=lpn _ _ _ _
theorem det (a:Store) (b_1:Store):Det (F a b_1):=by
 unfold F FV
 repeat' with_reducible first|exact det_ret _|refine det_cond _ ?_ ?_|refine det_bind (q217.det _ _) (fun _=>?_)
theorem edet a:Det (en a):=mkD (fun x:Dens A=>det x.1 x.2.1) a
theorem ground:Ground E tab:=gnd (tbc q217.sound (tab_nil _)) (dtc q217.edet dtn)
theorem sound:EntrySound E 59 en:=mkSound ground loops (by kernel_rfl) (fun x K=>eqv q217.F x.1 x.2.1 K)
end q218
namespace q219
abbrev A:List Ty:=[(.slice (.int .u64)),(.slice (.int .u64))]
abbrev C:=(cTy .bool)
abbrev T:Type:=(List Int)->(List Int)->(Bool->Prop)->Prop
def tab:Tab:=[]
structure R where
 t4:Bool
def cR (x:R):St:={ fr:=lookL .top [(4,(.bool x.t4))],hs:={ hp:=lookL .dead [],hn:=0 } }
def kR:Keep:={ ks:=[(4,none)],bs:=[],hn:=0 }
structure L0 where
 a:(List Int)
 b0:(List Int)
 i:Int
def c0 (x:L0):St:={ fr:=lookL .top [(0,(.sl .any (.int .u64) x.a)),(1,(.sl .any (.int .u64) x.b0)),(5,(.int .i64 x.i))],hs:={ hp:=lookL .dead [],hn:=0 } }
def kp0:Keep:={ ks:=[(0,none),(1,none),(5,none)],bs:=[],hn:=0 }
def p0 (st:St) (K:L0->Prop):Prop:=gSl .any (.int .u64) (st.fr 0) fun a1=>gSl .any (.int .u64) (st.fr 1) fun a2=>gInt .i64 (st.fr 5) fun a3=>K ⟨a1,a2,a3⟩
set_option maxHeartbeats 4000000 in
theorem p0_ok (st:St) (K:L0->Prop) (h:p0 st K):∃ x,keepSt kp0 st=c0 x∧K x:=by
 obtain ⟨a1,h0,h⟩:=gSl_elim h
 obtain ⟨a2,h1,h⟩:=gSl_elim h
 obtain ⟨a3,h2,h⟩:=gInt_elim h
 refine⟨_,?_,h⟩
 simp only [keepSt,kp0,List.map,h0,h1,h2]
 rfl
def b0 (rec kx:L0->Prop) (kr:R->Prop) (x:L0):Prop:=
 (bif(decide (x.i < (x.a.length:Int)))then(oget (getI x.a x.i) fun v1=>(oget (getI x.b0 x.i) fun v2=>(bif(v1 != v2)then(kr ⟨false⟩)else(rec ⟨x.a,x.b0,(IntKind.i64.wrap (x.i+1))⟩))))else(kx ⟨x.a,x.b0,x.i⟩))
def lt:Nat->Option LSpec
 | 0=>some (mkLoop 0 kp0 kR p0 c0 cR b0)
 | _=>none
def F (a:(List Int)) (b_1:(List Int)) (K:Bool->Prop):Prop:=
 (bif((a.length:Int) != (b_1.length:Int))then(K false)else(∃ n,loopB b0 n (fun x3=>(K true)) (fun r4=>(K r4.t4)) ⟨a,b_1,0⟩))
def en:Entry:=mkEntry A C fun x=>F x.1 x.2.1
theorem eqv (a:(List Int)) (b_1:(List Int)) (K:Bool->Prop):apure E tab lt 4 60 [enc (.slice (.int .u64)) a,enc (.slice (.int .u64)) b_1] (ansK C K)=F a b_1 K:=by kernel_rfl
theorem l0v (R:St->Prop) (Kx:Nat->St->Prop) (Kr:St->Prop) (x:L0):acode E tab (afun E tab 4) 26 lt ((loopsIn E.P 60).getD 0 (0,.skip)).2 0 (fun s=>R (keepSt kp0 s)) (fun j s=>Kx j (keepSt kp0 s)) (fun s=>Kr (keepSt kR s)) (c0 x)=b0 (fun x=>R (c0 x)) (fun x=>Kx 0 (c0 x)) (fun r=>Kr (cR r)) x:=by kernel_rfl
theorem l0_ok:LSound E tab (afun E tab 4) 26 lt 0 ((loopsIn E.P 60).getD 0 (0,.skip)).2 (mkLoop 0 kp0 kR p0 c0 cR b0):=mkLoop_sound (by decide) (by decide) p0_ok (fun R Kx Kr x=>l0v  R Kx Kr x)
theorem loops:LoopsOk E tab lt 4 60:=loops_of (nt:=26) (ids:=[0]) (by kernel_rfl) (by kernel_rfl) (by
 intro k i hk l hl
 match k,hk with
 | 0,hk=>cases hk;cases hl;exact l0_ok
 | _+1,hk=>exact absurd hk (by simp))
theorem det (a:(List Int)) (b_1:(List Int)):Det (F a b_1):=by
 unfold F
 repeat' with_reducible first|exact det_ret _|refine det_cond _ ?_ ?_|refine det_oget _ (fun _=>?_)|refine det_loop (fun _=>?_) (fun _=>?_) (fun _=>?_) _ | unfold b0
theorem edet a:Det (en a):=mkD (fun x:Dens A=>det x.1 x.2.1) a
theorem ground:Ground E tab:=gnd (tab_nil _) dtn
theorem sound:EntrySound E 60 en:=mkSound ground loops (by kernel_rfl) (fun x K=>eqv  x.1 x.2.1 K)
end q219
namespace q220
abbrev A:List Ty:=[(.slice (.st 10)),(.slice (.st 10))]
abbrev C:=(cTy .bool)
abbrev T:Type:=(List Mint)->(List Mint)->(Bool->Prop)->Prop
def tab:Tab:=[]
structure R where
 t4:Bool
def cR (x:R):St:={ fr:=lookL .top [(4,(.bool x.t4))],hs:={ hp:=lookL .dead [],hn:=0 } }
def kR:Keep:={ ks:=[(4,none)],bs:=[],hn:=0 }
structure L0 where
 a:(List Mint)
 b0:(List Mint)
 i:Int
def c0 (x:L0):St:={ fr:=lookL .top [(0,(.sl .any (.st 10) x.a)),(1,(.sl .any (.st 10) x.b0)),(5,(.int .i64 x.i))],hs:={ hp:=lookL .dead [],hn:=0 } }
def kp0:Keep:={ ks:=[(0,none),(1,none),(5,none)],bs:=[],hn:=0 }
def p0 (st:St) (K:L0->Prop):Prop:=gSl .any (.st 10) (st.fr 0) fun a1=>gSl .any (.st 10) (st.fr 1) fun a2=>gInt .i64 (st.fr 5) fun a3=>K ⟨a1,a2,a3⟩
set_option maxHeartbeats 4000000 in
theorem p0_ok (st:St) (K:L0->Prop) (h:p0 st K):∃ x,keepSt kp0 st=c0 x∧K x:=by
 obtain ⟨a1,h0,h⟩:=gSl_elim h
 obtain ⟨a2,h1,h⟩:=gSl_elim h
 obtain ⟨a3,h2,h⟩:=gInt_elim h
 refine⟨_,?_,h⟩
 simp only [keepSt,kp0,List.map,h0,h1,h2]
 rfl
def b0 (rec kx:L0->Prop) (kr:R->Prop) (x:L0):Prop:=
 (bif(decide (x.i < (x.a.length:Int)))then(oget (getI x.a x.i) fun v1=>(oget (getI x.b0 x.i) fun v2=>(bif(!((v1.gen==v2.gen)&&((v1.parent==v2.parent)&&((v1.node==v2.node)&&true))))then(kr ⟨false⟩)else(rec ⟨x.a,x.b0,(IntKind.i64.wrap (x.i+1))⟩))))else(kx ⟨x.a,x.b0,x.i⟩))
def lt:Nat->Option LSpec
 | 0=>some (mkLoop 0 kp0 kR p0 c0 cR b0)
 | _=>none
def F (a:(List Mint)) (b_1:(List Mint)) (K:Bool->Prop):Prop:=
 (bif((a.length:Int) != (b_1.length:Int))then(K false)else(∃ n,loopB b0 n (fun x3=>(K true)) (fun r4=>(K r4.t4)) ⟨a,b_1,0⟩))
def en:Entry:=mkEntry A C fun x=>F x.1 x.2.1
theorem eqv (a:(List Mint)) (b_1:(List Mint)) (K:Bool->Prop):apure E tab lt 4 61 [enc (.slice (.st 10)) a,enc (.slice (.st 10)) b_1] (ansK C K)=F a b_1 K:=by kernel_rfl
theorem l0v (R:St->Prop) (Kx:Nat->St->Prop) (Kr:St->Prop) (x:L0):acode E tab (afun E tab 4) 26 lt ((loopsIn E.P 61).getD 0 (0,.skip)).2 0 (fun s=>R (keepSt kp0 s)) (fun j s=>Kx j (keepSt kp0 s)) (fun s=>Kr (keepSt kR s)) (c0 x)=b0 (fun x=>R (c0 x)) (fun x=>Kx 0 (c0 x)) (fun r=>Kr (cR r)) x:=by kernel_rfl
theorem l0_ok:LSound E tab (afun E tab 4) 26 lt 0 ((loopsIn E.P 61).getD 0 (0,.skip)).2 (mkLoop 0 kp0 kR p0 c0 cR b0):=mkLoop_sound (by decide) (by decide) p0_ok (fun R Kx Kr x=>l0v  R Kx Kr x)
theorem loops:LoopsOk E tab lt 4 61:=loops_of (nt:=26) (ids:=[0]) (by kernel_rfl) (by kernel_rfl) (by
 intro k i hk l hl
 match k,hk with
 | 0,hk=>cases hk;cases hl;exact l0_ok
 | _+1,hk=>exact absurd hk (by simp))
theorem det (a:(List Mint)) (b_1:(List Mint)):Det (F a b_1):=by
 unfold F
 repeat' with_reducible first|exact det_ret _|refine det_cond _ ?_ ?_|refine det_oget _ (fun _=>?_)|refine det_loop (fun _=>?_) (fun _=>?_) (fun _=>?_) _ | unfold b0
theorem edet a:Det (en a):=mkD (fun x:Dens A=>det x.1 x.2.1) a
theorem ground:Ground E tab:=gnd (tab_nil _) dtn
theorem sound:EntrySound E 61 en:=mkSound ground loops (by kernel_rfl) (fun x K=>eqv  x.1 x.2.1 K)
end q220
namespace q221
abbrev A:List Ty:=[(.st 13),(.st 13)]
abbrev C:=(cTy .bool)
abbrev T:Type:=Node->Node->(Bool->Prop)->Prop
def tv (f0:q218.T) (f1:q219.T) (f2:q220.T):Tab:=[(59,mkEntry q218.A q218.C fun x=>f0 x.1 x.2.1),(60,mkEntry q219.A q219.C fun x=>f1 x.1 x.2.1),(61,mkEntry q220.A q220.C fun x=>f2 x.1 x.2.1)]
def tab:Tab:=tv q218.F q219.F q220.F
def FV (f0:q218.T) (f1:q219.T) (f2:q220.T) (a:Node) (b_1:Node) (K:Bool->Prop):Prop:=
 (f0 a.store b_1.store fun r1=>(bif(!r1)then(K false)else(f1 a.draws b_1.draws fun r2=>(bif(!r2)then(K false)else(f2 a.mints b_1.mints fun r3=>(bif(!r3)then(K false)else(bif(a.id==b_1.id)then(bif(a.up==b_1.up)then(bif(a.primary==b_1.primary)then(bif(a.state==b_1.state)then(bif(a.session==b_1.session)then(bif((a.peer.blocks==b_1.peer.blocks)&&(((a.peer.vector.current==b_1.peer.vector.current)&&((a.peer.vector.bitmap==b_1.peer.vector.bitmap)&&(((a.peer.vector.old0==b_1.peer.vector.old0)&&((a.peer.vector.old1==b_1.peer.vector.old1)&&true))&&true)))&&((a.peer.inc==b_1.peer.inc)&&((a.peer.was==b_1.peer.was)&&((a.peer.dis==b_1.peer.dis)&&((a.peer.pri==b_1.peer.pri)&&((a.peer.mask==b_1.peer.mask)&&true)))))))then(bif(a.peerPri==b_1.peerPri)then(bif((a.req.on==b_1.req.on)&&((a.req.id==b_1.req.id)&&((a.req.block==b_1.req.block)&&((a.req.data==b_1.req.data)&&true))))then(bif(a.asking==b_1.asking)then(bif(a.askId==b_1.askId)then(bif(a.wanted==b_1.wanted)then(K (a.minted==b_1.minted))else(K false))else(K false))else(K false))else(K false))else(K false))else(K false))else(K false))else(K false))else(K false))else(K false))else(K false))))))))
def F (a:Node) (b_1:Node) (K:Bool->Prop):Prop:=FV q218.F q219.F q220.F a b_1 K
def en:Entry:=mkEntry A C fun x=>F x.1 x.2.1
theorem eqv (f0:q218.T) (f1:q219.T) (f2:q220.T) (a:Node) (b_1:Node) (K:Bool->Prop):apure E (tv f0 f1 f2) (fun _=>none) 4 22 [enc (.st 13) a,enc (.st 13) b_1] (ansK C K)=FV f0 f1 f2 a b_1 K:=by kernel_rfl
theorem loops:LoopsOk E tab (fun _=>none) 4 22:=lpn _ _ _ _
theorem det (a:Node) (b_1:Node):Det (F a b_1):=by
 unfold F FV
 repeat' with_reducible first|exact det_ret _|refine det_cond _ ?_ ?_|refine det_bind (q218.det _ _) (fun _=>?_)|refine det_bind (q219.det _ _) (fun _=>?_)|refine det_bind (q220.det _ _) (fun _=>?_)
theorem edet a:Det (en a):=mkD (fun x:Dens A=>det x.1 x.2.1) a
theorem ground:Ground E tab:=gnd (tbc q218.sound (tbc q219.sound (tbc q220.sound (tab_nil _)))) (dtc q218.edet (dtc q219.edet (dtc q220.edet dtn)))
theorem sound:EntrySound E 22 en:=mkSound ground loops (by kernel_rfl) (fun x K=>eqv q218.F q219.F q220.F x.1 x.2.1 K)
end q221
namespace q222
abbrev A:List Ty:=[(.st 16),.str]
abbrev C:=(cTy .bool)
abbrev T:Type:=Case->Str->(Bool->Prop)->Prop
def tv (f0:q213.T) (f1:q214.T) (f2:q216.T) (f3:q92.T) (f4:q211.T) (f5:q221.T):Tab:=[(31,mkEntry q213.A q213.C fun _=>f0),(10,mkEntry q214.A q214.C fun x=>f1 x.1 x.2.1),(32,mkEntry q216.A q216.C fun x=>f2 x.1),(30,mkEntry q92.A q92.C fun x=>f3 x.1 x.2.1),(33,mkEntry q211.A q211.C fun x=>f4 x.1 x.2.1),(22,mkEntry q221.A q221.C fun x=>f5 x.1 x.2.1)]
def tab:Tab:=tv q213.F q214.F q216.F q92.F q211.F q221.F
def FV (f0:q213.T) (f1:q214.T) (f2:q216.T) (f3:q92.T) (f4:q211.T) (f5:q221.T) (c:Case) (b_1:Str) (K:Bool->Prop):Prop:=
 (f0 fun r1=>(bif(!r1)then(K false)else(f1 c.l 60 fun r2=>(bif r2 then(K true)else(bif(decide ((b_1.length:Int) > 500))then(K true)else(f2 c fun r3=>(f3 b_1 r3.session fun r4=>(f4 r3 b_1 fun r5=>(bif(r4.2==0)then(bif r3.up then(bif(r3.state != 0)then(K true)else(f5 r5.1 r3 fun r6=>(bif(!r6)then(K false)else(bif(!r3.up)then(K ((r5.2.length:Int)==0))else(bif(r3.state==0)then(K ((r5.2.length:Int)==0))else(bif(r4.2==16)then(K ((r5.2.length:Int)==0))else(bif((r5.2.length:Int)==1)then(oget (getI r5.2 0) fun v7=>(K ((v7.kind==3)&&((v7.node==r3.id)&&((v7.id==0)&&((v7.err==0)&&((v7.data==([]:Str))&&true)))))))else(K false))))))))else(f5 r5.1 r3 fun r8=>(bif(!r8)then(K false)else(bif(!r3.up)then(K ((r5.2.length:Int)==0))else(bif(r3.state==0)then(K ((r5.2.length:Int)==0))else(bif(r4.2==16)then(K ((r5.2.length:Int)==0))else(bif((r5.2.length:Int)==1)then(oget (getI r5.2 0) fun v9=>(K ((v9.kind==3)&&((v9.node==r3.id)&&((v9.id==0)&&((v9.err==0)&&((v9.data==([]:Str))&&true)))))))else(K false))))))))else(f5 r5.1 r3 fun r10=>(bif(!r10)then(K false)else(bif(!r3.up)then(K ((r5.2.length:Int)==0))else(bif(r3.state==0)then(K ((r5.2.length:Int)==0))else(bif(r4.2==16)then(K ((r5.2.length:Int)==0))else(bif((r5.2.length:Int)==1)then(oget (getI r5.2 0) fun v11=>(K ((v11.kind==3)&&((v11.node==r3.id)&&((v11.id==0)&&((v11.err==0)&&((v11.data==([]:Str))&&true)))))))else(K false))))))))))))))))
def F (c:Case) (b_1:Str) (K:Bool->Prop):Prop:=FV q213.F q214.F q216.F q92.F q211.F q221.F c b_1 K
def en:Entry:=mkEntry A C fun x=>F x.1 x.2.1
theorem eqv (f0:q213.T) (f1:q214.T) (f2:q216.T) (f3:q92.T) (f4:q211.T) (f5:q221.T) (c:Case) (b_1:Str) (K:Bool->Prop):apure E (tv f0 f1 f2 f3 f4 f5) (fun _=>none) 4 8 [enc (.st 16) c,enc .str b_1] (ansK C K)=FV f0 f1 f2 f3 f4 f5 c b_1 K:=by kernel_rfl
theorem eq (x:Dens A) (K:Bool->Prop):apure E tab (fun _=>none) 4 8 (encA A x) (ansK C K)=F x.1 x.2.1 K:=eqv q213.F q214.F q216.F q92.F q211.F q221.F x.1 x.2.1 K
theorem loops:LoopsOk E tab (fun _=>none) 4 8:=lpn _ _ _ _
theorem det (c:Case) (b_1:Str):Det (F c b_1):=by
 unfold F FV
 repeat' with_reducible first|exact det_ret _|refine det_cond _ ?_ ?_|refine det_oget _ (fun _=>?_)|refine det_bind (q213.det) (fun _=>?_)|refine det_bind (q214.det _ _) (fun _=>?_)|refine det_bind (q216.det _) (fun _=>?_)|refine det_bind (q92.det _ _) (fun _=>?_)|refine det_bind (q211.det _ _) (fun _=>?_)|refine det_bind (q221.det _ _) (fun _=>?_)
theorem edet a:Det (en a):=mkD (fun x:Dens A=>det x.1 x.2.1) a
theorem ground:Ground E tab:=gnd (tbc q213.sound (tbc q214.sound (tbc q216.sound (tbc q92.sound (tbc q211.sound (tbc q221.sound (tab_nil _))))))) (dtc q213.edet (dtc q214.edet (dtc q216.edet (dtc q92.edet (dtc q211.edet (dtc q221.edet dtn))))))
theorem sound:EntrySound E 8 en:=mkSound ground loops (by kernel_rfl) (eq)
end q222
end Gm
end
