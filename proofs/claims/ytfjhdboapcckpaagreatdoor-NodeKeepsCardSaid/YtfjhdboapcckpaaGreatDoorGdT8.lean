/- Printed by a program (gen.py): the functions' answers, and that they are so. -/
import Derived.Test.YtfjhdboapcckpaaGreatDoorGdT7
set_option linter.unusedVariables false
set_option maxRecDepth 100000
noncomputable section
namespace Gm
open Go Go.Proofs
namespace q191
abbrev A:List Ty:=[(.st 16),(.int .i64)]
abbrev C:=(cTy .bool)
abbrev T:Type:=Case->Int->(Bool->Prop)->Prop
def tv (f0:q105.T) (f1:q106.T) (f2:q190.T) (f3:q79.T) (f4:q81.T) (f5:q80.T) (f6:q78.T) (f7:q97.T):Tab:=[(9,mkEntry q105.A q105.C fun _=>f0),(10,mkEntry q106.A q106.C fun x=>f1 x.1 x.2.1),(11,mkEntry q190.A q190.C fun x=>f2 x.1),(12,mkEntry q79.A q79.C fun x=>f3 x.1 x.2.1),(14,mkEntry q81.A q81.C fun x=>f4 x.1 x.2.1),(16,mkEntry q80.A q80.C fun x=>f5 x.1 x.2.1),(23,mkEntry q78.A q78.C fun x=>f6 x.1),(24,mkEntry q97.A q97.C fun x=>f7 x.1 x.2.1)]
def tab:Tab:=tv q105.F q106.F q190.F q79.F q81.F q80.F q78.F q97.F
structure R where
 t4:Bool
def cR (x:R):St:={ fr:=lookL .top [(4,(.bool x.t4))],hs:={ hp:=lookL .dead [],hn:=4 } }
def kR:Keep:={ ks:=[(4,none)],bs:=[],hn:=4 }
structure L2 where
 i:Int
 k:Int
 m1:Node
 m2:Node5
 m3:Node
def c2 (x:L2):St:={ fr:=lookL .top [(5,(.ptr 1 0)),(6,(.ptr 2 0)),(7,(.int .i64 x.i)),(8,(.ptr 3 0)),(9,(.int .i64 x.k))],hs:={ hp:=lookL .dead [(1,(.cells (encS 13 x.m1))),(2,(.cells (encS 21 x.m2))),(3,(.cells (encS 13 x.m3)))],hn:=4 } }
def kp2:Keep:={ ks:=[(5,none),(6,none),(7,none),(8,none),(9,none)],bs:=[1,2,3],hn:=4,ts:=[(1,13),(2,21),(3,13)] }
def p2 (st:St) (K:L2->Prop):Prop:=gPtr 1 0 (st.fr 5) <| gPtr 2 0 (st.fr 6) <| gInt .i64 (st.fr 7) fun a1=>gPtr 3 0 (st.fr 8) <| gInt .i64 (st.fr 9) fun a2=>gBlkS 13 (st.hs.hp 1) fun a3=>gBlkS 21 (st.hs.hp 2) fun a4=>gBlkS 13 (st.hs.hp 3) fun a5=>K ⟨a1,a2,a3,a4,a5⟩
set_option maxHeartbeats 4000000 in
theorem p2_ok (st:St) (K:L2->Prop) (h:p2 st K):∃ x,keepSt kp2 st=c2 x∧K x:=by
 obtain ⟨h0,h⟩:=gPtr_elim h
 obtain ⟨h1,h⟩:=gPtr_elim h
 obtain ⟨a1,h2,h⟩:=gInt_elim h
 obtain ⟨h3,h⟩:=gPtr_elim h
 obtain ⟨a2,h4,h⟩:=gInt_elim h
 obtain ⟨z5,a3,h5,y5,h⟩:=gBlkS_elim h
 have q5:∀ ok,keptB kp2 ok 1 (.cells z5)=.cells (encS 13 a3):=fun _=>y5
 simp only [kp2] at q5
 obtain ⟨z6,a4,h6,y6,h⟩:=gBlkS_elim h
 have q6:∀ ok,keptB kp2 ok 2 (.cells z6)=.cells (encS 21 a4):=fun _=>y6
 simp only [kp2] at q6
 obtain ⟨z7,a5,h7,y7,h⟩:=gBlkS_elim h
 have q7:∀ ok,keptB kp2 ok 3 (.cells z7)=.cells (encS 13 a5):=fun _=>y7
 simp only [kp2] at q7
 refine⟨_,?_,h⟩
 simp only [keepSt,kp2,List.map,h0,h1,h2,h3,h4,h5,h6,h7,q5,q6,q7]
 rfl
structure L4 where
 i:Int
 k:Int
 m1:Node
 m2:Node5
 m3:Node
def c4 (x:L4):St:={ fr:=lookL .top [(5,(.ptr 1 0)),(6,(.ptr 2 0)),(7,(.int .i64 x.i)),(8,(.ptr 3 0)),(10,(.int .i64 x.k))],hs:={ hp:=lookL .dead [(1,(.cells (encS 13 x.m1))),(2,(.cells (encS 21 x.m2))),(3,(.cells (encS 13 x.m3)))],hn:=4 } }
def kp4:Keep:={ ks:=[(5,none),(6,none),(7,none),(8,none),(10,none)],bs:=[1,2,3],hn:=4,ts:=[(1,13),(2,21),(3,13)] }
def p4 (st:St) (K:L4->Prop):Prop:=gPtr 1 0 (st.fr 5) <| gPtr 2 0 (st.fr 6) <| gInt .i64 (st.fr 7) fun a1=>gPtr 3 0 (st.fr 8) <| gInt .i64 (st.fr 10) fun a2=>gBlkS 13 (st.hs.hp 1) fun a3=>gBlkS 21 (st.hs.hp 2) fun a4=>gBlkS 13 (st.hs.hp 3) fun a5=>K ⟨a1,a2,a3,a4,a5⟩
set_option maxHeartbeats 4000000 in
theorem p4_ok (st:St) (K:L4->Prop) (h:p4 st K):∃ x,keepSt kp4 st=c4 x∧K x:=by
 obtain ⟨h0,h⟩:=gPtr_elim h
 obtain ⟨h1,h⟩:=gPtr_elim h
 obtain ⟨a1,h2,h⟩:=gInt_elim h
 obtain ⟨h3,h⟩:=gPtr_elim h
 obtain ⟨a2,h4,h⟩:=gInt_elim h
 obtain ⟨z5,a3,h5,y5,h⟩:=gBlkS_elim h
 have q5:∀ ok,keptB kp4 ok 1 (.cells z5)=.cells (encS 13 a3):=fun _=>y5
 simp only [kp4] at q5
 obtain ⟨z6,a4,h6,y6,h⟩:=gBlkS_elim h
 have q6:∀ ok,keptB kp4 ok 2 (.cells z6)=.cells (encS 21 a4):=fun _=>y6
 simp only [kp4] at q6
 obtain ⟨z7,a5,h7,y7,h⟩:=gBlkS_elim h
 have q7:∀ ok,keptB kp4 ok 3 (.cells z7)=.cells (encS 13 a5):=fun _=>y7
 simp only [kp4] at q7
 refine⟨_,?_,h⟩
 simp only [keepSt,kp4,List.map,h0,h1,h2,h3,h4,h5,h6,h7,q5,q6,q7]
 rfl
structure L0 where
 i:Int
 m1:Node
 m2:Node5
def c0 (x:L0):St:={ fr:=lookL .top [(5,(.ptr 1 0)),(6,(.ptr 2 0)),(7,(.int .i64 x.i))],hs:={ hp:=lookL .dead [(1,(.cells (encS 13 x.m1))),(2,(.cells (encS 21 x.m2)))],hn:=3 } }
def kp0:Keep:={ ks:=[(5,none),(6,none),(7,none)],bs:=[1,2],hn:=3,ts:=[(1,13),(2,21)] }
def p0 (st:St) (K:L0->Prop):Prop:=gPtr 1 0 (st.fr 5) <| gPtr 2 0 (st.fr 6) <| gInt .i64 (st.fr 7) fun a1=>gBlkS 13 (st.hs.hp 1) fun a2=>gBlkS 21 (st.hs.hp 2) fun a3=>K ⟨a1,a2,a3⟩
set_option maxHeartbeats 4000000 in
theorem p0_ok (st:St) (K:L0->Prop) (h:p0 st K):∃ x,keepSt kp0 st=c0 x∧K x:=by
 obtain ⟨h0,h⟩:=gPtr_elim h
 obtain ⟨h1,h⟩:=gPtr_elim h
 obtain ⟨a1,h2,h⟩:=gInt_elim h
 obtain ⟨z3,a2,h3,y3,h⟩:=gBlkS_elim h
 have q3:∀ ok,keptB kp0 ok 1 (.cells z3)=.cells (encS 13 a2):=fun _=>y3
 simp only [kp0] at q3
 obtain ⟨z4,a3,h4,y4,h⟩:=gBlkS_elim h
 have q4:∀ ok,keptB kp0 ok 2 (.cells z4)=.cells (encS 21 a3):=fun _=>y4
 simp only [kp0] at q4
 refine⟨_,?_,h⟩
 simp only [keepSt,kp0,List.map,h0,h1,h2,h3,h4,q3,q4]
 rfl
def b2V (f0:q105.T) (f1:q106.T) (f2:q190.T) (f3:q79.T) (f4:q81.T) (f5:q80.T) (f6:q78.T) (f7:q97.T) (rec kx:L2->Prop) (kr:R->Prop) (x:L2):Prop:=
 (bif(decide (x.k < (x.m1.draws.length:Int)))then(oget (getI x.m3.draws x.k) fun v9=>(oget (getI x.m1.draws x.k) fun v10=>(bif(v9 != v10)then(kr ⟨false⟩)else(rec ⟨x.i,(IntKind.i64.wrap (x.k+1)),x.m1,x.m2,x.m3⟩))))else(kx ⟨x.i,x.k,x.m1,x.m2,x.m3⟩))
def b4V (f0:q105.T) (f1:q106.T) (f2:q190.T) (f3:q79.T) (f4:q81.T) (f5:q80.T) (f6:q78.T) (f7:q97.T) (rec kx:L4->Prop) (kr:R->Prop) (x:L4):Prop:=
 (bif(decide (x.k < (x.m1.mints.length:Int)))then(oget (getI x.m3.mints x.k) fun v13=>(oget (getI x.m1.mints x.k) fun v14=>(bif(!((v13.gen==v14.gen)&&((v13.parent==v14.parent)&&((v13.node==v14.node)&&true))))then(kr ⟨false⟩)else(rec ⟨x.i,(IntKind.i64.wrap (x.k+1)),x.m1,x.m2,x.m3⟩))))else(kx ⟨x.i,x.k,x.m1,x.m2,x.m3⟩))
def b0V (f0:q105.T) (f1:q106.T) (f2:q190.T) (f3:q79.T) (f4:q81.T) (f5:q80.T) (f6:q78.T) (f7:q97.T) (rec kx:L0->Prop) (kr:R->Prop) (x:L0):Prop:=
 (bif(decide (x.i < 5))then(bif(x.i==0)then(bif(x.m2.n0.id != x.m1.id)then(kr ⟨false⟩)else(bif((x.m2.n0.draws.length:Int) != (x.m1.draws.length:Int))then(kr ⟨false⟩)else(bif((x.m2.n0.mints.length:Int) != (x.m1.mints.length:Int))then(kr ⟨false⟩)else(∃ n,loopB (b2V f0 f1 f2 f3 f4 f5 f6 f7) n (fun x29=>(∃ n,loopB (b4V f0 f1 f2 f3 f4 f5 f6 f7) n (fun x31=>(rec ⟨(IntKind.i64.wrap (x31.i+1)),x31.m1,x31.m2⟩)) (fun r32=>(kr ⟨r32.t4⟩)) ⟨x29.i,0,x29.m1,x29.m2,x29.m3⟩)) (fun r30=>(kr ⟨r30.t4⟩)) ⟨x.i,0,x.m1,x.m2,x.m2.n0⟩))))else(bif(x.i==1)then(bif(x.m2.n1.id != x.m1.id)then(kr ⟨false⟩)else(bif((x.m2.n1.draws.length:Int) != (x.m1.draws.length:Int))then(kr ⟨false⟩)else(bif((x.m2.n1.mints.length:Int) != (x.m1.mints.length:Int))then(kr ⟨false⟩)else(∃ n,loopB (b2V f0 f1 f2 f3 f4 f5 f6 f7) n (fun x25=>(∃ n,loopB (b4V f0 f1 f2 f3 f4 f5 f6 f7) n (fun x27=>(rec ⟨(IntKind.i64.wrap (x27.i+1)),x27.m1,x27.m2⟩)) (fun r28=>(kr ⟨r28.t4⟩)) ⟨x25.i,0,x25.m1,x25.m2,x25.m3⟩)) (fun r26=>(kr ⟨r26.t4⟩)) ⟨x.i,0,x.m1,x.m2,x.m2.n1⟩))))else(bif(x.i==2)then(bif(x.m2.n2.id != x.m1.id)then(kr ⟨false⟩)else(bif((x.m2.n2.draws.length:Int) != (x.m1.draws.length:Int))then(kr ⟨false⟩)else(bif((x.m2.n2.mints.length:Int) != (x.m1.mints.length:Int))then(kr ⟨false⟩)else(∃ n,loopB (b2V f0 f1 f2 f3 f4 f5 f6 f7) n (fun x21=>(∃ n,loopB (b4V f0 f1 f2 f3 f4 f5 f6 f7) n (fun x23=>(rec ⟨(IntKind.i64.wrap (x23.i+1)),x23.m1,x23.m2⟩)) (fun r24=>(kr ⟨r24.t4⟩)) ⟨x21.i,0,x21.m1,x21.m2,x21.m3⟩)) (fun r22=>(kr ⟨r22.t4⟩)) ⟨x.i,0,x.m1,x.m2,x.m2.n2⟩))))else(bif(x.i==3)then(bif(x.m2.n3.id != x.m1.id)then(kr ⟨false⟩)else(bif((x.m2.n3.draws.length:Int) != (x.m1.draws.length:Int))then(kr ⟨false⟩)else(bif((x.m2.n3.mints.length:Int) != (x.m1.mints.length:Int))then(kr ⟨false⟩)else(∃ n,loopB (b2V f0 f1 f2 f3 f4 f5 f6 f7) n (fun x17=>(∃ n,loopB (b4V f0 f1 f2 f3 f4 f5 f6 f7) n (fun x19=>(rec ⟨(IntKind.i64.wrap (x19.i+1)),x19.m1,x19.m2⟩)) (fun r20=>(kr ⟨r20.t4⟩)) ⟨x17.i,0,x17.m1,x17.m2,x17.m3⟩)) (fun r18=>(kr ⟨r18.t4⟩)) ⟨x.i,0,x.m1,x.m2,x.m2.n3⟩))))else(bif(x.i==4)then(bif(x.m2.n4.id != x.m1.id)then(kr ⟨false⟩)else(bif((x.m2.n4.draws.length:Int) != (x.m1.draws.length:Int))then(kr ⟨false⟩)else(bif((x.m2.n4.mints.length:Int) != (x.m1.mints.length:Int))then(kr ⟨false⟩)else(∃ n,loopB (b2V f0 f1 f2 f3 f4 f5 f6 f7) n (fun x11=>(∃ n,loopB (b4V f0 f1 f2 f3 f4 f5 f6 f7) n (fun x15=>(rec ⟨(IntKind.i64.wrap (x15.i+1)),x15.m1,x15.m2⟩)) (fun r16=>(kr ⟨r16.t4⟩)) ⟨x11.i,0,x11.m1,x11.m2,x11.m3⟩)) (fun r12=>(kr ⟨r12.t4⟩)) ⟨x.i,0,x.m1,x.m2,x.m2.n4⟩))))else False)))))else(kx ⟨x.i,x.m1,x.m2⟩))
def ltV (f0:q105.T) (f1:q106.T) (f2:q190.T) (f3:q79.T) (f4:q81.T) (f5:q80.T) (f6:q78.T) (f7:q97.T):Nat->Option LSpec
 | 2=>some (mkLoop 2 kp2 kR p2 c2 cR (b2V f0 f1 f2 f3 f4 f5 f6 f7))
 | 4=>some (mkLoop 4 kp4 kR p4 c4 cR (b4V f0 f1 f2 f3 f4 f5 f6 f7))
 | 0=>some (mkLoop 0 kp0 kR p0 c0 cR (b0V f0 f1 f2 f3 f4 f5 f6 f7))
 | _=>none
def lt:Nat->Option LSpec:=ltV q105.F q106.F q190.F q79.F q81.F q80.F q78.F q97.F
def FV (f0:q105.T) (f1:q106.T) (f2:q190.T) (f3:q79.T) (f4:q81.T) (f5:q80.T) (f6:q78.T) (f7:q97.T) (c:Case) (id:Int) (K:Bool->Prop):Prop:=
 (f0 fun r1=>(bif(!r1)then(K false)else(f1 c.l 60 fun r2=>(bif r2 then(K true)else(f2 c fun r3=>(f3 r3 id fun r4=>(f4 r3 id fun r5=>(f5 r3 id fun r6=>(f6 r3 fun r7=>(f7 r7 ([]:List Bool) fun r8=>(∃ n,loopB (b0V f0 f1 f2 f3 f4 f5 f6 f7) n (fun x33=>(K true)) (fun r34=>(K r34.t4)) ⟨0,r3,(⟨r4.1,r5.1,r6.1,r7,r8.1⟩:Node5)⟩)))))))))))
def F (c:Case) (id:Int) (K:Bool->Prop):Prop:=FV q105.F q106.F q190.F q79.F q81.F q80.F q78.F q97.F c id K
def en:Entry:=mkEntry A C fun x=>F x.1 x.2.1
theorem eqv (f0:q105.T) (f1:q106.T) (f2:q190.T) (f3:q79.T) (f4:q81.T) (f5:q80.T) (f6:q78.T) (f7:q97.T) (c:Case) (id:Int) (K:Bool->Prop):apure E (tv f0 f1 f2 f3 f4 f5 f6 f7) (ltV f0 f1 f2 f3 f4 f5 f6 f7) 4 6 [enc (.st 16) c,enc (.int .i64) id] (ansK C K)=FV f0 f1 f2 f3 f4 f5 f6 f7 c id K:=by kernel_rfl
theorem eq (x:Dens A) (K:Bool->Prop):apure E tab lt 4 6 (encA A x) (ansK C K)=F x.1 x.2.1 K:=eqv q105.F q106.F q190.F q79.F q81.F q80.F q78.F q97.F x.1 x.2.1 K
theorem l2v (f0:q105.T) (f1:q106.T) (f2:q190.T) (f3:q79.T) (f4:q81.T) (f5:q80.T) (f6:q78.T) (f7:q97.T) (R:St->Prop) (Kx:Nat->St->Prop) (Kr:St->Prop) (x:L2):acode E (tv f0 f1 f2 f3 f4 f5 f6 f7) (afun E (tv f0 f1 f2 f3 f4 f5 f6 f7) 4) 115 (ltV f0 f1 f2 f3 f4 f5 f6 f7) ((loopsIn E.P 6).getD 1 (0,.skip)).2 2 (fun s=>R (keepSt kp2 s)) (fun j s=>Kx j (keepSt kp2 s)) (fun s=>Kr (keepSt kR s)) (c2 x)=b2V f0 f1 f2 f3 f4 f5 f6 f7 (fun x=>R (c2 x)) (fun x=>Kx 2 (c2 x)) (fun r=>Kr (cR r)) x:=by kernel_rfl
theorem l2_ok:LSound E tab (afun E tab 4) 115 lt 2 ((loopsIn E.P 6).getD 1 (0,.skip)).2 (mkLoop 2 kp2 kR p2 c2 cR (b2V q105.F q106.F q190.F q79.F q81.F q80.F q78.F q97.F)):=mkLoop_sound (by decide) (by decide) p2_ok (fun R Kx Kr x=>l2v q105.F q106.F q190.F q79.F q81.F q80.F q78.F q97.F R Kx Kr x)
theorem l4v (f0:q105.T) (f1:q106.T) (f2:q190.T) (f3:q79.T) (f4:q81.T) (f5:q80.T) (f6:q78.T) (f7:q97.T) (R:St->Prop) (Kx:Nat->St->Prop) (Kr:St->Prop) (x:L4):acode E (tv f0 f1 f2 f3 f4 f5 f6 f7) (afun E (tv f0 f1 f2 f3 f4 f5 f6 f7) 4) 115 (ltV f0 f1 f2 f3 f4 f5 f6 f7) ((loopsIn E.P 6).getD 2 (0,.skip)).2 4 (fun s=>R (keepSt kp4 s)) (fun j s=>Kx j (keepSt kp4 s)) (fun s=>Kr (keepSt kR s)) (c4 x)=b4V f0 f1 f2 f3 f4 f5 f6 f7 (fun x=>R (c4 x)) (fun x=>Kx 4 (c4 x)) (fun r=>Kr (cR r)) x:=by kernel_rfl
theorem l4_ok:LSound E tab (afun E tab 4) 115 lt 4 ((loopsIn E.P 6).getD 2 (0,.skip)).2 (mkLoop 4 kp4 kR p4 c4 cR (b4V q105.F q106.F q190.F q79.F q81.F q80.F q78.F q97.F)):=mkLoop_sound (by decide) (by decide) p4_ok (fun R Kx Kr x=>l4v q105.F q106.F q190.F q79.F q81.F q80.F q78.F q97.F R Kx Kr x)
theorem l0v (f0:q105.T) (f1:q106.T) (f2:q190.T) (f3:q79.T) (f4:q81.T) (f5:q80.T) (f6:q78.T) (f7:q97.T) (R:St->Prop) (Kx:Nat->St->Prop) (Kr:St->Prop) (x:L0):acode E (tv f0 f1 f2 f3 f4 f5 f6 f7) (afun E (tv f0 f1 f2 f3 f4 f5 f6 f7) 4) 115 (ltV f0 f1 f2 f3 f4 f5 f6 f7) ((loopsIn E.P 6).getD 0 (0,.skip)).2 0 (fun s=>R (keepSt kp0 s)) (fun j s=>Kx j (keepSt kp0 s)) (fun s=>Kr (keepSt kR s)) (c0 x)=b0V f0 f1 f2 f3 f4 f5 f6 f7 (fun x=>R (c0 x)) (fun x=>Kx 0 (c0 x)) (fun r=>Kr (cR r)) x:=by kernel_rfl
theorem l0_ok:LSound E tab (afun E tab 4) 115 lt 0 ((loopsIn E.P 6).getD 0 (0,.skip)).2 (mkLoop 0 kp0 kR p0 c0 cR (b0V q105.F q106.F q190.F q79.F q81.F q80.F q78.F q97.F)):=mkLoop_sound (by decide) (by decide) p0_ok (fun R Kx Kr x=>l0v q105.F q106.F q190.F q79.F q81.F q80.F q78.F q97.F R Kx Kr x)
theorem loops:LoopsOk E tab lt 4 6:=loops_of (nt:=115) (ids:=[0,2,4]) (by kernel_rfl) (by kernel_rfl) (by
 intro k i hk l hl
 match k,hk with
 | 0,hk=>cases hk;cases hl;exact l0_ok
 | 1,hk=>cases hk;cases hl;exact l2_ok
 | 2,hk=>cases hk;cases hl;exact l4_ok
 | _+3,hk=>exact absurd hk (by simp))
theorem ground:Ground E tab:=gnd (tbc q105.sound (tbc q106.sound (tbc q190.sound (tbc q79.sound (tbc q81.sound (tbc q80.sound (tbc q78.sound (tbc q97.sound (tab_nil _))))))))) (dtab_nd (by kernel_rfl) (dtc q106.edet (dtc q190.edet (dtc q79.edet (dtc q81.edet (dtc q80.edet (dtc q78.edet (dtab_nd (by kernel_rfl) dtn))))))))
theorem sound:EntrySound E 6 en:=mkSound ground loops (by kernel_rfl) (eq)
end q191
end Gm
end
