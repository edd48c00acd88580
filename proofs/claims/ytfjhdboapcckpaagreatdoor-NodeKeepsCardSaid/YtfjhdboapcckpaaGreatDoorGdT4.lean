/- Printed by a program (gen.py): the functions' answers, and that they are so. -/
import Derived.Test.YtfjhdboapcckpaaGreatDoorGdT3
set_option linter.unusedVariables false
set_option maxRecDepth 100000
noncomputable section
namespace Gm
open Go Go.Proofs
namespace q117
abbrev A:List Ty:=[(.st 5)]
abbrev C:=(cTwo .str (.int .i64))
abbrev T:Type:=Packet->((Str×Int)->Prop)->Prop
def tv (f0:q114.T) (f1:q116.T) (f2:q20.T):Tab:=[(128,mkEntry q114.A q114.C fun x=>f0 x.1),(129,mkEntry q116.A q116.C fun x=>f1 x.1),(99,mkEntry q20.A q20.C fun x=>f2 x.1)]
def tab:Tab:=tv q114.F q116.F q20.F
def FV (f0:q114.T) (f1:q116.T) (f2:q20.T) (p:Packet) (K:(Str×Int)->Prop):Prop:=
 (f0 p fun r1=>(bif(!r1)then(K (([]:Str),1))else(f1 p fun r2=>(f2 r2 fun r3=>(K (r3,0))))))
def F (p:Packet) (K:(Str×Int)->Prop):Prop:=FV q114.F q116.F q20.F p K
def en:Entry:=mkEntry A C fun x=>F x.1
theorem eqv (f0:q114.T) (f1:q116.T) (f2:q20.T) (p:Packet) (K:(Str×Int)->Prop):apure E (tv f0 f1 f2) (fun _=>none) 4 89 [enc (.st 5) p] (ansK C K)=FV f0 f1 f2 p K:=by kernel_rfl
theorem loops:LoopsOk E tab (fun _=>none) 4 89:=lpn _ _ _ _
theorem det (p:Packet):Det (F p):=by
 unfold F FV
 repeat' with_reducible first|exact det_ret _|refine det_cond _ ?_ ?_|refine det_bind (q114.det _) (fun _=>?_)|refine det_bind (q116.det _) (fun _=>?_)|refine det_bind (q20.det _) (fun _=>?_)
theorem edet a:Det (en a):=mkD (fun x:Dens A=>det x.1) a
theorem ground:Ground E tab:=gnd (tbc q114.sound (tbc q116.sound (tbc q20.sound (tab_nil _)))) (dtc q114.edet (dtc q116.edet (dtc q20.edet dtn)))
theorem sound:EntrySound E 89 en:=mkSound ground loops (by kernel_rfl) (fun x K=>eqv q114.F q116.F q20.F x.1 K)
end q117
namespace q118
abbrev A:List Ty:=[(.st 13),(.st 5)]
abbrev C:=cOut
abbrev T:Type:=Node->Packet->((Int×Str)->Prop)->Prop
def tv (f0:q117.T):Tab:=[(89,mkEntry q117.A q117.C fun x=>f0 x.1)]
def tab:Tab:=tv q117.F
def FV (f0:q117.T) (n_0:Node) (p:Packet) (K:(Int×Str)->Prop):Prop:=
 (f0 (⟨p.kind,n_0.session,p.hello,p.block,p.data⟩:Packet) fun r1=>(K (n_0.id,r1.1)))
def F (n_0:Node) (p:Packet) (K:(Int×Str)->Prop):Prop:=FV q117.F n_0 p K
def en:Entry:=mkEntry A C fun x=>F x.1 x.2.1
theorem eqv (f0:q117.T) (n_0:Node) (p:Packet) (K:(Int×Str)->Prop):apure E (tv f0) (fun _=>none) 4 49 [enc (.st 13) n_0,enc (.st 5) p] (ansK C K)=FV f0 n_0 p K:=by kernel_rfl
theorem loops:LoopsOk E tab (fun _=>none) 4 49:=lpn _ _ _ _
theorem det (n_0:Node) (p:Packet):Det (F n_0 p):=by
 unfold F FV
 repeat' with_reducible first|exact det_ret _|refine det_bind (q117.det _) (fun _=>?_)
theorem edet a:Det (en a):=mkD (fun x:Dens A=>det x.1 x.2.1) a
theorem ground:Ground E tab:=gnd (tbc q117.sound (tab_nil _)) (dtc q117.edet dtn)
theorem sound:EntrySound E 49 en:=mkSound ground loops (by kernel_rfl) (fun x K=>eqv q117.F x.1 x.2.1 K)
end q118
namespace q119
abbrev A:List Ty:=[(.st 1)]
abbrev C:=(cTy (.st 1))
abbrev T:Type:=Disk->(Disk->Prop)->Prop
def tab:Tab:=[]
def F (d:Disk) (K:Disk->Prop):Prop:=
 (bif(d.fuse==1)then(bif(decide (d.fuse > 0))then(K (⟨d.sure,d.cache,(IntKind.i64.wrap (d.fuse - 1)),true⟩:Disk))else(K (⟨d.sure,d.cache,d.fuse,true⟩:Disk)))else(bif(decide (d.fuse > 0))then(K (⟨d.sure,d.cache,(IntKind.i64.wrap (d.fuse - 1)),d.dead⟩:Disk))else(K d)))
def en:Entry:=mkEntry A C fun x=>F x.1
theorem eqv (d:Disk) (K:Disk->Prop):apure E tab (fun _=>none) 4 198 [enc (.st 1) d] (ansK C K)=F d K:=by kernel_rfl
theorem loops:LoopsOk E tab (fun _=>none) 4 198:=lpn _ _ _ _
theorem det (d:Disk):Det (F d):=by
 unfold F
 repeat' with_reducible first|exact det_ret _|refine det_cond _ ?_ ?_
theorem edet a:Det (en a):=mkD (fun x:Dens A=>det x.1) a
theorem ground:Ground E tab:=gnd (tab_nil _) dtn
theorem sound:EntrySound E 198 en:=mkSound ground loops (by kernel_rfl) (fun x K=>eqv  x.1 K)
end q119
namespace q120
abbrev A:List Ty:=[(.st 1),(.int .i64),.str]
abbrev C:=(cTwo (.st 1) (.int .i64))
abbrev T:Type:=Disk->Int->Str->((Disk×Int)->Prop)->Prop
def tv (f0:q119.T):Tab:=[(198,mkEntry q119.A q119.C fun x=>f0 x.1)]
def tab:Tab:=tv q119.F
def FV (f0:q119.T) (d:Disk) (i:Int) (data:Str) (K:(Disk×Int)->Prop):Prop:=
 (bif d.dead then(K (d,6))else(bif(decide (i < 0))then(K (d,4))else(bif(decide (i≥(d.sure.length:Int)))then(K (d,4))else(bif(decide ((data.length:Int) > 64))then(K (d,5))else(f0 d fun r1=>(bif r1.dead then(K (r1,6))else(bif(decide (r1.cache.length * 24≤room))then(bif(decide ((r1.cache.length+([(⟨i,data⟩:Write)]:List Write).length) * 24≤room))then(K ((⟨r1.sure,(r1.cache++([(⟨i,data⟩:Write)]:List Write)),r1.fuse,r1.dead⟩:Disk),0))else False)else False)))))))
def F (d:Disk) (i:Int) (data:Str) (K:(Disk×Int)->Prop):Prop:=FV q119.F d i data K
def en:Entry:=mkEntry A C fun x=>F x.1 x.2.1 x.2.2.1
theorem eqv (f0:q119.T) (d:Disk) (i:Int) (data:Str) (K:(Disk×Int)->Prop):apure E (tv f0) (fun _=>none) 4 163 [enc (.st 1) d,enc (.int .i64) i,enc .str data] (ansK C K)=FV f0 d i data K:=by kernel_rfl
theorem loops:LoopsOk E tab (fun _=>none) 4 163:=lpn _ _ _ _
theorem det (d:Disk) (i:Int) (data:Str):Det (F d i data):=by
 unfold F FV
 repeat' with_reducible first|exact det_ret _|exact det_false|refine det_cond _ ?_ ?_|refine det_bind (q119.det _) (fun _=>?_)
theorem edet a:Det (en a):=mkD (fun x:Dens A=>det x.1 x.2.1 x.2.2.1) a
theorem ground:Ground E tab:=gnd (tbc q119.sound (tab_nil _)) (dtc q119.edet dtn)
theorem sound:EntrySound E 163 en:=mkSound ground loops (by kernel_rfl) (fun x K=>eqv q119.F x.1 x.2.1 x.2.2.1 K)
end q120
namespace q121
abbrev A:List Ty:=[(.st 1)]
abbrev C:=(cTwo (.st 1) (.int .i64))
abbrev T:Type:=Disk->((Disk×Int)->Prop)->Prop
def tv (f0:q119.T) (f1:q25.T):Tab:=[(198,mkEntry q119.A q119.C fun x=>f0 x.1),(180,mkEntry q25.A q25.C fun x=>f1 x.1 x.2.1)]
def tab:Tab:=tv q119.F q25.F
structure R where
def cR (_:R):St:={ fr:=fun _=>.top,hs:=hs0 }
def kR:Keep:={ ks:=[],bs:=[],hn:=0 }
structure L0 where
 sure:(List Str)
 i:Int
 m0:Disk
 m1:Disk
def c0 (x:L0):St:={ fr:=lookL .top [(1,(.ptr 0 0)),(2,(.ptr 1 0)),(4,(.slr 2)),(5,(.int .i64 x.i))],hs:={ hp:=lookL .dead [(2,(.row false .str x.sure)),(0,(.cells (encS 1 x.m0))),(1,(.cells (encS 1 x.m1)))],hn:=3 } }
def kp0:Keep:={ ks:=[(1,none),(2,none),(4,some 2),(5,none)],bs:=[0,1],hn:=3,ts:=[(0,1),(1,1)] }
def p0 (st:St) (K:L0->Prop):Prop:=gHomes kp0 st <| gPtr 0 0 (st.fr 1) <| gPtr 1 0 (st.fr 2) <| gSlr (st.fr 4) fun c1=>gRow false .str (st.hs.hp c1) fun a2=>gInt .i64 (st.fr 5) fun a3=>gBlkS 1 (st.hs.hp 0) fun a4=>gBlkS 1 (st.hs.hp 1) fun a5=>K ⟨a2,a3,a4,a5⟩
set_option maxHeartbeats 4000000 in
theorem p0_ok (st:St) (K:L0->Prop) (h:p0 st K):∃ x,keepSt kp0 st=c0 x∧K x:=by
 obtain ⟨h0,h⟩:=gHomes_elim h
 obtain ⟨h1,h⟩:=gPtr_elim h
 obtain ⟨h2,h⟩:=gPtr_elim h
 obtain ⟨c1,h3,h⟩:=gSlr_elim h
 obtain ⟨a2,h4,h⟩:=gRow_elim h
 obtain ⟨a3,h5,h⟩:=gInt_elim h
 obtain ⟨z6,a4,h6,y6,h⟩:=gBlkS_elim h
 have q6:∀ ok,keptB kp0 ok 0 (.cells z6)=.cells (encS 1 a4):=fun _=>y6
 simp only [kp0] at q6
 obtain ⟨z7,a5,h7,y7,h⟩:=gBlkS_elim h
 have q7:∀ ok,keptB kp0 ok 1 (.cells z7)=.cells (encS 1 a5):=fun _=>y7
 simp only [kp0] at q7
 refine⟨_,?_,h⟩
 simp only [keepSt,h0]
 simp only [kp0,List.map,List.filterMap,homeOf,h1,h2,h3,h4,h5,h6,h7,q6,q7,hmOf,List.append_nil,cond_true]
 rfl
def b0V (f0:q119.T) (f1:q25.T) (rec kx:L0->Prop) (kr:R->Prop) (x:L0):Prop:=
 (bif(decide (x.i < (x.m0.sure.length:Int)))then(f1 x.m0 x.i fun r2=>(bif(decide ((x.sure.length+([r2]:List Str).length) * 16≤room))then(rec ⟨(x.sure++([r2]:List Str)),(IntKind.i64.wrap (x.i+1)),x.m0,x.m1⟩)else False))else(kx ⟨x.sure,x.i,x.m0,x.m1⟩))
def ltV (f0:q119.T) (f1:q25.T):Nat->Option LSpec
 | 0=>some (mkLoop 0 kp0 kR p0 c0 cR (b0V f0 f1))
 | _=>none
def lt:Nat->Option LSpec:=ltV q119.F q25.F
def FV (f0:q119.T) (f1:q25.T) (d:Disk) (K:(Disk×Int)->Prop):Prop:=
 (bif d.dead then(K (d,6))else(f0 d fun r1=>(bif r1.dead then(K (r1,6))else(∃ n,loopB (b0V f0 f1) n (fun x3=>(K ((⟨x3.sure,([]:List Write),x3.m0.fuse,x3.m0.dead⟩:Disk),0))) (fun _=>False) ⟨([]:List Str),0,r1,(⟨([]:List Str),([]:List Write),0,false⟩:Disk)⟩))))
def F (d:Disk) (K:(Disk×Int)->Prop):Prop:=FV q119.F q25.F d K
def en:Entry:=mkEntry A C fun x=>F x.1
theorem eqv (f0:q119.T) (f1:q25.T) (d:Disk) (K:(Disk×Int)->Prop):apure E (tv f0 f1) (ltV f0 f1) 4 165 [enc (.st 1) d] (ansK C K)=FV f0 f1 d K:=by kernel_rfl
theorem l0v (f0:q119.T) (f1:q25.T) (R:St->Prop) (Kx:Nat->St->Prop) (Kr:St->Prop) (x:L0):acode E (tv f0 f1) (afun E (tv f0 f1) 4) 31 (ltV f0 f1) ((loopsIn E.P 165).getD 0 (0,.skip)).2 0 (fun s=>R (keepSt kp0 s)) (fun j s=>Kx j (keepSt kp0 s)) (fun s=>Kr (keepSt kR s)) (c0 x)=b0V f0 f1 (fun x=>R (c0 x)) (fun x=>Kx 0 (c0 x)) (fun r=>Kr (cR r)) x:=by kernel_rfl
theorem l0_ok:LSound E tab (afun E tab 4) 31 lt 0 ((loopsIn E.P 165).getD 0 (0,.skip)).2 (mkLoop 0 kp0 kR p0 c0 cR (b0V q119.F q25.F)):=mkLoop_sound (by decide) (by decide) p0_ok (fun R Kx Kr x=>l0v q119.F q25.F R Kx Kr x)
theorem loops:LoopsOk E tab lt 4 165:=loops_of (nt:=31) (ids:=[0]) (by kernel_rfl) (by kernel_rfl) (by
 intro k i hk l hl
 match k,hk with
 | 0,hk=>cases hk;cases hl;exact l0_ok
 | _+1,hk=>exact absurd hk (by simp))
theorem det (d:Disk):Det (F d):=by
 unfold F FV
 repeat' with_reducible first|exact det_ret _|exact det_false|refine det_cond _ ?_ ?_|refine det_bind (q119.det _) (fun _=>?_)|refine det_bind (q25.det _ _) (fun _=>?_)|refine det_loop (fun _=>?_) (fun _=>?_) (fun _=>?_) _ | unfold b0V
theorem edet a:Det (en a):=mkD (fun x:Dens A=>det x.1) a
theorem ground:Ground E tab:=gnd (tbc q119.sound (tbc q25.sound (tab_nil _))) (dtc q119.edet (dtc q25.edet dtn))
theorem sound:EntrySound E 165 en:=mkSound ground loops (by kernel_rfl) (fun x K=>eqv q119.F q25.F x.1 K)
end q121
namespace q122
abbrev A:List Ty:=[(.st 1),(.st 3)]
abbrev C:=(cTwo (.st 1) (.int .i64))
abbrev T:Type:=Disk->Super->((Disk×Int)->Prop)->Prop
def tv (f0:q21.T) (f1:q33.T) (f2:q120.T) (f3:q121.T):Tab:=[(98,mkEntry q21.A q21.C fun x=>f0 x.1),(142,mkEntry q33.A q33.C fun x=>f1 x.1 x.2.1),(163,mkEntry q120.A q120.C fun x=>f2 x.1 x.2.1 x.2.2.1),(165,mkEntry q121.A q121.C fun x=>f3 x.1)]
def tab:Tab:=tv q21.F q33.F q120.F q121.F
def FV (f0:q21.T) (f1:q33.T) (f2:q120.T) (f3:q121.T) (d:Disk) (s:Super) (K:(Disk×Int)->Prop):Prop:=
 (f0 s fun r1=>(bif(r1.2 != 0)then(K (d,1))else(f1 d s fun r2=>(bif(!r2)then(K (d,1))else(f2 d 0 r1.1 fun r3=>(bif(r3.2 != 0)then(K (r3.1,r3.2))else(f3 r3.1 fun r4=>(K (r4.1,r4.2)))))))))
def F (d:Disk) (s:Super) (K:(Disk×Int)->Prop):Prop:=FV q21.F q33.F q120.F q121.F d s K
def en:Entry:=mkEntry A C fun x=>F x.1 x.2.1
theorem eqv (f0:q21.T) (f1:q33.T) (f2:q120.T) (f3:q121.T) (d:Disk) (s:Super) (K:(Disk×Int)->Prop):apure E (tv f0 f1 f2 f3) (fun _=>none) 4 122 [enc (.st 1) d,enc (.st 3) s] (ansK C K)=FV f0 f1 f2 f3 d s K:=by kernel_rfl
theorem loops:LoopsOk E tab (fun _=>none) 4 122:=lpn _ _ _ _
theorem det (d:Disk) (s:Super):Det (F d s):=by
 unfold F FV
 repeat' with_reducible first|exact det_ret _|refine det_cond _ ?_ ?_|refine det_bind (q21.det _) (fun _=>?_)|refine det_bind (q33.det _ _) (fun _=>?_)|refine det_bind (q120.det _ _ _) (fun _=>?_)|refine det_bind (q121.det _) (fun _=>?_)
theorem edet a:Det (en a):=mkD (fun x:Dens A=>det x.1 x.2.1) a
theorem ground:Ground E tab:=gnd (tbc q21.sound (tbc q33.sound (tbc q120.sound (tbc q121.sound (tab_nil _))))) (dtc q21.edet (dtc q33.edet (dtc q120.edet (dtc q121.edet dtn))))
theorem sound:EntrySound E 122 en:=mkSound ground loops (by kernel_rfl) (fun x K=>eqv q21.F q33.F q120.F q121.F x.1 x.2.1 K)
end q122
namespace q123
abbrev A:List Ty:=[(.st 8),(.st 3)]
abbrev C:=(cTwo (.st 8) (.int .i64))
abbrev T:Type:=Store->Super->((Store×Int)->Prop)->Prop
def tv (f0:q122.T):Tab:=[(122,mkEntry q122.A q122.C fun x=>f0 x.1 x.2.1)]
def tab:Tab:=tv q122.F
def FV (f0:q122.T) (s:Store) (b_1:Super) (K:(Store×Int)->Prop):Prop:=
 (bif((b_1.blocks==s.sup.blocks)&&(((b_1.vector.current==s.sup.vector.current)&&((b_1.vector.bitmap==s.sup.vector.bitmap)&&(((b_1.vector.old0==s.sup.vector.old0)&&((b_1.vector.old1==s.sup.vector.old1)&&true))&&true)))&&((b_1.inc==s.sup.inc)&&((b_1.pri==s.sup.pri)&&((b_1.dis==s.sup.dis)&&true)))))then(K (s,0))else(f0 s.disk b_1 fun r1=>(bif(r1.2==0)then(K ((⟨r1.1,b_1,s.mask⟩:Store),r1.2))else(K ((⟨r1.1,s.sup,s.mask⟩:Store),r1.2)))))
def F (s:Store) (b_1:Super) (K:(Store×Int)->Prop):Prop:=FV q122.F s b_1 K
def en:Entry:=mkEntry A C fun x=>F x.1 x.2.1
theorem eqv (f0:q122.T) (s:Store) (b_1:Super) (K:(Store×Int)->Prop):apure E (tv f0) (fun _=>none) 4 83 [enc (.st 8) s,enc (.st 3) b_1] (ansK C K)=FV f0 s b_1 K:=by kernel_rfl
theorem loops:LoopsOk E tab (fun _=>none) 4 83:=lpn _ _ _ _
theorem det (s:Store) (b_1:Super):Det (F s b_1):=by
 unfold F FV
 repeat' with_reducible first|exact det_ret _|refine det_cond _ ?_ ?_|refine det_bind (q122.det _ _) (fun _=>?_)
theorem edet a:Det (en a):=mkD (fun x:Dens A=>det x.1 x.2.1) a
theorem ground:Ground E tab:=gnd (tbc q122.sound (tab_nil _)) (dtc q122.edet dtn)
theorem sound:EntrySound E 83 en:=mkSound ground loops (by kernel_rfl) (fun x K=>eqv q122.F x.1 x.2.1 K)
end q123
namespace q124
abbrev A:List Ty:=[(.st 1)]
abbrev C:=(cTy (.st 1))
abbrev T:Type:=Disk->(Disk->Prop)->Prop
def tab:Tab:=[]
def F (d:Disk) (K:Disk->Prop):Prop:=
 (K (⟨d.sure,d.cache,0,true⟩:Disk))
def en:Entry:=mkEntry A C fun x=>F x.1
theorem eqv (d:Disk) (K:Disk->Prop):apure E tab (fun _=>none) 4 31 [enc (.st 1) d] (ansK C K)=F d K:=by kernel_rfl
theorem loops:LoopsOk E tab (fun _=>none) 4 31:=lpn _ _ _ _
theorem det (d:Disk):Det (F d):=by
 unfold F
 repeat' with_reducible first|exact det_ret _
theorem edet a:Det (en a):=mkD (fun x:Dens A=>det x.1) a
theorem ground:Ground E tab:=gnd (tab_nil _) dtn
theorem sound:EntrySound E 31 en:=mkSound ground loops (by kernel_rfl) (fun x K=>eqv  x.1 K)
end q124
namespace q125
abbrev A:List Ty:=[(.st 13)]
abbrev C:=(cTy (.st 13))
abbrev T:Type:=Node->(Node->Prop)->Prop
def tv (f0:q124.T):Tab:=[(31,mkEntry q124.A q124.C fun x=>f0 x.1)]
def tab:Tab:=tv q124.F
def FV (f0:q124.T) (n_0:Node) (K:Node->Prop):Prop:=
 (f0 n_0.store.disk fun r1=>(K (⟨n_0.id,false,(⟨r1,(⟨0,(⟨0,0,0,0⟩:Vec),false,false,false⟩:Super),0⟩:Store),false,0,0,(⟨0,(⟨0,0,0,0⟩:Vec),false,false,false,false,0⟩:Hello),false,(⟨false,0,0,([]:Str)⟩:Req),false,0,0,false,n_0.draws,n_0.mints⟩:Node)))
def F (n_0:Node) (K:Node->Prop):Prop:=FV q124.F n_0 K
def en:Entry:=mkEntry A C fun x=>F x.1
theorem eqv (f0:q124.T) (n_0:Node) (K:Node->Prop):apure E (tv f0) (fun _=>none) 4 90 [enc (.st 13) n_0] (ansK C K)=FV f0 n_0 K:=by kernel_rfl
theorem loops:LoopsOk E tab (fun _=>none) 4 90:=lpn _ _ _ _
theorem det (n_0:Node):Det (F n_0):=by
 unfold F FV
 repeat' with_reducible first|exact det_ret _|refine det_bind (q124.det _) (fun _=>?_)
theorem edet a:Det (en a):=mkD (fun x:Dens A=>det x.1) a
theorem ground:Ground E tab:=gnd (tbc q124.sound (tab_nil _)) (dtc q124.edet dtn)
theorem sound:EntrySound E 90 en:=mkSound ground loops (by kernel_rfl) (fun x K=>eqv q124.F x.1 K)
end q125
namespace q126
abbrev A:List Ty:=[(.st 13),(.st 3)]
abbrev C:=(cTwo (.st 13) .bool)
abbrev T:Type:=Node->Super->((Node×Bool)->Prop)->Prop
def tv (f0:q123.T) (f1:q125.T):Tab:=[(83,mkEntry q123.A q123.C fun x=>f0 x.1 x.2.1),(90,mkEntry q125.A q125.C fun x=>f1 x.1)]
def tab:Tab:=tv q123.F q125.F
def FV (f0:q123.T) (f1:q125.T) (n_0:Node) (b_1:Super) (K:(Node×Bool)->Prop):Prop:=
 (f0 n_0.store b_1 fun r1=>(bif(r1.2 != 0)then(f1 (⟨n_0.id,n_0.up,r1.1,n_0.primary,n_0.state,n_0.session,n_0.peer,n_0.peerPri,n_0.req,n_0.asking,n_0.askId,n_0.wanted,n_0.minted,n_0.draws,n_0.mints⟩:Node) fun r2=>(K (r2,false)))else(K ((⟨n_0.id,n_0.up,r1.1,n_0.primary,n_0.state,n_0.session,n_0.peer,n_0.peerPri,n_0.req,n_0.asking,n_0.askId,n_0.wanted,n_0.minted,n_0.draws,n_0.mints⟩:Node),true))))
def F (n_0:Node) (b_1:Super) (K:(Node×Bool)->Prop):Prop:=FV q123.F q125.F n_0 b_1 K
def en:Entry:=mkEntry A C fun x=>F x.1 x.2.1
theorem eqv (f0:q123.T) (f1:q125.T) (n_0:Node) (b_1:Super) (K:(Node×Bool)->Prop):apure E (tv f0 f1) (fun _=>none) 4 50 [enc (.st 13) n_0,enc (.st 3) b_1] (ansK C K)=FV f0 f1 n_0 b_1 K:=by kernel_rfl
theorem loops:LoopsOk E tab (fun _=>none) 4 50:=lpn _ _ _ _
theorem det (n_0:Node) (b_1:Super):Det (F n_0 b_1):=by
 unfold F FV
 repeat' with_reducible first|exact det_ret _|refine det_cond _ ?_ ?_|refine det_bind (q123.det _ _) (fun _=>?_)|refine det_bind (q125.det _) (fun _=>?_)
theorem edet a:Det (en a):=mkD (fun x:Dens A=>det x.1 x.2.1) a
theorem ground:Ground E tab:=gnd (tbc q123.sound (tbc q125.sound (tab_nil _))) (dtc q123.edet (dtc q125.edet dtn))
theorem sound:EntrySound E 50 en:=mkSound ground loops (by kernel_rfl) (fun x K=>eqv q123.F q125.F x.1 x.2.1 K)
end q126
namespace q127
abbrev A:List Ty:=[(.st 13),(.int .i64)]
abbrev C:=(cTwo (.st 13) (.slice (.st 11)))
abbrev T:Type:=Node->Int->((Node×(List Outp))->Prop)->Prop
def tv (f0:q109.T) (f1:q110.T) (f2:q118.T) (f3:q126.T) (f4:q108.T):Tab:=[(47,mkEntry q109.A q109.C fun x=>f0 x.1 x.2.1 x.2.2.1),(48,mkEntry q110.A q110.C fun x=>f1 x.1),(49,mkEntry q118.A q118.C fun x=>f2 x.1 x.2.1),(50,mkEntry q126.A q126.C fun x=>f3 x.1 x.2.1),(51,mkEntry q108.A q108.C fun x=>f4 x.1 x.2.1 x.2.2.1 x.2.2.2.1)]
def tab:Tab:=tv q109.F q110.F q118.F q126.F q108.F
def FV (f0:q109.T) (f1:q110.T) (f2:q118.T) (f3:q126.T) (f4:q108.T) (n_0:Node) (id:Int) (K:(Node×(List Outp))->Prop):Prop:=
 (bif(!n_0.up)then(f0 n_0 id 7 fun r1=>(K (r1.1,r1.2)))else(bif n_0.primary then(f0 n_0 id 8 fun r2=>(K (r2.1,r2.2)))else(bif n_0.store.sup.inc then(f0 n_0 id 9 fun r3=>(K (r3.1,r3.2)))else(bif n_0.store.sup.dis then(f0 n_0 id 10 fun r4=>(K (r4.1,r4.2)))else(bif(n_0.state==1)then(f0 n_0 id 11 fun r5=>(K (r5.1,r5.2)))else(bif(n_0.state==4)then(f0 n_0 id 11 fun r6=>(K (r6.1,r6.2)))else(bif n_0.asking then(f0 n_0 id 11 fun r7=>(K (r7.1,r7.2)))else(bif n_0.peerPri then(f0 n_0 id 12 fun r8=>(K (r8.1,r8.2)))else(f1 n_0 fun r9=>(bif r9 then(f2 (⟨n_0.id,n_0.up,n_0.store,n_0.primary,n_0.state,n_0.session,n_0.peer,n_0.peerPri,n_0.req,true,id,n_0.wanted,n_0.minted,n_0.draws,n_0.mints⟩:Node) (⟨10,0,(⟨0,(⟨0,0,0,0⟩:Vec),false,false,false,false,0⟩:Hello),0,([]:Str)⟩:Packet) fun r10=>(K ((⟨n_0.id,n_0.up,n_0.store,n_0.primary,n_0.state,n_0.session,n_0.peer,n_0.peerPri,n_0.req,true,id,n_0.wanted,n_0.minted,n_0.draws,n_0.mints⟩:Node),([(⟨1,r10.1,0,0,r10.2⟩:Outp)]:List Outp))))else(f3 n_0 (⟨n_0.store.sup.blocks,n_0.store.sup.vector,n_0.store.sup.inc,true,n_0.store.sup.dis⟩:Super) fun r11=>(bif(!r11.2)then(K (r11.1,([]:List Outp)))else(f4 (⟨r11.1.id,r11.1.up,r11.1.store,true,r11.1.state,r11.1.session,r11.1.peer,r11.1.peerPri,r11.1.req,r11.1.asking,r11.1.askId,r11.1.wanted,r11.1.minted,r11.1.draws,r11.1.mints⟩:Node) id 0 ([]:Str) fun r12=>(K ((⟨r11.1.id,r11.1.up,r11.1.store,true,r11.1.state,r11.1.session,r11.1.peer,r11.1.peerPri,r11.1.req,r11.1.asking,r11.1.askId,r11.1.wanted,r11.1.minted,r11.1.draws,r11.1.mints⟩:Node),([r12]:List Outp))))))))))))))))
def F (n_0:Node) (id:Int) (K:(Node×(List Outp))->Prop):Prop:=FV q109.F q110.F q118.F q126.F q108.F n_0 id K
def en:Entry:=mkEntry A C fun x=>F x.1 x.2.1
theorem eqv (f0:q109.T) (f1:q110.T) (f2:q118.T) (f3:q126.T) (f4:q108.T) (n_0:Node) (id:Int) (K:(Node×(List Outp))->Prop):apure E (tv f0 f1 f2 f3 f4) (fun _=>none) 4 13 [enc (.st 13) n_0,enc (.int .i64) id] (ansK C K)=FV f0 f1 f2 f3 f4 n_0 id K:=by kernel_rfl
theorem loops:LoopsOk E tab (fun _=>none) 4 13:=lpn _ _ _ _
theorem det (n_0:Node) (id:Int):Det (F n_0 id):=by
 unfold F FV
 repeat' with_reducible first|exact det_ret _|refine det_cond _ ?_ ?_|refine det_bind (q109.det _ _ _) (fun _=>?_)|refine det_bind (q110.det _) (fun _=>?_)|refine det_bind (q118.det _ _) (fun _=>?_)|refine det_bind (q126.det _ _) (fun _=>?_)|refine det_bind (q108.det _ _ _ _) (fun _=>?_)
theorem edet a:Det (en a):=mkD (fun x:Dens A=>det x.1 x.2.1) a
theorem ground:Ground E tab:=gnd (tbc q109.sound (tbc q110.sound (tbc q118.sound (tbc q126.sound (tbc q108.sound (tab_nil _)))))) (dtc q109.edet (dtc q110.edet (dtc q118.edet (dtc q126.edet (dtc q108.edet dtn)))))
theorem sound:EntrySound E 13 en:=mkSound ground loops (by kernel_rfl) (fun x K=>eqv q109.F q110.F q118.F q126.F q108.F x.1 x.2.1 K)
end q127
namespace q128
abbrev A:List Ty:=[(.st 13),(.int .i64)]
abbrev C:=(cTwo (.st 13) (.slice (.st 11)))
abbrev T:Type:=Node->Int->((Node×(List Outp))->Prop)->Prop
def tv (f0:q109.T) (f1:q126.T) (f2:q110.T) (f3:q118.T) (f4:q108.T):Tab:=[(47,mkEntry q109.A q109.C fun x=>f0 x.1 x.2.1 x.2.2.1),(50,mkEntry q126.A q126.C fun x=>f1 x.1 x.2.1),(48,mkEntry q110.A q110.C fun x=>f2 x.1),(49,mkEntry q118.A q118.C fun x=>f3 x.1 x.2.1),(51,mkEntry q108.A q108.C fun x=>f4 x.1 x.2.1 x.2.2.1 x.2.2.2.1)]
def tab:Tab:=tv q109.F q126.F q110.F q118.F q108.F
def FV (f0:q109.T) (f1:q126.T) (f2:q110.T) (f3:q118.T) (f4:q108.T) (n_0:Node) (id:Int) (K:(Node×(List Outp))->Prop):Prop:=
 (bif(!n_0.up)then(f0 n_0 id 7 fun r1=>(K (r1.1,r1.2)))else(bif(!n_0.primary)then(f0 n_0 id 8 fun r2=>(K (r2.1,r2.2)))else(bif n_0.req.on then(f0 n_0 id 11 fun r3=>(K (r3.1,r3.2)))else(bif(n_0.state==1)then(f0 n_0 id 11 fun r4=>(K (r4.1,r4.2)))else(f1 n_0 (⟨n_0.store.sup.blocks,n_0.store.sup.vector,n_0.store.sup.inc,false,n_0.store.sup.dis⟩:Super) fun r5=>(bif(!r5.2)then(K (r5.1,([]:List Outp)))else(f2 (⟨r5.1.id,r5.1.up,r5.1.store,false,r5.1.state,r5.1.session,r5.1.peer,r5.1.peerPri,r5.1.req,r5.1.asking,r5.1.askId,r5.1.wanted,r5.1.minted,r5.1.draws,r5.1.mints⟩:Node) fun r6=>(bif r6 then(f3 (⟨r5.1.id,r5.1.up,r5.1.store,false,r5.1.state,r5.1.session,r5.1.peer,r5.1.peerPri,r5.1.req,r5.1.asking,r5.1.askId,r5.1.wanted,r5.1.minted,r5.1.draws,r5.1.mints⟩:Node) (⟨13,0,(⟨0,(⟨0,0,0,0⟩:Vec),false,false,false,false,0⟩:Hello),0,([]:Str)⟩:Packet) fun r7=>(bif(decide ((([]:List Outp).length+([(⟨1,r7.1,0,0,r7.2⟩:Outp)]:List Outp).length) * 48≤room))then(f4 (⟨r5.1.id,r5.1.up,r5.1.store,false,r5.1.state,r5.1.session,r5.1.peer,r5.1.peerPri,r5.1.req,r5.1.asking,r5.1.askId,r5.1.wanted,r5.1.minted,r5.1.draws,r5.1.mints⟩:Node) id 0 ([]:Str) fun r8=>(bif(decide (((([]:List Outp)++([(⟨1,r7.1,0,0,r7.2⟩:Outp)]:List Outp)).length+([r8]:List Outp).length) * 48≤room))then(K ((⟨r5.1.id,r5.1.up,r5.1.store,false,r5.1.state,r5.1.session,r5.1.peer,r5.1.peerPri,r5.1.req,r5.1.asking,r5.1.askId,r5.1.wanted,r5.1.minted,r5.1.draws,r5.1.mints⟩:Node),((([]:List Outp)++([(⟨1,r7.1,0,0,r7.2⟩:Outp)]:List Outp))++([r8]:List Outp))))else False))else False))else(f4 (⟨r5.1.id,r5.1.up,r5.1.store,false,r5.1.state,r5.1.session,r5.1.peer,r5.1.peerPri,r5.1.req,r5.1.asking,r5.1.askId,r5.1.wanted,r5.1.minted,r5.1.draws,r5.1.mints⟩:Node) id 0 ([]:Str) fun r9=>(bif(decide ((([]:List Outp).length+([r9]:List Outp).length) * 48≤room))then(K ((⟨r5.1.id,r5.1.up,r5.1.store,false,r5.1.state,r5.1.session,r5.1.peer,r5.1.peerPri,r5.1.req,r5.1.asking,r5.1.askId,r5.1.wanted,r5.1.minted,r5.1.draws,r5.1.mints⟩:Node),(([]:List Outp)++([r9]:List Outp))))else False))))))))))
def F (n_0:Node) (id:Int) (K:(Node×(List Outp))->Prop):Prop:=FV q109.F q126.F q110.F q118.F q108.F n_0 id K
def en:Entry:=mkEntry A C fun x=>F x.1 x.2.1
theorem eqv (f0:q109.T) (f1:q126.T) (f2:q110.T) (f3:q118.T) (f4:q108.T) (n_0:Node) (id:Int) (K:(Node×(List Outp))->Prop):apure E (tv f0 f1 f2 f3 f4) (fun _=>none) 4 15 [enc (.st 13) n_0,enc (.int .i64) id] (ansK C K)=FV f0 f1 f2 f3 f4 n_0 id K:=by kernel_rfl
theorem loops:LoopsOk E tab (fun _=>none) 4 15:=lpn _ _ _ _
theorem det (n_0:Node) (id:Int):Det (F n_0 id):=by
 unfold F FV
 repeat' with_reducible first|exact det_ret _|exact det_false|refine det_cond _ ?_ ?_|refine det_bind (q109.det _ _ _) (fun _=>?_)|refine det_bind (q126.det _ _) (fun _=>?_)|refine det_bind (q110.det _) (fun _=>?_)|refine det_bind (q118.det _ _) (fun _=>?_)|refine det_bind (q108.det _ _ _ _) (fun _=>?_)
theorem edet a:Det (en a):=mkD (fun x:Dens A=>det x.1 x.2.1) a
theorem ground:Ground E tab:=gnd (tbc q109.sound (tbc q126.sound (tbc q110.sound (tbc q118.sound (tbc q108.sound (tab_nil _)))))) (dtc q109.edet (dtc q126.edet (dtc q110.edet (dtc q118.edet (dtc q108.edet dtn)))))
theorem sound:EntrySound E 15 en:=mkSound ground loops (by kernel_rfl) (fun x K=>eqv q109.F q126.F q110.F q118.F q108.F x.1 x.2.1 K)
end q128
namespace q129
abbrev A:List Ty:=[(.st 13),(.int .i64)]
abbrev C:=(cTwo (.st 13) (.slice (.st 11)))
abbrev T:Type:=Node->Int->((Node×(List Outp))->Prop)->Prop
def tv (f0:q109.T) (f1:q126.T) (f2:q108.T):Tab:=[(47,mkEntry q109.A q109.C fun x=>f0 x.1 x.2.1 x.2.2.1),(50,mkEntry q126.A q126.C fun x=>f1 x.1 x.2.1),(51,mkEntry q108.A q108.C fun x=>f2 x.1 x.2.1 x.2.2.1 x.2.2.2.1)]
def tab:Tab:=tv q109.F q126.F q108.F
def FV (f0:q109.T) (f1:q126.T) (f2:q108.T) (n_0:Node) (id:Int) (K:(Node×(List Outp))->Prop):Prop:=
 (bif(!n_0.up)then(f0 n_0 id 7 fun r1=>(K (r1.1,r1.2)))else(bif n_0.primary then(f0 n_0 id 8 fun r2=>(K (r2.1,r2.2)))else(bif(n_0.state != 0)then(f0 n_0 id 11 fun r3=>(K (r3.1,r3.2)))else(f1 n_0 (⟨n_0.store.sup.blocks,n_0.store.sup.vector,n_0.store.sup.inc,n_0.store.sup.pri,true⟩:Super) fun r4=>(bif(!r4.2)then(K (r4.1,([]:List Outp)))else(f2 r4.1 id 0 ([]:Str) fun r5=>(K (r4.1,([r5]:List Outp)))))))))
def F (n_0:Node) (id:Int) (K:(Node×(List Outp))->Prop):Prop:=FV q109.F q126.F q108.F n_0 id K
def en:Entry:=mkEntry A C fun x=>F x.1 x.2.1
theorem eqv (f0:q109.T) (f1:q126.T) (f2:q108.T) (n_0:Node) (id:Int) (K:(Node×(List Outp))->Prop):apure E (tv f0 f1 f2) (fun _=>none) 4 17 [enc (.st 13) n_0,enc (.int .i64) id] (ansK C K)=FV f0 f1 f2 n_0 id K:=by kernel_rfl
theorem loops:LoopsOk E tab (fun _=>none) 4 17:=lpn _ _ _ _
theorem det (n_0:Node) (id:Int):Det (F n_0 id):=by
 unfold F FV
 repeat' with_reducible first|exact det_ret _|refine det_cond _ ?_ ?_|refine det_bind (q109.det _ _ _) (fun _=>?_)|refine det_bind (q126.det _ _) (fun _=>?_)|refine det_bind (q108.det _ _ _ _) (fun _=>?_)
theorem edet a:Det (en a):=mkD (fun x:Dens A=>det x.1 x.2.1) a
theorem ground:Ground E tab:=gnd (tbc q109.sound (tbc q126.sound (tbc q108.sound (tab_nil _)))) (dtc q109.edet (dtc q126.edet (dtc q108.edet dtn)))
theorem sound:EntrySound E 17 en:=mkSound ground loops (by kernel_rfl) (fun x K=>eqv q109.F q126.F q108.F x.1 x.2.1 K)
end q129
namespace q130
abbrev A:List Ty:=[(.st 8),(.int .i64)]
abbrev C:=(cTwo .str (.int .i64))
abbrev T:Type:=Store->Int->((Str×Int)->Prop)->Prop
def tv (f0:q41.T):Tab:=[(92,mkEntry q41.A q41.C fun x=>f0 x.1 x.2.1)]
def tab:Tab:=tv q41.F
def FV (f0:q41.T) (s:Store) (i:Int) (K:(Str×Int)->Prop):Prop:=
 (f0 s.disk i fun r1=>(K (r1.1,r1.2)))
def F (s:Store) (i:Int) (K:(Str×Int)->Prop):Prop:=FV q41.F s i K
def en:Entry:=mkEntry A C fun x=>F x.1 x.2.1
theorem eqv (f0:q41.T) (s:Store) (i:Int) (K:(Str×Int)->Prop):apure E (tv f0) (fun _=>none) 4 58 [enc (.st 8) s,enc (.int .i64) i] (ansK C K)=FV f0 s i K:=by kernel_rfl
theorem loops:LoopsOk E tab (fun _=>none) 4 58:=lpn _ _ _ _
theorem det (s:Store) (i:Int):Det (F s i):=by
 unfold F FV
 repeat' with_reducible first|exact det_ret _|refine det_bind (q41.det _ _) (fun _=>?_)
theorem edet a:Det (en a):=mkD (fun x:Dens A=>det x.1 x.2.1) a
theorem ground:Ground E tab:=gnd (tbc q41.sound (tab_nil _)) (dtc q41.edet dtn)
theorem sound:EntrySound E 58 en:=mkSound ground loops (by kernel_rfl) (fun x K=>eqv q41.F x.1 x.2.1 K)
end q130
namespace q131
abbrev A:List Ty:=[(.st 13),(.int .i64),(.int .i64)]
abbrev C:=(cTwo (.st 13) (.slice (.st 11)))
abbrev T:Type:=Node->Int->Int->((Node×(List Outp))->Prop)->Prop
def tv (f0:q109.T) (f1:q130.T) (f2:q108.T):Tab:=[(47,mkEntry q109.A q109.C fun x=>f0 x.1 x.2.1 x.2.2.1),(58,mkEntry q130.A q130.C fun x=>f1 x.1 x.2.1),(51,mkEntry q108.A q108.C fun x=>f2 x.1 x.2.1 x.2.2.1 x.2.2.2.1)]
def tab:Tab:=tv q109.F q130.F q108.F
def FV (f0:q109.T) (f1:q130.T) (f2:q108.T) (n_0:Node) (id:Int) (block:Int) (K:(Node×(List Outp))->Prop):Prop:=
 (bif(!n_0.up)then(f0 n_0 id 7 fun r1=>(K (r1.1,r1.2)))else(bif(!n_0.primary)then(f0 n_0 id 8 fun r2=>(K (r2.1,r2.2)))else(f1 n_0.store block fun r3=>(f2 n_0 id r3.2 r3.1 fun r4=>(K (n_0,([r4]:List Outp)))))))
def F (n_0:Node) (id:Int) (block:Int) (K:(Node×(List Outp))->Prop):Prop:=FV q109.F q130.F q108.F n_0 id block K
def en:Entry:=mkEntry A C fun x=>F x.1 x.2.1 x.2.2.1
theorem eqv (f0:q109.T) (f1:q130.T) (f2:q108.T) (n_0:Node) (id:Int) (block:Int) (K:(Node×(List Outp))->Prop):apure E (tv f0 f1 f2) (fun _=>none) 4 21 [enc (.st 13) n_0,enc (.int .i64) id,enc (.int .i64) block] (ansK C K)=FV f0 f1 f2 n_0 id block K:=by kernel_rfl
theorem loops:LoopsOk E tab (fun _=>none) 4 21:=lpn _ _ _ _
theorem det (n_0:Node) (id:Int) (block:Int):Det (F n_0 id block):=by
 unfold F FV
 repeat' with_reducible first|exact det_ret _|refine det_cond _ ?_ ?_|refine det_bind (q109.det _ _ _) (fun _=>?_)|refine det_bind (q130.det _ _) (fun _=>?_)|refine det_bind (q108.det _ _ _ _) (fun _=>?_)
theorem edet a:Det (en a):=mkD (fun x:Dens A=>det x.1 x.2.1 x.2.2.1) a
theorem ground:Ground E tab:=gnd (tbc q109.sound (tbc q130.sound (tbc q108.sound (tab_nil _)))) (dtc q109.edet (dtc q130.edet (dtc q108.edet dtn)))
theorem sound:EntrySound E 21 en:=mkSound ground loops (by kernel_rfl) (fun x K=>eqv q109.F q130.F q108.F x.1 x.2.1 x.2.2.1 K)
end q131
namespace q132
abbrev A:List Ty:=[(.st 2),(.int .u64)]
abbrev C:=(cTwo (.st 2) (.int .i64))
abbrev T:Type:=Vec->Int->((Vec×Int)->Prop)->Prop
def tab:Tab:=[]
def F (v:Vec) (g:Int) (K:(Vec×Int)->Prop):Prop:=
 (bif(g==0)then(K ((⟨0,0,0,0⟩:Vec),14))else(bif(v.bitmap==0)then(K ((⟨g,v.current,v.old0,v.old1⟩:Vec),0))else(K ((⟨g,v.bitmap,v.current,v.old0⟩:Vec),0))))
def en:Entry:=mkEntry A C fun x=>F x.1 x.2.1
theorem eqv (v:Vec) (g:Int) (K:(Vec×Int)->Prop):apure E tab (fun _=>none) 4 225 [enc (.st 2) v,enc (.int .u64) g] (ansK C K)=F v g K:=by kernel_rfl
theorem loops:LoopsOk E tab (fun _=>none) 4 225:=lpn _ _ _ _
theorem det (v:Vec) (g:Int):Det (F v g):=by
 unfold F
 repeat' with_reducible first|exact det_ret _|refine det_cond _ ?_ ?_
theorem edet a:Det (en a):=mkD (fun x:Dens A=>det x.1 x.2.1) a
theorem ground:Ground E tab:=gnd (tab_nil _) dtn
theorem sound:EntrySound E 225 en:=mkSound ground loops (by kernel_rfl) (fun x K=>eqv  x.1 x.2.1 K)
end q132
namespace q133
abbrev A:List Ty:=[(.st 13)]
abbrev C:=(cTwo (.st 13) (.int .i64))
abbrev T:Type:=Node->((Node×Int)->Prop)->Prop
def tv (f0:q132.T) (f1:q126.T):Tab:=[(225,mkEntry q132.A q132.C fun x=>f0 x.1 x.2.1),(50,mkEntry q126.A q126.C fun x=>f1 x.1 x.2.1)]
def tab:Tab:=tv q132.F q126.F
def FV (f0:q132.T) (f1:q126.T) (n_0:Node) (K:(Node×Int)->Prop):Prop:=
 (bif((n_0.draws.length:Int)==0)then(K (n_0,14))else(oget (getI n_0.draws 0) fun v1=>(bif(decide (0≤1)&&decide (1≤(n_0.draws.length:Int)))then(bif(decide ((sub n_0.draws (Int.toNat 1) n_0.draws.length).length * 8≤room))then(bif(v1==0)then(K ((⟨n_0.id,n_0.up,n_0.store,n_0.primary,n_0.state,n_0.session,n_0.peer,n_0.peerPri,n_0.req,n_0.asking,n_0.askId,n_0.wanted,n_0.minted,(sub n_0.draws (Int.toNat 1) n_0.draws.length),n_0.mints⟩:Node),14))else(bif(decide (n_0.mints.length * 24≤room))then(bif(decide ((n_0.mints.length+([(⟨v1,n_0.store.sup.vector.current,n_0.id⟩:Mint)]:List Mint).length) * 24≤room))then(f0 n_0.store.sup.vector v1 fun r2=>(f1 (⟨n_0.id,n_0.up,n_0.store,n_0.primary,n_0.state,n_0.session,n_0.peer,n_0.peerPri,n_0.req,n_0.asking,n_0.askId,n_0.wanted,n_0.minted,(sub n_0.draws (Int.toNat 1) n_0.draws.length),(n_0.mints++([(⟨v1,n_0.store.sup.vector.current,n_0.id⟩:Mint)]:List Mint))⟩:Node) (⟨n_0.store.sup.blocks,r2.1,n_0.store.sup.inc,n_0.store.sup.pri,n_0.store.sup.dis⟩:Super) fun r3=>(bif(!r3.2)then(K (r3.1,6))else(K ((⟨r3.1.id,r3.1.up,r3.1.store,r3.1.primary,r3.1.state,r3.1.session,r3.1.peer,r3.1.peerPri,r3.1.req,r3.1.asking,r3.1.askId,r3.1.wanted,true,r3.1.draws,r3.1.mints⟩:Node),0)))))else False)else False))else False)else False)))
def F (n_0:Node) (K:(Node×Int)->Prop):Prop:=FV q132.F q126.F n_0 K
def en:Entry:=mkEntry A C fun x=>F x.1
theorem eqv (f0:q132.T) (f1:q126.T) (n_0:Node) (K:(Node×Int)->Prop):apure E (tv f0 f1) (fun _=>none) 4 199 [enc (.st 13) n_0] (ansK C K)=FV f0 f1 n_0 K:=by kernel_rfl
theorem loops:LoopsOk E tab (fun _=>none) 4 199:=lpn _ _ _ _
theorem det (n_0:Node):Det (F n_0):=by
 unfold F FV
 repeat' with_reducible first|exact det_ret _|exact det_false|refine det_cond _ ?_ ?_|refine det_oget _ (fun _=>?_)|refine det_bind (q132.det _ _) (fun _=>?_)|refine det_bind (q126.det _ _) (fun _=>?_)
theorem edet a:Det (en a):=mkD (fun x:Dens A=>det x.1) a
theorem ground:Ground E tab:=gnd (tbc q132.sound (tbc q126.sound (tab_nil _))) (dtc q132.edet (dtc q126.edet dtn))
theorem sound:EntrySound E 199 en:=mkSound ground loops (by kernel_rfl) (fun x K=>eqv q132.F q126.F x.1 K)
end q133
namespace q134
abbrev A:List Ty:=[(.int .u32),(.slice (.int .i64))]
abbrev C:=(cTy (.int .u32))
abbrev T:Type:=Int->(List Int)->(Int->Prop)->Prop
def tv (f0:q37.T) (f1:q36.T):Tab:=[(161,mkEntry q37.A q37.C fun x=>f0 x.1 x.2.1),(162,mkEntry q36.A q36.C fun x=>f1 x.1)]
def tab:Tab:=tv q37.F q36.F
structure R where
def cR (_:R):St:={ fr:=fun _=>.top,hs:=hs0 }
def kR:Keep:={ ks:=[],bs:=[],hn:=0 }
structure L0 where
 m:Int
 l:(List Int)
 k:Int
def c0 (x:L0):St:={ fr:=lookL .top [(0,(.int .u32 x.m)),(1,(.sl .any (.int .i64) x.l)),(5,(.int .i64 x.k))],hs:={ hp:=lookL .dead [],hn:=0 } }
def kp0:Keep:={ ks:=[(0,none),(1,none),(5,none)],bs:=[],hn:=0 }
def p0 (st:St) (K:L0->Prop):Prop:=gInt .u32 (st.fr 0) fun a1=>gSl .any (.int .i64) (st.fr 1) fun a2=>gInt .i64 (st.fr 5) fun a3=>K ⟨a1,a2,a3⟩
set_option maxHeartbeats 4000000 in
theorem p0_ok (st:St) (K:L0->Prop) (h:p0 st K):∃ x,keepSt kp0 st=c0 x∧K x:=by
 obtain ⟨a1,h0,h⟩:=gInt_elim h
 obtain ⟨a2,h1,h⟩:=gSl_elim h
 obtain ⟨a3,h2,h⟩:=gInt_elim h
 refine⟨_,?_,h⟩
 simp only [keepSt,kp0,List.map,h0,h1,h2]
 rfl
def b0V (f0:q37.T) (f1:q36.T) (rec kx:L0->Prop) (kr:R->Prop) (x:L0):Prop:=
 (bif(decide (x.k < (x.l.length:Int)))then(oget (getI x.l x.k) fun v1=>(bif(decide (v1≥0))then(oget (getI x.l x.k) fun v2=>(bif(decide (v2 < 32))then(oget (getI x.l x.k) fun v3=>(f0 x.m v3 fun r4=>(bif(!r4)then(oget (getI x.l x.k) fun v5=>(f1 v5 fun r6=>(rec ⟨(IntKind.u32.wrap (x.m+r6)),x.l,(IntKind.i64.wrap (x.k+1))⟩)))else(rec ⟨x.m,x.l,(IntKind.i64.wrap (x.k+1))⟩))))else(rec ⟨x.m,x.l,(IntKind.i64.wrap (x.k+1))⟩)))else(rec ⟨x.m,x.l,(IntKind.i64.wrap (x.k+1))⟩)))else(kx ⟨x.m,x.l,x.k⟩))
def ltV (f0:q37.T) (f1:q36.T):Nat->Option LSpec
 | 0=>some (mkLoop 0 kp0 kR p0 c0 cR (b0V f0 f1))
 | _=>none
def lt:Nat->Option LSpec:=ltV q37.F q36.F
def FV (f0:q37.T) (f1:q36.T) (m:Int) (l:(List Int)) (K:Int->Prop):Prop:=
 (∃ n,loopB (b0V f0 f1) n (fun x7=>(K x7.m)) (fun _=>False) ⟨m,l,0⟩)
def F (m:Int) (l:(List Int)) (K:Int->Prop):Prop:=FV q37.F q36.F m l K
def en:Entry:=mkEntry A C fun x=>F x.1 x.2.1
theorem eqv (f0:q37.T) (f1:q36.T) (m:Int) (l:(List Int)) (K:Int->Prop):apure E (tv f0 f1) (ltV f0 f1) 4 117 [enc (.int .u32) m,enc (.slice (.int .i64)) l] (ansK C K)=FV f0 f1 m l K:=by kernel_rfl
theorem l0v (f0:q37.T) (f1:q36.T) (R:St->Prop) (Kx:Nat->St->Prop) (Kr:St->Prop) (x:L0):acode E (tv f0 f1) (afun E (tv f0 f1) 4) 41 (ltV f0 f1) ((loopsIn E.P 117).getD 0 (0,.skip)).2 0 (fun s=>R (keepSt kp0 s)) (fun j s=>Kx j (keepSt kp0 s)) (fun s=>Kr (keepSt kR s)) (c0 x)=b0V f0 f1 (fun x=>R (c0 x)) (fun x=>Kx 0 (c0 x)) (fun r=>Kr (cR r)) x:=by kernel_rfl
theorem l0_ok:LSound E tab (afun E tab 4) 41 lt 0 ((loopsIn E.P 117).getD 0 (0,.skip)).2 (mkLoop 0 kp0 kR p0 c0 cR (b0V q37.F q36.F)):=mkLoop_sound (by decide) (by decide) p0_ok (fun R Kx Kr x=>l0v q37.F q36.F R Kx Kr x)
theorem loops:LoopsOk E tab lt 4 117:=loops_of (nt:=41) (ids:=[0]) (by kernel_rfl) (by kernel_rfl) (by
 intro k i hk l hl
 match k,hk with
 | 0,hk=>cases hk;cases hl;exact l0_ok
 | _+1,hk=>exact absurd hk (by simp))
theorem det (m:Int) (l:(List Int)):Det (F m l):=by
 unfold F FV
 repeat' with_reducible first|exact det_ret _|exact det_false|refine det_cond _ ?_ ?_|refine det_oget _ (fun _=>?_)|refine det_bind (q37.det _ _) (fun _=>?_)|refine det_bind (q36.det _) (fun _=>?_)|refine det_loop (fun _=>?_) (fun _=>?_) (fun _=>?_) _ | unfold b0V
theorem edet a:Det (en a):=mkD (fun x:Dens A=>det x.1 x.2.1) a
theorem ground:Ground E tab:=gnd (tbc q37.sound (tbc q36.sound (tab_nil _))) (dtc q37.edet (dtc q36.edet dtn))
theorem sound:EntrySound E 117 en:=mkSound ground loops (by kernel_rfl) (fun x K=>eqv q37.F q36.F x.1 x.2.1 K)
end q134
namespace q135
abbrev A:List Ty:=[(.st 1),(.int .u32)]
abbrev C:=(cTwo (.st 1) (.int .i64))
abbrev T:Type:=Disk->Int->((Disk×Int)->Prop)->Prop
def tv (f0:q38.T) (f1:q19.T) (f2:q20.T) (f3:q120.T):Tab:=[(145,mkEntry q38.A q38.C fun x=>f0 x.1 x.2.1),(100,mkEntry q19.A q19.C fun x=>f1 x.1),(99,mkEntry q20.A q20.C fun x=>f2 x.1),(163,mkEntry q120.A q120.C fun x=>f3 x.1 x.2.1 x.2.2.1)]
def tab:Tab:=tv q38.F q19.F q20.F q120.F
def FV (f0:q38.T) (f1:q19.T) (f2:q20.T) (f3:q120.T) (d:Disk) (m:Int) (K:(Disk×Int)->Prop):Prop:=
 (f0 m (IntKind.i64.wrap ((d.sure.length:Int) - 2)) fun r1=>(bif(!r1)then(K (d,1))else(f1 m fun r2=>(f2 r2 fun r3=>(f3 d 1 r3 fun r4=>(K (r4.1,r4.2)))))))
def F (d:Disk) (m:Int) (K:(Disk×Int)->Prop):Prop:=FV q38.F q19.F q20.F q120.F d m K
def en:Entry:=mkEntry A C fun x=>F x.1 x.2.1
theorem eqv (f0:q38.T) (f1:q19.T) (f2:q20.T) (f3:q120.T) (d:Disk) (m:Int) (K:(Disk×Int)->Prop):apure E (tv f0 f1 f2 f3) (fun _=>none) 4 119 [enc (.st 1) d,enc (.int .u32) m] (ansK C K)=FV f0 f1 f2 f3 d m K:=by kernel_rfl
theorem loops:LoopsOk E tab (fun _=>none) 4 119:=lpn _ _ _ _
theorem det (d:Disk) (m:Int):Det (F d m):=by
 unfold F FV
 repeat' with_reducible first|exact det_ret _|refine det_cond _ ?_ ?_|refine det_bind (q38.det _ _) (fun _=>?_)|refine det_bind (q19.det _) (fun _=>?_)|refine det_bind (q20.det _) (fun _=>?_)|refine det_bind (q120.det _ _ _) (fun _=>?_)
theorem edet a:Det (en a):=mkD (fun x:Dens A=>det x.1 x.2.1) a
theorem ground:Ground E tab:=gnd (tbc q38.sound (tbc q19.sound (tbc q20.sound (tbc q120.sound (tab_nil _))))) (dtc q38.edet (dtc q19.edet (dtc q20.edet (dtc q120.edet dtn))))
theorem sound:EntrySound E 119 en:=mkSound ground loops (by kernel_rfl) (fun x K=>eqv q38.F q19.F q20.F q120.F x.1 x.2.1 K)
end q135
namespace q136
abbrev A:List Ty:=[(.st 1),(.int .u32)]
abbrev C:=(cTwo (.st 1) (.int .i64))
abbrev T:Type:=Disk->Int->((Disk×Int)->Prop)->Prop
def tv (f0:q135.T) (f1:q121.T):Tab:=[(119,mkEntry q135.A q135.C fun x=>f0 x.1 x.2.1),(165,mkEntry q121.A q121.C fun x=>f1 x.1)]
def tab:Tab:=tv q135.F q121.F
def FV (f0:q135.T) (f1:q121.T) (d:Disk) (m:Int) (K:(Disk×Int)->Prop):Prop:=
 (f0 d m fun r1=>(bif(r1.2 != 0)then(K (r1.1,r1.2))else(f1 r1.1 fun r2=>(K (r2.1,r2.2)))))
def F (d:Disk) (m:Int) (K:(Disk×Int)->Prop):Prop:=FV q135.F q121.F d m K
def en:Entry:=mkEntry A C fun x=>F x.1 x.2.1
theorem eqv (f0:q135.T) (f1:q121.T) (d:Disk) (m:Int) (K:(Disk×Int)->Prop):apure E (tv f0 f1) (fun _=>none) 4 160 [enc (.st 1) d,enc (.int .u32) m] (ansK C K)=FV f0 f1 d m K:=by kernel_rfl
theorem loops:LoopsOk E tab (fun _=>none) 4 160:=lpn _ _ _ _
theorem det (d:Disk) (m:Int):Det (F d m):=by
 unfold F FV
 repeat' with_reducible first|exact det_ret _|refine det_cond _ ?_ ?_|refine det_bind (q135.det _ _) (fun _=>?_)|refine det_bind (q121.det _) (fun _=>?_)
theorem edet a:Det (en a):=mkD (fun x:Dens A=>det x.1 x.2.1) a
theorem ground:Ground E tab:=gnd (tbc q135.sound (tbc q121.sound (tab_nil _))) (dtc q135.edet (dtc q121.edet dtn))
theorem sound:EntrySound E 160 en:=mkSound ground loops (by kernel_rfl) (fun x K=>eqv q135.F q121.F x.1 x.2.1 K)
end q136
namespace q137
abbrev A:List Ty:=[(.st 8),(.int .u32)]
abbrev C:=(cTwo (.st 8) (.int .i64))
abbrev T:Type:=Store->Int->((Store×Int)->Prop)->Prop
def tv (f0:q136.T):Tab:=[(160,mkEntry q136.A q136.C fun x=>f0 x.1 x.2.1)]
def tab:Tab:=tv q136.F
def FV (f0:q136.T) (s:Store) (m:Int) (K:(Store×Int)->Prop):Prop:=
 (bif(m==s.mask)then(K (s,0))else(f0 s.disk m fun r1=>(bif(r1.2==0)then(K ((⟨r1.1,s.sup,m⟩:Store),r1.2))else(K ((⟨r1.1,s.sup,s.mask⟩:Store),r1.2)))))
def F (s:Store) (m:Int) (K:(Store×Int)->Prop):Prop:=FV q136.F s m K
def en:Entry:=mkEntry A C fun x=>F x.1 x.2.1
theorem eqv (f0:q136.T) (s:Store) (m:Int) (K:(Store×Int)->Prop):apure E (tv f0) (fun _=>none) 4 116 [enc (.st 8) s,enc (.int .u32) m] (ansK C K)=FV f0 s m K:=by kernel_rfl
theorem loops:LoopsOk E tab (fun _=>none) 4 116:=lpn _ _ _ _
theorem det (s:Store) (m:Int):Det (F s m):=by
 unfold F FV
 repeat' with_reducible first|exact det_ret _|refine det_cond _ ?_ ?_|refine det_bind (q136.det _ _) (fun _=>?_)
theorem edet a:Det (en a):=mkD (fun x:Dens A=>det x.1 x.2.1) a
theorem ground:Ground E tab:=gnd (tbc q136.sound (tab_nil _)) (dtc q136.edet dtn)
theorem sound:EntrySound E 116 en:=mkSound ground loops (by kernel_rfl) (fun x K=>eqv q136.F x.1 x.2.1 K)
end q137
namespace q138
abbrev A:List Ty:=[(.st 8),(.int .i64)]
abbrev C:=(cTwo (.st 8) (.int .i64))
abbrev T:Type:=Store->Int->((Store×Int)->Prop)->Prop
def tv (f0:q134.T) (f1:q137.T):Tab:=[(117,mkEntry q134.A q134.C fun x=>f0 x.1 x.2.1),(116,mkEntry q137.A q137.C fun x=>f1 x.1 x.2.1)]
def tab:Tab:=tv q134.F q137.F
def FV (f0:q134.T) (f1:q137.T) (s:Store) (i:Int) (K:(Store×Int)->Prop):Prop:=
 (bif(decide (i < 0))then(K (s,4))else(bif(decide (i≥s.sup.blocks))then(K (s,4))else(f0 s.mask ([i]:List Int) fun r1=>(f1 s r1 fun r2=>(K (r2.1,r2.2))))))
def F (s:Store) (i:Int) (K:(Store×Int)->Prop):Prop:=FV q134.F q137.F s i K
def en:Entry:=mkEntry A C fun x=>F x.1 x.2.1
theorem eqv (f0:q134.T) (f1:q137.T) (s:Store) (i:Int) (K:(Store×Int)->Prop):apure E (tv f0 f1) (fun _=>none) 4 79 [enc (.st 8) s,enc (.int .i64) i] (ansK C K)=FV f0 f1 s i K:=by kernel_rfl
theorem loops:LoopsOk E tab (fun _=>none) 4 79:=lpn _ _ _ _
theorem det (s:Store) (i:Int):Det (F s i):=by
 unfold F FV
 repeat' with_reducible first|exact det_ret _|refine det_cond _ ?_ ?_|refine det_bind (q134.det _ _) (fun _=>?_)|refine det_bind (q137.det _ _) (fun _=>?_)
theorem edet a:Det (en a):=mkD (fun x:Dens A=>det x.1 x.2.1) a
theorem ground:Ground E tab:=gnd (tbc q134.sound (tbc q137.sound (tab_nil _))) (dtc q134.edet (dtc q137.edet dtn))
theorem sound:EntrySound E 79 en:=mkSound ground loops (by kernel_rfl) (fun x K=>eqv q134.F q137.F x.1 x.2.1 K)
end q138
namespace q139
abbrev A:List Ty:=[(.st 13),(.st 8),(.int .i64)]
abbrev C:=(cTwo (.st 13) .bool)
abbrev T:Type:=Node->Store->Int->((Node×Bool)->Prop)->Prop
def tv (f0:q125.T):Tab:=[(90,mkEntry q125.A q125.C fun x=>f0 x.1)]
def tab:Tab:=tv q125.F
def FV (f0:q125.T) (n_0:Node) (s:Store) (e:Int) (K:(Node×Bool)->Prop):Prop:=
 (bif(e != 0)then(f0 (⟨n_0.id,n_0.up,s,n_0.primary,n_0.state,n_0.session,n_0.peer,n_0.peerPri,n_0.req,n_0.asking,n_0.askId,n_0.wanted,n_0.minted,n_0.draws,n_0.mints⟩:Node) fun r1=>(K (r1,false)))else(K ((⟨n_0.id,n_0.up,s,n_0.primary,n_0.state,n_0.session,n_0.peer,n_0.peerPri,n_0.req,n_0.asking,n_0.askId,n_0.wanted,n_0.minted,n_0.draws,n_0.mints⟩:Node),true)))
def F (n_0:Node) (s:Store) (e:Int) (K:(Node×Bool)->Prop):Prop:=FV q125.F n_0 s e K
def en:Entry:=mkEntry A C fun x=>F x.1 x.2.1 x.2.2.1
theorem eqv (f0:q125.T) (n_0:Node) (s:Store) (e:Int) (K:(Node×Bool)->Prop):apure E (tv f0) (fun _=>none) 4 226 [enc (.st 13) n_0,enc (.st 8) s,enc (.int .i64) e] (ansK C K)=FV f0 n_0 s e K:=by kernel_rfl
theorem loops:LoopsOk E tab (fun _=>none) 4 226:=lpn _ _ _ _
theorem det (n_0:Node) (s:Store) (e:Int):Det (F n_0 s e):=by
 unfold F FV
 repeat' with_reducible first|exact det_ret _|refine det_cond _ ?_ ?_|refine det_bind (q125.det _) (fun _=>?_)
theorem edet a:Det (en a):=mkD (fun x:Dens A=>det x.1 x.2.1 x.2.2.1) a
theorem ground:Ground E tab:=gnd (tbc q125.sound (tab_nil _)) (dtc q125.edet dtn)
theorem sound:EntrySound E 226 en:=mkSound ground loops (by kernel_rfl) (fun x K=>eqv q125.F x.1 x.2.1 x.2.2.1 K)
end q139
namespace q140
abbrev A:List Ty:=[(.st 1),(.int .i64),.str]
abbrev C:=(cTwo (.st 1) (.int .i64))
abbrev T:Type:=Disk->Int->Str->((Disk×Int)->Prop)->Prop
def tv (f0:q40.T) (f1:q120.T) (f2:q121.T):Tab:=[(131,mkEntry q40.A q40.C fun x=>f0 x.1 x.2.1),(163,mkEntry q120.A q120.C fun x=>f1 x.1 x.2.1 x.2.2.1),(165,mkEntry q121.A q121.C fun x=>f2 x.1)]
def tab:Tab:=tv q40.F q120.F q121.F
def FV (f0:q40.T) (f1:q120.T) (f2:q121.T) (d:Disk) (i:Int) (data:Str) (K:(Disk×Int)->Prop):Prop:=
 (f0 d i fun r1=>(bif(!r1)then(K (d,4))else(bif((data.length:Int) != 8)then(K (d,5))else(f1 d (IntKind.i64.wrap (i+2)) data fun r2=>(bif(r2.2 != 0)then(K (r2.1,r2.2))else(f2 r2.1 fun r3=>(K (r3.1,r3.2))))))))
def F (d:Disk) (i:Int) (data:Str) (K:(Disk×Int)->Prop):Prop:=FV q40.F q120.F q121.F d i data K
def en:Entry:=mkEntry A C fun x=>F x.1 x.2.1 x.2.2.1
theorem eqv (f0:q40.T) (f1:q120.T) (f2:q121.T) (d:Disk) (i:Int) (data:Str) (K:(Disk×Int)->Prop):apure E (tv f0 f1 f2) (fun _=>none) 4 121 [enc (.st 1) d,enc (.int .i64) i,enc .str data] (ansK C K)=FV f0 f1 f2 d i data K:=by kernel_rfl
theorem loops:LoopsOk E tab (fun _=>none) 4 121:=lpn _ _ _ _
theorem det (d:Disk) (i:Int) (data:Str):Det (F d i data):=by
 unfold F FV
 repeat' with_reducible first|exact det_ret _|refine det_cond _ ?_ ?_|refine det_bind (q40.det _ _) (fun _=>?_)|refine det_bind (q120.det _ _ _) (fun _=>?_)|refine det_bind (q121.det _) (fun _=>?_)
theorem edet a:Det (en a):=mkD (fun x:Dens A=>det x.1 x.2.1 x.2.2.1) a
theorem ground:Ground E tab:=gnd (tbc q40.sound (tbc q120.sound (tbc q121.sound (tab_nil _)))) (dtc q40.edet (dtc q120.edet (dtc q121.edet dtn)))
theorem sound:EntrySound E 121 en:=mkSound ground loops (by kernel_rfl) (fun x K=>eqv q40.F q120.F q121.F x.1 x.2.1 x.2.2.1 K)
end q140
namespace q141
abbrev A:List Ty:=[(.st 8),(.int .i64),.str]
abbrev C:=(cTwo (.st 8) (.int .i64))
abbrev T:Type:=Store->Int->Str->((Store×Int)->Prop)->Prop
def tv (f0:q140.T):Tab:=[(121,mkEntry q140.A q140.C fun x=>f0 x.1 x.2.1 x.2.2.1)]
def tab:Tab:=tv q140.F
def FV (f0:q140.T) (s:Store) (i:Int) (data:Str) (K:(Store×Int)->Prop):Prop:=
 (f0 s.disk i data fun r1=>(K ((⟨r1.1,s.sup,s.mask⟩:Store),r1.2)))
def F (s:Store) (i:Int) (data:Str) (K:(Store×Int)->Prop):Prop:=FV q140.F s i data K
def en:Entry:=mkEntry A C fun x=>F x.1 x.2.1 x.2.2.1
theorem eqv (f0:q140.T) (s:Store) (i:Int) (data:Str) (K:(Store×Int)->Prop):apure E (tv f0) (fun _=>none) 4 82 [enc (.st 8) s,enc (.int .i64) i,enc .str data] (ansK C K)=FV f0 s i data K:=by kernel_rfl
theorem loops:LoopsOk E tab (fun _=>none) 4 82:=lpn _ _ _ _
theorem det (s:Store) (i:Int) (data:Str):Det (F s i data):=by
 unfold F FV
 repeat' with_reducible first|exact det_ret _|refine det_bind (q140.det _ _ _) (fun _=>?_)
theorem edet a:Det (en a):=mkD (fun x:Dens A=>det x.1 x.2.1 x.2.2.1) a
theorem ground:Ground E tab:=gnd (tbc q140.sound (tab_nil _)) (dtc q140.edet dtn)
theorem sound:EntrySound E 82 en:=mkSound ground loops (by kernel_rfl) (fun x K=>eqv q140.F x.1 x.2.1 x.2.2.1 K)
end q141
namespace q142
abbrev A:List Ty:=[(.st 13),(.int .i64),.str]
abbrev C:=(cTwo (.st 13) .bool)
abbrev T:Type:=Node->Int->Str->((Node×Bool)->Prop)->Prop
def tv (f0:q138.T) (f1:q139.T) (f2:q141.T):Tab:=[(79,mkEntry q138.A q138.C fun x=>f0 x.1 x.2.1),(226,mkEntry q139.A q139.C fun x=>f1 x.1 x.2.1 x.2.2.1),(82,mkEntry q141.A q141.C fun x=>f2 x.1 x.2.1 x.2.2.1)]
def tab:Tab:=tv q138.F q139.F q141.F
def FV (f0:q138.T) (f1:q139.T) (f2:q141.T) (n_0:Node) (block:Int) (data:Str) (K:(Node×Bool)->Prop):Prop:=
 (f0 n_0.store block fun r1=>(f1 n_0 r1.1 r1.2 fun r2=>(bif(!r2.2)then(K (r2.1,false))else(f2 r2.1.store block data fun r3=>(f1 r2.1 r3.1 r3.2 fun r4=>(K (r4.1,r4.2)))))))
def F (n_0:Node) (block:Int) (data:Str) (K:(Node×Bool)->Prop):Prop:=FV q138.F q139.F q141.F n_0 block data K
def en:Entry:=mkEntry A C fun x=>F x.1 x.2.1 x.2.2.1
theorem eqv (f0:q138.T) (f1:q139.T) (f2:q141.T) (n_0:Node) (block:Int) (data:Str) (K:(Node×Bool)->Prop):apure E (tv f0 f1 f2) (fun _=>none) 4 200 [enc (.st 13) n_0,enc (.int .i64) block,enc .str data] (ansK C K)=FV f0 f1 f2 n_0 block data K:=by kernel_rfl
theorem loops:LoopsOk E tab (fun _=>none) 4 200:=lpn _ _ _ _
theorem det (n_0:Node) (block:Int) (data:Str):Det (F n_0 block data):=by
 unfold F FV
 repeat' with_reducible first|exact det_ret _|refine det_cond _ ?_ ?_|refine det_bind (q138.det _ _) (fun _=>?_)|refine det_bind (q139.det _ _ _) (fun _=>?_)|refine det_bind (q141.det _ _ _) (fun _=>?_)
theorem edet a:Det (en a):=mkD (fun x:Dens A=>det x.1 x.2.1 x.2.2.1) a
theorem ground:Ground E tab:=gnd (tbc q138.sound (tbc q139.sound (tbc q141.sound (tab_nil _)))) (dtc q138.edet (dtc q139.edet (dtc q141.edet dtn)))
theorem sound:EntrySound E 200 en:=mkSound ground loops (by kernel_rfl) (fun x K=>eqv q138.F q139.F q141.F x.1 x.2.1 x.2.2.1 K)
end q142
namespace q143
abbrev A:List Ty:=[(.st 13),(.int .i64),(.int .i64),.str]
abbrev C:=(cTwo (.st 13) (.slice (.st 11)))
abbrev T:Type:=Node->Int->Int->Str->((Node×(List Outp))->Prop)->Prop
def tv (f0:q108.T) (f1:q133.T) (f2:q142.T) (f3:q118.T):Tab:=[(51,mkEntry q108.A q108.C fun x=>f0 x.1 x.2.1 x.2.2.1 x.2.2.2.1),(199,mkEntry q133.A q133.C fun x=>f1 x.1),(200,mkEntry q142.A q142.C fun x=>f2 x.1 x.2.1 x.2.2.1),(49,mkEntry q118.A q118.C fun x=>f3 x.1 x.2.1)]
def tab:Tab:=tv q108.F q133.F q142.F q118.F
def FV (f0:q108.T) (f1:q133.T) (f2:q142.T) (f3:q118.T) (n_0:Node) (id:Int) (block:Int) (data:Str) (K:(Node×(List Outp))->Prop):Prop:=
 (bif(!n_0.up)then(f0 n_0 id 7 ([]:Str) fun r1=>(K (n_0,([r1]:List Outp))))else(bif(!n_0.primary)then(f0 n_0 id 8 ([]:Str) fun r2=>(K (n_0,([r2]:List Outp))))else(bif(decide (block < 0))then(f0 n_0 id 4 ([]:Str) fun r3=>(K (n_0,([r3]:List Outp))))else(bif(decide (block≥n_0.store.sup.blocks))then(f0 n_0 id 4 ([]:Str) fun r4=>(K (n_0,([r4]:List Outp))))else(bif((data.length:Int) != 8)then(f0 n_0 id 5 ([]:Str) fun r5=>(K (n_0,([r5]:List Outp))))else(bif n_0.req.on then(f0 n_0 id 11 ([]:Str) fun r6=>(K (n_0,([r6]:List Outp))))else(bif(n_0.state==1)then(f0 n_0 id 11 ([]:Str) fun r7=>(K (n_0,([r7]:List Outp))))else(bif(n_0.state==0)then(bif(!n_0.minted)then(f1 n_0 fun r8=>(bif(r8.2==6)then(K (r8.1,([]:List Outp)))else(bif(r8.2 != 0)then(f0 r8.1 id r8.2 ([]:Str) fun r9=>(K (r8.1,([r9]:List Outp))))else(f2 r8.1 block data fun r10=>(bif(!r10.2)then(K (r10.1,([]:List Outp)))else(bif(r10.1.state==0)then(f0 r10.1 id 0 ([]:Str) fun r11=>(K (r10.1,([r11]:List Outp))))else(f3 (⟨r10.1.id,r10.1.up,r10.1.store,r10.1.primary,r10.1.state,r10.1.session,r10.1.peer,r10.1.peerPri,(⟨true,id,block,data⟩:Req),r10.1.asking,r10.1.askId,r10.1.wanted,r10.1.minted,r10.1.draws,r10.1.mints⟩:Node) (⟨2,0,(⟨0,(⟨0,0,0,0⟩:Vec),false,false,false,false,0⟩:Hello),block,data⟩:Packet) fun r12=>(K ((⟨r10.1.id,r10.1.up,r10.1.store,r10.1.primary,r10.1.state,r10.1.session,r10.1.peer,r10.1.peerPri,(⟨true,id,block,data⟩:Req),r10.1.asking,r10.1.askId,r10.1.wanted,r10.1.minted,r10.1.draws,r10.1.mints⟩:Node),([(⟨1,r12.1,0,0,r12.2⟩:Outp)]:List Outp))))))))))else(f2 n_0 block data fun r13=>(bif(!r13.2)then(K (r13.1,([]:List Outp)))else(bif(r13.1.state==0)then(f0 r13.1 id 0 ([]:Str) fun r14=>(K (r13.1,([r14]:List Outp))))else(f3 (⟨r13.1.id,r13.1.up,r13.1.store,r13.1.primary,r13.1.state,r13.1.session,r13.1.peer,r13.1.peerPri,(⟨true,id,block,data⟩:Req),r13.1.asking,r13.1.askId,r13.1.wanted,r13.1.minted,r13.1.draws,r13.1.mints⟩:Node) (⟨2,0,(⟨0,(⟨0,0,0,0⟩:Vec),false,false,false,false,0⟩:Hello),block,data⟩:Packet) fun r15=>(K ((⟨r13.1.id,r13.1.up,r13.1.store,r13.1.primary,r13.1.state,r13.1.session,r13.1.peer,r13.1.peerPri,(⟨true,id,block,data⟩:Req),r13.1.asking,r13.1.askId,r13.1.wanted,r13.1.minted,r13.1.draws,r13.1.mints⟩:Node),([(⟨1,r15.1,0,0,r15.2⟩:Outp)]:List Outp))))))))else(f2 n_0 block data fun r16=>(bif(!r16.2)then(K (r16.1,([]:List Outp)))else(bif(r16.1.state==0)then(f0 r16.1 id 0 ([]:Str) fun r17=>(K (r16.1,([r17]:List Outp))))else(f3 (⟨r16.1.id,r16.1.up,r16.1.store,r16.1.primary,r16.1.state,r16.1.session,r16.1.peer,r16.1.peerPri,(⟨true,id,block,data⟩:Req),r16.1.asking,r16.1.askId,r16.1.wanted,r16.1.minted,r16.1.draws,r16.1.mints⟩:Node) (⟨2,0,(⟨0,(⟨0,0,0,0⟩:Vec),false,false,false,false,0⟩:Hello),block,data⟩:Packet) fun r18=>(K ((⟨r16.1.id,r16.1.up,r16.1.store,r16.1.primary,r16.1.state,r16.1.session,r16.1.peer,r16.1.peerPri,(⟨true,id,block,data⟩:Req),r16.1.asking,r16.1.askId,r16.1.wanted,r16.1.minted,r16.1.draws,r16.1.mints⟩:Node),([(⟨1,r18.1,0,0,r18.2⟩:Outp)]:List Outp)))))))))))))))
def F (n_0:Node) (id:Int) (block:Int) (data:Str) (K:(Node×(List Outp))->Prop):Prop:=FV q108.F q133.F q142.F q118.F n_0 id block data K
def en:Entry:=mkEntry A C fun x=>F x.1 x.2.1 x.2.2.1 x.2.2.2.1
theorem eqv (f0:q108.T) (f1:q133.T) (f2:q142.T) (f3:q118.T) (n_0:Node) (id:Int) (block:Int) (data:Str) (K:(Node×(List Outp))->Prop):apure E (tv f0 f1 f2 f3) (fun _=>none) 4 166 [enc (.st 13) n_0,enc (.int .i64) id,enc (.int .i64) block,enc .str data] (ansK C K)=FV f0 f1 f2 f3 n_0 id block data K:=by kernel_rfl
theorem loops:LoopsOk E tab (fun _=>none) 4 166:=lpn _ _ _ _
theorem det (n_0:Node) (id:Int) (block:Int) (data:Str):Det (F n_0 id block data):=by
 unfold F FV
 repeat' with_reducible first|exact det_ret _|refine det_cond _ ?_ ?_|refine det_bind (q108.det _ _ _ _) (fun _=>?_)|refine det_bind (q133.det _) (fun _=>?_)|refine det_bind (q142.det _ _ _) (fun _=>?_)|refine det_bind (q118.det _ _) (fun _=>?_)
theorem edet a:Det (en a):=mkD (fun x:Dens A=>det x.1 x.2.1 x.2.2.1 x.2.2.2.1) a
theorem ground:Ground E tab:=gnd (tbc q108.sound (tbc q133.sound (tbc q142.sound (tbc q118.sound (tab_nil _))))) (dtc q108.edet (dtc q133.edet (dtc q142.edet (dtc q118.edet dtn))))
theorem sound:EntrySound E 166 en:=mkSound ground loops (by kernel_rfl) (fun x K=>eqv q108.F q133.F q142.F q118.F x.1 x.2.1 x.2.2.1 x.2.2.2.1 K)
end q143
namespace q144
abbrev A:List Ty:=[(.st 3),.bool,(.int .u32)]
abbrev C:=(cTy (.st 4))
abbrev T:Type:=Super->Bool->Int->(Hello->Prop)->Prop
def tab:Tab:=[]
def F (s:Super) (primary:Bool) (m:Int) (K:Hello->Prop):Prop:=
 (bif s.pri then(K (⟨s.blocks,s.vector,s.inc,(!primary),s.dis,primary,m⟩:Hello))else(K (⟨s.blocks,s.vector,s.inc,false,s.dis,primary,m⟩:Hello)))
def en:Entry:=mkEntry A C fun x=>F x.1 x.2.1 x.2.2.1
theorem eqv (s:Super) (primary:Bool) (m:Int) (K:Hello->Prop):apure E tab (fun _=>none) 4 235 [enc (.st 3) s,enc .bool primary,enc (.int .u32) m] (ansK C K)=F s primary m K:=by kernel_rfl
theorem loops:LoopsOk E tab (fun _=>none) 4 235:=lpn _ _ _ _
theorem det (s:Super) (primary:Bool) (m:Int):Det (F s primary m):=by
 unfold F
 repeat' with_reducible first|exact det_ret _|refine det_cond _ ?_ ?_
theorem edet a:Det (en a):=mkD (fun x:Dens A=>det x.1 x.2.1 x.2.2.1) a
theorem ground:Ground E tab:=gnd (tab_nil _) dtn
theorem sound:EntrySound E 235 en:=mkSound ground loops (by kernel_rfl) (fun x K=>eqv  x.1 x.2.1 x.2.2.1 K)
end q144
namespace q145
abbrev A:List Ty:=[(.st 13)]
abbrev C:=(cTy (.st 4))
abbrev T:Type:=Node->(Hello->Prop)->Prop
def tv (f0:q144.T):Tab:=[(235,mkEntry q144.A q144.C fun x=>f0 x.1 x.2.1 x.2.2.1)]
def tab:Tab:=tv q144.F
def FV (f0:q144.T) (n_0:Node) (K:Hello->Prop):Prop:=
 (f0 n_0.store.sup n_0.primary n_0.store.mask fun r1=>(K r1))
def F (n_0:Node) (K:Hello->Prop):Prop:=FV q144.F n_0 K
def en:Entry:=mkEntry A C fun x=>F x.1
theorem eqv (f0:q144.T) (n_0:Node) (K:Hello->Prop):apure E (tv f0) (fun _=>none) 4 227 [enc (.st 13) n_0] (ansK C K)=FV f0 n_0 K:=by kernel_rfl
theorem loops:LoopsOk E tab (fun _=>none) 4 227:=lpn _ _ _ _
theorem det (n_0:Node):Det (F n_0):=by
 unfold F FV
 repeat' with_reducible first|exact det_ret _|refine det_bind (q144.det _ _ _) (fun _=>?_)
theorem edet a:Det (en a):=mkD (fun x:Dens A=>det x.1) a
theorem ground:Ground E tab:=gnd (tbc q144.sound (tab_nil _)) (dtc q144.edet dtn)
theorem sound:EntrySound E 227 en:=mkSound ground loops (by kernel_rfl) (fun x K=>eqv q144.F x.1 K)
end q145
namespace q146
abbrev A:List Ty:=[(.st 14),(.int .i64),(.slice .str)]
abbrev C:=(cTwo (.st 14) (.int .i64))
abbrev T:Type:=Link->Int->(List Str)->((Link×Int)->Prop)->Prop
def tab:Tab:=[]
def F (l:Link) (to:Int) (packets:(List Str)) (K:(Link×Int)->Prop):Prop:=
 (bif(to != 0)then(bif(to != 1)then(K (l,1))else(bif(!l.up)then(K (l,7))else(bif(to==0)then(bif(decide (l.to0.length * 16≤room))then(bif(decide ((l.to0.length+packets.length) * 16≤room))then(bif(to==0)then(K ((⟨l.up,l.session,(l.to0++packets),l.to1⟩:Link),0))else(bif(to==1)then(K ((⟨l.up,l.session,l.to0,(l.to0++packets)⟩:Link),0))else False))else False)else False)else(bif(to==1)then(bif(decide (l.to1.length * 16≤room))then(bif(decide ((l.to1.length+packets.length) * 16≤room))then(bif(to==0)then(K ((⟨l.up,l.session,(l.to1++packets),l.to1⟩:Link),0))else(bif(to==1)then(K ((⟨l.up,l.session,l.to0,(l.to1++packets)⟩:Link),0))else False))else False)else False)else False))))else(bif(!l.up)then(K (l,7))else(bif(to==0)then(bif(decide (l.to0.length * 16≤room))then(bif(decide ((l.to0.length+packets.length) * 16≤room))then(bif(to==0)then(K ((⟨l.up,l.session,(l.to0++packets),l.to1⟩:Link),0))else(bif(to==1)then(K ((⟨l.up,l.session,l.to0,(l.to0++packets)⟩:Link),0))else False))else False)else False)else(bif(to==1)then(bif(decide (l.to1.length * 16≤room))then(bif(decide ((l.to1.length+packets.length) * 16≤room))then(bif(to==0)then(K ((⟨l.up,l.session,(l.to1++packets),l.to1⟩:Link),0))else(bif(to==1)then(K ((⟨l.up,l.session,l.to0,(l.to1++packets)⟩:Link),0))else False))else False)else False)else False))))
def en:Entry:=mkEntry A C fun x=>F x.1 x.2.1 x.2.2.1
theorem eqv (l:Link) (to:Int) (packets:(List Str)) (K:(Link×Int)->Prop):apure E tab (fun _=>none) 4 217 [enc (.st 14) l,enc (.int .i64) to,enc (.slice .str) packets] (ansK C K)=F l to packets K:=by kernel_rfl
theorem loops:LoopsOk E tab (fun _=>none) 4 217:=lpn _ _ _ _
theorem det (l:Link) (to:Int) (packets:(List Str)):Det (F l to packets):=by
 unfold F
 repeat' with_reducible first|exact det_ret _|exact det_false|refine det_cond _ ?_ ?_
theorem edet a:Det (en a):=mkD (fun x:Dens A=>det x.1 x.2.1 x.2.2.1) a
theorem ground:Ground E tab:=gnd (tab_nil _) dtn
theorem sound:EntrySound E 217 en:=mkSound ground loops (by kernel_rfl) (fun x K=>eqv  x.1 x.2.1 x.2.2.1 K)
end q146
namespace q147
abbrev A:List Ty:=[(.st 14)]
abbrev C:=(cTy (.st 14))
abbrev T:Type:=Link->(Link->Prop)->Prop
def tab:Tab:=[]
def F (l:Link) (K:Link->Prop):Prop:=
 (K (⟨false,l.session,([]:List Str),([]:List Str)⟩:Link))
def en:Entry:=mkEntry A C fun x=>F x.1
theorem eqv (l:Link) (K:Link->Prop):apure E tab (fun _=>none) 4 203 [enc (.st 14) l] (ansK C K)=F l K:=by kernel_rfl
theorem loops:LoopsOk E tab (fun _=>none) 4 203:=lpn _ _ _ _
theorem det (l:Link):Det (F l):=by
 unfold F
 repeat' with_reducible first|exact det_ret _
theorem edet a:Det (en a):=mkD (fun x:Dens A=>det x.1) a
theorem ground:Ground E tab:=gnd (tab_nil _) dtn
theorem sound:EntrySound E 203 en:=mkSound ground loops (by kernel_rfl) (fun x K=>eqv  x.1 K)
end q147
namespace q148
abbrev A:List Ty:=[(.st 13)]
abbrev C:=(cTwo (.st 13) (.slice (.st 11)))
abbrev T:Type:=Node->((Node×(List Outp))->Prop)->Prop
def tv (f0:q108.T) (f1:q133.T):Tab:=[(51,mkEntry q108.A q108.C fun x=>f0 x.1 x.2.1 x.2.2.1 x.2.2.2.1),(199,mkEntry q133.A q133.C fun x=>f1 x.1)]
def tab:Tab:=tv q108.F q133.F
def FV (f0:q108.T) (f1:q133.T) (n_0:Node) (K:(Node×(List Outp))->Prop):Prop:=
 (bif(n_0.state==0)then(K (n_0,([]:List Outp)))else(bif n_0.asking then(f0 n_0 n_0.askId 13 ([]:Str) fun r1=>(bif(decide ((([]:List Outp).length+([r1]:List Outp).length) * 48≤room))then(bif(!n_0.req.on)then(K ((⟨n_0.id,n_0.up,n_0.store,n_0.primary,0,0,(⟨0,(⟨0,0,0,0⟩:Vec),false,false,false,false,0⟩:Hello),false,(⟨false,0,0,([]:Str)⟩:Req),false,0,0,false,n_0.draws,n_0.mints⟩:Node),(([]:List Outp)++([r1]:List Outp))))else(f1 (⟨n_0.id,n_0.up,n_0.store,n_0.primary,0,0,(⟨0,(⟨0,0,0,0⟩:Vec),false,false,false,false,0⟩:Hello),false,(⟨false,0,0,([]:Str)⟩:Req),false,0,0,false,n_0.draws,n_0.mints⟩:Node) fun r2=>(bif(r2.2==6)then(K (r2.1,(([]:List Outp)++([r1]:List Outp))))else(f0 r2.1 n_0.req.id r2.2 ([]:Str) fun r3=>(bif(decide (((([]:List Outp)++([r1]:List Outp)).length+([r3]:List Outp).length) * 48≤room))then(K (r2.1,((([]:List Outp)++([r1]:List Outp))++([r3]:List Outp))))else False)))))else False))else(bif(!n_0.req.on)then(K ((⟨n_0.id,n_0.up,n_0.store,n_0.primary,0,0,(⟨0,(⟨0,0,0,0⟩:Vec),false,false,false,false,0⟩:Hello),false,(⟨false,0,0,([]:Str)⟩:Req),false,0,0,false,n_0.draws,n_0.mints⟩:Node),([]:List Outp)))else(f1 (⟨n_0.id,n_0.up,n_0.store,n_0.primary,0,0,(⟨0,(⟨0,0,0,0⟩:Vec),false,false,false,false,0⟩:Hello),false,(⟨false,0,0,([]:Str)⟩:Req),false,0,0,false,n_0.draws,n_0.mints⟩:Node) fun r4=>(bif(r4.2==6)then(K (r4.1,([]:List Outp)))else(f0 r4.1 n_0.req.id r4.2 ([]:Str) fun r5=>(bif(decide ((([]:List Outp).length+([r5]:List Outp).length) * 48≤room))then(K (r4.1,(([]:List Outp)++([r5]:List Outp))))else False)))))))
def F (n_0:Node) (K:(Node×(List Outp))->Prop):Prop:=FV q108.F q133.F n_0 K
def en:Entry:=mkEntry A C fun x=>F x.1
theorem eqv (f0:q108.T) (f1:q133.T) (n_0:Node) (K:(Node×(List Outp))->Prop):apure E (tv f0 f1) (fun _=>none) 4 204 [enc (.st 13) n_0] (ansK C K)=FV f0 f1 n_0 K:=by kernel_rfl
theorem loops:LoopsOk E tab (fun _=>none) 4 204:=lpn _ _ _ _
theorem det (n_0:Node):Det (F n_0):=by
 unfold F FV
 repeat' with_reducible first|exact det_ret _|exact det_false|refine det_cond _ ?_ ?_|refine det_bind (q108.det _ _ _ _) (fun _=>?_)|refine det_bind (q133.det _) (fun _=>?_)
theorem edet a:Det (en a):=mkD (fun x:Dens A=>det x.1) a
theorem ground:Ground E tab:=gnd (tbc q108.sound (tbc q133.sound (tab_nil _))) (dtc q108.edet (dtc q133.edet dtn))
theorem sound:EntrySound E 204 en:=mkSound ground loops (by kernel_rfl) (fun x K=>eqv q108.F q133.F x.1 K)
end q148
end Gm
end
