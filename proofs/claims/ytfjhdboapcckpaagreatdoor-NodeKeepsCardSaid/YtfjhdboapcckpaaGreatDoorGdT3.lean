/- Printed by a program (gen.py): the functions' answers, and that they are so. -/
import Derived.Test.YtfjhdboapcckpaaGreatDoorGdT2
set_option linter.unusedVariables false
set_option maxRecDepth 100000
noncomputable section
namespace Gm
open Go Go.Proofs
namespace q82
abbrev A:List Ty:=[(.st 1),(.slice .bool)]
abbrev C:=(cTy (.st 1))
abbrev T:Type:=Disk->(List Bool)->(Disk->Prop)->Prop
def tv (f0:q74.T):Tab:=[(94,mkEntry q74.A q74.C fun x=>f0 x.1 x.2.1)]
def tab:Tab:=tv q74.F
structure R where
def cR (_:R):St:={ fr:=fun _=>.top,hs:=hs0 }
def kR:Keep:={ ks:=[],bs:=[],hn:=0 }
structure L0 where
 keeps:(List Bool)
 kept:(List Write)
 t9:(List Write)
 t10:Int
 t11:Int
 m0:Disk
 m1:Disk
def c0 (x:L0):St:={ fr:=lookL .top [(1,(.sl .any .bool x.keeps)),(2,(.ptr 0 0)),(4,(.ptr 1 0)),(5,(.slr 2)),(9,(.sl .any (.st 0) x.t9)),(10,(.int .i64 x.t10)),(11,(.int .i64 x.t11))],hs:={ hp:=lookL .dead [(2,(.row false (.st 0) x.kept)),(0,(.cells (encS 1 x.m0))),(1,(.cells (encS 1 x.m1)))],hn:=3 } }
def kp0:Keep:={ ks:=[(1,none),(2,none),(4,none),(5,some 2),(9,none),(10,none),(11,none)],bs:=[0,1],hn:=3,ts:=[(0,1),(1,1)] }
def p0 (st:St) (K:L0->Prop):Prop:=gHomes kp0 st <| gSl .any .bool (st.fr 1) fun a1=>gPtr 0 0 (st.fr 2) <| gPtr 1 0 (st.fr 4) <| gSlr (st.fr 5) fun c2=>gRow false (.st 0) (st.hs.hp c2) fun a3=>gSl .any (.st 0) (st.fr 9) fun a4=>gInt .i64 (st.fr 10) fun a5=>gInt .i64 (st.fr 11) fun a6=>gBlkS 1 (st.hs.hp 0) fun a7=>gBlkS 1 (st.hs.hp 1) fun a8=>K ⟨a1,a3,a4,a5,a6,a7,a8⟩
set_option maxHeartbeats 4000000 in
theorem p0_ok (st:St) (K:L0->Prop) (h:p0 st K):∃ x,keepSt kp0 st=c0 x∧K x:=by
 obtain ⟨h0,h⟩:=gHomes_elim h
 obtain ⟨a1,h1,h⟩:=gSl_elim h
 obtain ⟨h2,h⟩:=gPtr_elim h
 obtain ⟨h3,h⟩:=gPtr_elim h
 obtain ⟨c2,h4,h⟩:=gSlr_elim h
 obtain ⟨a3,h5,h⟩:=gRow_elim h
 obtain ⟨a4,h6,h⟩:=gSl_elim h
 obtain ⟨a5,h7,h⟩:=gInt_elim h
 obtain ⟨a6,h8,h⟩:=gInt_elim h
 obtain ⟨z9,a7,h9,y9,h⟩:=gBlkS_elim h
 have q9:∀ ok,keptB kp0 ok 0 (.cells z9)=.cells (encS 1 a7):=fun _=>y9
 simp only [kp0] at q9
 obtain ⟨z10,a8,h10,y10,h⟩:=gBlkS_elim h
 have q10:∀ ok,keptB kp0 ok 1 (.cells z10)=.cells (encS 1 a8):=fun _=>y10
 simp only [kp0] at q10
 refine⟨_,?_,h⟩
 simp only [keepSt,h0]
 simp only [kp0,List.map,List.filterMap,homeOf,h1,h2,h3,h4,h5,h6,h7,h8,h9,h10,q9,q10,hmOf,List.append_nil,cond_true]
 rfl
def b0V (f0:q74.T) (rec kx:L0->Prop) (kr:R->Prop) (x:L0):Prop:=
 (bif(decide (x.t11 < x.t10))then(oget (getI x.t9 x.t11) fun v1=>(bif(decide (x.t11 < (x.keeps.length:Int)))then(oget (getI x.keeps x.t11) fun v2=>(bif v2 then(bif(decide ((x.kept.length+([v1]:List Write).length) * 24≤room))then(rec ⟨x.keeps,(x.kept++([v1]:List Write)),x.t9,x.t10,(IntKind.i64.wrap (x.t11+1)),x.m0,x.m1⟩)else False)else(rec ⟨x.keeps,x.kept,x.t9,x.t10,(IntKind.i64.wrap (x.t11+1)),x.m0,x.m1⟩)))else(rec ⟨x.keeps,x.kept,x.t9,x.t10,(IntKind.i64.wrap (x.t11+1)),x.m0,x.m1⟩)))else(kx ⟨x.keeps,x.kept,x.t9,x.t10,x.t11,x.m0,x.m1⟩))
def ltV (f0:q74.T):Nat->Option LSpec
 | 0=>some (mkLoop 0 kp0 kR p0 c0 cR (b0V f0))
 | _=>none
def lt:Nat->Option LSpec:=ltV q74.F
def FV (f0:q74.T) (d:Disk) (keeps:(List Bool)) (K:Disk->Prop):Prop:=
 (∃ n,loopB (b0V f0) n (fun x3=>(f0 x3.m0.sure x3.kept fun r5=>(K (⟨r5,([]:List Write),0,false⟩:Disk)))) (fun _=>False) ⟨keeps,([]:List Write),d.cache,(d.cache.length:Int),0,d,(⟨([]:List Str),([]:List Write),0,false⟩:Disk)⟩)
def F (d:Disk) (keeps:(List Bool)) (K:Disk->Prop):Prop:=FV q74.F d keeps K
def en:Entry:=mkEntry A C fun x=>F x.1 x.2.1
theorem eqv (f0:q74.T) (d:Disk) (keeps:(List Bool)) (K:Disk->Prop):apure E (tv f0) (ltV f0) 4 64 [enc (.st 1) d,enc (.slice .bool) keeps] (ansK C K)=FV f0 d keeps K:=by kernel_rfl
theorem l0v (f0:q74.T) (R:St->Prop) (Kx:Nat->St->Prop) (Kr:St->Prop) (x:L0):acode E (tv f0) (afun E (tv f0) 4) 36 (ltV f0) ((loopsIn E.P 64).getD 0 (0,.skip)).2 0 (fun s=>R (keepSt kp0 s)) (fun j s=>Kx j (keepSt kp0 s)) (fun s=>Kr (keepSt kR s)) (c0 x)=b0V f0 (fun x=>R (c0 x)) (fun x=>Kx 0 (c0 x)) (fun r=>Kr (cR r)) x:=by kernel_rfl
theorem l0_ok:LSound E tab (afun E tab 4) 36 lt 0 ((loopsIn E.P 64).getD 0 (0,.skip)).2 (mkLoop 0 kp0 kR p0 c0 cR (b0V q74.F)):=mkLoop_sound (by decide) (by decide) p0_ok (fun R Kx Kr x=>l0v q74.F R Kx Kr x)
theorem loops:LoopsOk E tab lt 4 64:=loops_of (nt:=36) (ids:=[0]) (by kernel_rfl) (by kernel_rfl) (by
 intro k i hk l hl
 match k,hk with
 | 0,hk=>cases hk;cases hl;exact l0_ok
 | _+1,hk=>exact absurd hk (by simp))
theorem det (d:Disk) (keeps:(List Bool)):Det (F d keeps):=by
 unfold F FV
 repeat' with_reducible first|exact det_ret _|exact det_false|refine det_cond _ ?_ ?_|refine det_oget _ (fun _=>?_)|refine det_bind (q74.det _ _) (fun _=>?_)|refine det_loop (fun _=>?_) (fun _=>?_) (fun _=>?_) _ | unfold b0V
theorem edet a:Det (en a):=mkD (fun x:Dens A=>det x.1 x.2.1) a
theorem ground:Ground E tab:=gnd (tbc q74.sound (tab_nil _)) (dtc q74.edet dtn)
theorem sound:EntrySound E 64 en:=mkSound ground loops (by kernel_rfl) (fun x K=>eqv q74.F x.1 x.2.1 K)
end q82
namespace q83
abbrev A:List Ty:=[.str]
abbrev C:=(cTy (.int .u64))
abbrev T:Type:=Str->(Int->Prop)->Prop
def tab:Tab:=[]
structure R where
def cR (_:R):St:={ fr:=fun _=>.top,hs:=hs0 }
def kR:Keep:={ ks:=[],bs:=[],hn:=0 }
structure L0 where
 s:Str
 n0:Int
 t5:Int
 t6:Int
def c0 (x:L0):St:={ fr:=lookL .top [(0,(.str x.s)),(2,(.int .u64 x.n0)),(5,(.int .i64 x.t5)),(6,(.int .i64 x.t6))],hs:={ hp:=lookL .dead [],hn:=0 } }
def kp0:Keep:={ ks:=[(0,none),(2,none),(5,none),(6,none)],bs:=[],hn:=0 }
def p0 (st:St) (K:L0->Prop):Prop:=gStr (st.fr 0) fun a1=>gInt .u64 (st.fr 2) fun a2=>gInt .i64 (st.fr 5) fun a3=>gInt .i64 (st.fr 6) fun a4=>K ⟨a1,a2,a3,a4⟩
set_option maxHeartbeats 4000000 in
theorem p0_ok (st:St) (K:L0->Prop) (h:p0 st K):∃ x,keepSt kp0 st=c0 x∧K x:=by
 obtain ⟨a1,h0,h⟩:=gStr_elim h
 obtain ⟨a2,h1,h⟩:=gInt_elim h
 obtain ⟨a3,h2,h⟩:=gInt_elim h
 obtain ⟨a4,h3,h⟩:=gInt_elim h
 refine⟨_,?_,h⟩
 simp only [keepSt,kp0,List.map,h0,h1,h2,h3]
 rfl
def b0 (rec kx:L0->Prop) (kr:R->Prop) (x:L0):Prop:=
 (bif(decide (x.t6 < x.t5))then(oget (getI x.s x.t6) fun v1=>(rec ⟨x.s,(ior .u64 (ishl .u64 x.n0 8) (IntKind.u64.wrap (v1.toNat:Int))),x.t5,(IntKind.i64.wrap (x.t6+1))⟩))else(kx ⟨x.s,x.n0,x.t5,x.t6⟩))
def lt:Nat->Option LSpec
 | 0=>some (mkLoop 0 kp0 kR p0 c0 cR b0)
 | _=>none
def F (s:Str) (K:Int->Prop):Prop:=
 (∃ n,loopB b0 n (fun x2=>(K x2.n0)) (fun _=>False) ⟨s,0,(s.length:Int),0⟩)
def en:Entry:=mkEntry A C fun x=>F x.1
theorem eqv (s:Str) (K:Int->Prop):apure E tab lt 4 159 [enc .str s] (ansK C K)=F s K:=by kernel_rfl
theorem l0v (R:St->Prop) (Kx:Nat->St->Prop) (Kr:St->Prop) (x:L0):acode E tab (afun E tab 4) 18 lt ((loopsIn E.P 159).getD 0 (0,.skip)).2 0 (fun s=>R (keepSt kp0 s)) (fun j s=>Kx j (keepSt kp0 s)) (fun s=>Kr (keepSt kR s)) (c0 x)=b0 (fun x=>R (c0 x)) (fun x=>Kx 0 (c0 x)) (fun r=>Kr (cR r)) x:=by kernel_rfl
theorem l0_ok:LSound E tab (afun E tab 4) 18 lt 0 ((loopsIn E.P 159).getD 0 (0,.skip)).2 (mkLoop 0 kp0 kR p0 c0 cR b0):=mkLoop_sound (by decide) (by decide) p0_ok (fun R Kx Kr x=>l0v  R Kx Kr x)
theorem loops:LoopsOk E tab lt 4 159:=loops_of (nt:=18) (ids:=[0]) (by kernel_rfl) (by kernel_rfl) (by
 intro k i hk l hl
 match k,hk with
 | 0,hk=>cases hk;cases hl;exact l0_ok
 | _+1,hk=>exact absurd hk (by simp))
theorem det (s:Str):Det (F s):=by
 unfold F
 repeat' with_reducible first|exact det_ret _|exact det_false|refine det_cond _ ?_ ?_|refine det_oget _ (fun _=>?_)|refine det_loop (fun _=>?_) (fun _=>?_) (fun _=>?_) _ | unfold b0
theorem edet a:Det (en a):=mkD (fun x:Dens A=>det x.1) a
theorem ground:Ground E tab:=gnd (tab_nil _) dtn
theorem sound:EntrySound E 159 en:=mkSound ground loops (by kernel_rfl) (fun x K=>eqv  x.1 K)
end q83
namespace q84
abbrev A:List Ty:=[.str]
abbrev C:=(cTwo (.int .u32) .bool)
abbrev T:Type:=Str->((Int×Bool)->Prop)->Prop
def tv (f0:q83.T):Tab:=[(159,mkEntry q83.A q83.C fun x=>f0 x.1)]
def tab:Tab:=tv q83.F
def FV (f0:q83.T) (s:Str) (K:(Int×Bool)->Prop):Prop:=
 (bif((s.length:Int) != 4)then(K (0,false))else(f0 s fun r1=>(K ((IntKind.u32.wrap r1),true))))
def F (s:Str) (K:(Int×Bool)->Prop):Prop:=FV q83.F s K
def en:Entry:=mkEntry A C fun x=>F x.1
theorem eqv (f0:q83.T) (s:Str) (K:(Int×Bool)->Prop):apure E (tv f0) (fun _=>none) 4 115 [enc .str s] (ansK C K)=FV f0 s K:=by kernel_rfl
theorem loops:LoopsOk E tab (fun _=>none) 4 115:=lpn _ _ _ _
theorem det (s:Str):Det (F s):=by
 unfold F FV
 repeat' with_reducible first|exact det_ret _|refine det_cond _ ?_ ?_|refine det_bind (q83.det _) (fun _=>?_)
theorem edet a:Det (en a):=mkD (fun x:Dens A=>det x.1) a
theorem ground:Ground E tab:=gnd (tbc q83.sound (tab_nil _)) (dtc q83.edet dtn)
theorem sound:EntrySound E 115 en:=mkSound ground loops (by kernel_rfl) (fun x K=>eqv q83.F x.1 K)
end q84
namespace q85
abbrev A:List Ty:=[.str]
abbrev C:=(cTwo .str (.int .i64))
abbrev T:Type:=Str->((Str×Int)->Prop)->Prop
def tv (f0:q84.T) (f1:q64.T):Tab:=[(115,mkEntry q84.A q84.C fun x=>f0 x.1),(153,mkEntry q64.A q64.C fun x=>f1 x.1)]
def tab:Tab:=tv q84.F q64.F
def FV (f0:q84.T) (f1:q64.T) (s:Str) (K:(Str×Int)->Prop):Prop:=
 (bif(decide ((IntKind.i64.wrap ((s.length:Int) - 4)) < 0))then(K (([]:Str),2))else(bif(decide (0≤(IntKind.i64.wrap ((s.length:Int) - 4)))&&decide ((IntKind.i64.wrap ((s.length:Int) - 4))≤(s.length:Int)))then(f0 (sub s (Int.toNat (IntKind.i64.wrap ((s.length:Int) - 4))) s.length) fun r1=>(bif(decide (0≤(IntKind.i64.wrap ((s.length:Int) - 4)))&&decide ((IntKind.i64.wrap ((s.length:Int) - 4))≤(s.length:Int)))then(f1 (sub s 0 (Int.toNat (IntKind.i64.wrap ((s.length:Int) - 4)))) fun r2=>(bif(r1.1 != r2)then(K (([]:Str),3))else(bif(decide (0≤(IntKind.i64.wrap ((s.length:Int) - 4)))&&decide ((IntKind.i64.wrap ((s.length:Int) - 4))≤(s.length:Int)))then(K ((sub s 0 (Int.toNat (IntKind.i64.wrap ((s.length:Int) - 4)))),0))else False)))else False))else False))
def F (s:Str) (K:(Str×Int)->Prop):Prop:=FV q84.F q64.F s K
def en:Entry:=mkEntry A C fun x=>F x.1
theorem eqv (f0:q84.T) (f1:q64.T) (s:Str) (K:(Str×Int)->Prop):apure E (tv f0 f1) (fun _=>none) 4 114 [enc .str s] (ansK C K)=FV f0 f1 s K:=by kernel_rfl
theorem loops:LoopsOk E tab (fun _=>none) 4 114:=lpn _ _ _ _
theorem det (s:Str):Det (F s):=by
 unfold F FV
 repeat' with_reducible first|exact det_ret _|exact det_false|refine det_cond _ ?_ ?_|refine det_bind (q84.det _) (fun _=>?_)|refine det_bind (q64.det _) (fun _=>?_)
theorem edet a:Det (en a):=mkD (fun x:Dens A=>det x.1) a
theorem ground:Ground E tab:=gnd (tbc q84.sound (tbc q64.sound (tab_nil _))) (dtc q84.edet (dtc q64.edet dtn))
theorem sound:EntrySound E 114 en:=mkSound ground loops (by kernel_rfl) (fun x K=>eqv q84.F q64.F x.1 K)
end q85
namespace q86
abbrev A:List Ty:=[.str,.str]
abbrev C:=(cTy .bool)
abbrev T:Type:=Str->Str->(Bool->Prop)->Prop
def tab:Tab:=[]
def F (s:Str) (prefix_1:Str) (K:Bool->Prop):Prop:=
 (bif(decide ((s.length:Int)≥(prefix_1.length:Int)))then(bif(decide (0≤(prefix_1.length:Int))&&decide ((prefix_1.length:Int)≤(s.length:Int)))then(K ((sub s 0 (Int.toNat (prefix_1.length:Int)))==prefix_1))else False)else(K false))
def en:Entry:=mkEntry A C fun x=>F x.1 x.2.1
theorem eqv (s:Str) (prefix_1:Str) (K:Bool->Prop):apure E tab (fun _=>none) 4 240 [enc .str s,enc .str prefix_1] (ansK C K)=F s prefix_1 K:=by kernel_rfl
theorem loops:LoopsOk E tab (fun _=>none) 4 240:=lpn _ _ _ _
theorem det (s:Str) (prefix_1:Str):Det (F s prefix_1):=by
 unfold F
 repeat' with_reducible first|exact det_ret _|exact det_false|refine det_cond _ ?_ ?_
theorem edet a:Det (en a):=mkD (fun x:Dens A=>det x.1 x.2.1) a
theorem ground:Ground E tab:=gnd (tab_nil _) dtn
theorem sound:EntrySound E 240 en:=mkSound ground loops (by kernel_rfl) (fun x K=>eqv  x.1 x.2.1 K)
end q86
namespace q87
abbrev A:List Ty:=[.str,.str]
abbrev C:=(cTwo .str .bool)
abbrev T:Type:=Str->Str->((Str×Bool)->Prop)->Prop
def tv (f0:q86.T):Tab:=[(240,mkEntry q86.A q86.C fun x=>f0 x.1 x.2.1)]
def tab:Tab:=tv q86.F
def FV (f0:q86.T) (s:Str) (prefix_1:Str) (K:(Str×Bool)->Prop):Prop:=
 (f0 s prefix_1 fun r1=>(bif(!r1)then(K (s,false))else(bif(decide (0≤(prefix_1.length:Int))&&decide ((prefix_1.length:Int)≤(s.length:Int)))then(K ((sub s (Int.toNat (prefix_1.length:Int)) s.length),true))else False)))
def F (s:Str) (prefix_1:Str) (K:(Str×Bool)->Prop):Prop:=FV q86.F s prefix_1 K
def en:Entry:=mkEntry A C fun x=>F x.1 x.2.1
theorem eqv (f0:q86.T) (s:Str) (prefix_1:Str) (K:(Str×Bool)->Prop):apure E (tv f0) (fun _=>none) 4 234 [enc .str s,enc .str prefix_1] (ansK C K)=FV f0 s prefix_1 K:=by kernel_rfl
theorem loops:LoopsOk E tab (fun _=>none) 4 234:=lpn _ _ _ _
theorem det (s:Str) (prefix_1:Str):Det (F s prefix_1):=by
 unfold F FV
 repeat' with_reducible first|exact det_ret _|exact det_false|refine det_cond _ ?_ ?_|refine det_bind (q86.det _ _) (fun _=>?_)
theorem edet a:Det (en a):=mkD (fun x:Dens A=>det x.1 x.2.1) a
theorem ground:Ground E tab:=gnd (tbc q86.sound (tab_nil _)) (dtc q86.edet dtn)
theorem sound:EntrySound E 234 en:=mkSound ground loops (by kernel_rfl) (fun x K=>eqv q86.F x.1 x.2.1 K)
end q87
namespace q88
abbrev A:List Ty:=[.str,.str]
abbrev C:=(cTwo .str .bool)
abbrev T:Type:=Str->Str->((Str×Bool)->Prop)->Prop
def tv (f0:q87.T):Tab:=[(234,mkEntry q87.A q87.C fun x=>f0 x.1 x.2.1)]
def tab:Tab:=tv q87.F
def FV (f0:q87.T) (s:Str) (prefix_1:Str) (K:(Str×Bool)->Prop):Prop:=
 (f0 s prefix_1 fun r1=>(K (r1.1,r1.2)))
def F (s:Str) (prefix_1:Str) (K:(Str×Bool)->Prop):Prop:=FV q87.F s prefix_1 K
def en:Entry:=mkEntry A C fun x=>F x.1 x.2.1
theorem eqv (f0:q87.T) (s:Str) (prefix_1:Str) (K:(Str×Bool)->Prop):apure E (tv f0) (fun _=>none) 4 220 [enc .str s,enc .str prefix_1] (ansK C K)=FV f0 s prefix_1 K:=by kernel_rfl
theorem loops:LoopsOk E tab (fun _=>none) 4 220:=lpn _ _ _ _
theorem det (s:Str) (prefix_1:Str):Det (F s prefix_1):=by
 unfold F FV
 repeat' with_reducible first|exact det_ret _|refine det_bind (q87.det _ _) (fun _=>?_)
theorem edet a:Det (en a):=mkD (fun x:Dens A=>det x.1 x.2.1) a
theorem ground:Ground E tab:=gnd (tbc q87.sound (tab_nil _)) (dtc q87.edet dtn)
theorem sound:EntrySound E 220 en:=mkSound ground loops (by kernel_rfl) (fun x K=>eqv q87.F x.1 x.2.1 K)
end q88
namespace q89
abbrev A:List Ty:=[(.int .u8),(.int .i64)]
abbrev C:=(cTwo (.slice .bool) .bool)
abbrev T:Type:=Int->Int->(((List Bool)×Bool)->Prop)->Prop
def tab:Tab:=[]
structure R where
def cR (_:R):St:={ fr:=fun _=>.top,hs:=hs0 }
def kR:Keep:={ ks:=[],bs:=[],hn:=0 }
structure L0 where
 b0:Int
 l:(List Bool)
 t23:Int
 t24:Int
def c0 (x:L0):St:={ fr:=lookL .top [(0,(.int .u8 x.b0)),(6,(.slr 1)),(23,(.int .i64 x.t23)),(24,(.int .i64 x.t24))],hs:={ hp:=lookL .dead [(1,(.row false .bool x.l))],hn:=2 } }
def kp0:Keep:={ ks:=[(0,none),(6,some 1),(23,none),(24,none)],bs:=[],hn:=2 }
def p0 (st:St) (K:L0->Prop):Prop:=gHomes kp0 st <| gInt .u8 (st.fr 0) fun a1=>gSlr (st.fr 6) fun c2=>gRow false .bool (st.hs.hp c2) fun a3=>gInt .i64 (st.fr 23) fun a4=>gInt .i64 (st.fr 24) fun a5=>K ⟨a1,a3,a4,a5⟩
set_option maxHeartbeats 4000000 in
theorem p0_ok (st:St) (K:L0->Prop) (h:p0 st K):∃ x,keepSt kp0 st=c0 x∧K x:=by
 obtain ⟨h0,h⟩:=gHomes_elim h
 obtain ⟨a1,h1,h⟩:=gInt_elim h
 obtain ⟨c2,h2,h⟩:=gSlr_elim h
 obtain ⟨a3,h3,h⟩:=gRow_elim h
 obtain ⟨a4,h4,h⟩:=gInt_elim h
 obtain ⟨a5,h5,h⟩:=gInt_elim h
 refine⟨_,?_,h⟩
 simp only [keepSt,h0]
 simp only [kp0,List.map,List.filterMap,homeOf,h1,h2,h3,h4,h5,hmOf,List.append_nil,cond_true]
 rfl
def b0 (rec kx:L0->Prop) (kr:R->Prop) (x:L0):Prop:=
 (bif(decide (x.t24 < x.t23))then(bif(decide (0≤x.t24))then(bif(decide (0≤x.t24)&&decide (x.t24 < (x.l.length:Int)))then(rec ⟨x.b0,(x.l.set (Int.toNat x.t24) ((iand .u8 (ishr .u8 x.b0 x.t24) 1)==1)),x.t23,(IntKind.i64.wrap (x.t24+1))⟩)else False)else False)else(kx ⟨x.b0,x.l,x.t23,x.t24⟩))
def lt:Nat->Option LSpec
 | 0=>some (mkLoop 0 kp0 kR p0 c0 cR b0)
 | _=>none
def F (b_0:Int) (n_1:Int) (K:((List Bool)×Bool)->Prop):Prop:=
 (bif(decide (n_1 < 0))then(K (([]:List Bool),false))else(bif(decide (n_1 > 8))then(K (([]:List Bool),false))else(bif(decide (0≤n_1))then(bif((ishr .u8 b_0 n_1) != 0)then(K (([]:List Bool),false))else(bif(n_1==n_1&&(decide (0≤n_1)&&decide (n_1 * (1:Nat)≤(room:Int))))then(∃ n,loopB b0 n (fun x1=>(K (x1.l,true))) (fun _=>False) ⟨b_0,(List.replicate (Int.toNat n_1) (false:Bool)),((List.replicate (Int.toNat n_1) (false:Bool)).length:Int),0⟩)else False))else False)))
def en:Entry:=mkEntry A C fun x=>F x.1 x.2.1
theorem eqv (b_0:Int) (n_1:Int) (K:((List Bool)×Bool)->Prop):apure E tab lt 4 221 [enc (.int .u8) b_0,enc (.int .i64) n_1] (ansK C K)=F b_0 n_1 K:=by kernel_rfl
theorem l0v (R:St->Prop) (Kx:Nat->St->Prop) (Kr:St->Prop) (x:L0):acode E tab (afun E tab 4) 37 lt ((loopsIn E.P 221).getD 0 (0,.skip)).2 0 (fun s=>R (keepSt kp0 s)) (fun j s=>Kx j (keepSt kp0 s)) (fun s=>Kr (keepSt kR s)) (c0 x)=b0 (fun x=>R (c0 x)) (fun x=>Kx 0 (c0 x)) (fun r=>Kr (cR r)) x:=by kernel_rfl
theorem l0_ok:LSound E tab (afun E tab 4) 37 lt 0 ((loopsIn E.P 221).getD 0 (0,.skip)).2 (mkLoop 0 kp0 kR p0 c0 cR b0):=mkLoop_sound (by decide) (by decide) p0_ok (fun R Kx Kr x=>l0v  R Kx Kr x)
theorem loops:LoopsOk E tab lt 4 221:=loops_of (nt:=37) (ids:=[0]) (by kernel_rfl) (by kernel_rfl) (by
 intro k i hk l hl
 match k,hk with
 | 0,hk=>cases hk;cases hl;exact l0_ok
 | _+1,hk=>exact absurd hk (by simp))
theorem det (b_0:Int) (n_1:Int):Det (F b_0 n_1):=by
 unfold F
 repeat' with_reducible first|exact det_ret _|exact det_false|refine det_cond _ ?_ ?_|refine det_loop (fun _=>?_) (fun _=>?_) (fun _=>?_) _ | unfold b0
theorem edet a:Det (en a):=mkD (fun x:Dens A=>det x.1 x.2.1) a
theorem ground:Ground E tab:=gnd (tab_nil _) dtn
theorem sound:EntrySound E 221 en:=mkSound ground loops (by kernel_rfl) (fun x K=>eqv  x.1 x.2.1 K)
end q89
namespace q90
abbrev A:List Ty:=[.str]
abbrev C:=(cTwo (.int .u64) .bool)
abbrev T:Type:=Str->((Int×Bool)->Prop)->Prop
def tv (f0:q83.T):Tab:=[(159,mkEntry q83.A q83.C fun x=>f0 x.1)]
def tab:Tab:=tv q83.F
def FV (f0:q83.T) (s:Str) (K:(Int×Bool)->Prop):Prop:=
 (bif((s.length:Int) != 8)then(K (0,false))else(f0 s fun r1=>(K (r1,true))))
def F (s:Str) (K:(Int×Bool)->Prop):Prop:=FV q83.F s K
def en:Entry:=mkEntry A C fun x=>F x.1
theorem eqv (f0:q83.T) (s:Str) (K:(Int×Bool)->Prop):apure E (tv f0) (fun _=>none) 4 222 [enc .str s] (ansK C K)=FV f0 s K:=by kernel_rfl
theorem loops:LoopsOk E tab (fun _=>none) 4 222:=lpn _ _ _ _
theorem det (s:Str):Det (F s):=by
 unfold F FV
 repeat' with_reducible first|exact det_ret _|refine det_cond _ ?_ ?_|refine det_bind (q83.det _) (fun _=>?_)
theorem edet a:Det (en a):=mkD (fun x:Dens A=>det x.1) a
theorem ground:Ground E tab:=gnd (tbc q83.sound (tab_nil _)) (dtc q83.edet dtn)
theorem sound:EntrySound E 222 en:=mkSound ground loops (by kernel_rfl) (fun x K=>eqv q83.F x.1 K)
end q90
namespace q91
abbrev A:List Ty:=[.str]
abbrev C:=(cTwo (.st 3) (.int .i64))
abbrev T:Type:=Str->((Super×Int)->Prop)->Prop
def tv (f0:q85.T) (f1:q88.T) (f2:q89.T) (f3:q90.T) (f4:q67.T):Tab:=[(114,mkEntry q85.A q85.C fun x=>f0 x.1),(157,errors_Is.en),(220,mkEntry q88.A q88.C fun x=>f1 x.1 x.2.1),(221,mkEntry q89.A q89.C fun x=>f2 x.1 x.2.1),(222,mkEntry q90.A q90.C fun x=>f3 x.1),(181,mkEntry q67.A q67.C fun x=>f4 x.1)]
def tab:Tab:=tv q85.F q88.F q89.F q90.F q67.F
def FV (f0:q85.T) (f1:q88.T) (f2:q89.T) (f3:q90.T) (f4:q67.T) (b_0:Str) (K:(Super×Int)->Prop):Prop:=
 (f0 b_0 fun r1=>(bif(r1.2 != 0)then False else(f1 r1.1 ([71,77,1]:Str) fun r2=>(bif(!r2.2)then False else(bif(decide ((r2.1.length:Int) < 2))then False else(oget (getI r2.1 1) fun v3=>(f2 (v3.toNat:Int) 3 fun r4=>(bif(!r4.2)then False else(oget (getI r2.1 0) fun v5=>(oget (getI r4.1 0) fun v6=>(oget (getI r4.1 1) fun v7=>(oget (getI r4.1 2) fun v8=>(bif(decide (0≤2)&&decide (2≤(r2.1.length:Int)))then((((bif(((sub r2.1 (Int.toNat 2) r2.1.length).length:Int) != 32)then((False∧True)∧True)else(bif(decide (0≤0)&&decide (0≤8)&&decide (8≤((sub r2.1 (Int.toNat 2) r2.1.length).length:Int)))then(f3 (sub (sub r2.1 (Int.toNat 2) r2.1.length) (Int.toNat 0) (Int.toNat 8)) fun r19=>(bif(decide (0≤8)&&decide (8≤16)&&decide (16≤((sub r2.1 (Int.toNat 2) r2.1.length).length:Int)))then(f3 (sub (sub r2.1 (Int.toNat 2) r2.1.length) (Int.toNat 8) (Int.toNat 16)) fun r20=>(bif(decide (0≤16)&&decide (16≤24)&&decide (24≤((sub r2.1 (Int.toNat 2) r2.1.length).length:Int)))then(f3 (sub (sub r2.1 (Int.toNat 2) r2.1.length) (Int.toNat 16) (Int.toNat 24)) fun r21=>(bif(decide (0≤24)&&decide (24≤32)&&decide (32≤((sub r2.1 (Int.toNat 2) r2.1.length).length:Int)))then(f3 (sub (sub r2.1 (Int.toNat 2) r2.1.length) (Int.toNat 24) (Int.toNat 32)) fun r22=>(f4 (⟨(IntKind.i64.wrap (v5.toNat:Int)),(⟨r19.1,r20.1,r21.1,r22.1⟩:Vec),v6,v7,v8⟩:Super) fun r23=>(bif(!r23)then((False∧True)∧True)else(((K ((⟨(IntKind.i64.wrap (v5.toNat:Int)),(⟨0,0,0,0⟩:Vec),v6,v7,v8⟩:Super),0))∧True)∧True))))else False))else False))else False))else False))∧True)∧True)∧((((bif(((sub r2.1 (Int.toNat 2) r2.1.length).length:Int) != 32)then((False∧True)∧True)else(bif(decide (0≤0)&&decide (0≤8)&&decide (8≤((sub r2.1 (Int.toNat 2) r2.1.length).length:Int)))then(f3 (sub (sub r2.1 (Int.toNat 2) r2.1.length) (Int.toNat 0) (Int.toNat 8)) fun r14=>(bif(decide (0≤8)&&decide (8≤16)&&decide (16≤((sub r2.1 (Int.toNat 2) r2.1.length).length:Int)))then(f3 (sub (sub r2.1 (Int.toNat 2) r2.1.length) (Int.toNat 8) (Int.toNat 16)) fun r15=>(bif(decide (0≤16)&&decide (16≤24)&&decide (24≤((sub r2.1 (Int.toNat 2) r2.1.length).length:Int)))then(f3 (sub (sub r2.1 (Int.toNat 2) r2.1.length) (Int.toNat 16) (Int.toNat 24)) fun r16=>(bif(decide (0≤24)&&decide (24≤32)&&decide (32≤((sub r2.1 (Int.toNat 2) r2.1.length).length:Int)))then(f3 (sub (sub r2.1 (Int.toNat 2) r2.1.length) (Int.toNat 24) (Int.toNat 32)) fun r17=>(f4 (⟨(IntKind.i64.wrap (v5.toNat:Int)),(⟨r14.1,r15.1,r16.1,r17.1⟩:Vec),v6,v7,v8⟩:Super) fun r18=>(bif(!r18)then((False∧True)∧True)else(((K ((⟨(IntKind.i64.wrap (v5.toNat:Int)),(⟨0,0,0,0⟩:Vec),v6,v7,v8⟩:Super),0))∧True)∧True))))else False))else False))else False))else False))∧True)∧((bif(((sub r2.1 (Int.toNat 2) r2.1.length).length:Int) != 32)then(((False∧True)∧True)∧True)else(bif(decide (0≤0)&&decide (0≤8)&&decide (8≤((sub r2.1 (Int.toNat 2) r2.1.length).length:Int)))then(f3 (sub (sub r2.1 (Int.toNat 2) r2.1.length) (Int.toNat 0) (Int.toNat 8)) fun r9=>(bif(decide (0≤8)&&decide (8≤16)&&decide (16≤((sub r2.1 (Int.toNat 2) r2.1.length).length:Int)))then(f3 (sub (sub r2.1 (Int.toNat 2) r2.1.length) (Int.toNat 8) (Int.toNat 16)) fun r10=>(bif(decide (0≤16)&&decide (16≤24)&&decide (24≤((sub r2.1 (Int.toNat 2) r2.1.length).length:Int)))then(f3 (sub (sub r2.1 (Int.toNat 2) r2.1.length) (Int.toNat 16) (Int.toNat 24)) fun r11=>(bif(decide (0≤24)&&decide (24≤32)&&decide (32≤((sub r2.1 (Int.toNat 2) r2.1.length).length:Int)))then(f3 (sub (sub r2.1 (Int.toNat 2) r2.1.length) (Int.toNat 24) (Int.toNat 32)) fun r12=>(f4 (⟨(IntKind.i64.wrap (v5.toNat:Int)),(⟨r9.1,r10.1,r11.1,r12.1⟩:Vec),v6,v7,v8⟩:Super) fun r13=>(bif(!r13)then(((False∧True)∧True)∧True)else((((K ((⟨(IntKind.i64.wrap (v5.toNat:Int)),(⟨r9.1,r10.1,r11.1,r12.1⟩:Vec),v6,v7,v8⟩:Super),0))∧True)∧True)∧True))))else False))else False))else False))else False))∧True))∧True))else False)))))))))))))
def F (b_0:Str) (K:(Super×Int)->Prop):Prop:=FV q85.F q88.F q89.F q90.F q67.F b_0 K
def en:Entry:=mkEntry A C fun x=>F x.1
theorem eqv (f0:q85.T) (f1:q88.T) (f2:q89.T) (f3:q90.T) (f4:q67.T) (b_0:Str) (K:(Super×Int)->Prop):apure E (tv f0 f1 f2 f3 f4) (fun _=>none) 4 112 [enc .str b_0] (ansK C K)=FV f0 f1 f2 f3 f4 b_0 K:=by kernel_rfl
theorem loops:LoopsOk E tab (fun _=>none) 4 112:=lpn _ _ _ _
theorem ground:Ground E tab:=gnd (tbc q85.sound (tbc errors_Is.sound (tbc q88.sound (tbc q89.sound (tbc q90.sound (tbc q67.sound (tab_nil _))))))) (dtc q85.edet (dtc errors_Is.edet (dtc q88.edet (dtc q89.edet (dtc q90.edet (dtc q67.edet dtn))))))
theorem sound:EntrySound E 112 en:=mkSound ground loops (by kernel_rfl) (fun x K=>eqv q85.F q88.F q89.F q90.F q67.F x.1 K)
end q91
namespace q92
abbrev A:List Ty:=[(.st 1)]
abbrev C:=(cTwo (.st 3) (.int .i64))
abbrev T:Type:=Disk->((Super×Int)->Prop)->Prop
def tv (f0:Disk->Int->((Str×Int)->Prop)->Prop) (f1:q91.T) (f2:q69.T):Tab:=[(111,mkEntry [(.st 1),(.int .i64)] (cTwo .str (.int .i64)) fun x=>f0 x.1 x.2.1),(112,mkEntry q91.A q91.C fun x=>f1 x.1),(113,mkEntry q69.A q69.C fun x=>f2 x.1 x.2.1)]
def tab:Tab:=tv disk_Read.F q91.F q69.F
def FV (f0:Disk->Int->((Str×Int)->Prop)->Prop) (f1:q91.T) (f2:q69.T) (d:Disk) (K:(Super×Int)->Prop):Prop:=
 (f0 d 0 fun r1=>(bif(r1.2 != 0)then(K ((⟨0,(⟨0,0,0,0⟩:Vec),false,false,false⟩:Super),r1.2))else(f1 r1.1 fun r2=>(bif(r2.2==0)then(f2 d r2.1 fun r3=>(bif(!r3)then(K ((⟨0,(⟨0,0,0,0⟩:Vec),false,false,false⟩:Super),2))else(K (r2.1,r2.2))))else(K (r2.1,r2.2))))))
def F (d:Disk) (K:(Super×Int)->Prop):Prop:=FV disk_Read.F q91.F q69.F d K
def en:Entry:=mkEntry A C fun x=>F x.1
theorem eqv (f0:Disk->Int->((Str×Int)->Prop)->Prop) (f1:q91.T) (f2:q69.T) (d:Disk) (K:(Super×Int)->Prop):apure E (tv f0 f1 f2) (fun _=>none) 4 76 [enc (.st 1) d] (ansK C K)=FV f0 f1 f2 d K:=by kernel_rfl
theorem loops:LoopsOk E tab (fun _=>none) 4 76:=lpn _ _ _ _
theorem ground:Ground E tab:=gnd (tbc disk_Read.sound (tbc q91.sound (tbc q69.sound (tab_nil _)))) (dtc disk_Read.edet (dtab_nd (by kernel_rfl) (dtc q69.edet dtn)))
theorem sound:EntrySound E 76 en:=mkSound ground loops (by kernel_rfl) (fun x K=>eqv disk_Read.F q91.F q69.F x.1 K)
end q92
namespace q93
abbrev A:List Ty:=[(.st 1),(.int .u32)]
abbrev C:=(cTy .bool)
abbrev T:Type:=Disk->Int->(Bool->Prop)->Prop
def tv (f0:q54.T):Tab:=[(148,mkEntry q54.A q54.C fun x=>f0 x.1 x.2.1)]
def tab:Tab:=tv q54.F
def FV (f0:q54.T) (d:Disk) (m:Int) (K:Bool->Prop):Prop:=
 (f0 m (IntKind.i64.wrap ((d.sure.length:Int) - 2)) fun r1=>(K r1))
def F (d:Disk) (m:Int) (K:Bool->Prop):Prop:=FV q54.F d m K
def en:Entry:=mkEntry A C fun x=>F x.1 x.2.1
theorem eqv (f0:q54.T) (d:Disk) (m:Int) (K:Bool->Prop):apure E (tv f0) (fun _=>none) 4 107 [enc (.st 1) d,enc (.int .u32) m] (ansK C K)=FV f0 d m K:=by kernel_rfl
theorem loops:LoopsOk E tab (fun _=>none) 4 107:=lpn _ _ _ _
theorem det (d:Disk) (m:Int):Det (F d m):=by
 unfold F FV
 repeat' with_reducible first|exact det_ret _|refine det_bind (q54.det _ _) (fun _=>?_)
theorem edet a:Det (en a):=mkD (fun x:Dens A=>det x.1 x.2.1) a
theorem ground:Ground E tab:=gnd (tbc q54.sound (tab_nil _)) (dtc q54.edet dtn)
theorem sound:EntrySound E 107 en:=mkSound ground loops (by kernel_rfl) (fun x K=>eqv q54.F x.1 x.2.1 K)
end q93
namespace q94
abbrev A:List Ty:=[(.st 1)]
abbrev C:=(cTwo (.int .u32) (.int .i64))
abbrev T:Type:=Disk->((Int×Int)->Prop)->Prop
def tv (f0:Disk->Int->((Str×Int)->Prop)->Prop) (f1:q85.T) (f2:q84.T) (f3:q93.T):Tab:=[(111,mkEntry [(.st 1),(.int .i64)] (cTwo .str (.int .i64)) fun x=>f0 x.1 x.2.1),(114,mkEntry q85.A q85.C fun x=>f1 x.1),(115,mkEntry q84.A q84.C fun x=>f2 x.1),(107,mkEntry q93.A q93.C fun x=>f3 x.1 x.2.1)]
def tab:Tab:=tv disk_Read.F q85.F q84.F q93.F
def FV (f0:Disk->Int->((Str×Int)->Prop)->Prop) (f1:q85.T) (f2:q84.T) (f3:q93.T) (d:Disk) (K:(Int×Int)->Prop):Prop:=
 (f0 d 1 fun r1=>(bif(r1.2 != 0)then(K (0,r1.2))else(f1 r1.1 fun r2=>(bif(r2.2 != 0)then(K (0,r2.2))else(f2 r2.1 fun r3=>(bif(!r3.2)then(K (0,2))else(f3 d r3.1 fun r4=>(bif(!r4)then(K (0,2))else(K (r3.1,0))))))))))
def F (d:Disk) (K:(Int×Int)->Prop):Prop:=FV disk_Read.F q85.F q84.F q93.F d K
def en:Entry:=mkEntry A C fun x=>F x.1
theorem eqv (f0:Disk->Int->((Str×Int)->Prop)->Prop) (f1:q85.T) (f2:q84.T) (f3:q93.T) (d:Disk) (K:(Int×Int)->Prop):apure E (tv f0 f1 f2 f3) (fun _=>none) 4 77 [enc (.st 1) d] (ansK C K)=FV f0 f1 f2 f3 d K:=by kernel_rfl
theorem loops:LoopsOk E tab (fun _=>none) 4 77:=lpn _ _ _ _
theorem det (d:Disk):Det (F d):=by
 unfold F FV
 repeat' with_reducible first|exact det_ret _|refine det_cond _ ?_ ?_|refine det_bind (disk_Read.det _ _) (fun _=>?_)|refine det_bind (q85.det _) (fun _=>?_)|refine det_bind (q84.det _) (fun _=>?_)|refine det_bind (q93.det _ _) (fun _=>?_)
theorem edet a:Det (en a):=mkD (fun x:Dens A=>det x.1) a
theorem ground:Ground E tab:=gnd (tbc disk_Read.sound (tbc q85.sound (tbc q84.sound (tbc q93.sound (tab_nil _))))) (dtc disk_Read.edet (dtc q85.edet (dtc q84.edet (dtc q93.edet dtn))))
theorem sound:EntrySound E 77 en:=mkSound ground loops (by kernel_rfl) (fun x K=>eqv disk_Read.F q85.F q84.F q93.F x.1 K)
end q94
namespace q95
abbrev A:List Ty:=[(.st 1)]
abbrev C:=(cTwo (.slice .str) (.int .i64))
abbrev T:Type:=Disk->(((List Str)×Int)->Prop)->Prop
def tv (f0:q47.T):Tab:=[(91,mkEntry q47.A q47.C fun x=>f0 x.1 x.2.1)]
def tab:Tab:=tv q47.F
structure R where
 t2:(List Str)
 t3:Int
def cR (x:R):St:={ fr:=lookL .top [(2,(.slr 3)),(3,(.int .i64 x.t3))],hs:={ hp:=lookL .dead [(3,(.row false .str x.t2))],hn:=4 } }
def kR:Keep:={ ks:=[(2,some 3),(3,none)],bs:=[],hn:=4 }
structure L0 where
 l:(List Str)
 t12:Int
 t13:Int
 m0:Disk
def c0 (x:L0):St:={ fr:=lookL .top [(1,(.ptr 0 0)),(4,(.slr 2)),(12,(.int .i64 x.t12)),(13,(.int .i64 x.t13))],hs:={ hp:=lookL .dead [(2,(.row false .str x.l)),(0,(.cells (encS 1 x.m0)))],hn:=3 } }
def kp0:Keep:={ ks:=[(1,none),(4,some 2),(12,none),(13,none)],bs:=[0],hn:=3,ts:=[(0,1)] }
def p0 (st:St) (K:L0->Prop):Prop:=gHomes kp0 st <| gPtr 0 0 (st.fr 1) <| gSlr (st.fr 4) fun c1=>gRow false .str (st.hs.hp c1) fun a2=>gInt .i64 (st.fr 12) fun a3=>gInt .i64 (st.fr 13) fun a4=>gBlkS 1 (st.hs.hp 0) fun a5=>K ⟨a2,a3,a4,a5⟩
set_option maxHeartbeats 4000000 in
theorem p0_ok (st:St) (K:L0->Prop) (h:p0 st K):∃ x,keepSt kp0 st=c0 x∧K x:=by
 obtain ⟨h0,h⟩:=gHomes_elim h
 obtain ⟨h1,h⟩:=gPtr_elim h
 obtain ⟨c1,h2,h⟩:=gSlr_elim h
 obtain ⟨a2,h3,h⟩:=gRow_elim h
 obtain ⟨a3,h4,h⟩:=gInt_elim h
 obtain ⟨a4,h5,h⟩:=gInt_elim h
 obtain ⟨z6,a5,h6,y6,h⟩:=gBlkS_elim h
 have q6:∀ ok,keptB kp0 ok 0 (.cells z6)=.cells (encS 1 a5):=fun _=>y6
 simp only [kp0] at q6
 refine⟨_,?_,h⟩
 simp only [keepSt,h0]
 simp only [kp0,List.map,List.filterMap,homeOf,h1,h2,h3,h4,h5,h6,q6,hmOf,List.append_nil,cond_true]
 rfl
def b0V (f0:q47.T) (rec kx:L0->Prop) (kr:R->Prop) (x:L0):Prop:=
 (bif(decide (x.t13 < x.t12))then(f0 x.m0 x.t13 fun r1=>(bif(r1.2 != 0)then(kr ⟨([]:List Str),r1.2⟩)else(bif(decide ((x.l.length+([r1.1]:List Str).length) * 16≤room))then(rec ⟨(x.l++([r1.1]:List Str)),x.t12,(IntKind.i64.wrap (x.t13+1)),x.m0⟩)else False)))else(kx ⟨x.l,x.t12,x.t13,x.m0⟩))
def ltV (f0:q47.T):Nat->Option LSpec
 | 0=>some (mkLoop 0 kp0 kR p0 c0 cR (b0V f0))
 | _=>none
def lt:Nat->Option LSpec:=ltV q47.F
def FV (f0:q47.T) (d:Disk) (K:((List Str)×Int)->Prop):Prop:=
 (∃ n,loopB (b0V f0) n (fun x2=>(K (x2.l,0))) (fun r3=>(K (r3.t2,r3.t3))) ⟨([]:List Str),(maxI2 (IntKind.i64.wrap ((d.sure.length:Int) - 2)) 0),0,d⟩)
def F (d:Disk) (K:((List Str)×Int)->Prop):Prop:=FV q47.F d K
def en:Entry:=mkEntry A C fun x=>F x.1
theorem eqv (f0:q47.T) (d:Disk) (K:((List Str)×Int)->Prop):apure E (tv f0) (ltV f0) 4 78 [enc (.st 1) d] (ansK C K)=FV f0 d K:=by kernel_rfl
theorem l0v (f0:q47.T) (R:St->Prop) (Kx:Nat->St->Prop) (Kr:St->Prop) (x:L0):acode E (tv f0) (afun E (tv f0) 4) 31 (ltV f0) ((loopsIn E.P 78).getD 0 (0,.skip)).2 0 (fun s=>R (keepSt kp0 s)) (fun j s=>Kx j (keepSt kp0 s)) (fun s=>Kr (keepSt kR s)) (c0 x)=b0V f0 (fun x=>R (c0 x)) (fun x=>Kx 0 (c0 x)) (fun r=>Kr (cR r)) x:=by kernel_rfl
theorem l0_ok:LSound E tab (afun E tab 4) 31 lt 0 ((loopsIn E.P 78).getD 0 (0,.skip)).2 (mkLoop 0 kp0 kR p0 c0 cR (b0V q47.F)):=mkLoop_sound (by decide) (by decide) p0_ok (fun R Kx Kr x=>l0v q47.F R Kx Kr x)
theorem loops:LoopsOk E tab lt 4 78:=loops_of (nt:=31) (ids:=[0]) (by kernel_rfl) (by kernel_rfl) (by
 intro k i hk l hl
 match k,hk with
 | 0,hk=>cases hk;cases hl;exact l0_ok
 | _+1,hk=>exact absurd hk (by simp))
theorem det (d:Disk):Det (F d):=by
 unfold F FV
 repeat' with_reducible first|exact det_ret _|exact det_false|refine det_cond _ ?_ ?_|refine det_bind (q47.det _ _) (fun _=>?_)|refine det_loop (fun _=>?_) (fun _=>?_) (fun _=>?_) _ | unfold b0V
theorem edet a:Det (en a):=mkD (fun x:Dens A=>det x.1) a
theorem ground:Ground E tab:=gnd (tbc q47.sound (tab_nil _)) (dtc q47.edet dtn)
theorem sound:EntrySound E 78 en:=mkSound ground loops (by kernel_rfl) (fun x K=>eqv q47.F x.1 K)
end q95
namespace q96
abbrev A:List Ty:=[(.st 1)]
abbrev C:=(cTwo (.st 8) (.int .i64))
abbrev T:Type:=Disk->((Store×Int)->Prop)->Prop
def tv (f0:q92.T) (f1:q94.T) (f2:q95.T):Tab:=[(76,mkEntry q92.A q92.C fun x=>f0 x.1),(77,mkEntry q94.A q94.C fun x=>f1 x.1),(78,mkEntry q95.A q95.C fun x=>f2 x.1)]
def tab:Tab:=tv q92.F q94.F q95.F
def FV (f0:q92.T) (f1:q94.T) (f2:q95.T) (d:Disk) (K:(Store×Int)->Prop):Prop:=
 (f0 d fun r1=>(bif(r1.2 != 0)then(K ((⟨(⟨([]:List Str),([]:List Write),0,false⟩:Disk),(⟨0,(⟨0,0,0,0⟩:Vec),false,false,false⟩:Super),0⟩:Store),r1.2))else(f1 d fun r2=>(bif(r2.2 != 0)then(K ((⟨(⟨([]:List Str),([]:List Write),0,false⟩:Disk),(⟨0,(⟨0,0,0,0⟩:Vec),false,false,false⟩:Super),0⟩:Store),r2.2))else(f2 d fun r3=>(bif(r3.2 != 0)then(K ((⟨(⟨([]:List Str),([]:List Write),0,false⟩:Disk),(⟨0,(⟨0,0,0,0⟩:Vec),false,false,false⟩:Super),0⟩:Store),r3.2))else(K ((⟨d,r1.1,r2.1⟩:Store),0))))))))
def F (d:Disk) (K:(Store×Int)->Prop):Prop:=FV q92.F q94.F q95.F d K
def en:Entry:=mkEntry A C fun x=>F x.1
theorem eqv (f0:q92.T) (f1:q94.T) (f2:q95.T) (d:Disk) (K:(Store×Int)->Prop):apure E (tv f0 f1 f2) (fun _=>none) 4 29 [enc (.st 1) d] (ansK C K)=FV f0 f1 f2 d K:=by kernel_rfl
theorem loops:LoopsOk E tab (fun _=>none) 4 29:=lpn _ _ _ _
theorem ground:Ground E tab:=gnd (tbc q92.sound (tbc q94.sound (tbc q95.sound (tab_nil _)))) (dtab_nd (by kernel_rfl) (dtc q94.edet (dtc q95.edet dtn)))
theorem sound:EntrySound E 29 en:=mkSound ground loops (by kernel_rfl) (fun x K=>eqv q92.F q94.F q95.F x.1 K)
end q96
namespace q97
abbrev A:List Ty:=[(.st 13),(.slice .bool)]
abbrev C:=(cTwo (.st 13) (.int .i64))
abbrev T:Type:=Node->(List Bool)->((Node×Int)->Prop)->Prop
def tv (f0:q82.T) (f1:q96.T):Tab:=[(64,mkEntry q82.A q82.C fun x=>f0 x.1 x.2.1),(29,mkEntry q96.A q96.C fun x=>f1 x.1)]
def tab:Tab:=tv q82.F q96.F
def FV (f0:q82.T) (f1:q96.T) (n_0:Node) (keeps:(List Bool)) (K:(Node×Int)->Prop):Prop:=
 (bif n_0.up then(K (n_0,7))else(f0 n_0.store.disk keeps fun r1=>(f1 r1 fun r2=>(bif(r2.2 != 0)then(K ((⟨n_0.id,n_0.up,(⟨r1,n_0.store.sup,n_0.store.mask⟩:Store),n_0.primary,n_0.state,n_0.session,n_0.peer,n_0.peerPri,n_0.req,n_0.asking,n_0.askId,n_0.wanted,n_0.minted,n_0.draws,n_0.mints⟩:Node),r2.2))else(K ((⟨n_0.id,true,r2.1,false,0,0,(⟨0,(⟨0,0,0,0⟩:Vec),false,false,false,false,0⟩:Hello),false,(⟨false,0,0,([]:Str)⟩:Req),false,0,0,false,n_0.draws,n_0.mints⟩:Node),0))))))
def F (n_0:Node) (keeps:(List Bool)) (K:(Node×Int)->Prop):Prop:=FV q82.F q96.F n_0 keeps K
def en:Entry:=mkEntry A C fun x=>F x.1 x.2.1
theorem eqv (f0:q82.T) (f1:q96.T) (n_0:Node) (keeps:(List Bool)) (K:(Node×Int)->Prop):apure E (tv f0 f1) (fun _=>none) 4 24 [enc (.st 13) n_0,enc (.slice .bool) keeps] (ansK C K)=FV f0 f1 n_0 keeps K:=by kernel_rfl
theorem loops:LoopsOk E tab (fun _=>none) 4 24:=lpn _ _ _ _
theorem ground:Ground E tab:=gnd (tbc q82.sound (tbc q96.sound (tab_nil _))) (dtc q82.edet (dtab_nd (by kernel_rfl) dtn))
theorem sound:EntrySound E 24 en:=mkSound ground loops (by kernel_rfl) (fun x K=>eqv q82.F q96.F x.1 x.2.1 K)
end q97
namespace q98
abbrev A:List Ty:=[(.slice .str),(.slice .str)]
abbrev C:=(cTy .bool)
abbrev T:Type:=(List Str)->(List Str)->(Bool->Prop)->Prop
def tab:Tab:=[]
structure R where
 t4:Bool
def cR (x:R):St:={ fr:=lookL .top [(4,(.bool x.t4))],hs:={ hp:=lookL .dead [],hn:=0 } }
def kR:Keep:={ ks:=[(4,none)],bs:=[],hn:=0 }
structure L0 where
 s1:(List Str)
 s2:(List Str)
 t12:Int
 t13:Int
def c0 (x:L0):St:={ fr:=lookL .top [(0,(.sl .any .str x.s1)),(1,(.sl .any .str x.s2)),(12,(.int .i64 x.t12)),(13,(.int .i64 x.t13))],hs:={ hp:=lookL .dead [],hn:=0 } }
def kp0:Keep:={ ks:=[(0,none),(1,none),(12,none),(13,none)],bs:=[],hn:=0 }
def p0 (st:St) (K:L0->Prop):Prop:=gSl .any .str (st.fr 0) fun a1=>gSl .any .str (st.fr 1) fun a2=>gInt .i64 (st.fr 12) fun a3=>gInt .i64 (st.fr 13) fun a4=>K ⟨a1,a2,a3,a4⟩
set_option maxHeartbeats 4000000 in
theorem p0_ok (st:St) (K:L0->Prop) (h:p0 st K):∃ x,keepSt kp0 st=c0 x∧K x:=by
 obtain ⟨a1,h0,h⟩:=gSl_elim h
 obtain ⟨a2,h1,h⟩:=gSl_elim h
 obtain ⟨a3,h2,h⟩:=gInt_elim h
 obtain ⟨a4,h3,h⟩:=gInt_elim h
 refine⟨_,?_,h⟩
 simp only [keepSt,kp0,List.map,h0,h1,h2,h3]
 rfl
def b0 (rec kx:L0->Prop) (kr:R->Prop) (x:L0):Prop:=
 (bif(decide (x.t13 < x.t12))then(oget (getI x.s1 x.t13) fun v1=>(oget (getI x.s2 x.t13) fun v2=>(bif(!(v1==v2))then(kr ⟨false⟩)else(rec ⟨x.s1,x.s2,x.t12,(IntKind.i64.wrap (x.t13+1))⟩))))else(kx ⟨x.s1,x.s2,x.t12,x.t13⟩))
def lt:Nat->Option LSpec
 | 0=>some (mkLoop 0 kp0 kR p0 c0 cR b0)
 | _=>none
def F (s1:(List Str)) (s2:(List Str)) (K:Bool->Prop):Prop:=
 (bif((s1.length:Int) != (s2.length:Int))then(K false)else(∃ n,loopB b0 n (fun x3=>(K true)) (fun r4=>(K r4.t4)) ⟨s1,s2,(s1.length:Int),0⟩))
def en:Entry:=mkEntry A C fun x=>F x.1 x.2.1
theorem eqv (s1:(List Str)) (s2:(List Str)) (K:Bool->Prop):apure E tab lt 4 133 [enc (.slice .str) s1,enc (.slice .str) s2] (ansK C K)=F s1 s2 K:=by kernel_rfl
theorem l0v (R:St->Prop) (Kx:Nat->St->Prop) (Kr:St->Prop) (x:L0):acode E tab (afun E tab 4) 26 lt ((loopsIn E.P 133).getD 0 (0,.skip)).2 0 (fun s=>R (keepSt kp0 s)) (fun j s=>Kx j (keepSt kp0 s)) (fun s=>Kr (keepSt kR s)) (c0 x)=b0 (fun x=>R (c0 x)) (fun x=>Kx 0 (c0 x)) (fun r=>Kr (cR r)) x:=by kernel_rfl
theorem l0_ok:LSound E tab (afun E tab 4) 26 lt 0 ((loopsIn E.P 133).getD 0 (0,.skip)).2 (mkLoop 0 kp0 kR p0 c0 cR b0):=mkLoop_sound (by decide) (by decide) p0_ok (fun R Kx Kr x=>l0v  R Kx Kr x)
theorem loops:LoopsOk E tab lt 4 133:=loops_of (nt:=26) (ids:=[0]) (by kernel_rfl) (by kernel_rfl) (by
 intro k i hk l hl
 match k,hk with
 | 0,hk=>cases hk;cases hl;exact l0_ok
 | _+1,hk=>exact absurd hk (by simp))
theorem det (s1:(List Str)) (s2:(List Str)):Det (F s1 s2):=by
 unfold F
 repeat' with_reducible first|exact det_ret _|refine det_cond _ ?_ ?_|refine det_oget _ (fun _=>?_)|refine det_loop (fun _=>?_) (fun _=>?_) (fun _=>?_) _ | unfold b0
theorem edet a:Det (en a):=mkD (fun x:Dens A=>det x.1 x.2.1) a
theorem ground:Ground E tab:=gnd (tab_nil _) dtn
theorem sound:EntrySound E 133 en:=mkSound ground loops (by kernel_rfl) (fun x K=>eqv  x.1 x.2.1 K)
end q98
namespace q99
abbrev A:List Ty:=[(.slice (.st 0)),(.slice (.st 0))]
abbrev C:=(cTy .bool)
abbrev T:Type:=(List Write)->(List Write)->(Bool->Prop)->Prop
def tab:Tab:=[]
structure R where
 t4:Bool
def cR (x:R):St:={ fr:=lookL .top [(4,(.bool x.t4))],hs:={ hp:=lookL .dead [],hn:=0 } }
def kR:Keep:={ ks:=[(4,none)],bs:=[],hn:=0 }
structure L0 where
 s1:(List Write)
 s2:(List Write)
 t12:Int
 t13:Int
def c0 (x:L0):St:={ fr:=lookL .top [(0,(.sl .any (.st 0) x.s1)),(1,(.sl .any (.st 0) x.s2)),(12,(.int .i64 x.t12)),(13,(.int .i64 x.t13))],hs:={ hp:=lookL .dead [],hn:=0 } }
def kp0:Keep:={ ks:=[(0,none),(1,none),(12,none),(13,none)],bs:=[],hn:=0 }
def p0 (st:St) (K:L0->Prop):Prop:=gSl .any (.st 0) (st.fr 0) fun a1=>gSl .any (.st 0) (st.fr 1) fun a2=>gInt .i64 (st.fr 12) fun a3=>gInt .i64 (st.fr 13) fun a4=>K ⟨a1,a2,a3,a4⟩
set_option maxHeartbeats 4000000 in
theorem p0_ok (st:St) (K:L0->Prop) (h:p0 st K):∃ x,keepSt kp0 st=c0 x∧K x:=by
 obtain ⟨a1,h0,h⟩:=gSl_elim h
 obtain ⟨a2,h1,h⟩:=gSl_elim h
 obtain ⟨a3,h2,h⟩:=gInt_elim h
 obtain ⟨a4,h3,h⟩:=gInt_elim h
 refine⟨_,?_,h⟩
 simp only [keepSt,kp0,List.map,h0,h1,h2,h3]
 rfl
def b0 (rec kx:L0->Prop) (kr:R->Prop) (x:L0):Prop:=
 (bif(decide (x.t13 < x.t12))then(oget (getI x.s1 x.t13) fun v1=>(oget (getI x.s2 x.t13) fun v2=>(bif(!((v1.sector==v2.sector)&&((v1.data==v2.data)&&true)))then(kr ⟨false⟩)else(rec ⟨x.s1,x.s2,x.t12,(IntKind.i64.wrap (x.t13+1))⟩))))else(kx ⟨x.s1,x.s2,x.t12,x.t13⟩))
def lt:Nat->Option LSpec
 | 0=>some (mkLoop 0 kp0 kR p0 c0 cR b0)
 | _=>none
def F (s1:(List Write)) (s2:(List Write)) (K:Bool->Prop):Prop:=
 (bif((s1.length:Int) != (s2.length:Int))then(K false)else(∃ n,loopB b0 n (fun x3=>(K true)) (fun r4=>(K r4.t4)) ⟨s1,s2,(s1.length:Int),0⟩))
def en:Entry:=mkEntry A C fun x=>F x.1 x.2.1
theorem eqv (s1:(List Write)) (s2:(List Write)) (K:Bool->Prop):apure E tab lt 4 134 [enc (.slice (.st 0)) s1,enc (.slice (.st 0)) s2] (ansK C K)=F s1 s2 K:=by kernel_rfl
theorem l0v (R:St->Prop) (Kx:Nat->St->Prop) (Kr:St->Prop) (x:L0):acode E tab (afun E tab 4) 26 lt ((loopsIn E.P 134).getD 0 (0,.skip)).2 0 (fun s=>R (keepSt kp0 s)) (fun j s=>Kx j (keepSt kp0 s)) (fun s=>Kr (keepSt kR s)) (c0 x)=b0 (fun x=>R (c0 x)) (fun x=>Kx 0 (c0 x)) (fun r=>Kr (cR r)) x:=by kernel_rfl
theorem l0_ok:LSound E tab (afun E tab 4) 26 lt 0 ((loopsIn E.P 134).getD 0 (0,.skip)).2 (mkLoop 0 kp0 kR p0 c0 cR b0):=mkLoop_sound (by decide) (by decide) p0_ok (fun R Kx Kr x=>l0v  R Kx Kr x)
theorem loops:LoopsOk E tab lt 4 134:=loops_of (nt:=26) (ids:=[0]) (by kernel_rfl) (by kernel_rfl) (by
 intro k i hk l hl
 match k,hk with
 | 0,hk=>cases hk;cases hl;exact l0_ok
 | _+1,hk=>exact absurd hk (by simp))
theorem det (s1:(List Write)) (s2:(List Write)):Det (F s1 s2):=by
 unfold F
 repeat' with_reducible first|exact det_ret _|refine det_cond _ ?_ ?_|refine det_oget _ (fun _=>?_)|refine det_loop (fun _=>?_) (fun _=>?_) (fun _=>?_) _ | unfold b0
theorem edet a:Det (en a):=mkD (fun x:Dens A=>det x.1 x.2.1) a
theorem ground:Ground E tab:=gnd (tab_nil _) dtn
theorem sound:EntrySound E 134 en:=mkSound ground loops (by kernel_rfl) (fun x K=>eqv  x.1 x.2.1 K)
end q99
namespace q100
abbrev A:List Ty:=[(.st 1),(.st 1)]
abbrev C:=(cTy .bool)
abbrev T:Type:=Disk->Disk->(Bool->Prop)->Prop
def tv (f0:q98.T) (f1:q99.T):Tab:=[(133,mkEntry q98.A q98.C fun x=>f0 x.1 x.2.1),(134,mkEntry q99.A q99.C fun x=>f1 x.1 x.2.1)]
def tab:Tab:=tv q98.F q99.F
def FV (f0:q98.T) (f1:q99.T) (a:Disk) (b_1:Disk) (K:Bool->Prop):Prop:=
 (f0 a.sure b_1.sure fun r1=>(bif r1 then(f1 a.cache b_1.cache fun r2=>(bif r2 then(bif(a.fuse==b_1.fuse)then(K (a.dead==b_1.dead))else(K false))else(K false)))else(K false)))
def F (a:Disk) (b_1:Disk) (K:Bool->Prop):Prop:=FV q98.F q99.F a b_1 K
def en:Entry:=mkEntry A C fun x=>F x.1 x.2.1
theorem eqv (f0:q98.T) (f1:q99.T) (a:Disk) (b_1:Disk) (K:Bool->Prop):apure E (tv f0 f1) (fun _=>none) 4 93 [enc (.st 1) a,enc (.st 1) b_1] (ansK C K)=FV f0 f1 a b_1 K:=by kernel_rfl
theorem loops:LoopsOk E tab (fun _=>none) 4 93:=lpn _ _ _ _
theorem det (a:Disk) (b_1:Disk):Det (F a b_1):=by
 unfold F FV
 repeat' with_reducible first|exact det_ret _|refine det_cond _ ?_ ?_|refine det_bind (q98.det _ _) (fun _=>?_)|refine det_bind (q99.det _ _) (fun _=>?_)
theorem edet a:Det (en a):=mkD (fun x:Dens A=>det x.1 x.2.1) a
theorem ground:Ground E tab:=gnd (tbc q98.sound (tbc q99.sound (tab_nil _))) (dtc q98.edet (dtc q99.edet dtn))
theorem sound:EntrySound E 93 en:=mkSound ground loops (by kernel_rfl) (fun x K=>eqv q98.F q99.F x.1 x.2.1 K)
end q100
namespace q101
abbrev A:List Ty:=[(.st 8),(.st 8)]
abbrev C:=(cTy .bool)
abbrev T:Type:=Store->Store->(Bool->Prop)->Prop
def tv (f0:q100.T):Tab:=[(93,mkEntry q100.A q100.C fun x=>f0 x.1 x.2.1)]
def tab:Tab:=tv q100.F
def FV (f0:q100.T) (a:Store) (b_1:Store) (K:Bool->Prop):Prop:=
 (f0 a.disk b_1.disk fun r1=>(bif r1 then(bif((a.sup.blocks==b_1.sup.blocks)&&(((a.sup.vector.current==b_1.sup.vector.current)&&((a.sup.vector.bitmap==b_1.sup.vector.bitmap)&&(((a.sup.vector.old0==b_1.sup.vector.old0)&&((a.sup.vector.old1==b_1.sup.vector.old1)&&true))&&true)))&&((a.sup.inc==b_1.sup.inc)&&((a.sup.pri==b_1.sup.pri)&&((a.sup.dis==b_1.sup.dis)&&true)))))then(K (a.mask==b_1.mask))else(K false))else(K false)))
def F (a:Store) (b_1:Store) (K:Bool->Prop):Prop:=FV q100.F a b_1 K
def en:Entry:=mkEntry A C fun x=>F x.1 x.2.1
theorem eqv (f0:q100.T) (a:Store) (b_1:Store) (K:Bool->Prop):apure E (tv f0) (fun _=>none) 4 60 [enc (.st 8) a,enc (.st 8) b_1] (ansK C K)=FV f0 a b_1 K:=by kernel_rfl
theorem loops:LoopsOk E tab (fun _=>none) 4 60:=lpn _ _ _ _
theorem det (a:Store) (b_1:Store):Det (F a b_1):=by
 unfold F FV
 repeat' with_reducible first|exact det_ret _|refine det_cond _ ?_ ?_|refine det_bind (q100.det _ _) (fun _=>?_)
theorem edet a:Det (en a):=mkD (fun x:Dens A=>det x.1 x.2.1) a
theorem ground:Ground E tab:=gnd (tbc q100.sound (tab_nil _)) (dtc q100.edet dtn)
theorem sound:EntrySound E 60 en:=mkSound ground loops (by kernel_rfl) (fun x K=>eqv q100.F x.1 x.2.1 K)
end q101
namespace q102
abbrev A:List Ty:=[(.slice (.int .u64)),(.slice (.int .u64))]
abbrev C:=(cTy .bool)
abbrev T:Type:=(List Int)->(List Int)->(Bool->Prop)->Prop
def tab:Tab:=[]
structure R where
 t4:Bool
def cR (x:R):St:={ fr:=lookL .top [(4,(.bool x.t4))],hs:={ hp:=lookL .dead [],hn:=0 } }
def kR:Keep:={ ks:=[(4,none)],bs:=[],hn:=0 }
structure L0 where
 s1:(List Int)
 s2:(List Int)
 t12:Int
 t13:Int
def c0 (x:L0):St:={ fr:=lookL .top [(0,(.sl .any (.int .u64) x.s1)),(1,(.sl .any (.int .u64) x.s2)),(12,(.int .i64 x.t12)),(13,(.int .i64 x.t13))],hs:={ hp:=lookL .dead [],hn:=0 } }
def kp0:Keep:={ ks:=[(0,none),(1,none),(12,none),(13,none)],bs:=[],hn:=0 }
def p0 (st:St) (K:L0->Prop):Prop:=gSl .any (.int .u64) (st.fr 0) fun a1=>gSl .any (.int .u64) (st.fr 1) fun a2=>gInt .i64 (st.fr 12) fun a3=>gInt .i64 (st.fr 13) fun a4=>K ⟨a1,a2,a3,a4⟩
set_option maxHeartbeats 4000000 in
theorem p0_ok (st:St) (K:L0->Prop) (h:p0 st K):∃ x,keepSt kp0 st=c0 x∧K x:=by
 obtain ⟨a1,h0,h⟩:=gSl_elim h
 obtain ⟨a2,h1,h⟩:=gSl_elim h
 obtain ⟨a3,h2,h⟩:=gInt_elim h
 obtain ⟨a4,h3,h⟩:=gInt_elim h
 refine⟨_,?_,h⟩
 simp only [keepSt,kp0,List.map,h0,h1,h2,h3]
 rfl
def b0 (rec kx:L0->Prop) (kr:R->Prop) (x:L0):Prop:=
 (bif(decide (x.t13 < x.t12))then(oget (getI x.s1 x.t13) fun v1=>(oget (getI x.s2 x.t13) fun v2=>(bif(v1 != v2)then(kr ⟨false⟩)else(rec ⟨x.s1,x.s2,x.t12,(IntKind.i64.wrap (x.t13+1))⟩))))else(kx ⟨x.s1,x.s2,x.t12,x.t13⟩))
def lt:Nat->Option LSpec
 | 0=>some (mkLoop 0 kp0 kR p0 c0 cR b0)
 | _=>none
def F (s1:(List Int)) (s2:(List Int)) (K:Bool->Prop):Prop:=
 (bif((s1.length:Int) != (s2.length:Int))then(K false)else(∃ n,loopB b0 n (fun x3=>(K true)) (fun r4=>(K r4.t4)) ⟨s1,s2,(s1.length:Int),0⟩))
def en:Entry:=mkEntry A C fun x=>F x.1 x.2.1
theorem eqv (s1:(List Int)) (s2:(List Int)) (K:Bool->Prop):apure E tab lt 4 61 [enc (.slice (.int .u64)) s1,enc (.slice (.int .u64)) s2] (ansK C K)=F s1 s2 K:=by kernel_rfl
theorem l0v (R:St->Prop) (Kx:Nat->St->Prop) (Kr:St->Prop) (x:L0):acode E tab (afun E tab 4) 26 lt ((loopsIn E.P 61).getD 0 (0,.skip)).2 0 (fun s=>R (keepSt kp0 s)) (fun j s=>Kx j (keepSt kp0 s)) (fun s=>Kr (keepSt kR s)) (c0 x)=b0 (fun x=>R (c0 x)) (fun x=>Kx 0 (c0 x)) (fun r=>Kr (cR r)) x:=by kernel_rfl
theorem l0_ok:LSound E tab (afun E tab 4) 26 lt 0 ((loopsIn E.P 61).getD 0 (0,.skip)).2 (mkLoop 0 kp0 kR p0 c0 cR b0):=mkLoop_sound (by decide) (by decide) p0_ok (fun R Kx Kr x=>l0v  R Kx Kr x)
theorem loops:LoopsOk E tab lt 4 61:=loops_of (nt:=26) (ids:=[0]) (by kernel_rfl) (by kernel_rfl) (by
 intro k i hk l hl
 match k,hk with
 | 0,hk=>cases hk;cases hl;exact l0_ok
 | _+1,hk=>exact absurd hk (by simp))
theorem det (s1:(List Int)) (s2:(List Int)):Det (F s1 s2):=by
 unfold F
 repeat' with_reducible first|exact det_ret _|refine det_cond _ ?_ ?_|refine det_oget _ (fun _=>?_)|refine det_loop (fun _=>?_) (fun _=>?_) (fun _=>?_) _ | unfold b0
theorem edet a:Det (en a):=mkD (fun x:Dens A=>det x.1 x.2.1) a
theorem ground:Ground E tab:=gnd (tab_nil _) dtn
theorem sound:EntrySound E 61 en:=mkSound ground loops (by kernel_rfl) (fun x K=>eqv  x.1 x.2.1 K)
end q102
namespace q103
abbrev A:List Ty:=[(.slice (.st 10)),(.slice (.st 10))]
abbrev C:=(cTy .bool)
abbrev T:Type:=(List Mint)->(List Mint)->(Bool->Prop)->Prop
def tab:Tab:=[]
structure R where
 t4:Bool
def cR (x:R):St:={ fr:=lookL .top [(4,(.bool x.t4))],hs:={ hp:=lookL .dead [],hn:=0 } }
def kR:Keep:={ ks:=[(4,none)],bs:=[],hn:=0 }
structure L0 where
 s1:(List Mint)
 s2:(List Mint)
 t12:Int
 t13:Int
def c0 (x:L0):St:={ fr:=lookL .top [(0,(.sl .any (.st 10) x.s1)),(1,(.sl .any (.st 10) x.s2)),(12,(.int .i64 x.t12)),(13,(.int .i64 x.t13))],hs:={ hp:=lookL .dead [],hn:=0 } }
def kp0:Keep:={ ks:=[(0,none),(1,none),(12,none),(13,none)],bs:=[],hn:=0 }
def p0 (st:St) (K:L0->Prop):Prop:=gSl .any (.st 10) (st.fr 0) fun a1=>gSl .any (.st 10) (st.fr 1) fun a2=>gInt .i64 (st.fr 12) fun a3=>gInt .i64 (st.fr 13) fun a4=>K ⟨a1,a2,a3,a4⟩
set_option maxHeartbeats 4000000 in
theorem p0_ok (st:St) (K:L0->Prop) (h:p0 st K):∃ x,keepSt kp0 st=c0 x∧K x:=by
 obtain ⟨a1,h0,h⟩:=gSl_elim h
 obtain ⟨a2,h1,h⟩:=gSl_elim h
 obtain ⟨a3,h2,h⟩:=gInt_elim h
 obtain ⟨a4,h3,h⟩:=gInt_elim h
 refine⟨_,?_,h⟩
 simp only [keepSt,kp0,List.map,h0,h1,h2,h3]
 rfl
def b0 (rec kx:L0->Prop) (kr:R->Prop) (x:L0):Prop:=
 (bif(decide (x.t13 < x.t12))then(oget (getI x.s1 x.t13) fun v1=>(oget (getI x.s2 x.t13) fun v2=>(bif(!((v1.gen==v2.gen)&&((v1.parent==v2.parent)&&((v1.node==v2.node)&&true))))then(kr ⟨false⟩)else(rec ⟨x.s1,x.s2,x.t12,(IntKind.i64.wrap (x.t13+1))⟩))))else(kx ⟨x.s1,x.s2,x.t12,x.t13⟩))
def lt:Nat->Option LSpec
 | 0=>some (mkLoop 0 kp0 kR p0 c0 cR b0)
 | _=>none
def F (s1:(List Mint)) (s2:(List Mint)) (K:Bool->Prop):Prop:=
 (bif((s1.length:Int) != (s2.length:Int))then(K false)else(∃ n,loopB b0 n (fun x3=>(K true)) (fun r4=>(K r4.t4)) ⟨s1,s2,(s1.length:Int),0⟩))
def en:Entry:=mkEntry A C fun x=>F x.1 x.2.1
theorem eqv (s1:(List Mint)) (s2:(List Mint)) (K:Bool->Prop):apure E tab lt 4 62 [enc (.slice (.st 10)) s1,enc (.slice (.st 10)) s2] (ansK C K)=F s1 s2 K:=by kernel_rfl
theorem l0v (R:St->Prop) (Kx:Nat->St->Prop) (Kr:St->Prop) (x:L0):acode E tab (afun E tab 4) 26 lt ((loopsIn E.P 62).getD 0 (0,.skip)).2 0 (fun s=>R (keepSt kp0 s)) (fun j s=>Kx j (keepSt kp0 s)) (fun s=>Kr (keepSt kR s)) (c0 x)=b0 (fun x=>R (c0 x)) (fun x=>Kx 0 (c0 x)) (fun r=>Kr (cR r)) x:=by kernel_rfl
theorem l0_ok:LSound E tab (afun E tab 4) 26 lt 0 ((loopsIn E.P 62).getD 0 (0,.skip)).2 (mkLoop 0 kp0 kR p0 c0 cR b0):=mkLoop_sound (by decide) (by decide) p0_ok (fun R Kx Kr x=>l0v  R Kx Kr x)
theorem loops:LoopsOk E tab lt 4 62:=loops_of (nt:=26) (ids:=[0]) (by kernel_rfl) (by kernel_rfl) (by
 intro k i hk l hl
 match k,hk with
 | 0,hk=>cases hk;cases hl;exact l0_ok
 | _+1,hk=>exact absurd hk (by simp))
theorem det (s1:(List Mint)) (s2:(List Mint)):Det (F s1 s2):=by
 unfold F
 repeat' with_reducible first|exact det_ret _|refine det_cond _ ?_ ?_|refine det_oget _ (fun _=>?_)|refine det_loop (fun _=>?_) (fun _=>?_) (fun _=>?_) _ | unfold b0
theorem edet a:Det (en a):=mkD (fun x:Dens A=>det x.1 x.2.1) a
theorem ground:Ground E tab:=gnd (tab_nil _) dtn
theorem sound:EntrySound E 62 en:=mkSound ground loops (by kernel_rfl) (fun x K=>eqv  x.1 x.2.1 K)
end q103
namespace q104
abbrev A:List Ty:=[(.st 13),(.st 13)]
abbrev C:=(cTy .bool)
abbrev T:Type:=Node->Node->(Bool->Prop)->Prop
def tv (f0:q101.T) (f1:q102.T) (f2:q103.T):Tab:=[(60,mkEntry q101.A q101.C fun x=>f0 x.1 x.2.1),(61,mkEntry q102.A q102.C fun x=>f1 x.1 x.2.1),(62,mkEntry q103.A q103.C fun x=>f2 x.1 x.2.1)]
def tab:Tab:=tv q101.F q102.F q103.F
def FV (f0:q101.T) (f1:q102.T) (f2:q103.T) (a:Node) (b_1:Node) (K:Bool->Prop):Prop:=
 (bif((a.id==b_1.id)&&((a.state==b_1.state)&&((a.askId==b_1.askId)&&((a.wanted==b_1.wanted)&&((a.up==b_1.up)&&((a.primary==b_1.primary)&&((a.peerPri==b_1.peerPri)&&((a.asking==b_1.asking)&&((a.minted==b_1.minted)&&((a.session==b_1.session)&&(((a.peer.blocks==b_1.peer.blocks)&&(((a.peer.vector.current==b_1.peer.vector.current)&&((a.peer.vector.bitmap==b_1.peer.vector.bitmap)&&(((a.peer.vector.old0==b_1.peer.vector.old0)&&((a.peer.vector.old1==b_1.peer.vector.old1)&&true))&&true)))&&((a.peer.inc==b_1.peer.inc)&&((a.peer.was==b_1.peer.was)&&((a.peer.dis==b_1.peer.dis)&&((a.peer.pri==b_1.peer.pri)&&((a.peer.mask==b_1.peer.mask)&&true)))))))&&(((a.req.on==b_1.req.on)&&((a.req.id==b_1.req.id)&&((a.req.block==b_1.req.block)&&((a.req.data==b_1.req.data)&&true))))&&true))))))))))))then(f0 a.store b_1.store fun r1=>(bif r1 then(f1 a.draws b_1.draws fun r2=>(bif r2 then(f2 a.mints b_1.mints fun r3=>(K r3))else(K false)))else(K false)))else(K false))
def F (a:Node) (b_1:Node) (K:Bool->Prop):Prop:=FV q101.F q102.F q103.F a b_1 K
def en:Entry:=mkEntry A C fun x=>F x.1 x.2.1
theorem eqv (f0:q101.T) (f1:q102.T) (f2:q103.T) (a:Node) (b_1:Node) (K:Bool->Prop):apure E (tv f0 f1 f2) (fun _=>none) 4 22 [enc (.st 13) a,enc (.st 13) b_1] (ansK C K)=FV f0 f1 f2 a b_1 K:=by kernel_rfl
theorem loops:LoopsOk E tab (fun _=>none) 4 22:=lpn _ _ _ _
theorem det (a:Node) (b_1:Node):Det (F a b_1):=by
 unfold F FV
 repeat' with_reducible first|exact det_ret _|refine det_cond _ ?_ ?_|refine det_bind (q101.det _ _) (fun _=>?_)|refine det_bind (q102.det _ _) (fun _=>?_)|refine det_bind (q103.det _ _) (fun _=>?_)
theorem edet a:Det (en a):=mkD (fun x:Dens A=>det x.1 x.2.1) a
theorem ground:Ground E tab:=gnd (tbc q101.sound (tbc q102.sound (tbc q103.sound (tab_nil _)))) (dtc q101.edet (dtc q102.edet (dtc q103.edet dtn)))
theorem sound:EntrySound E 22 en:=mkSound ground loops (by kernel_rfl) (fun x K=>eqv q101.F q102.F q103.F x.1 x.2.1 K)
end q104
namespace q105
abbrev A:List Ty:=[]
abbrev C:=(cTy .bool)
abbrev T:Type:=(Bool->Prop)->Prop
def tv (f0:q45.T) (f1:q49.T) (f2:q79.T) (f3:q80.T) (f4:q81.T) (f5:q78.T) (f6:q97.T) (f7:q104.T):Tab:=[(37,mkEntry q45.A q45.C fun x=>f0 x.1 x.2.1),(20,mkEntry q49.A q49.C fun x=>f1 x.1 x.2.1 x.2.2.1),(12,mkEntry q79.A q79.C fun x=>f2 x.1 x.2.1),(16,mkEntry q80.A q80.C fun x=>f3 x.1 x.2.1),(14,mkEntry q81.A q81.C fun x=>f4 x.1 x.2.1),(23,mkEntry q78.A q78.C fun x=>f5 x.1),(24,mkEntry q97.A q97.C fun x=>f6 x.1 x.2.1),(22,mkEntry q104.A q104.C fun x=>f7 x.1 x.2.1)]
def tab:Tab:=tv q45.F q49.F q79.F q80.F q81.F q78.F q97.F q104.F
def FV (f0:q45.T) (f1:q49.T) (f2:q79.T) (f3:q80.T) (f4:q81.T) (f5:q78.T) (f6:q97.T) (f7:q104.T) (K:Bool->Prop):Prop:=
 (f0 2 7 fun r1=>(f1 r1.1.n1 4 0 fun r2=>(f2 r1.1.n1 5 fun r3=>(f1 r3.1 6 1 fun r4=>(f3 r3.1 7 fun r5=>(f4 r3.1 8 fun r6=>(f3 r6.1 9 fun r7=>(f2 r7.1 10 fun r8=>(f5 r7.1 fun r9=>(f6 r9 ([]:List Bool) fun r10=>(f6 r10.1 ([]:List Bool) fun r11=>(bif((IntKind.i64.wrap ((IntKind.i64.wrap ((IntKind.i64.wrap ((IntKind.i64.wrap ((IntKind.i64.wrap ((IntKind.i64.wrap ((r2.2.length:Int)+(r3.2.length:Int)))+(r4.2.length:Int)))+(r5.2.length:Int)))+(r6.2.length:Int)))+(r7.2.length:Int)))+(r8.2.length:Int))) != 7)then(K false)else(bif((r2.2.length:Int) != 1)then(K false)else(bif((r3.2.length:Int) != 1)then(K false)else(bif((r4.2.length:Int) != 1)then(K false)else(bif((r5.2.length:Int) != 1)then(K false)else(bif((r6.2.length:Int) != 1)then(K false)else(bif((r7.2.length:Int) != 1)then(K false)else(oget (getI r2.2 0) fun v12=>(bif((v12.kind==2)&&((v12.node==1)&&((v12.id==4)&&((v12.err==8)&&((v12.data==([]:Str))&&true)))))then(oget (getI r3.2 0) fun v13=>(bif(v13.err==0)then(oget (getI r3.2 0) fun v14=>(bif(v14.id==5)then(bif r3.1.primary then(bif r3.1.store.sup.pri then(oget (getI r4.2 0) fun v15=>(bif(v15.err==0)then(oget (getI r4.2 0) fun v16=>(bif((v16.data.length:Int)==8)then(oget (getI r5.2 0) fun v17=>(bif(v17.err==8)then(oget (getI r6.2 0) fun v18=>(bif(v18.err==0)then(oget (getI r7.2 0) fun v19=>(bif(v19.err==0)then(oget (getI r8.2 0) fun v20=>(bif(v20.err==10)then(bif(r10.2==0)then(bif(r11.2==7)then(bif r10.1.up then(bif r10.1.store.sup.dis then(f7 r1.1.n1 r1.1.n1 fun r21=>(bif r21 then(f7 r1.1.n1 r3.1 fun r22=>(K (!r22)))else(K false)))else(K false))else(K false))else(K false))else(K false))else(K false)))else(K false)))else(K false)))else(K false)))else(K false)))else(K false)))else(K false))else(K false))else(K false)))else(K false)))else(K false)))))))))))))))))))))
def F (K:Bool->Prop):Prop:=FV q45.F q49.F q79.F q80.F q81.F q78.F q97.F q104.F K
def en:Entry:=mkEntry A C fun _=>F
theorem eqv (f0:q45.T) (f1:q49.T) (f2:q79.T) (f3:q80.T) (f4:q81.T) (f5:q78.T) (f6:q97.T) (f7:q104.T) (K:Bool->Prop):apure E (tv f0 f1 f2 f3 f4 f5 f6 f7) (fun _=>none) 4 9 [] (ansK C K)=FV f0 f1 f2 f3 f4 f5 f6 f7 K:=by kernel_rfl
theorem eq (x:Dens A) (K:Bool->Prop):apure E tab (fun _=>none) 4 9 (encA A x) (ansK C K)=F K:=eqv q45.F q49.F q79.F q80.F q81.F q78.F q97.F q104.F K
theorem loops:LoopsOk E tab (fun _=>none) 4 9:=lpn _ _ _ _
theorem ground:Ground E tab:=gnd (tbc q45.sound (tbc q49.sound (tbc q79.sound (tbc q80.sound (tbc q81.sound (tbc q78.sound (tbc q97.sound (tbc q104.sound (tab_nil _))))))))) (dtc q45.edet (dtc q49.edet (dtc q79.edet (dtc q80.edet (dtc q81.edet (dtc q78.edet (dtab_nd (by kernel_rfl) (dtc q104.edet dtn))))))))
theorem sound:EntrySound E 9 en:=mkSound ground loops (by kernel_rfl) (eq)
end q105
namespace q106
abbrev A:List Ty:=[(.slice (.st 12)),(.int .i64)]
abbrev C:=(cTy .bool)
abbrev T:Type:=(List Event)->Int->(Bool->Prop)->Prop
def tab:Tab:=[]
structure R where
 t4:Bool
def cR (x:R):St:={ fr:=lookL .top [(4,(.bool x.t4))],hs:={ hp:=lookL .dead [],hn:=0 } }
def kR:Keep:={ ks:=[(4,none)],bs:=[],hn:=0 }
structure L0 where
 l:(List Event)
 i:Int
def c0 (x:L0):St:={ fr:=lookL .top [(0,(.sl .any (.st 12) x.l)),(5,(.int .i64 x.i))],hs:={ hp:=lookL .dead [],hn:=0 } }
def kp0:Keep:={ ks:=[(0,none),(5,none)],bs:=[],hn:=0 }
def p0 (st:St) (K:L0->Prop):Prop:=gSl .any (.st 12) (st.fr 0) fun a1=>gInt .i64 (st.fr 5) fun a2=>K ⟨a1,a2⟩
set_option maxHeartbeats 4000000 in
theorem p0_ok (st:St) (K:L0->Prop) (h:p0 st K):∃ x,keepSt kp0 st=c0 x∧K x:=by
 obtain ⟨a1,h0,h⟩:=gSl_elim h
 obtain ⟨a2,h1,h⟩:=gInt_elim h
 refine⟨_,?_,h⟩
 simp only [keepSt,kp0,List.map,h0,h1]
 rfl
def b0 (rec kx:L0->Prop) (kr:R->Prop) (x:L0):Prop:=
 (bif(decide (x.i < (x.l.length:Int)))then(oget (getI x.l x.i) fun v1=>(bif(decide ((v1.data.length:Int) > 300))then(kr ⟨true⟩)else(oget (getI x.l x.i) fun v2=>(bif(decide ((v2.keeps.length:Int) > 100))then(kr ⟨true⟩)else(rec ⟨x.l,(IntKind.i64.wrap (x.i+1))⟩)))))else(kx ⟨x.l,x.i⟩))
def lt:Nat->Option LSpec
 | 0=>some (mkLoop 0 kp0 kR p0 c0 cR b0)
 | _=>none
def F (l:(List Event)) (most:Int) (K:Bool->Prop):Prop:=
 (bif(decide ((l.length:Int) > most))then(K true)else(∃ n,loopB b0 n (fun x3=>(K false)) (fun r4=>(K r4.t4)) ⟨l,0⟩))
def en:Entry:=mkEntry A C fun x=>F x.1 x.2.1
theorem eqv (l:(List Event)) (most:Int) (K:Bool->Prop):apure E tab lt 4 10 [enc (.slice (.st 12)) l,enc (.int .i64) most] (ansK C K)=F l most K:=by kernel_rfl
theorem l0v (R:St->Prop) (Kx:Nat->St->Prop) (Kr:St->Prop) (x:L0):acode E tab (afun E tab 4) 32 lt ((loopsIn E.P 10).getD 0 (0,.skip)).2 0 (fun s=>R (keepSt kp0 s)) (fun j s=>Kx j (keepSt kp0 s)) (fun s=>Kr (keepSt kR s)) (c0 x)=b0 (fun x=>R (c0 x)) (fun x=>Kx 0 (c0 x)) (fun r=>Kr (cR r)) x:=by kernel_rfl
theorem l0_ok:LSound E tab (afun E tab 4) 32 lt 0 ((loopsIn E.P 10).getD 0 (0,.skip)).2 (mkLoop 0 kp0 kR p0 c0 cR b0):=mkLoop_sound (by decide) (by decide) p0_ok (fun R Kx Kr x=>l0v  R Kx Kr x)
theorem loops:LoopsOk E tab lt 4 10:=loops_of (nt:=32) (ids:=[0]) (by kernel_rfl) (by kernel_rfl) (by
 intro k i hk l hl
 match k,hk with
 | 0,hk=>cases hk;cases hl;exact l0_ok
 | _+1,hk=>exact absurd hk (by simp))
theorem det (l:(List Event)) (most:Int):Det (F l most):=by
 unfold F
 repeat' with_reducible first|exact det_ret _|refine det_cond _ ?_ ?_|refine det_oget _ (fun _=>?_)|refine det_loop (fun _=>?_) (fun _=>?_) (fun _=>?_) _ | unfold b0
theorem edet a:Det (en a):=mkD (fun x:Dens A=>det x.1 x.2.1) a
theorem ground:Ground E tab:=gnd (tab_nil _) dtn
theorem sound:EntrySound E 10 en:=mkSound ground loops (by kernel_rfl) (fun x K=>eqv  x.1 x.2.1 K)
end q106
namespace q107
abbrev A:List Ty:=[]
abbrev C:=(cTy (.int .u64))
abbrev T:Type:=(Int->Prop)->Prop
def tab:Tab:=[]
def F (K:Int->Prop):Prop:=
 (K 7)
def en:Entry:=mkEntry A C fun _=>F
theorem eqv (K:Int->Prop):apure E tab (fun _=>none) 4 86 [] (ansK C K)=F K:=by kernel_rfl
theorem loops:LoopsOk E tab (fun _=>none) 4 86:=lpn _ _ _ _
theorem det:Det (F):=by
 unfold F
 repeat' with_reducible first|exact det_ret _
theorem edet a:Det (en a):=mkD (fun _:Dens A=>det) a
theorem ground:Ground E tab:=gnd (tab_nil _) dtn
theorem sound:EntrySound E 86 en:=mkSound ground loops (by kernel_rfl) (fun _ K=>eqv  K)
end q107
namespace q108
abbrev A:List Ty:=[(.st 13),(.int .i64),(.int .i64),.str]
abbrev C:=(cTy (.st 11))
abbrev T:Type:=Node->Int->Int->Str->(Outp->Prop)->Prop
def tab:Tab:=[]
def F (n_0:Node) (id:Int) (e:Int) (data:Str) (K:Outp->Prop):Prop:=
 (K (⟨2,n_0.id,id,e,data⟩:Outp))
def en:Entry:=mkEntry A C fun x=>F x.1 x.2.1 x.2.2.1 x.2.2.2.1
theorem eqv (n_0:Node) (id:Int) (e:Int) (data:Str) (K:Outp->Prop):apure E tab (fun _=>none) 4 51 [enc (.st 13) n_0,enc (.int .i64) id,enc (.int .i64) e,enc .str data] (ansK C K)=F n_0 id e data K:=by kernel_rfl
theorem loops:LoopsOk E tab (fun _=>none) 4 51:=lpn _ _ _ _
theorem det (n_0:Node) (id:Int) (e:Int) (data:Str):Det (F n_0 id e data):=by
 unfold F
 repeat' with_reducible first|exact det_ret _
theorem edet a:Det (en a):=mkD (fun x:Dens A=>det x.1 x.2.1 x.2.2.1 x.2.2.2.1) a
theorem ground:Ground E tab:=gnd (tab_nil _) dtn
theorem sound:EntrySound E 51 en:=mkSound ground loops (by kernel_rfl) (fun x K=>eqv  x.1 x.2.1 x.2.2.1 x.2.2.2.1 K)
end q108
namespace q109
abbrev A:List Ty:=[(.st 13),(.int .i64),(.int .i64)]
abbrev C:=(cTwo (.st 13) (.slice (.st 11)))
abbrev T:Type:=Node->Int->Int->((Node×(List Outp))->Prop)->Prop
def tv (f0:q108.T):Tab:=[(51,mkEntry q108.A q108.C fun x=>f0 x.1 x.2.1 x.2.2.1 x.2.2.2.1)]
def tab:Tab:=tv q108.F
def FV (f0:q108.T) (n_0:Node) (id:Int) (e:Int) (K:(Node×(List Outp))->Prop):Prop:=
 (f0 n_0 id e ([]:Str) fun r1=>(K (n_0,([r1]:List Outp))))
def F (n_0:Node) (id:Int) (e:Int) (K:(Node×(List Outp))->Prop):Prop:=FV q108.F n_0 id e K
def en:Entry:=mkEntry A C fun x=>F x.1 x.2.1 x.2.2.1
theorem eqv (f0:q108.T) (n_0:Node) (id:Int) (e:Int) (K:(Node×(List Outp))->Prop):apure E (tv f0) (fun _=>none) 4 47 [enc (.st 13) n_0,enc (.int .i64) id,enc (.int .i64) e] (ansK C K)=FV f0 n_0 id e K:=by kernel_rfl
theorem loops:LoopsOk E tab (fun _=>none) 4 47:=lpn _ _ _ _
theorem det (n_0:Node) (id:Int) (e:Int):Det (F n_0 id e):=by
 unfold F FV
 repeat' with_reducible first|exact det_ret _|refine det_bind (q108.det _ _ _ _) (fun _=>?_)
theorem edet a:Det (en a):=mkD (fun x:Dens A=>det x.1 x.2.1 x.2.2.1) a
theorem ground:Ground E tab:=gnd (tbc q108.sound (tab_nil _)) (dtc q108.edet dtn)
theorem sound:EntrySound E 47 en:=mkSound ground loops (by kernel_rfl) (fun x K=>eqv q108.F x.1 x.2.1 x.2.2.1 K)
end q109
namespace q110
abbrev A:List Ty:=[(.st 13)]
abbrev C:=(cTy .bool)
abbrev T:Type:=Node->(Bool->Prop)->Prop
def tab:Tab:=[]
def F (n_0:Node) (K:Bool->Prop):Prop:=
 (bif(n_0.state==2)then(K true)else(K (n_0.state==3)))
def en:Entry:=mkEntry A C fun x=>F x.1
theorem eqv (n_0:Node) (K:Bool->Prop):apure E tab (fun _=>none) 4 48 [enc (.st 13) n_0] (ansK C K)=F n_0 K:=by kernel_rfl
theorem loops:LoopsOk E tab (fun _=>none) 4 48:=lpn _ _ _ _
theorem det (n_0:Node):Det (F n_0):=by
 unfold F
 repeat' with_reducible first|exact det_ret _|refine det_cond _ ?_ ?_
theorem edet a:Det (en a):=mkD (fun x:Dens A=>det x.1) a
theorem ground:Ground E tab:=gnd (tab_nil _) dtn
theorem sound:EntrySound E 48 en:=mkSound ground loops (by kernel_rfl) (fun x K=>eqv  x.1 K)
end q110
namespace q111
abbrev A:List Ty:=[(.st 4)]
abbrev C:=(cTy .bool)
abbrev T:Type:=Hello->(Bool->Prop)->Prop
def tv (f0:q38.T):Tab:=[(145,mkEntry q38.A q38.C fun x=>f0 x.1 x.2.1)]
def tab:Tab:=tv q38.F
def FV (f0:q38.T) (h:Hello) (K:Bool->Prop):Prop:=
 (bif(decide (h.blocks≥1))then(bif(decide (h.blocks≤32))then(bif(h.vector.current != 0)then(f0 h.mask h.blocks fun r1=>(bif r1 then(bif h.pri then(bif(!h.was)then(bif h.pri then(K (!h.inc))else(K true))else(K false))else(bif h.pri then(K (!h.inc))else(K true)))else(K false)))else(K false))else(K false))else(K false))
def F (h:Hello) (K:Bool->Prop):Prop:=FV q38.F h K
def en:Entry:=mkEntry A C fun x=>F x.1
theorem eqv (f0:q38.T) (h:Hello) (K:Bool->Prop):apure E (tv f0) (fun _=>none) 4 175 [enc (.st 4) h] (ansK C K)=FV f0 h K:=by kernel_rfl
theorem loops:LoopsOk E tab (fun _=>none) 4 175:=lpn _ _ _ _
theorem det (h:Hello):Det (F h):=by
 unfold F FV
 repeat' with_reducible first|exact det_ret _|refine det_cond _ ?_ ?_|refine det_bind (q38.det _ _) (fun _=>?_)
theorem edet a:Det (en a):=mkD (fun x:Dens A=>det x.1) a
theorem ground:Ground E tab:=gnd (tbc q38.sound (tab_nil _)) (dtc q38.edet dtn)
theorem sound:EntrySound E 175 en:=mkSound ground loops (by kernel_rfl) (fun x K=>eqv q38.F x.1 K)
end q111
namespace q112
abbrev A:List Ty:=[(.int .i64)]
abbrev C:=(cTy .bool)
abbrev T:Type:=Int->(Bool->Prop)->Prop
def tab:Tab:=[]
def F (kind:Int) (K:Bool->Prop):Prop:=
 (bif(decide (kind≥2))then(K (decide (kind≤7)))else(K false))
def en:Entry:=mkEntry A C fun x=>F x.1
theorem eqv (kind:Int) (K:Bool->Prop):apure E tab (fun _=>none) 4 176 [enc (.int .i64) kind] (ansK C K)=F kind K:=by kernel_rfl
theorem loops:LoopsOk E tab (fun _=>none) 4 176:=lpn _ _ _ _
theorem det (kind:Int):Det (F kind):=by
 unfold F
 repeat' with_reducible first|exact det_ret _|refine det_cond _ ?_ ?_
theorem edet a:Det (en a):=mkD (fun x:Dens A=>det x.1) a
theorem ground:Ground E tab:=gnd (tab_nil _) dtn
theorem sound:EntrySound E 176 en:=mkSound ground loops (by kernel_rfl) (fun x K=>eqv  x.1 K)
end q112
namespace q113
abbrev A:List Ty:=[(.int .i64)]
abbrev C:=(cTy .bool)
abbrev T:Type:=Int->(Bool->Prop)->Prop
def tab:Tab:=[]
def F (kind:Int) (K:Bool->Prop):Prop:=
 (bif(kind==2)then(K true)else(K (kind==6)))
def en:Entry:=mkEntry A C fun x=>F x.1
theorem eqv (kind:Int) (K:Bool->Prop):apure E tab (fun _=>none) 4 177 [enc (.int .i64) kind] (ansK C K)=F kind K:=by kernel_rfl
theorem loops:LoopsOk E tab (fun _=>none) 4 177:=lpn _ _ _ _
theorem det (kind:Int):Det (F kind):=by
 unfold F
 repeat' with_reducible first|exact det_ret _|refine det_cond _ ?_ ?_
theorem edet a:Det (en a):=mkD (fun x:Dens A=>det x.1) a
theorem ground:Ground E tab:=gnd (tab_nil _) dtn
theorem sound:EntrySound E 177 en:=mkSound ground loops (by kernel_rfl) (fun x K=>eqv  x.1 K)
end q113
namespace q114
abbrev A:List Ty:=[(.st 5)]
abbrev C:=(cTy .bool)
abbrev T:Type:=Packet->(Bool->Prop)->Prop
def tv (f0:q111.T) (f1:q112.T) (f2:q113.T):Tab:=[(175,mkEntry q111.A q111.C fun x=>f0 x.1),(176,mkEntry q112.A q112.C fun x=>f1 x.1),(177,mkEntry q113.A q113.C fun x=>f2 x.1)]
def tab:Tab:=tv q111.F q112.F q113.F
def FV (f0:q111.T) (f1:q112.T) (f2:q113.T) (p:Packet) (K:Bool->Prop):Prop:=
 (bif(decide (p.kind < 1))then(K false)else(bif(decide (p.kind > 13))then(K false)else(bif(p.kind==1)then(f0 p.hello fun r1=>(bif(!r1)then(K false)else(bif(p.kind != 1)then(bif(!((p.hello.blocks==0)&&(((p.hello.vector.current==0)&&((p.hello.vector.bitmap==0)&&(((p.hello.vector.old0==0)&&((p.hello.vector.old1==0)&&true))&&true)))&&((p.hello.inc==false)&&((p.hello.was==false)&&((p.hello.dis==false)&&((p.hello.pri==false)&&((p.hello.mask==0)&&true))))))))then(K false)else(bif(decide (p.block < 0))then(K false)else(bif(decide (p.block > 31))then(K false)else(f1 p.kind fun r2=>(bif(!r2)then(bif(p.block != 0)then(K false)else(f2 p.kind fun r3=>(bif r3 then(K ((p.data.length:Int)==8))else(K (p.data==([]:Str))))))else(f2 p.kind fun r4=>(bif r4 then(K ((p.data.length:Int)==8))else(K (p.data==([]:Str))))))))))else(bif(decide (p.block < 0))then(K false)else(bif(decide (p.block > 31))then(K false)else(f1 p.kind fun r5=>(bif(!r5)then(bif(p.block != 0)then(K false)else(f2 p.kind fun r6=>(bif r6 then(K ((p.data.length:Int)==8))else(K (p.data==([]:Str))))))else(f2 p.kind fun r7=>(bif r7 then(K ((p.data.length:Int)==8))else(K (p.data==([]:Str))))))))))))else(bif(p.kind != 1)then(bif(!((p.hello.blocks==0)&&(((p.hello.vector.current==0)&&((p.hello.vector.bitmap==0)&&(((p.hello.vector.old0==0)&&((p.hello.vector.old1==0)&&true))&&true)))&&((p.hello.inc==false)&&((p.hello.was==false)&&((p.hello.dis==false)&&((p.hello.pri==false)&&((p.hello.mask==0)&&true))))))))then(K false)else(bif(decide (p.block < 0))then(K false)else(bif(decide (p.block > 31))then(K false)else(f1 p.kind fun r8=>(bif(!r8)then(bif(p.block != 0)then(K false)else(f2 p.kind fun r9=>(bif r9 then(K ((p.data.length:Int)==8))else(K (p.data==([]:Str))))))else(f2 p.kind fun r10=>(bif r10 then(K ((p.data.length:Int)==8))else(K (p.data==([]:Str))))))))))else(bif(decide (p.block < 0))then(K false)else(bif(decide (p.block > 31))then(K false)else(f1 p.kind fun r11=>(bif(!r11)then(bif(p.block != 0)then(K false)else(f2 p.kind fun r12=>(bif r12 then(K ((p.data.length:Int)==8))else(K (p.data==([]:Str))))))else(f2 p.kind fun r13=>(bif r13 then(K ((p.data.length:Int)==8))else(K (p.data==([]:Str)))))))))))))
def F (p:Packet) (K:Bool->Prop):Prop:=FV q111.F q112.F q113.F p K
def en:Entry:=mkEntry A C fun x=>F x.1
theorem eqv (f0:q111.T) (f1:q112.T) (f2:q113.T) (p:Packet) (K:Bool->Prop):apure E (tv f0 f1 f2) (fun _=>none) 4 128 [enc (.st 5) p] (ansK C K)=FV f0 f1 f2 p K:=by kernel_rfl
theorem loops:LoopsOk E tab (fun _=>none) 4 128:=lpn _ _ _ _
theorem det (p:Packet):Det (F p):=by
 unfold F FV
 repeat' with_reducible first|exact det_ret _|refine det_cond _ ?_ ?_|refine det_bind (q111.det _) (fun _=>?_)|refine det_bind (q112.det _) (fun _=>?_)|refine det_bind (q113.det _) (fun _=>?_)
theorem edet a:Det (en a):=mkD (fun x:Dens A=>det x.1) a
theorem ground:Ground E tab:=gnd (tbc q111.sound (tbc q112.sound (tbc q113.sound (tab_nil _)))) (dtc q111.edet (dtc q112.edet (dtc q113.edet dtn)))
theorem sound:EntrySound E 128 en:=mkSound ground loops (by kernel_rfl) (fun x K=>eqv q111.F q112.F q113.F x.1 K)
end q114
namespace q115
abbrev A:List Ty:=[(.st 4)]
abbrev C:=(cTwo .str (.int .i64))
abbrev T:Type:=Hello->((Str×Int)->Prop)->Prop
def tv (f0:q111.T) (f1:q14.T) (f2:q16.T) (f3:q19.T):Tab:=[(175,mkEntry q111.A q111.C fun x=>f0 x.1),(183,mkEntry q14.A q14.C fun x=>f1 x.1),(178,mkEntry q16.A q16.C fun x=>f2 x.1),(100,mkEntry q19.A q19.C fun x=>f3 x.1)]
def tab:Tab:=tv q111.F q14.F q16.F q19.F
def FV (f0:q111.T) (f1:q14.T) (f2:q16.T) (f3:q19.T) (h:Hello) (K:(Str×Int)->Prop):Prop:=
 (f0 h fun r1=>(bif(!r1)then(K (([]:Str),1))else(f1 ([h.inc,h.was,h.dis,h.pri]:List Bool) fun r2=>(f2 h.vector.current fun r3=>(bif(fits ((bytesOfInts ([(IntKind.u8.wrap h.blocks),r2]:List Int)).length+r3.length))then(f2 h.vector.bitmap fun r4=>(bif(fits (((bytesOfInts ([(IntKind.u8.wrap h.blocks),r2]:List Int))++r3).length+r4.length))then(f2 h.vector.old0 fun r5=>(bif(fits ((((bytesOfInts ([(IntKind.u8.wrap h.blocks),r2]:List Int))++r3)++r4).length+r5.length))then(f2 h.vector.old1 fun r6=>(bif(fits (((((bytesOfInts ([(IntKind.u8.wrap h.blocks),r2]:List Int))++r3)++r4)++r5).length+r6.length))then(f3 h.mask fun r7=>(bif(fits ((((((bytesOfInts ([(IntKind.u8.wrap h.blocks),r2]:List Int))++r3)++r4)++r5)++r6).length+r7.length))then(K (((((((bytesOfInts ([(IntKind.u8.wrap h.blocks),r2]:List Int))++r3)++r4)++r5)++r6)++r7),0))else False))else False))else False))else False))else False)))))
def F (h:Hello) (K:(Str×Int)->Prop):Prop:=FV q111.F q14.F q16.F q19.F h K
def en:Entry:=mkEntry A C fun x=>F x.1
theorem eqv (f0:q111.T) (f1:q14.T) (f2:q16.T) (f3:q19.T) (h:Hello) (K:(Str×Int)->Prop):apure E (tv f0 f1 f2 f3) (fun _=>none) 4 179 [enc (.st 4) h] (ansK C K)=FV f0 f1 f2 f3 h K:=by kernel_rfl
theorem loops:LoopsOk E tab (fun _=>none) 4 179:=lpn _ _ _ _
theorem det (h:Hello):Det (F h):=by
 unfold F FV
 repeat' with_reducible first|exact det_ret _|exact det_false|refine det_cond _ ?_ ?_|refine det_bind (q111.det _) (fun _=>?_)|refine det_bind (q14.det _) (fun _=>?_)|refine det_bind (q16.det _) (fun _=>?_)|refine det_bind (q19.det _) (fun _=>?_)
theorem edet a:Det (en a):=mkD (fun x:Dens A=>det x.1) a
theorem ground:Ground E tab:=gnd (tbc q111.sound (tbc q14.sound (tbc q16.sound (tbc q19.sound (tab_nil _))))) (dtc q111.edet (dtc q14.edet (dtc q16.edet (dtc q19.edet dtn))))
theorem sound:EntrySound E 179 en:=mkSound ground loops (by kernel_rfl) (fun x K=>eqv q111.F q14.F q16.F q19.F x.1 K)
end q115
namespace q116
abbrev A:List Ty:=[(.st 5)]
abbrev C:=(cTy .str)
abbrev T:Type:=Packet->(Str->Prop)->Prop
def tv (f0:q16.T) (f1:q115.T) (f2:q112.T):Tab:=[(178,mkEntry q16.A q16.C fun x=>f0 x.1),(179,mkEntry q115.A q115.C fun x=>f1 x.1),(176,mkEntry q112.A q112.C fun x=>f2 x.1)]
def tab:Tab:=tv q16.F q115.F q112.F
def FV (f0:q16.T) (f1:q115.T) (f2:q112.T) (p:Packet) (K:Str->Prop):Prop:=
 (f0 p.session fun r1=>(bif(fits ((bytesOfInts ([(IntKind.u8.wrap p.kind)]:List Int)).length+r1.length))then(bif(p.kind==1)then(f1 p.hello fun r2=>(bif(fits (((bytesOfInts ([(IntKind.u8.wrap p.kind)]:List Int))++r1).length+r2.1.length))then(f2 p.kind fun r3=>(bif r3 then(bif(fits ((((bytesOfInts ([(IntKind.u8.wrap p.kind)]:List Int))++r1)++r2.1).length+(bytesOfInts ([(IntKind.u8.wrap p.block)]:List Int)).length))then(bif(fits (((((bytesOfInts ([(IntKind.u8.wrap p.kind)]:List Int))++r1)++r2.1)++(bytesOfInts ([(IntKind.u8.wrap p.block)]:List Int))).length+p.data.length))then(K (((((bytesOfInts ([(IntKind.u8.wrap p.kind)]:List Int))++r1)++r2.1)++(bytesOfInts ([(IntKind.u8.wrap p.block)]:List Int)))++p.data))else False)else False)else(bif(fits ((((bytesOfInts ([(IntKind.u8.wrap p.kind)]:List Int))++r1)++r2.1).length+p.data.length))then(K ((((bytesOfInts ([(IntKind.u8.wrap p.kind)]:List Int))++r1)++r2.1)++p.data))else False)))else False))else(f2 p.kind fun r4=>(bif r4 then(bif(fits (((bytesOfInts ([(IntKind.u8.wrap p.kind)]:List Int))++r1).length+(bytesOfInts ([(IntKind.u8.wrap p.block)]:List Int)).length))then(bif(fits ((((bytesOfInts ([(IntKind.u8.wrap p.kind)]:List Int))++r1)++(bytesOfInts ([(IntKind.u8.wrap p.block)]:List Int))).length+p.data.length))then(K ((((bytesOfInts ([(IntKind.u8.wrap p.kind)]:List Int))++r1)++(bytesOfInts ([(IntKind.u8.wrap p.block)]:List Int)))++p.data))else False)else False)else(bif(fits (((bytesOfInts ([(IntKind.u8.wrap p.kind)]:List Int))++r1).length+p.data.length))then(K (((bytesOfInts ([(IntKind.u8.wrap p.kind)]:List Int))++r1)++p.data))else False))))else False))
def F (p:Packet) (K:Str->Prop):Prop:=FV q16.F q115.F q112.F p K
def en:Entry:=mkEntry A C fun x=>F x.1
theorem eqv (f0:q16.T) (f1:q115.T) (f2:q112.T) (p:Packet) (K:Str->Prop):apure E (tv f0 f1 f2) (fun _=>none) 4 129 [enc (.st 5) p] (ansK C K)=FV f0 f1 f2 p K:=by kernel_rfl
theorem loops:LoopsOk E tab (fun _=>none) 4 129:=lpn _ _ _ _
theorem det (p:Packet):Det (F p):=by
 unfold F FV
 repeat' with_reducible first|exact det_ret _|exact det_false|refine det_cond _ ?_ ?_|refine det_bind (q16.det _) (fun _=>?_)|refine det_bind (q115.det _) (fun _=>?_)|refine det_bind (q112.det _) (fun _=>?_)
theorem edet a:Det (en a):=mkD (fun x:Dens A=>det x.1) a
theorem ground:Ground E tab:=gnd (tbc q16.sound (tbc q115.sound (tbc q112.sound (tab_nil _)))) (dtc q16.edet (dtc q115.edet (dtc q112.edet dtn)))
theorem sound:EntrySound E 129 en:=mkSound ground loops (by kernel_rfl) (fun x K=>eqv q16.F q115.F q112.F x.1 K)
end q116
end Gm
end
