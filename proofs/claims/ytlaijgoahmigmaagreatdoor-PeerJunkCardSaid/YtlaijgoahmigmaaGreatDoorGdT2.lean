/- Printed by a program (gen.py): the functions' answers, and that they are so. -/
import Derived.Test.YtlaijgoahmigmaaGreatDoorGdT1
set_option linter.unusedVariables false
set_option maxRecDepth 100000
noncomputable section
namespace Gm
open Go Go.Proofs
namespace q45
abbrev A:List Ty:=[(.int .i64),(.int .u64)]
abbrev C:=(cTwo (.st 15) (.int .i64))
abbrev T:Type:=Int->Int->((Cluster×Int)->Prop)->Prop
def tv (f0:q23.T) (f1:q44.T):Tab:=[(128,mkEntry q23.A q23.C fun x=>f0 x.1 x.2.1),(129,mkEntry q44.A q44.C fun x=>f1 x.1 x.2.1)]
def tab:Tab:=tv q23.F q44.F
structure R where
 t5:Int
 m0:Cluster
def cR (x:R):St:={ fr:=lookL .top [(4,(.ptr 0 0)),(5,(.int .i64 x.t5))],hs:={ hp:=lookL .dead [(0,(.cells [(.int .i64 x.m0.n0.id),(.bool x.m0.n0.up),(.sl .any .str x.m0.n0.store.disk.sure),(.sl .any (.st 0) x.m0.n0.store.disk.cache),(.int .i64 x.m0.n0.store.disk.fuse),(.bool x.m0.n0.store.disk.dead),(.int .i64 x.m0.n0.store.sup.blocks),(.int .u64 x.m0.n0.store.sup.vector.current),(.int .u64 x.m0.n0.store.sup.vector.bitmap),(.int .u64 x.m0.n0.store.sup.vector.old0),(.int .u64 x.m0.n0.store.sup.vector.old1),(.bool x.m0.n0.store.sup.inc),(.bool x.m0.n0.store.sup.pri),(.bool x.m0.n0.store.sup.dis),(.int .u32 x.m0.n0.store.mask),(.bool x.m0.n0.primary),(.int .i64 x.m0.n0.state),(.int .u64 x.m0.n0.session),(.int .i64 x.m0.n0.peer.blocks),(.int .u64 x.m0.n0.peer.vector.current),(.int .u64 x.m0.n0.peer.vector.bitmap),(.int .u64 x.m0.n0.peer.vector.old0),(.int .u64 x.m0.n0.peer.vector.old1),(.bool x.m0.n0.peer.inc),(.bool x.m0.n0.peer.was),(.bool x.m0.n0.peer.dis),(.bool x.m0.n0.peer.pri),(.int .u32 x.m0.n0.peer.mask),(.bool x.m0.n0.peerPri),(.bool x.m0.n0.req.on),(.int .i64 x.m0.n0.req.id),(.int .i64 x.m0.n0.req.block),(.str x.m0.n0.req.data),(.bool x.m0.n0.asking),(.int .i64 x.m0.n0.askId),(.int .i64 x.m0.n0.wanted),(.bool x.m0.n0.minted),(.sl .any (.int .u64) x.m0.n0.draws),(.sl .any (.st 10) x.m0.n0.mints),(.int .i64 x.m0.n1.id),(.bool x.m0.n1.up),(.sl .any .str x.m0.n1.store.disk.sure),(.sl .any (.st 0) x.m0.n1.store.disk.cache),(.int .i64 x.m0.n1.store.disk.fuse),(.bool x.m0.n1.store.disk.dead),(.int .i64 x.m0.n1.store.sup.blocks),(.int .u64 x.m0.n1.store.sup.vector.current),(.int .u64 x.m0.n1.store.sup.vector.bitmap),(.int .u64 x.m0.n1.store.sup.vector.old0),(.int .u64 x.m0.n1.store.sup.vector.old1),(.bool x.m0.n1.store.sup.inc),(.bool x.m0.n1.store.sup.pri),(.bool x.m0.n1.store.sup.dis),(.int .u32 x.m0.n1.store.mask),(.bool x.m0.n1.primary),(.int .i64 x.m0.n1.state),(.int .u64 x.m0.n1.session),(.int .i64 x.m0.n1.peer.blocks),(.int .u64 x.m0.n1.peer.vector.current),(.int .u64 x.m0.n1.peer.vector.bitmap),(.int .u64 x.m0.n1.peer.vector.old0),(.int .u64 x.m0.n1.peer.vector.old1),(.bool x.m0.n1.peer.inc),(.bool x.m0.n1.peer.was),(.bool x.m0.n1.peer.dis),(.bool x.m0.n1.peer.pri),(.int .u32 x.m0.n1.peer.mask),(.bool x.m0.n1.peerPri),(.bool x.m0.n1.req.on),(.int .i64 x.m0.n1.req.id),(.int .i64 x.m0.n1.req.block),(.str x.m0.n1.req.data),(.bool x.m0.n1.asking),(.int .i64 x.m0.n1.askId),(.int .i64 x.m0.n1.wanted),(.bool x.m0.n1.minted),(.sl .any (.int .u64) x.m0.n1.draws),(.sl .any (.st 10) x.m0.n1.mints),(.bool x.m0.link.up),(.int .u64 x.m0.link.session),(.sl .any .str x.m0.link.to0),(.sl .any .str x.m0.link.to1),(.bool x.m0.w0),(.bool x.m0.w1)]))],hn:=3 } }
def kR:Keep:={ ks:=[(4,none),(5,none)],bs:=[0],hn:=3,ts:=[(0,15)] }
structure L0 where
 blocks:Int
 g:Int
 i:Int
 m0:Cluster
 m1:Cluster
def c0 (x:L0):St:={ fr:=lookL .top [(0,(.int .i64 x.blocks)),(1,(.int .u64 x.g)),(4,(.ptr 0 0)),(6,(.ptr 1 0)),(7,(.int .i64 x.i))],hs:={ hp:=lookL .dead [(0,(.cells [(.int .i64 x.m0.n0.id),(.bool x.m0.n0.up),(.sl .any .str x.m0.n0.store.disk.sure),(.sl .any (.st 0) x.m0.n0.store.disk.cache),(.int .i64 x.m0.n0.store.disk.fuse),(.bool x.m0.n0.store.disk.dead),(.int .i64 x.m0.n0.store.sup.blocks),(.int .u64 x.m0.n0.store.sup.vector.current),(.int .u64 x.m0.n0.store.sup.vector.bitmap),(.int .u64 x.m0.n0.store.sup.vector.old0),(.int .u64 x.m0.n0.store.sup.vector.old1),(.bool x.m0.n0.store.sup.inc),(.bool x.m0.n0.store.sup.pri),(.bool x.m0.n0.store.sup.dis),(.int .u32 x.m0.n0.store.mask),(.bool x.m0.n0.primary),(.int .i64 x.m0.n0.state),(.int .u64 x.m0.n0.session),(.int .i64 x.m0.n0.peer.blocks),(.int .u64 x.m0.n0.peer.vector.current),(.int .u64 x.m0.n0.peer.vector.bitmap),(.int .u64 x.m0.n0.peer.vector.old0),(.int .u64 x.m0.n0.peer.vector.old1),(.bool x.m0.n0.peer.inc),(.bool x.m0.n0.peer.was),(.bool x.m0.n0.peer.dis),(.bool x.m0.n0.peer.pri),(.int .u32 x.m0.n0.peer.mask),(.bool x.m0.n0.peerPri),(.bool x.m0.n0.req.on),(.int .i64 x.m0.n0.req.id),(.int .i64 x.m0.n0.req.block),(.str x.m0.n0.req.data),(.bool x.m0.n0.asking),(.int .i64 x.m0.n0.askId),(.int .i64 x.m0.n0.wanted),(.bool x.m0.n0.minted),(.sl .any (.int .u64) x.m0.n0.draws),(.sl .any (.st 10) x.m0.n0.mints),(.int .i64 x.m0.n1.id),(.bool x.m0.n1.up),(.sl .any .str x.m0.n1.store.disk.sure),(.sl .any (.st 0) x.m0.n1.store.disk.cache),(.int .i64 x.m0.n1.store.disk.fuse),(.bool x.m0.n1.store.disk.dead),(.int .i64 x.m0.n1.store.sup.blocks),(.int .u64 x.m0.n1.store.sup.vector.current),(.int .u64 x.m0.n1.store.sup.vector.bitmap),(.int .u64 x.m0.n1.store.sup.vector.old0),(.int .u64 x.m0.n1.store.sup.vector.old1),(.bool x.m0.n1.store.sup.inc),(.bool x.m0.n1.store.sup.pri),(.bool x.m0.n1.store.sup.dis),(.int .u32 x.m0.n1.store.mask),(.bool x.m0.n1.primary),(.int .i64 x.m0.n1.state),(.int .u64 x.m0.n1.session),(.int .i64 x.m0.n1.peer.blocks),(.int .u64 x.m0.n1.peer.vector.current),(.int .u64 x.m0.n1.peer.vector.bitmap),(.int .u64 x.m0.n1.peer.vector.old0),(.int .u64 x.m0.n1.peer.vector.old1),(.bool x.m0.n1.peer.inc),(.bool x.m0.n1.peer.was),(.bool x.m0.n1.peer.dis),(.bool x.m0.n1.peer.pri),(.int .u32 x.m0.n1.peer.mask),(.bool x.m0.n1.peerPri),(.bool x.m0.n1.req.on),(.int .i64 x.m0.n1.req.id),(.int .i64 x.m0.n1.req.block),(.str x.m0.n1.req.data),(.bool x.m0.n1.asking),(.int .i64 x.m0.n1.askId),(.int .i64 x.m0.n1.wanted),(.bool x.m0.n1.minted),(.sl .any (.int .u64) x.m0.n1.draws),(.sl .any (.st 10) x.m0.n1.mints),(.bool x.m0.link.up),(.int .u64 x.m0.link.session),(.sl .any .str x.m0.link.to0),(.sl .any .str x.m0.link.to1),(.bool x.m0.w0),(.bool x.m0.w1)])),(1,(.cells [(.int .i64 x.m1.n0.id),(.bool x.m1.n0.up),(.sl .any .str x.m1.n0.store.disk.sure),(.sl .any (.st 0) x.m1.n0.store.disk.cache),(.int .i64 x.m1.n0.store.disk.fuse),(.bool x.m1.n0.store.disk.dead),(.int .i64 x.m1.n0.store.sup.blocks),(.int .u64 x.m1.n0.store.sup.vector.current),(.int .u64 x.m1.n0.store.sup.vector.bitmap),(.int .u64 x.m1.n0.store.sup.vector.old0),(.int .u64 x.m1.n0.store.sup.vector.old1),(.bool x.m1.n0.store.sup.inc),(.bool x.m1.n0.store.sup.pri),(.bool x.m1.n0.store.sup.dis),(.int .u32 x.m1.n0.store.mask),(.bool x.m1.n0.primary),(.int .i64 x.m1.n0.state),(.int .u64 x.m1.n0.session),(.int .i64 x.m1.n0.peer.blocks),(.int .u64 x.m1.n0.peer.vector.current),(.int .u64 x.m1.n0.peer.vector.bitmap),(.int .u64 x.m1.n0.peer.vector.old0),(.int .u64 x.m1.n0.peer.vector.old1),(.bool x.m1.n0.peer.inc),(.bool x.m1.n0.peer.was),(.bool x.m1.n0.peer.dis),(.bool x.m1.n0.peer.pri),(.int .u32 x.m1.n0.peer.mask),(.bool x.m1.n0.peerPri),(.bool x.m1.n0.req.on),(.int .i64 x.m1.n0.req.id),(.int .i64 x.m1.n0.req.block),(.str x.m1.n0.req.data),(.bool x.m1.n0.asking),(.int .i64 x.m1.n0.askId),(.int .i64 x.m1.n0.wanted),(.bool x.m1.n0.minted),(.sl .any (.int .u64) x.m1.n0.draws),(.sl .any (.st 10) x.m1.n0.mints),(.int .i64 x.m1.n1.id),(.bool x.m1.n1.up),(.sl .any .str x.m1.n1.store.disk.sure),(.sl .any (.st 0) x.m1.n1.store.disk.cache),(.int .i64 x.m1.n1.store.disk.fuse),(.bool x.m1.n1.store.disk.dead),(.int .i64 x.m1.n1.store.sup.blocks),(.int .u64 x.m1.n1.store.sup.vector.current),(.int .u64 x.m1.n1.store.sup.vector.bitmap),(.int .u64 x.m1.n1.store.sup.vector.old0),(.int .u64 x.m1.n1.store.sup.vector.old1),(.bool x.m1.n1.store.sup.inc),(.bool x.m1.n1.store.sup.pri),(.bool x.m1.n1.store.sup.dis),(.int .u32 x.m1.n1.store.mask),(.bool x.m1.n1.primary),(.int .i64 x.m1.n1.state),(.int .u64 x.m1.n1.session),(.int .i64 x.m1.n1.peer.blocks),(.int .u64 x.m1.n1.peer.vector.current),(.int .u64 x.m1.n1.peer.vector.bitmap),(.int .u64 x.m1.n1.peer.vector.old0),(.int .u64 x.m1.n1.peer.vector.old1),(.bool x.m1.n1.peer.inc),(.bool x.m1.n1.peer.was),(.bool x.m1.n1.peer.dis),(.bool x.m1.n1.peer.pri),(.int .u32 x.m1.n1.peer.mask),(.bool x.m1.n1.peerPri),(.bool x.m1.n1.req.on),(.int .i64 x.m1.n1.req.id),(.int .i64 x.m1.n1.req.block),(.str x.m1.n1.req.data),(.bool x.m1.n1.asking),(.int .i64 x.m1.n1.askId),(.int .i64 x.m1.n1.wanted),(.bool x.m1.n1.minted),(.sl .any (.int .u64) x.m1.n1.draws),(.sl .any (.st 10) x.m1.n1.mints),(.bool x.m1.link.up),(.int .u64 x.m1.link.session),(.sl .any .str x.m1.link.to0),(.sl .any .str x.m1.link.to1),(.bool x.m1.w0),(.bool x.m1.w1)]))],hn:=2 } }
def kp0:Keep:={ ks:=[(0,none),(1,none),(4,none),(6,none),(7,none)],bs:=[0,1],hn:=2,ts:=[(0,15),(1,15)] }
def p0 (st:St) (K:L0->Prop):Prop:=gInt .i64 (st.fr 0) fun a1=>gInt .u64 (st.fr 1) fun a2=>gPtr 0 0 (st.fr 4) <| gPtr 1 0 (st.fr 6) <| gInt .i64 (st.fr 7) fun a3=>gBlkS 15 (st.hs.hp 0) fun a4=>gBlkS 15 (st.hs.hp 1) fun a5=>K ⟨a1,a2,a3,a4,a5⟩
set_option maxHeartbeats 4000000 in
theorem p0_ok (st:St) (K:L0->Prop) (h:p0 st K):∃ x,keepSt kp0 st=c0 x∧K x:=by
 obtain ⟨a1,h0,h⟩:=gInt_elim h
 obtain ⟨a2,h1,h⟩:=gInt_elim h
 obtain ⟨h2,h⟩:=gPtr_elim h
 obtain ⟨h3,h⟩:=gPtr_elim h
 obtain ⟨a3,h4,h⟩:=gInt_elim h
 obtain ⟨z5,a4,h5,y5,h⟩:=gBlkS_elim h
 have q5:∀ ok,keptB kp0 ok 0 (.cells z5)=.cells (encS 15 a4):=fun _=>y5
 simp only [kp0] at q5
 obtain ⟨z6,a5,h6,y6,h⟩:=gBlkS_elim h
 have q6:∀ ok,keptB kp0 ok 1 (.cells z6)=.cells (encS 15 a5):=fun _=>y6
 simp only [kp0] at q6
 refine⟨_,?_,h⟩
 simp only [keepSt,kp0,List.map,h0,h1,h2,h3,h4,h5,h6,q5,q6]
 rfl
def b0V (f0:q23.T) (f1:q44.T) (rec kx:L0->Prop) (kr:R->Prop) (x:L0):Prop:=
 (bif(decide (x.i < 2))then(f0 x.blocks x.g fun r1=>(bif(r1.2 != 0)then(kr ⟨r1.2,(⟨(⟨0,false,(⟨(⟨([]:List Str),([]:List Write),0,false⟩:Disk),(⟨0,(⟨0,0,0,0⟩:Vec),false,false,false⟩:Super),0⟩:Store),false,0,0,(⟨0,(⟨0,0,0,0⟩:Vec),false,false,false,false,0⟩:Hello),false,(⟨false,0,0,([]:Str)⟩:Req),false,0,0,false,([]:List Int),([]:List Mint)⟩:Node),(⟨0,false,(⟨(⟨([]:List Str),([]:List Write),0,false⟩:Disk),(⟨0,(⟨0,0,0,0⟩:Vec),false,false,false⟩:Super),0⟩:Store),false,0,0,(⟨0,(⟨0,0,0,0⟩:Vec),false,false,false,false,0⟩:Hello),false,(⟨false,0,0,([]:Str)⟩:Req),false,0,0,false,([]:List Int),([]:List Mint)⟩:Node),(⟨false,0,([]:List Str),([]:List Str)⟩:Link),false,false⟩:Cluster)⟩)else(f1 (⟨x.i,false,(⟨r1.1,(⟨0,(⟨0,0,0,0⟩:Vec),false,false,false⟩:Super),0⟩:Store),false,0,0,(⟨0,(⟨0,0,0,0⟩:Vec),false,false,false,false,0⟩:Hello),false,(⟨false,0,0,([]:Str)⟩:Req),false,0,0,false,([]:List Int),([]:List Mint)⟩:Node) ([]:List Bool) fun r2=>(bif(x.i==0)then(rec ⟨x.blocks,x.g,(IntKind.i64.wrap (x.i+1)),x.m0,(⟨r2.1,x.m1.n1,x.m1.link,x.m1.w0,x.m1.w1⟩:Cluster)⟩)else(bif(x.i==1)then(rec ⟨x.blocks,x.g,(IntKind.i64.wrap (x.i+1)),x.m0,(⟨x.m1.n0,r2.1,x.m1.link,x.m1.w0,x.m1.w1⟩:Cluster)⟩)else False)))))else(kx ⟨x.blocks,x.g,x.i,x.m0,x.m1⟩))
def ltV (f0:q23.T) (f1:q44.T):Nat->Option LSpec
 | 0=>some (mkLoop 0 kp0 kR p0 c0 cR (b0V f0 f1))
 | _=>none
def lt:Nat->Option LSpec:=ltV q23.F q44.F
def FV (f0:q23.T) (f1:q44.T) (blocks:Int) (g:Int) (K:(Cluster×Int)->Prop):Prop:=
 (∃ n,loopB (b0V f0 f1) n (fun x3=>(K (x3.m1,0))) (fun r4=>(K (r4.m0,r4.t5))) ⟨blocks,g,0,(⟨(⟨0,false,(⟨(⟨([]:List Str),([]:List Write),0,false⟩:Disk),(⟨0,(⟨0,0,0,0⟩:Vec),false,false,false⟩:Super),0⟩:Store),false,0,0,(⟨0,(⟨0,0,0,0⟩:Vec),false,false,false,false,0⟩:Hello),false,(⟨false,0,0,([]:Str)⟩:Req),false,0,0,false,([]:List Int),([]:List Mint)⟩:Node),(⟨0,false,(⟨(⟨([]:List Str),([]:List Write),0,false⟩:Disk),(⟨0,(⟨0,0,0,0⟩:Vec),false,false,false⟩:Super),0⟩:Store),false,0,0,(⟨0,(⟨0,0,0,0⟩:Vec),false,false,false,false,0⟩:Hello),false,(⟨false,0,0,([]:Str)⟩:Req),false,0,0,false,([]:List Int),([]:List Mint)⟩:Node),(⟨false,0,([]:List Str),([]:List Str)⟩:Link),false,false⟩:Cluster),(⟨(⟨0,false,(⟨(⟨([]:List Str),([]:List Write),0,false⟩:Disk),(⟨0,(⟨0,0,0,0⟩:Vec),false,false,false⟩:Super),0⟩:Store),false,0,0,(⟨0,(⟨0,0,0,0⟩:Vec),false,false,false,false,0⟩:Hello),false,(⟨false,0,0,([]:Str)⟩:Req),false,0,0,false,([]:List Int),([]:List Mint)⟩:Node),(⟨0,false,(⟨(⟨([]:List Str),([]:List Write),0,false⟩:Disk),(⟨0,(⟨0,0,0,0⟩:Vec),false,false,false⟩:Super),0⟩:Store),false,0,0,(⟨0,(⟨0,0,0,0⟩:Vec),false,false,false,false,0⟩:Hello),false,(⟨false,0,0,([]:Str)⟩:Req),false,0,0,false,([]:List Int),([]:List Mint)⟩:Node),(⟨false,0,([]:List Str),([]:List Str)⟩:Link),false,false⟩:Cluster)⟩)
def F (blocks:Int) (g:Int) (K:(Cluster×Int)->Prop):Prop:=FV q23.F q44.F blocks g K
def en:Entry:=mkEntry A C fun x=>F x.1 x.2.1
theorem eqv (f0:q23.T) (f1:q44.T) (blocks:Int) (g:Int) (K:(Cluster×Int)->Prop):apure E (tv f0 f1) (ltV f0 f1) 4 71 [enc (.int .i64) blocks,enc (.int .u64) g] (ansK C K)=FV f0 f1 blocks g K:=by kernel_rfl
theorem l0v (f0:q23.T) (f1:q44.T) (R:St->Prop) (Kx:Nat->St->Prop) (Kr:St->Prop) (x:L0):acode E (tv f0 f1) (afun E (tv f0 f1) 4) 36 (ltV f0 f1) ((loopsIn E.P 71).getD 0 (0,.skip)).2 0 (fun s=>R (keepSt kp0 s)) (fun j s=>Kx j (keepSt kp0 s)) (fun s=>Kr (keepSt kR s)) (c0 x)=b0V f0 f1 (fun x=>R (c0 x)) (fun x=>Kx 0 (c0 x)) (fun r=>Kr (cR r)) x:=by kernel_rfl
theorem l0_ok:LSound E tab (afun E tab 4) 36 lt 0 ((loopsIn E.P 71).getD 0 (0,.skip)).2 (mkLoop 0 kp0 kR p0 c0 cR (b0V q23.F q44.F)):=mkLoop_sound (by decide) (by decide) p0_ok (fun R Kx Kr x=>l0v q23.F q44.F R Kx Kr x)
theorem loops:LoopsOk E tab lt 4 71:=loops_of (nt:=36) (ids:=[0]) (by kernel_rfl) (by kernel_rfl) (by
 intro k i hk l hl
 match k,hk with
 | 0,hk=>cases hk;cases hl;exact l0_ok
 | _+1,hk=>exact absurd hk (by simp))
theorem det (blocks:Int) (g:Int):Det (F blocks g):=by
 unfold F FV
 repeat' with_reducible first|exact det_ret _|exact det_false|refine det_cond _ ?_ ?_|refine det_bind (q23.det _ _) (fun _=>?_)|refine det_bind (q44.det _ _) (fun _=>?_)|refine det_loop (fun _=>?_) (fun _=>?_) (fun _=>?_) _ | unfold b0V
theorem edet a:Det (en a):=mkD (fun x:Dens A=>det x.1 x.2.1) a
theorem ground:Ground E tab:=gnd (tbc q23.sound (tbc q44.sound (tab_nil _))) (dtc q23.edet (dtc q44.edet dtn))
theorem sound:EntrySound E 71 en:=mkSound ground loops (by kernel_rfl) (fun x K=>eqv q23.F q44.F x.1 x.2.1 K)
end q45
namespace q46
abbrev A:List Ty:=[(.st 13),(.int .i64),(.int .i64),.str]
abbrev C:=(cTy (.st 11))
abbrev T:Type:=Node->Int->Int->Str->(Outp->Prop)->Prop
def tab:Tab:=[]
def F (n_0:Node) (id:Int) (e:Int) (data:Str) (K:Outp->Prop):Prop:=
 (K (⟨2,n_0.id,id,e,data⟩:Outp))
def en:Entry:=mkEntry A C fun x=>F x.1 x.2.1 x.2.2.1 x.2.2.2.1
theorem eqv (n_0:Node) (id:Int) (e:Int) (data:Str) (K:Outp->Prop):apure E tab (fun _=>none) 4 192 [enc (.st 13) n_0,enc (.int .i64) id,enc (.int .i64) e,enc .str data] (ansK C K)=F n_0 id e data K:=by kernel_rfl
theorem loops:LoopsOk E tab (fun _=>none) 4 192:=lpn _ _ _ _
theorem det (n_0:Node) (id:Int) (e:Int) (data:Str):Det (F n_0 id e data):=by
 unfold F
 repeat' with_reducible first|exact det_ret _
theorem edet a:Det (en a):=mkD (fun x:Dens A=>det x.1 x.2.1 x.2.2.1 x.2.2.2.1) a
theorem ground:Ground E tab:=gnd (tab_nil _) dtn
theorem sound:EntrySound E 192 en:=mkSound ground loops (by kernel_rfl) (fun x K=>eqv  x.1 x.2.1 x.2.2.1 x.2.2.2.1 K)
end q46
namespace q47
abbrev A:List Ty:=[(.st 13),(.int .i64),(.int .i64)]
abbrev C:=(cTwo (.st 13) (.slice (.st 11)))
abbrev T:Type:=Node->Int->Int->((Node×(List Outp))->Prop)->Prop
def tv (f0:q46.T):Tab:=[(192,mkEntry q46.A q46.C fun x=>f0 x.1 x.2.1 x.2.2.1 x.2.2.2.1)]
def tab:Tab:=tv q46.F
def FV (f0:q46.T) (n_0:Node) (id:Int) (e:Int) (K:(Node×(List Outp))->Prop):Prop:=
 (f0 n_0 id e ([]:Str) fun r1=>(K (n_0,([r1]:List Outp))))
def F (n_0:Node) (id:Int) (e:Int) (K:(Node×(List Outp))->Prop):Prop:=FV q46.F n_0 id e K
def en:Entry:=mkEntry A C fun x=>F x.1 x.2.1 x.2.2.1
theorem eqv (f0:q46.T) (n_0:Node) (id:Int) (e:Int) (K:(Node×(List Outp))->Prop):apure E (tv f0) (fun _=>none) 4 229 [enc (.st 13) n_0,enc (.int .i64) id,enc (.int .i64) e] (ansK C K)=FV f0 n_0 id e K:=by kernel_rfl
theorem loops:LoopsOk E tab (fun _=>none) 4 229:=lpn _ _ _ _
theorem det (n_0:Node) (id:Int) (e:Int):Det (F n_0 id e):=by
 unfold F FV
 repeat' with_reducible first|exact det_ret _|refine det_bind (q46.det _ _ _ _) (fun _=>?_)
theorem edet a:Det (en a):=mkD (fun x:Dens A=>det x.1 x.2.1 x.2.2.1) a
theorem ground:Ground E tab:=gnd (tbc q46.sound (tab_nil _)) (dtc q46.edet dtn)
theorem sound:EntrySound E 229 en:=mkSound ground loops (by kernel_rfl) (fun x K=>eqv q46.F x.1 x.2.1 x.2.2.1 K)
end q47
namespace q48
abbrev A:List Ty:=[(.st 13)]
abbrev C:=(cTy .bool)
abbrev T:Type:=Node->(Bool->Prop)->Prop
def tab:Tab:=[]
def F (n_0:Node) (K:Bool->Prop):Prop:=
 (bif(n_0.state==2)then(K true)else(K (n_0.state==3)))
def en:Entry:=mkEntry A C fun x=>F x.1
theorem eqv (n_0:Node) (K:Bool->Prop):apure E tab (fun _=>none) 4 230 [enc (.st 13) n_0] (ansK C K)=F n_0 K:=by kernel_rfl
theorem loops:LoopsOk E tab (fun _=>none) 4 230:=lpn _ _ _ _
theorem det (n_0:Node):Det (F n_0):=by
 unfold F
 repeat' with_reducible first|exact det_ret _|refine det_cond _ ?_ ?_
theorem edet a:Det (en a):=mkD (fun x:Dens A=>det x.1) a
theorem ground:Ground E tab:=gnd (tab_nil _) dtn
theorem sound:EntrySound E 230 en:=mkSound ground loops (by kernel_rfl) (fun x K=>eqv  x.1 K)
end q48
namespace q49
abbrev A:List Ty:=[(.st 4)]
abbrev C:=(cTy .bool)
abbrev T:Type:=Hello->(Bool->Prop)->Prop
def tv (f0:q38.T):Tab:=[(62,mkEntry q38.A q38.C fun x=>f0 x.1 x.2.1)]
def tab:Tab:=tv q38.F
def FV (f0:q38.T) (h:Hello) (K:Bool->Prop):Prop:=
 (bif(decide (h.blocks≥1))then(bif(decide (h.blocks≤32))then(bif(h.vector.current != 0)then(f0 h.mask h.blocks fun r1=>(bif r1 then(bif h.pri then(bif(!h.was)then(bif h.pri then(K (!h.inc))else(K true))else(K false))else(bif h.pri then(K (!h.inc))else(K true)))else(K false)))else(K false))else(K false))else(K false))
def F (h:Hello) (K:Bool->Prop):Prop:=FV q38.F h K
def en:Entry:=mkEntry A C fun x=>F x.1
theorem eqv (f0:q38.T) (h:Hello) (K:Bool->Prop):apure E (tv f0) (fun _=>none) 4 24 [enc (.st 4) h] (ansK C K)=FV f0 h K:=by kernel_rfl
theorem loops:LoopsOk E tab (fun _=>none) 4 24:=lpn _ _ _ _
theorem det (h:Hello):Det (F h):=by
 unfold F FV
 repeat' with_reducible first|exact det_ret _|refine det_cond _ ?_ ?_|refine det_bind (q38.det _ _) (fun _=>?_)
theorem edet a:Det (en a):=mkD (fun x:Dens A=>det x.1) a
theorem ground:Ground E tab:=gnd (tbc q38.sound (tab_nil _)) (dtc q38.edet dtn)
theorem sound:EntrySound E 24 en:=mkSound ground loops (by kernel_rfl) (fun x K=>eqv q38.F x.1 K)
end q49
namespace q50
abbrev A:List Ty:=[(.int .i64)]
abbrev C:=(cTy .bool)
abbrev T:Type:=Int->(Bool->Prop)->Prop
def tab:Tab:=[]
def F (kind:Int) (K:Bool->Prop):Prop:=
 (bif(decide (kind≥2))then(K (decide (kind≤7)))else(K false))
def en:Entry:=mkEntry A C fun x=>F x.1
theorem eqv (kind:Int) (K:Bool->Prop):apure E tab (fun _=>none) 4 89 [enc (.int .i64) kind] (ansK C K)=F kind K:=by kernel_rfl
theorem loops:LoopsOk E tab (fun _=>none) 4 89:=lpn _ _ _ _
theorem det (kind:Int):Det (F kind):=by
 unfold F
 repeat' with_reducible first|exact det_ret _|refine det_cond _ ?_ ?_
theorem edet a:Det (en a):=mkD (fun x:Dens A=>det x.1) a
theorem ground:Ground E tab:=gnd (tab_nil _) dtn
theorem sound:EntrySound E 89 en:=mkSound ground loops (by kernel_rfl) (fun x K=>eqv  x.1 K)
end q50
namespace q51
abbrev A:List Ty:=[(.int .i64)]
abbrev C:=(cTy .bool)
abbrev T:Type:=Int->(Bool->Prop)->Prop
def tab:Tab:=[]
def F (kind:Int) (K:Bool->Prop):Prop:=
 (bif(kind==2)then(K true)else(K (kind==6)))
def en:Entry:=mkEntry A C fun x=>F x.1
theorem eqv (kind:Int) (K:Bool->Prop):apure E tab (fun _=>none) 4 148 [enc (.int .i64) kind] (ansK C K)=F kind K:=by kernel_rfl
theorem loops:LoopsOk E tab (fun _=>none) 4 148:=lpn _ _ _ _
theorem det (kind:Int):Det (F kind):=by
 unfold F
 repeat' with_reducible first|exact det_ret _|refine det_cond _ ?_ ?_
theorem edet a:Det (en a):=mkD (fun x:Dens A=>det x.1) a
theorem ground:Ground E tab:=gnd (tab_nil _) dtn
theorem sound:EntrySound E 148 en:=mkSound ground loops (by kernel_rfl) (fun x K=>eqv  x.1 K)
end q51
namespace q52
abbrev A:List Ty:=[(.st 5)]
abbrev C:=(cTy .bool)
abbrev T:Type:=Packet->(Bool->Prop)->Prop
def tv (f0:q49.T) (f1:q50.T) (f2:q51.T):Tab:=[(24,mkEntry q49.A q49.C fun x=>f0 x.1),(89,mkEntry q50.A q50.C fun x=>f1 x.1),(148,mkEntry q51.A q51.C fun x=>f2 x.1)]
def tab:Tab:=tv q49.F q50.F q51.F
def FV (f0:q49.T) (f1:q50.T) (f2:q51.T) (p:Packet) (K:Bool->Prop):Prop:=
 (bif(decide (p.kind < 1))then(K false)else(bif(decide (p.kind > 13))then(K false)else(bif(p.kind==1)then(f0 p.hello fun r1=>(bif(!r1)then(K false)else(bif(p.kind != 1)then(bif(!((p.hello.blocks==0)&&(((p.hello.vector.current==0)&&((p.hello.vector.bitmap==0)&&(((p.hello.vector.old0==0)&&((p.hello.vector.old1==0)&&true))&&true)))&&((p.hello.inc==false)&&((p.hello.was==false)&&((p.hello.dis==false)&&((p.hello.pri==false)&&((p.hello.mask==0)&&true))))))))then(K false)else(bif(decide (p.block < 0))then(K false)else(bif(decide (p.block > 31))then(K false)else(f1 p.kind fun r2=>(bif(!r2)then(bif(p.block != 0)then(K false)else(f2 p.kind fun r3=>(bif r3 then(K ((p.data.length:Int)==8))else(K (p.data==([]:Str))))))else(f2 p.kind fun r4=>(bif r4 then(K ((p.data.length:Int)==8))else(K (p.data==([]:Str))))))))))else(bif(decide (p.block < 0))then(K false)else(bif(decide (p.block > 31))then(K false)else(f1 p.kind fun r5=>(bif(!r5)then(bif(p.block != 0)then(K false)else(f2 p.kind fun r6=>(bif r6 then(K ((p.data.length:Int)==8))else(K (p.data==([]:Str))))))else(f2 p.kind fun r7=>(bif r7 then(K ((p.data.length:Int)==8))else(K (p.data==([]:Str))))))))))))else(bif(p.kind != 1)then(bif(!((p.hello.blocks==0)&&(((p.hello.vector.current==0)&&((p.hello.vector.bitmap==0)&&(((p.hello.vector.old0==0)&&((p.hello.vector.old1==0)&&true))&&true)))&&((p.hello.inc==false)&&((p.hello.was==false)&&((p.hello.dis==false)&&((p.hello.pri==false)&&((p.hello.mask==0)&&true))))))))then(K false)else(bif(decide (p.block < 0))then(K false)else(bif(decide (p.block > 31))then(K false)else(f1 p.kind fun r8=>(bif(!r8)then(bif(p.block != 0)then(K false)else(f2 p.kind fun r9=>(bif r9 then(K ((p.data.length:Int)==8))else(K (p.data==([]:Str))))))else(f2 p.kind fun r10=>(bif r10 then(K ((p.data.length:Int)==8))else(K (p.data==([]:Str))))))))))else(bif(decide (p.block < 0))then(K false)else(bif(decide (p.block > 31))then(K false)else(f1 p.kind fun r11=>(bif(!r11)then(bif(p.block != 0)then(K false)else(f2 p.kind fun r12=>(bif r12 then(K ((p.data.length:Int)==8))else(K (p.data==([]:Str))))))else(f2 p.kind fun r13=>(bif r13 then(K ((p.data.length:Int)==8))else(K (p.data==([]:Str)))))))))))))
def F (p:Packet) (K:Bool->Prop):Prop:=FV q49.F q50.F q51.F p K
def en:Entry:=mkEntry A C fun x=>F x.1
theorem eqv (f0:q49.T) (f1:q50.T) (f2:q51.T) (p:Packet) (K:Bool->Prop):apure E (tv f0 f1 f2) (fun _=>none) 4 90 [enc (.st 5) p] (ansK C K)=FV f0 f1 f2 p K:=by kernel_rfl
theorem loops:LoopsOk E tab (fun _=>none) 4 90:=lpn _ _ _ _
theorem det (p:Packet):Det (F p):=by
 unfold F FV
 repeat' with_reducible first|exact det_ret _|refine det_cond _ ?_ ?_|refine det_bind (q49.det _) (fun _=>?_)|refine det_bind (q50.det _) (fun _=>?_)|refine det_bind (q51.det _) (fun _=>?_)
theorem edet a:Det (en a):=mkD (fun x:Dens A=>det x.1) a
theorem ground:Ground E tab:=gnd (tbc q49.sound (tbc q50.sound (tbc q51.sound (tab_nil _)))) (dtc q49.edet (dtc q50.edet (dtc q51.edet dtn)))
theorem sound:EntrySound E 90 en:=mkSound ground loops (by kernel_rfl) (fun x K=>eqv q49.F q50.F q51.F x.1 K)
end q52
namespace q53
abbrev A:List Ty:=[(.st 4)]
abbrev C:=(cTwo .str (.int .i64))
abbrev T:Type:=Hello->((Str×Int)->Prop)->Prop
def tv (f0:q49.T) (f1:q14.T) (f2:q16.T) (f3:q19.T):Tab:=[(24,mkEntry q49.A q49.C fun x=>f0 x.1),(209,mkEntry q14.A q14.C fun x=>f1 x.1),(149,mkEntry q16.A q16.C fun x=>f2 x.1),(181,mkEntry q19.A q19.C fun x=>f3 x.1)]
def tab:Tab:=tv q49.F q14.F q16.F q19.F
def FV (f0:q49.T) (f1:q14.T) (f2:q16.T) (f3:q19.T) (h:Hello) (K:(Str×Int)->Prop):Prop:=
 (f0 h fun r1=>(bif(!r1)then(K (([]:Str),1))else(f1 ([h.inc,h.was,h.dis,h.pri]:List Bool) fun r2=>(f2 h.vector.current fun r3=>(bif(fits ((bytesOfInts ([(IntKind.u8.wrap h.blocks),r2]:List Int)).length+r3.length))then(f2 h.vector.bitmap fun r4=>(bif(fits (((bytesOfInts ([(IntKind.u8.wrap h.blocks),r2]:List Int))++r3).length+r4.length))then(f2 h.vector.old0 fun r5=>(bif(fits ((((bytesOfInts ([(IntKind.u8.wrap h.blocks),r2]:List Int))++r3)++r4).length+r5.length))then(f2 h.vector.old1 fun r6=>(bif(fits (((((bytesOfInts ([(IntKind.u8.wrap h.blocks),r2]:List Int))++r3)++r4)++r5).length+r6.length))then(f3 h.mask fun r7=>(bif(fits ((((((bytesOfInts ([(IntKind.u8.wrap h.blocks),r2]:List Int))++r3)++r4)++r5)++r6).length+r7.length))then(K (((((((bytesOfInts ([(IntKind.u8.wrap h.blocks),r2]:List Int))++r3)++r4)++r5)++r6)++r7),0))else False))else False))else False))else False))else False)))))
def F (h:Hello) (K:(Str×Int)->Prop):Prop:=FV q49.F q14.F q16.F q19.F h K
def en:Entry:=mkEntry A C fun x=>F x.1
theorem eqv (f0:q49.T) (f1:q14.T) (f2:q16.T) (f3:q19.T) (h:Hello) (K:(Str×Int)->Prop):apure E (tv f0 f1 f2 f3) (fun _=>none) 4 150 [enc (.st 4) h] (ansK C K)=FV f0 f1 f2 f3 h K:=by kernel_rfl
theorem loops:LoopsOk E tab (fun _=>none) 4 150:=lpn _ _ _ _
theorem det (h:Hello):Det (F h):=by
 unfold F FV
 repeat' with_reducible first|exact det_ret _|exact det_false|refine det_cond _ ?_ ?_|refine det_bind (q49.det _) (fun _=>?_)|refine det_bind (q14.det _) (fun _=>?_)|refine det_bind (q16.det _) (fun _=>?_)|refine det_bind (q19.det _) (fun _=>?_)
theorem edet a:Det (en a):=mkD (fun x:Dens A=>det x.1) a
theorem ground:Ground E tab:=gnd (tbc q49.sound (tbc q14.sound (tbc q16.sound (tbc q19.sound (tab_nil _))))) (dtc q49.edet (dtc q14.edet (dtc q16.edet (dtc q19.edet dtn))))
theorem sound:EntrySound E 150 en:=mkSound ground loops (by kernel_rfl) (fun x K=>eqv q49.F q14.F q16.F q19.F x.1 K)
end q53
namespace q54
abbrev A:List Ty:=[(.st 5)]
abbrev C:=(cTy .str)
abbrev T:Type:=Packet->(Str->Prop)->Prop
def tv (f0:q16.T) (f1:q53.T) (f2:q50.T):Tab:=[(149,mkEntry q16.A q16.C fun x=>f0 x.1),(150,mkEntry q53.A q53.C fun x=>f1 x.1),(89,mkEntry q50.A q50.C fun x=>f2 x.1)]
def tab:Tab:=tv q16.F q53.F q50.F
def FV (f0:q16.T) (f1:q53.T) (f2:q50.T) (p:Packet) (K:Str->Prop):Prop:=
 (f0 p.session fun r1=>(bif(fits ((bytesOfInts ([(IntKind.u8.wrap p.kind)]:List Int)).length+r1.length))then(bif(p.kind==1)then(f1 p.hello fun r2=>(bif(fits (((bytesOfInts ([(IntKind.u8.wrap p.kind)]:List Int))++r1).length+r2.1.length))then(f2 p.kind fun r3=>(bif r3 then(bif(fits ((((bytesOfInts ([(IntKind.u8.wrap p.kind)]:List Int))++r1)++r2.1).length+(bytesOfInts ([(IntKind.u8.wrap p.block)]:List Int)).length))then(bif(fits (((((bytesOfInts ([(IntKind.u8.wrap p.kind)]:List Int))++r1)++r2.1)++(bytesOfInts ([(IntKind.u8.wrap p.block)]:List Int))).length+p.data.length))then(K (((((bytesOfInts ([(IntKind.u8.wrap p.kind)]:List Int))++r1)++r2.1)++(bytesOfInts ([(IntKind.u8.wrap p.block)]:List Int)))++p.data))else False)else False)else(bif(fits ((((bytesOfInts ([(IntKind.u8.wrap p.kind)]:List Int))++r1)++r2.1).length+p.data.length))then(K ((((bytesOfInts ([(IntKind.u8.wrap p.kind)]:List Int))++r1)++r2.1)++p.data))else False)))else False))else(f2 p.kind fun r4=>(bif r4 then(bif(fits (((bytesOfInts ([(IntKind.u8.wrap p.kind)]:List Int))++r1).length+(bytesOfInts ([(IntKind.u8.wrap p.block)]:List Int)).length))then(bif(fits ((((bytesOfInts ([(IntKind.u8.wrap p.kind)]:List Int))++r1)++(bytesOfInts ([(IntKind.u8.wrap p.block)]:List Int))).length+p.data.length))then(K ((((bytesOfInts ([(IntKind.u8.wrap p.kind)]:List Int))++r1)++(bytesOfInts ([(IntKind.u8.wrap p.block)]:List Int)))++p.data))else False)else False)else(bif(fits (((bytesOfInts ([(IntKind.u8.wrap p.kind)]:List Int))++r1).length+p.data.length))then(K (((bytesOfInts ([(IntKind.u8.wrap p.kind)]:List Int))++r1)++p.data))else False))))else False))
def F (p:Packet) (K:Str->Prop):Prop:=FV q16.F q53.F q50.F p K
def en:Entry:=mkEntry A C fun x=>F x.1
theorem eqv (f0:q16.T) (f1:q53.T) (f2:q50.T) (p:Packet) (K:Str->Prop):apure E (tv f0 f1 f2) (fun _=>none) 4 91 [enc (.st 5) p] (ansK C K)=FV f0 f1 f2 p K:=by kernel_rfl
theorem loops:LoopsOk E tab (fun _=>none) 4 91:=lpn _ _ _ _
theorem det (p:Packet):Det (F p):=by
 unfold F FV
 repeat' with_reducible first|exact det_ret _|exact det_false|refine det_cond _ ?_ ?_|refine det_bind (q16.det _) (fun _=>?_)|refine det_bind (q53.det _) (fun _=>?_)|refine det_bind (q50.det _) (fun _=>?_)
theorem edet a:Det (en a):=mkD (fun x:Dens A=>det x.1) a
theorem ground:Ground E tab:=gnd (tbc q16.sound (tbc q53.sound (tbc q50.sound (tab_nil _)))) (dtc q16.edet (dtc q53.edet (dtc q50.edet dtn)))
theorem sound:EntrySound E 91 en:=mkSound ground loops (by kernel_rfl) (fun x K=>eqv q16.F q53.F q50.F x.1 K)
end q54
namespace q55
abbrev A:List Ty:=[(.st 5)]
abbrev C:=(cTwo .str (.int .i64))
abbrev T:Type:=Packet->((Str×Int)->Prop)->Prop
def tv (f0:q52.T) (f1:q54.T) (f2:q20.T):Tab:=[(90,mkEntry q52.A q52.C fun x=>f0 x.1),(91,mkEntry q54.A q54.C fun x=>f1 x.1),(144,mkEntry q20.A q20.C fun x=>f2 x.1)]
def tab:Tab:=tv q52.F q54.F q20.F
def FV (f0:q52.T) (f1:q54.T) (f2:q20.T) (p:Packet) (K:(Str×Int)->Prop):Prop:=
 (f0 p fun r1=>(bif(!r1)then(K (([]:Str),1))else(f1 p fun r2=>(f2 r2 fun r3=>(K (r3,0))))))
def F (p:Packet) (K:(Str×Int)->Prop):Prop:=FV q52.F q54.F q20.F p K
def en:Entry:=mkEntry A C fun x=>F x.1
theorem eqv (f0:q52.T) (f1:q54.T) (f2:q20.T) (p:Packet) (K:(Str×Int)->Prop):apure E (tv f0 f1 f2) (fun _=>none) 4 132 [enc (.st 5) p] (ansK C K)=FV f0 f1 f2 p K:=by kernel_rfl
theorem loops:LoopsOk E tab (fun _=>none) 4 132:=lpn _ _ _ _
theorem det (p:Packet):Det (F p):=by
 unfold F FV
 repeat' with_reducible first|exact det_ret _|refine det_cond _ ?_ ?_|refine det_bind (q52.det _) (fun _=>?_)|refine det_bind (q54.det _) (fun _=>?_)|refine det_bind (q20.det _) (fun _=>?_)
theorem edet a:Det (en a):=mkD (fun x:Dens A=>det x.1) a
theorem ground:Ground E tab:=gnd (tbc q52.sound (tbc q54.sound (tbc q20.sound (tab_nil _)))) (dtc q52.edet (dtc q54.edet (dtc q20.edet dtn)))
theorem sound:EntrySound E 132 en:=mkSound ground loops (by kernel_rfl) (fun x K=>eqv q52.F q54.F q20.F x.1 K)
end q55
namespace q56
abbrev A:List Ty:=[(.st 13),(.st 5)]
abbrev C:=cOut
abbrev T:Type:=Node->Packet->((Int×Str)->Prop)->Prop
def tv (f0:q55.T):Tab:=[(132,mkEntry q55.A q55.C fun x=>f0 x.1)]
def tab:Tab:=tv q55.F
def FV (f0:q55.T) (n_0:Node) (p:Packet) (K:(Int×Str)->Prop):Prop:=
 (f0 (⟨p.kind,n_0.session,p.hello,p.block,p.data⟩:Packet) fun r1=>(K (n_0.id,r1.1)))
def F (n_0:Node) (p:Packet) (K:(Int×Str)->Prop):Prop:=FV q55.F n_0 p K
def en:Entry:=mkEntry A C fun x=>F x.1 x.2.1
theorem eqv (f0:q55.T) (n_0:Node) (p:Packet) (K:(Int×Str)->Prop):apure E (tv f0) (fun _=>none) 4 108 [enc (.st 13) n_0,enc (.st 5) p] (ansK C K)=FV f0 n_0 p K:=by kernel_rfl
theorem loops:LoopsOk E tab (fun _=>none) 4 108:=lpn _ _ _ _
theorem det (n_0:Node) (p:Packet):Det (F n_0 p):=by
 unfold F FV
 repeat' with_reducible first|exact det_ret _|refine det_bind (q55.det _) (fun _=>?_)
theorem edet a:Det (en a):=mkD (fun x:Dens A=>det x.1 x.2.1) a
theorem ground:Ground E tab:=gnd (tbc q55.sound (tab_nil _)) (dtc q55.edet dtn)
theorem sound:EntrySound E 108 en:=mkSound ground loops (by kernel_rfl) (fun x K=>eqv q55.F x.1 x.2.1 K)
end q56
namespace q57
abbrev A:List Ty:=[(.st 1)]
abbrev C:=(cTy (.st 1))
abbrev T:Type:=Disk->(Disk->Prop)->Prop
def tab:Tab:=[]
def F (d:Disk) (K:Disk->Prop):Prop:=
 (bif(d.fuse==1)then(bif(decide (d.fuse > 0))then(K (⟨d.sure,d.cache,(IntKind.i64.wrap (d.fuse - 1)),true⟩:Disk))else(K (⟨d.sure,d.cache,d.fuse,true⟩:Disk)))else(bif(decide (d.fuse > 0))then(K (⟨d.sure,d.cache,(IntKind.i64.wrap (d.fuse - 1)),d.dead⟩:Disk))else(K d)))
def en:Entry:=mkEntry A C fun x=>F x.1
theorem eqv (d:Disk) (K:Disk->Prop):apure E tab (fun _=>none) 4 275 [enc (.st 1) d] (ansK C K)=F d K:=by kernel_rfl
theorem loops:LoopsOk E tab (fun _=>none) 4 275:=lpn _ _ _ _
theorem det (d:Disk):Det (F d):=by
 unfold F
 repeat' with_reducible first|exact det_ret _|refine det_cond _ ?_ ?_
theorem edet a:Det (en a):=mkD (fun x:Dens A=>det x.1) a
theorem ground:Ground E tab:=gnd (tab_nil _) dtn
theorem sound:EntrySound E 275 en:=mkSound ground loops (by kernel_rfl) (fun x K=>eqv  x.1 K)
end q57
namespace q58
abbrev A:List Ty:=[(.st 1),(.int .i64),.str]
abbrev C:=(cTwo (.st 1) (.int .i64))
abbrev T:Type:=Disk->Int->Str->((Disk×Int)->Prop)->Prop
def tv (f0:q57.T):Tab:=[(275,mkEntry q57.A q57.C fun x=>f0 x.1)]
def tab:Tab:=tv q57.F
def FV (f0:q57.T) (d:Disk) (i:Int) (data:Str) (K:(Disk×Int)->Prop):Prop:=
 (bif d.dead then(K (d,6))else(bif(decide (i < 0))then(K (d,4))else(bif(decide (i≥(d.sure.length:Int)))then(K (d,4))else(bif(decide ((data.length:Int) > 64))then(K (d,5))else(f0 d fun r1=>(bif r1.dead then(K (r1,6))else(bif(decide (r1.cache.length * 24≤room))then(bif(decide ((r1.cache.length+([(⟨i,data⟩:Write)]:List Write).length) * 24≤room))then(K ((⟨r1.sure,(r1.cache++([(⟨i,data⟩:Write)]:List Write)),r1.fuse,r1.dead⟩:Disk),0))else False)else False)))))))
def F (d:Disk) (i:Int) (data:Str) (K:(Disk×Int)->Prop):Prop:=FV q57.F d i data K
def en:Entry:=mkEntry A C fun x=>F x.1 x.2.1 x.2.2.1
theorem eqv (f0:q57.T) (d:Disk) (i:Int) (data:Str) (K:(Disk×Int)->Prop):apure E (tv f0) (fun _=>none) 4 260 [enc (.st 1) d,enc (.int .i64) i,enc .str data] (ansK C K)=FV f0 d i data K:=by kernel_rfl
theorem loops:LoopsOk E tab (fun _=>none) 4 260:=lpn _ _ _ _
theorem det (d:Disk) (i:Int) (data:Str):Det (F d i data):=by
 unfold F FV
 repeat' with_reducible first|exact det_ret _|exact det_false|refine det_cond _ ?_ ?_|refine det_bind (q57.det _) (fun _=>?_)
theorem edet a:Det (en a):=mkD (fun x:Dens A=>det x.1 x.2.1 x.2.2.1) a
theorem ground:Ground E tab:=gnd (tbc q57.sound (tab_nil _)) (dtc q57.edet dtn)
theorem sound:EntrySound E 260 en:=mkSound ground loops (by kernel_rfl) (fun x K=>eqv q57.F x.1 x.2.1 x.2.2.1 K)
end q58
namespace q59
abbrev A:List Ty:=[(.st 1)]
abbrev C:=(cTwo (.st 1) (.int .i64))
abbrev T:Type:=Disk->((Disk×Int)->Prop)->Prop
def tv (f0:q57.T) (f1:q25.T):Tab:=[(275,mkEntry q57.A q57.C fun x=>f0 x.1),(160,mkEntry q25.A q25.C fun x=>f1 x.1 x.2.1)]
def tab:Tab:=tv q57.F q25.F
structure R where
def cR (_:R):St:={ fr:=fun _=>.top,hs:=hs0 }
def kR:Keep:={ ks:=[],bs:=[],hn:=0 }
structure L0 where
 sure:(List Str)
 i:Int
 m0:Disk
 m1:Disk
def c0 (x:L0):St:={ fr:=lookL .top [(1,(.ptr 0 0)),(2,(.ptr 1 0)),(4,(.slr 2)),(5,(.int .i64 x.i))],hs:={ hp:=lookL .dead [(2,(.row false .str x.sure)),(0,(.cells [(.sl .any .str x.m0.sure),(.sl .any (.st 0) x.m0.cache),(.int .i64 x.m0.fuse),(.bool x.m0.dead)])),(1,(.cells [(.sl .any .str x.m1.sure),(.sl .any (.st 0) x.m1.cache),(.int .i64 x.m1.fuse),(.bool x.m1.dead)]))],hn:=3 } }
def kp0:Keep:={ ks:=[(1,none),(2,none),(4,some 2),(5,none)],bs:=[0,1],hn:=3,ts:=[(0,1),(1,1)] }
def p0 (st:St) (K:L0->Prop):Prop:=gHomes kp0 st <| gPtr 0 0 (st.fr 1) <| gPtr 1 0 (st.fr 2) <| gSlr (st.fr 4) fun c1=>gRow false .str (st.hs.hp c1) fun a2=>gInt .i64 (st.fr 5) fun a3=>gBlkS 1 (st.hs.hp 0) fun a4=>gBlkS 1 (st.hs.hp 1) fun a5=>K ⟨a2,a3,a4,a5⟩
set_option maxHeartbeats 4000000 in
theorem p0_ok (st:St) (K:L0->Prop) (h:p0 st K):∃ x,keepSt kp0 st=c0 x∧K x:=by
 obtain ⟨h0,h⟩:=gHomes_elim h
 obtain ⟨h1,h⟩:=gPtr_elim h
 obtain ⟨h2,h⟩:=gPtr_elim h
 obtain ⟨c1,h3,h⟩:=gSlr_elim h
 obtain ⟨a2,h4,h⟩:=gRow_elim h
 obtain ⟨a3,h5,h⟩:=gInt_elim h
 obtain ⟨z6,a4,h6,y6,h⟩:=gBlkS_elim h
 have q6:∀ ok,keptB kp0 ok 0 (.cells z6)=.cells (encS 1 a4):=fun _=>y6
 simp only [kp0] at q6
 obtain ⟨z7,a5,h7,y7,h⟩:=gBlkS_elim h
 have q7:∀ ok,keptB kp0 ok 1 (.cells z7)=.cells (encS 1 a5):=fun _=>y7
 simp only [kp0] at q7
 refine⟨_,?_,h⟩
 simp only [keepSt,h0]
 simp only [kp0,List.map,List.filterMap,homeOf,h1,h2,h3,h4,h5,h6,h7,q6,q7,hmOf,List.append_nil,cond_true]
 rfl
def b0V (f0:q57.T) (f1:q25.T) (rec kx:L0->Prop) (kr:R->Prop) (x:L0):Prop:=
 (bif(decide (x.i < (x.m0.sure.length:Int)))then(f1 x.m0 x.i fun r2=>(bif(decide ((x.sure.length+([r2]:List Str).length) * 16≤room))then(rec ⟨(x.sure++([r2]:List Str)),(IntKind.i64.wrap (x.i+1)),x.m0,x.m1⟩)else False))else(kx ⟨x.sure,x.i,x.m0,x.m1⟩))
def ltV (f0:q57.T) (f1:q25.T):Nat->Option LSpec
 | 0=>some (mkLoop 0 kp0 kR p0 c0 cR (b0V f0 f1))
 | _=>none
def lt:Nat->Option LSpec:=ltV q57.F q25.F
def FV (f0:q57.T) (f1:q25.T) (d:Disk) (K:(Disk×Int)->Prop):Prop:=
 (bif d.dead then(K (d,6))else(f0 d fun r1=>(bif r1.dead then(K (r1,6))else(∃ n,loopB (b0V f0 f1) n (fun x3=>(K ((⟨x3.sure,([]:List Write),x3.m0.fuse,x3.m0.dead⟩:Disk),0))) (fun _=>False) ⟨([]:List Str),0,r1,(⟨([]:List Str),([]:List Write),0,false⟩:Disk)⟩))))
def F (d:Disk) (K:(Disk×Int)->Prop):Prop:=FV q57.F q25.F d K
def en:Entry:=mkEntry A C fun x=>F x.1
theorem eqv (f0:q57.T) (f1:q25.T) (d:Disk) (K:(Disk×Int)->Prop):apure E (tv f0 f1) (ltV f0 f1) 4 261 [enc (.st 1) d] (ansK C K)=FV f0 f1 d K:=by kernel_rfl
theorem l0v (f0:q57.T) (f1:q25.T) (R:St->Prop) (Kx:Nat->St->Prop) (Kr:St->Prop) (x:L0):acode E (tv f0 f1) (afun E (tv f0 f1) 4) 31 (ltV f0 f1) ((loopsIn E.P 261).getD 0 (0,.skip)).2 0 (fun s=>R (keepSt kp0 s)) (fun j s=>Kx j (keepSt kp0 s)) (fun s=>Kr (keepSt kR s)) (c0 x)=b0V f0 f1 (fun x=>R (c0 x)) (fun x=>Kx 0 (c0 x)) (fun r=>Kr (cR r)) x:=by kernel_rfl
theorem l0_ok:LSound E tab (afun E tab 4) 31 lt 0 ((loopsIn E.P 261).getD 0 (0,.skip)).2 (mkLoop 0 kp0 kR p0 c0 cR (b0V q57.F q25.F)):=mkLoop_sound (by decide) (by decide) p0_ok (fun R Kx Kr x=>l0v q57.F q25.F R Kx Kr x)
theorem loops:LoopsOk E tab lt 4 261:=loops_of (nt:=31) (ids:=[0]) (by kernel_rfl) (by kernel_rfl) (by
 intro k i hk l hl
 match k,hk with
 | 0,hk=>cases hk;cases hl;exact l0_ok
 | _+1,hk=>exact absurd hk (by simp))
theorem det (d:Disk):Det (F d):=by
 unfold F FV
 repeat' with_reducible first|exact det_ret _|exact det_false|refine det_cond _ ?_ ?_|refine det_bind (q57.det _) (fun _=>?_)|refine det_bind (q25.det _ _) (fun _=>?_)|refine det_loop (fun _=>?_) (fun _=>?_) (fun _=>?_) _ | unfold b0V
theorem edet a:Det (en a):=mkD (fun x:Dens A=>det x.1) a
theorem ground:Ground E tab:=gnd (tbc q57.sound (tbc q25.sound (tab_nil _))) (dtc q57.edet (dtc q25.edet dtn))
theorem sound:EntrySound E 261 en:=mkSound ground loops (by kernel_rfl) (fun x K=>eqv q57.F q25.F x.1 K)
end q59
namespace q60
abbrev A:List Ty:=[(.st 1),(.st 3)]
abbrev C:=(cTwo (.st 1) (.int .i64))
abbrev T:Type:=Disk->Super->((Disk×Int)->Prop)->Prop
def tv (f0:q21.T) (f1:q33.T) (f2:q58.T) (f3:q59.T):Tab:=[(180,mkEntry q21.A q21.C fun x=>f0 x.1),(103,mkEntry q33.A q33.C fun x=>f1 x.1 x.2.1),(260,mkEntry q58.A q58.C fun x=>f2 x.1 x.2.1 x.2.2.1),(261,mkEntry q59.A q59.C fun x=>f3 x.1)]
def tab:Tab:=tv q21.F q33.F q58.F q59.F
def FV (f0:q21.T) (f1:q33.T) (f2:q58.T) (f3:q59.T) (d:Disk) (s:Super) (K:(Disk×Int)->Prop):Prop:=
 (f0 s fun r1=>(bif(r1.2 != 0)then(K (d,1))else(f1 d s fun r2=>(bif(!r2)then(K (d,1))else(f2 d 0 r1.1 fun r3=>(bif(r3.2 != 0)then(K (r3.1,r3.2))else(f3 r3.1 fun r4=>(K (r4.1,r4.2)))))))))
def F (d:Disk) (s:Super) (K:(Disk×Int)->Prop):Prop:=FV q21.F q33.F q58.F q59.F d s K
def en:Entry:=mkEntry A C fun x=>F x.1 x.2.1
theorem eqv (f0:q21.T) (f1:q33.T) (f2:q58.T) (f3:q59.T) (d:Disk) (s:Super) (K:(Disk×Int)->Prop):apure E (tv f0 f1 f2 f3) (fun _=>none) 4 225 [enc (.st 1) d,enc (.st 3) s] (ansK C K)=FV f0 f1 f2 f3 d s K:=by kernel_rfl
theorem loops:LoopsOk E tab (fun _=>none) 4 225:=lpn _ _ _ _
theorem det (d:Disk) (s:Super):Det (F d s):=by
 unfold F FV
 repeat' with_reducible first|exact det_ret _|refine det_cond _ ?_ ?_|refine det_bind (q21.det _) (fun _=>?_)|refine det_bind (q33.det _ _) (fun _=>?_)|refine det_bind (q58.det _ _ _) (fun _=>?_)|refine det_bind (q59.det _) (fun _=>?_)
theorem edet a:Det (en a):=mkD (fun x:Dens A=>det x.1 x.2.1) a
theorem ground:Ground E tab:=gnd (tbc q21.sound (tbc q33.sound (tbc q58.sound (tbc q59.sound (tab_nil _))))) (dtc q21.edet (dtc q33.edet (dtc q58.edet (dtc q59.edet dtn))))
theorem sound:EntrySound E 225 en:=mkSound ground loops (by kernel_rfl) (fun x K=>eqv q21.F q33.F q58.F q59.F x.1 x.2.1 K)
end q60
namespace q61
abbrev A:List Ty:=[(.st 8),(.st 3)]
abbrev C:=(cTwo (.st 8) (.int .i64))
abbrev T:Type:=Store->Super->((Store×Int)->Prop)->Prop
def tv (f0:q60.T):Tab:=[(225,mkEntry q60.A q60.C fun x=>f0 x.1 x.2.1)]
def tab:Tab:=tv q60.F
def FV (f0:q60.T) (s:Store) (b_1:Super) (K:(Store×Int)->Prop):Prop:=
 (bif((b_1.blocks==s.sup.blocks)&&(((b_1.vector.current==s.sup.vector.current)&&((b_1.vector.bitmap==s.sup.vector.bitmap)&&(((b_1.vector.old0==s.sup.vector.old0)&&((b_1.vector.old1==s.sup.vector.old1)&&true))&&true)))&&((b_1.inc==s.sup.inc)&&((b_1.pri==s.sup.pri)&&((b_1.dis==s.sup.dis)&&true)))))then(K (s,0))else(f0 s.disk b_1 fun r1=>(bif(r1.2==0)then(K ((⟨r1.1,b_1,s.mask⟩:Store),r1.2))else(K ((⟨r1.1,s.sup,s.mask⟩:Store),r1.2)))))
def F (s:Store) (b_1:Super) (K:(Store×Int)->Prop):Prop:=FV q60.F s b_1 K
def en:Entry:=mkEntry A C fun x=>F x.1 x.2.1
theorem eqv (f0:q60.T) (s:Store) (b_1:Super) (K:(Store×Int)->Prop):apure E (tv f0) (fun _=>none) 4 175 [enc (.st 8) s,enc (.st 3) b_1] (ansK C K)=FV f0 s b_1 K:=by kernel_rfl
theorem loops:LoopsOk E tab (fun _=>none) 4 175:=lpn _ _ _ _
theorem det (s:Store) (b_1:Super):Det (F s b_1):=by
 unfold F FV
 repeat' with_reducible first|exact det_ret _|refine det_cond _ ?_ ?_|refine det_bind (q60.det _ _) (fun _=>?_)
theorem edet a:Det (en a):=mkD (fun x:Dens A=>det x.1 x.2.1) a
theorem ground:Ground E tab:=gnd (tbc q60.sound (tab_nil _)) (dtc q60.edet dtn)
theorem sound:EntrySound E 175 en:=mkSound ground loops (by kernel_rfl) (fun x K=>eqv q60.F x.1 x.2.1 K)
end q61
namespace q62
abbrev A:List Ty:=[(.st 1)]
abbrev C:=(cTy (.st 1))
abbrev T:Type:=Disk->(Disk->Prop)->Prop
def tab:Tab:=[]
def F (d:Disk) (K:Disk->Prop):Prop:=
 (K (⟨d.sure,d.cache,0,true⟩:Disk))
def en:Entry:=mkEntry A C fun x=>F x.1
theorem eqv (d:Disk) (K:Disk->Prop):apure E tab (fun _=>none) 4 226 [enc (.st 1) d] (ansK C K)=F d K:=by kernel_rfl
theorem loops:LoopsOk E tab (fun _=>none) 4 226:=lpn _ _ _ _
theorem det (d:Disk):Det (F d):=by
 unfold F
 repeat' with_reducible first|exact det_ret _
theorem edet a:Det (en a):=mkD (fun x:Dens A=>det x.1) a
theorem ground:Ground E tab:=gnd (tab_nil _) dtn
theorem sound:EntrySound E 226 en:=mkSound ground loops (by kernel_rfl) (fun x K=>eqv  x.1 K)
end q62
namespace q63
abbrev A:List Ty:=[(.st 13)]
abbrev C:=(cTy (.st 13))
abbrev T:Type:=Node->(Node->Prop)->Prop
def tv (f0:q62.T):Tab:=[(226,mkEntry q62.A q62.C fun x=>f0 x.1)]
def tab:Tab:=tv q62.F
def FV (f0:q62.T) (n_0:Node) (K:Node->Prop):Prop:=
 (f0 n_0.store.disk fun r1=>(K (⟨n_0.id,false,(⟨r1,(⟨0,(⟨0,0,0,0⟩:Vec),false,false,false⟩:Super),0⟩:Store),false,0,0,(⟨0,(⟨0,0,0,0⟩:Vec),false,false,false,false,0⟩:Hello),false,(⟨false,0,0,([]:Str)⟩:Req),false,0,0,false,n_0.draws,n_0.mints⟩:Node)))
def F (n_0:Node) (K:Node->Prop):Prop:=FV q62.F n_0 K
def en:Entry:=mkEntry A C fun x=>F x.1
theorem eqv (f0:q62.T) (n_0:Node) (K:Node->Prop):apure E (tv f0) (fun _=>none) 4 176 [enc (.st 13) n_0] (ansK C K)=FV f0 n_0 K:=by kernel_rfl
theorem loops:LoopsOk E tab (fun _=>none) 4 176:=lpn _ _ _ _
theorem det (n_0:Node):Det (F n_0):=by
 unfold F FV
 repeat' with_reducible first|exact det_ret _|refine det_bind (q62.det _) (fun _=>?_)
theorem edet a:Det (en a):=mkD (fun x:Dens A=>det x.1) a
theorem ground:Ground E tab:=gnd (tbc q62.sound (tab_nil _)) (dtc q62.edet dtn)
theorem sound:EntrySound E 176 en:=mkSound ground loops (by kernel_rfl) (fun x K=>eqv q62.F x.1 K)
end q63
namespace q64
abbrev A:List Ty:=[(.st 13),(.st 3)]
abbrev C:=(cTwo (.st 13) .bool)
abbrev T:Type:=Node->Super->((Node×Bool)->Prop)->Prop
def tv (f0:q61.T) (f1:q63.T):Tab:=[(175,mkEntry q61.A q61.C fun x=>f0 x.1 x.2.1),(176,mkEntry q63.A q63.C fun x=>f1 x.1)]
def tab:Tab:=tv q61.F q63.F
def FV (f0:q61.T) (f1:q63.T) (n_0:Node) (b_1:Super) (K:(Node×Bool)->Prop):Prop:=
 (f0 n_0.store b_1 fun r1=>(bif(r1.2 != 0)then(f1 (⟨n_0.id,n_0.up,r1.1,n_0.primary,n_0.state,n_0.session,n_0.peer,n_0.peerPri,n_0.req,n_0.asking,n_0.askId,n_0.wanted,n_0.minted,n_0.draws,n_0.mints⟩:Node) fun r2=>(K (r2,false)))else(K ((⟨n_0.id,n_0.up,r1.1,n_0.primary,n_0.state,n_0.session,n_0.peer,n_0.peerPri,n_0.req,n_0.asking,n_0.askId,n_0.wanted,n_0.minted,n_0.draws,n_0.mints⟩:Node),true))))
def F (n_0:Node) (b_1:Super) (K:(Node×Bool)->Prop):Prop:=FV q61.F q63.F n_0 b_1 K
def en:Entry:=mkEntry A C fun x=>F x.1 x.2.1
theorem eqv (f0:q61.T) (f1:q63.T) (n_0:Node) (b_1:Super) (K:(Node×Bool)->Prop):apure E (tv f0 f1) (fun _=>none) 4 123 [enc (.st 13) n_0,enc (.st 3) b_1] (ansK C K)=FV f0 f1 n_0 b_1 K:=by kernel_rfl
theorem loops:LoopsOk E tab (fun _=>none) 4 123:=lpn _ _ _ _
theorem det (n_0:Node) (b_1:Super):Det (F n_0 b_1):=by
 unfold F FV
 repeat' with_reducible first|exact det_ret _|refine det_cond _ ?_ ?_|refine det_bind (q61.det _ _) (fun _=>?_)|refine det_bind (q63.det _) (fun _=>?_)
theorem edet a:Det (en a):=mkD (fun x:Dens A=>det x.1 x.2.1) a
theorem ground:Ground E tab:=gnd (tbc q61.sound (tbc q63.sound (tab_nil _))) (dtc q61.edet (dtc q63.edet dtn))
theorem sound:EntrySound E 123 en:=mkSound ground loops (by kernel_rfl) (fun x K=>eqv q61.F q63.F x.1 x.2.1 K)
end q64
namespace q65
abbrev A:List Ty:=[(.st 13),(.int .i64)]
abbrev C:=(cTwo (.st 13) (.slice (.st 11)))
abbrev T:Type:=Node->Int->((Node×(List Outp))->Prop)->Prop
def tv (f0:q47.T) (f1:q48.T) (f2:q56.T) (f3:q64.T) (f4:q46.T):Tab:=[(229,mkEntry q47.A q47.C fun x=>f0 x.1 x.2.1 x.2.2.1),(230,mkEntry q48.A q48.C fun x=>f1 x.1),(108,mkEntry q56.A q56.C fun x=>f2 x.1 x.2.1),(123,mkEntry q64.A q64.C fun x=>f3 x.1 x.2.1),(192,mkEntry q46.A q46.C fun x=>f4 x.1 x.2.1 x.2.2.1 x.2.2.2.1)]
def tab:Tab:=tv q47.F q48.F q56.F q64.F q46.F
def FV (f0:q47.T) (f1:q48.T) (f2:q56.T) (f3:q64.T) (f4:q46.T) (n_0:Node) (id:Int) (K:(Node×(List Outp))->Prop):Prop:=
 (bif(!n_0.up)then(f0 n_0 id 7 fun r1=>(K (r1.1,r1.2)))else(bif n_0.primary then(f0 n_0 id 8 fun r2=>(K (r2.1,r2.2)))else(bif n_0.store.sup.inc then(f0 n_0 id 9 fun r3=>(K (r3.1,r3.2)))else(bif n_0.store.sup.dis then(f0 n_0 id 10 fun r4=>(K (r4.1,r4.2)))else(bif(n_0.state==1)then(f0 n_0 id 11 fun r5=>(K (r5.1,r5.2)))else(bif(n_0.state==4)then(f0 n_0 id 11 fun r6=>(K (r6.1,r6.2)))else(bif n_0.asking then(f0 n_0 id 11 fun r7=>(K (r7.1,r7.2)))else(bif n_0.peerPri then(f0 n_0 id 12 fun r8=>(K (r8.1,r8.2)))else(f1 n_0 fun r9=>(bif r9 then(f2 (⟨n_0.id,n_0.up,n_0.store,n_0.primary,n_0.state,n_0.session,n_0.peer,n_0.peerPri,n_0.req,true,id,n_0.wanted,n_0.minted,n_0.draws,n_0.mints⟩:Node) (⟨10,0,(⟨0,(⟨0,0,0,0⟩:Vec),false,false,false,false,0⟩:Hello),0,([]:Str)⟩:Packet) fun r10=>(K ((⟨n_0.id,n_0.up,n_0.store,n_0.primary,n_0.state,n_0.session,n_0.peer,n_0.peerPri,n_0.req,true,id,n_0.wanted,n_0.minted,n_0.draws,n_0.mints⟩:Node),([(⟨1,r10.1,0,0,r10.2⟩:Outp)]:List Outp))))else(f3 n_0 (⟨n_0.store.sup.blocks,n_0.store.sup.vector,n_0.store.sup.inc,true,n_0.store.sup.dis⟩:Super) fun r11=>(bif(!r11.2)then(K (r11.1,([]:List Outp)))else(f4 (⟨r11.1.id,r11.1.up,r11.1.store,true,r11.1.state,r11.1.session,r11.1.peer,r11.1.peerPri,r11.1.req,r11.1.asking,r11.1.askId,r11.1.wanted,r11.1.minted,r11.1.draws,r11.1.mints⟩:Node) id 0 ([]:Str) fun r12=>(K ((⟨r11.1.id,r11.1.up,r11.1.store,true,r11.1.state,r11.1.session,r11.1.peer,r11.1.peerPri,r11.1.req,r11.1.asking,r11.1.askId,r11.1.wanted,r11.1.minted,r11.1.draws,r11.1.mints⟩:Node),([r12]:List Outp))))))))))))))))
def F (n_0:Node) (id:Int) (K:(Node×(List Outp))->Prop):Prop:=FV q47.F q48.F q56.F q64.F q46.F n_0 id K
def en:Entry:=mkEntry A C fun x=>F x.1 x.2.1
theorem eqv (f0:q47.T) (f1:q48.T) (f2:q56.T) (f3:q64.T) (f4:q46.T) (n_0:Node) (id:Int) (K:(Node×(List Outp))->Prop):apure E (tv f0 f1 f2 f3 f4) (fun _=>none) 4 183 [enc (.st 13) n_0,enc (.int .i64) id] (ansK C K)=FV f0 f1 f2 f3 f4 n_0 id K:=by kernel_rfl
theorem loops:LoopsOk E tab (fun _=>none) 4 183:=lpn _ _ _ _
theorem det (n_0:Node) (id:Int):Det (F n_0 id):=by
 unfold F FV
 repeat' with_reducible first|exact det_ret _|refine det_cond _ ?_ ?_|refine det_bind (q47.det _ _ _) (fun _=>?_)|refine det_bind (q48.det _) (fun _=>?_)|refine det_bind (q56.det _ _) (fun _=>?_)|refine det_bind (q64.det _ _) (fun _=>?_)|refine det_bind (q46.det _ _ _ _) (fun _=>?_)
theorem edet a:Det (en a):=mkD (fun x:Dens A=>det x.1 x.2.1) a
theorem ground:Ground E tab:=gnd (tbc q47.sound (tbc q48.sound (tbc q56.sound (tbc q64.sound (tbc q46.sound (tab_nil _)))))) (dtc q47.edet (dtc q48.edet (dtc q56.edet (dtc q64.edet (dtc q46.edet dtn)))))
theorem sound:EntrySound E 183 en:=mkSound ground loops (by kernel_rfl) (fun x K=>eqv q47.F q48.F q56.F q64.F q46.F x.1 x.2.1 K)
end q65
namespace q66
abbrev A:List Ty:=[(.st 13),(.int .i64)]
abbrev C:=(cTwo (.st 13) (.slice (.st 11)))
abbrev T:Type:=Node->Int->((Node×(List Outp))->Prop)->Prop
def tv (f0:q47.T) (f1:q64.T) (f2:q48.T) (f3:q56.T) (f4:q46.T):Tab:=[(229,mkEntry q47.A q47.C fun x=>f0 x.1 x.2.1 x.2.2.1),(123,mkEntry q64.A q64.C fun x=>f1 x.1 x.2.1),(230,mkEntry q48.A q48.C fun x=>f2 x.1),(108,mkEntry q56.A q56.C fun x=>f3 x.1 x.2.1),(192,mkEntry q46.A q46.C fun x=>f4 x.1 x.2.1 x.2.2.1 x.2.2.2.1)]
def tab:Tab:=tv q47.F q64.F q48.F q56.F q46.F
def FV (f0:q47.T) (f1:q64.T) (f2:q48.T) (f3:q56.T) (f4:q46.T) (n_0:Node) (id:Int) (K:(Node×(List Outp))->Prop):Prop:=
 (bif(!n_0.up)then(f0 n_0 id 7 fun r1=>(K (r1.1,r1.2)))else(bif(!n_0.primary)then(f0 n_0 id 8 fun r2=>(K (r2.1,r2.2)))else(bif n_0.req.on then(f0 n_0 id 11 fun r3=>(K (r3.1,r3.2)))else(bif(n_0.state==1)then(f0 n_0 id 11 fun r4=>(K (r4.1,r4.2)))else(f1 n_0 (⟨n_0.store.sup.blocks,n_0.store.sup.vector,n_0.store.sup.inc,false,n_0.store.sup.dis⟩:Super) fun r5=>(bif(!r5.2)then(K (r5.1,([]:List Outp)))else(f2 (⟨r5.1.id,r5.1.up,r5.1.store,false,r5.1.state,r5.1.session,r5.1.peer,r5.1.peerPri,r5.1.req,r5.1.asking,r5.1.askId,r5.1.wanted,r5.1.minted,r5.1.draws,r5.1.mints⟩:Node) fun r6=>(bif r6 then(f3 (⟨r5.1.id,r5.1.up,r5.1.store,false,r5.1.state,r5.1.session,r5.1.peer,r5.1.peerPri,r5.1.req,r5.1.asking,r5.1.askId,r5.1.wanted,r5.1.minted,r5.1.draws,r5.1.mints⟩:Node) (⟨13,0,(⟨0,(⟨0,0,0,0⟩:Vec),false,false,false,false,0⟩:Hello),0,([]:Str)⟩:Packet) fun r7=>(bif(decide ((([]:List Outp).length+([(⟨1,r7.1,0,0,r7.2⟩:Outp)]:List Outp).length) * 48≤room))then(f4 (⟨r5.1.id,r5.1.up,r5.1.store,false,r5.1.state,r5.1.session,r5.1.peer,r5.1.peerPri,r5.1.req,r5.1.asking,r5.1.askId,r5.1.wanted,r5.1.minted,r5.1.draws,r5.1.mints⟩:Node) id 0 ([]:Str) fun r8=>(bif(decide (((([]:List Outp)++([(⟨1,r7.1,0,0,r7.2⟩:Outp)]:List Outp)).length+([r8]:List Outp).length) * 48≤room))then(K ((⟨r5.1.id,r5.1.up,r5.1.store,false,r5.1.state,r5.1.session,r5.1.peer,r5.1.peerPri,r5.1.req,r5.1.asking,r5.1.askId,r5.1.wanted,r5.1.minted,r5.1.draws,r5.1.mints⟩:Node),((([]:List Outp)++([(⟨1,r7.1,0,0,r7.2⟩:Outp)]:List Outp))++([r8]:List Outp))))else False))else False))else(f4 (⟨r5.1.id,r5.1.up,r5.1.store,false,r5.1.state,r5.1.session,r5.1.peer,r5.1.peerPri,r5.1.req,r5.1.asking,r5.1.askId,r5.1.wanted,r5.1.minted,r5.1.draws,r5.1.mints⟩:Node) id 0 ([]:Str) fun r9=>(bif(decide ((([]:List Outp).length+([r9]:List Outp).length) * 48≤room))then(K ((⟨r5.1.id,r5.1.up,r5.1.store,false,r5.1.state,r5.1.session,r5.1.peer,r5.1.peerPri,r5.1.req,r5.1.asking,r5.1.askId,r5.1.wanted,r5.1.minted,r5.1.draws,r5.1.mints⟩:Node),(([]:List Outp)++([r9]:List Outp))))else False))))))))))
def F (n_0:Node) (id:Int) (K:(Node×(List Outp))->Prop):Prop:=FV q47.F q64.F q48.F q56.F q46.F n_0 id K
def en:Entry:=mkEntry A C fun x=>F x.1 x.2.1
theorem eqv (f0:q47.T) (f1:q64.T) (f2:q48.T) (f3:q56.T) (f4:q46.T) (n_0:Node) (id:Int) (K:(Node×(List Outp))->Prop):apure E (tv f0 f1 f2 f3 f4) (fun _=>none) 4 184 [enc (.st 13) n_0,enc (.int .i64) id] (ansK C K)=FV f0 f1 f2 f3 f4 n_0 id K:=by kernel_rfl
theorem loops:LoopsOk E tab (fun _=>none) 4 184:=lpn _ _ _ _
theorem det (n_0:Node) (id:Int):Det (F n_0 id):=by
 unfold F FV
 repeat' with_reducible first|exact det_ret _|exact det_false|refine det_cond _ ?_ ?_|refine det_bind (q47.det _ _ _) (fun _=>?_)|refine det_bind (q64.det _ _) (fun _=>?_)|refine det_bind (q48.det _) (fun _=>?_)|refine det_bind (q56.det _ _) (fun _=>?_)|refine det_bind (q46.det _ _ _ _) (fun _=>?_)
theorem edet a:Det (en a):=mkD (fun x:Dens A=>det x.1 x.2.1) a
theorem ground:Ground E tab:=gnd (tbc q47.sound (tbc q64.sound (tbc q48.sound (tbc q56.sound (tbc q46.sound (tab_nil _)))))) (dtc q47.edet (dtc q64.edet (dtc q48.edet (dtc q56.edet (dtc q46.edet dtn)))))
theorem sound:EntrySound E 184 en:=mkSound ground loops (by kernel_rfl) (fun x K=>eqv q47.F q64.F q48.F q56.F q46.F x.1 x.2.1 K)
end q66
namespace q67
abbrev A:List Ty:=[(.st 13),(.int .i64)]
abbrev C:=(cTwo (.st 13) (.slice (.st 11)))
abbrev T:Type:=Node->Int->((Node×(List Outp))->Prop)->Prop
def tv (f0:q47.T) (f1:q64.T) (f2:q46.T):Tab:=[(229,mkEntry q47.A q47.C fun x=>f0 x.1 x.2.1 x.2.2.1),(123,mkEntry q64.A q64.C fun x=>f1 x.1 x.2.1),(192,mkEntry q46.A q46.C fun x=>f2 x.1 x.2.1 x.2.2.1 x.2.2.2.1)]
def tab:Tab:=tv q47.F q64.F q46.F
def FV (f0:q47.T) (f1:q64.T) (f2:q46.T) (n_0:Node) (id:Int) (K:(Node×(List Outp))->Prop):Prop:=
 (bif(!n_0.up)then(f0 n_0 id 7 fun r1=>(K (r1.1,r1.2)))else(bif n_0.primary then(f0 n_0 id 8 fun r2=>(K (r2.1,r2.2)))else(bif(n_0.state != 0)then(f0 n_0 id 11 fun r3=>(K (r3.1,r3.2)))else(f1 n_0 (⟨n_0.store.sup.blocks,n_0.store.sup.vector,n_0.store.sup.inc,n_0.store.sup.pri,true⟩:Super) fun r4=>(bif(!r4.2)then(K (r4.1,([]:List Outp)))else(f2 r4.1 id 0 ([]:Str) fun r5=>(K (r4.1,([r5]:List Outp)))))))))
def F (n_0:Node) (id:Int) (K:(Node×(List Outp))->Prop):Prop:=FV q47.F q64.F q46.F n_0 id K
def en:Entry:=mkEntry A C fun x=>F x.1 x.2.1
theorem eqv (f0:q47.T) (f1:q64.T) (f2:q46.T) (n_0:Node) (id:Int) (K:(Node×(List Outp))->Prop):apure E (tv f0 f1 f2) (fun _=>none) 4 185 [enc (.st 13) n_0,enc (.int .i64) id] (ansK C K)=FV f0 f1 f2 n_0 id K:=by kernel_rfl
theorem loops:LoopsOk E tab (fun _=>none) 4 185:=lpn _ _ _ _
theorem det (n_0:Node) (id:Int):Det (F n_0 id):=by
 unfold F FV
 repeat' with_reducible first|exact det_ret _|refine det_cond _ ?_ ?_|refine det_bind (q47.det _ _ _) (fun _=>?_)|refine det_bind (q64.det _ _) (fun _=>?_)|refine det_bind (q46.det _ _ _ _) (fun _=>?_)
theorem edet a:Det (en a):=mkD (fun x:Dens A=>det x.1 x.2.1) a
theorem ground:Ground E tab:=gnd (tbc q47.sound (tbc q64.sound (tbc q46.sound (tab_nil _)))) (dtc q47.edet (dtc q64.edet (dtc q46.edet dtn)))
theorem sound:EntrySound E 185 en:=mkSound ground loops (by kernel_rfl) (fun x K=>eqv q47.F q64.F q46.F x.1 x.2.1 K)
end q67
namespace q68
abbrev A:List Ty:=[(.st 8),(.int .i64)]
abbrev C:=(cTwo .str (.int .i64))
abbrev T:Type:=Store->Int->((Str×Int)->Prop)->Prop
def tv (f0:q41.T):Tab:=[(53,mkEntry q41.A q41.C fun x=>f0 x.1 x.2.1)]
def tab:Tab:=tv q41.F
def FV (f0:q41.T) (s:Store) (i:Int) (K:(Str×Int)->Prop):Prop:=
 (f0 s.disk i fun r1=>(K (r1.1,r1.2)))
def F (s:Store) (i:Int) (K:(Str×Int)->Prop):Prop:=FV q41.F s i K
def en:Entry:=mkEntry A C fun x=>F x.1 x.2.1
theorem eqv (f0:q41.T) (s:Store) (i:Int) (K:(Str×Int)->Prop):apure E (tv f0) (fun _=>none) 4 17 [enc (.st 8) s,enc (.int .i64) i] (ansK C K)=FV f0 s i K:=by kernel_rfl
theorem loops:LoopsOk E tab (fun _=>none) 4 17:=lpn _ _ _ _
theorem det (s:Store) (i:Int):Det (F s i):=by
 unfold F FV
 repeat' with_reducible first|exact det_ret _|refine det_bind (q41.det _ _) (fun _=>?_)
theorem edet a:Det (en a):=mkD (fun x:Dens A=>det x.1 x.2.1) a
theorem ground:Ground E tab:=gnd (tbc q41.sound (tab_nil _)) (dtc q41.edet dtn)
theorem sound:EntrySound E 17 en:=mkSound ground loops (by kernel_rfl) (fun x K=>eqv q41.F x.1 x.2.1 K)
end q68
namespace q69
abbrev A:List Ty:=[(.st 13),(.int .i64),(.int .i64)]
abbrev C:=(cTwo (.st 13) (.slice (.st 11)))
abbrev T:Type:=Node->Int->Int->((Node×(List Outp))->Prop)->Prop
def tv (f0:q47.T) (f1:q68.T) (f2:q46.T):Tab:=[(229,mkEntry q47.A q47.C fun x=>f0 x.1 x.2.1 x.2.2.1),(17,mkEntry q68.A q68.C fun x=>f1 x.1 x.2.1),(192,mkEntry q46.A q46.C fun x=>f2 x.1 x.2.1 x.2.2.1 x.2.2.2.1)]
def tab:Tab:=tv q47.F q68.F q46.F
def FV (f0:q47.T) (f1:q68.T) (f2:q46.T) (n_0:Node) (id:Int) (block:Int) (K:(Node×(List Outp))->Prop):Prop:=
 (bif(!n_0.up)then(f0 n_0 id 7 fun r1=>(K (r1.1,r1.2)))else(bif(!n_0.primary)then(f0 n_0 id 8 fun r2=>(K (r2.1,r2.2)))else(f1 n_0.store block fun r3=>(f2 n_0 id r3.2 r3.1 fun r4=>(K (n_0,([r4]:List Outp)))))))
def F (n_0:Node) (id:Int) (block:Int) (K:(Node×(List Outp))->Prop):Prop:=FV q47.F q68.F q46.F n_0 id block K
def en:Entry:=mkEntry A C fun x=>F x.1 x.2.1 x.2.2.1
theorem eqv (f0:q47.T) (f1:q68.T) (f2:q46.T) (n_0:Node) (id:Int) (block:Int) (K:(Node×(List Outp))->Prop):apure E (tv f0 f1 f2) (fun _=>none) 4 186 [enc (.st 13) n_0,enc (.int .i64) id,enc (.int .i64) block] (ansK C K)=FV f0 f1 f2 n_0 id block K:=by kernel_rfl
theorem loops:LoopsOk E tab (fun _=>none) 4 186:=lpn _ _ _ _
theorem det (n_0:Node) (id:Int) (block:Int):Det (F n_0 id block):=by
 unfold F FV
 repeat' with_reducible first|exact det_ret _|refine det_cond _ ?_ ?_|refine det_bind (q47.det _ _ _) (fun _=>?_)|refine det_bind (q68.det _ _) (fun _=>?_)|refine det_bind (q46.det _ _ _ _) (fun _=>?_)
theorem edet a:Det (en a):=mkD (fun x:Dens A=>det x.1 x.2.1 x.2.2.1) a
theorem ground:Ground E tab:=gnd (tbc q47.sound (tbc q68.sound (tbc q46.sound (tab_nil _)))) (dtc q47.edet (dtc q68.edet (dtc q46.edet dtn)))
theorem sound:EntrySound E 186 en:=mkSound ground loops (by kernel_rfl) (fun x K=>eqv q47.F q68.F q46.F x.1 x.2.1 x.2.2.1 K)
end q69
namespace q70
abbrev A:List Ty:=[(.st 2),(.int .u64)]
abbrev C:=(cTwo (.st 2) (.int .i64))
abbrev T:Type:=Vec->Int->((Vec×Int)->Prop)->Prop
def tab:Tab:=[]
def F (v:Vec) (g:Int) (K:(Vec×Int)->Prop):Prop:=
 (bif(g==0)then(K ((⟨0,0,0,0⟩:Vec),14))else(bif(v.bitmap==0)then(K ((⟨g,v.current,v.old0,v.old1⟩:Vec),0))else(K ((⟨g,v.bitmap,v.current,v.old0⟩:Vec),0))))
def en:Entry:=mkEntry A C fun x=>F x.1 x.2.1
theorem eqv (v:Vec) (g:Int) (K:(Vec×Int)->Prop):apure E tab (fun _=>none) 4 263 [enc (.st 2) v,enc (.int .u64) g] (ansK C K)=F v g K:=by kernel_rfl
theorem loops:LoopsOk E tab (fun _=>none) 4 263:=lpn _ _ _ _
theorem det (v:Vec) (g:Int):Det (F v g):=by
 unfold F
 repeat' with_reducible first|exact det_ret _|refine det_cond _ ?_ ?_
theorem edet a:Det (en a):=mkD (fun x:Dens A=>det x.1 x.2.1) a
theorem ground:Ground E tab:=gnd (tab_nil _) dtn
theorem sound:EntrySound E 263 en:=mkSound ground loops (by kernel_rfl) (fun x K=>eqv  x.1 x.2.1 K)
end q70
namespace q71
abbrev A:List Ty:=[(.st 13)]
abbrev C:=(cTwo (.st 13) (.int .i64))
abbrev T:Type:=Node->((Node×Int)->Prop)->Prop
def tv (f0:q70.T) (f1:q64.T):Tab:=[(263,mkEntry q70.A q70.C fun x=>f0 x.1 x.2.1),(123,mkEntry q64.A q64.C fun x=>f1 x.1 x.2.1)]
def tab:Tab:=tv q70.F q64.F
def FV (f0:q70.T) (f1:q64.T) (n_0:Node) (K:(Node×Int)->Prop):Prop:=
 (bif((n_0.draws.length:Int)==0)then(K (n_0,14))else(oget (getI n_0.draws 0) fun v1=>(bif(decide (0≤1)&&decide (1≤(n_0.draws.length:Int)))then(bif(decide ((sub n_0.draws (Int.toNat 1) n_0.draws.length).length * 8≤room))then(bif(v1==0)then(K ((⟨n_0.id,n_0.up,n_0.store,n_0.primary,n_0.state,n_0.session,n_0.peer,n_0.peerPri,n_0.req,n_0.asking,n_0.askId,n_0.wanted,n_0.minted,(sub n_0.draws (Int.toNat 1) n_0.draws.length),n_0.mints⟩:Node),14))else(bif(decide (n_0.mints.length * 24≤room))then(bif(decide ((n_0.mints.length+([(⟨v1,n_0.store.sup.vector.current,n_0.id⟩:Mint)]:List Mint).length) * 24≤room))then(f0 n_0.store.sup.vector v1 fun r2=>(f1 (⟨n_0.id,n_0.up,n_0.store,n_0.primary,n_0.state,n_0.session,n_0.peer,n_0.peerPri,n_0.req,n_0.asking,n_0.askId,n_0.wanted,n_0.minted,(sub n_0.draws (Int.toNat 1) n_0.draws.length),(n_0.mints++([(⟨v1,n_0.store.sup.vector.current,n_0.id⟩:Mint)]:List Mint))⟩:Node) (⟨n_0.store.sup.blocks,r2.1,n_0.store.sup.inc,n_0.store.sup.pri,n_0.store.sup.dis⟩:Super) fun r3=>(bif(!r3.2)then(K (r3.1,6))else(K ((⟨r3.1.id,r3.1.up,r3.1.store,r3.1.primary,r3.1.state,r3.1.session,r3.1.peer,r3.1.peerPri,r3.1.req,r3.1.asking,r3.1.askId,r3.1.wanted,true,r3.1.draws,r3.1.mints⟩:Node),0)))))else False)else False))else False)else False)))
def F (n_0:Node) (K:(Node×Int)->Prop):Prop:=FV q70.F q64.F n_0 K
def en:Entry:=mkEntry A C fun x=>F x.1
theorem eqv (f0:q70.T) (f1:q64.T) (n_0:Node) (K:(Node×Int)->Prop):apure E (tv f0 f1) (fun _=>none) 4 231 [enc (.st 13) n_0] (ansK C K)=FV f0 f1 n_0 K:=by kernel_rfl
theorem loops:LoopsOk E tab (fun _=>none) 4 231:=lpn _ _ _ _
theorem det (n_0:Node):Det (F n_0):=by
 unfold F FV
 repeat' with_reducible first|exact det_ret _|exact det_false|refine det_cond _ ?_ ?_|refine det_oget _ (fun _=>?_)|refine det_bind (q70.det _ _) (fun _=>?_)|refine det_bind (q64.det _ _) (fun _=>?_)
theorem edet a:Det (en a):=mkD (fun x:Dens A=>det x.1) a
theorem ground:Ground E tab:=gnd (tbc q70.sound (tbc q64.sound (tab_nil _))) (dtc q70.edet (dtc q64.edet dtn))
theorem sound:EntrySound E 231 en:=mkSound ground loops (by kernel_rfl) (fun x K=>eqv q70.F q64.F x.1 K)
end q71
namespace q72
abbrev A:List Ty:=[(.int .u32),(.slice (.int .i64))]
abbrev C:=(cTy (.int .u32))
abbrev T:Type:=Int->(List Int)->(Int->Prop)->Prop
def tv (f0:q37.T) (f1:q36.T):Tab:=[(43,mkEntry q37.A q37.C fun x=>f0 x.1 x.2.1),(92,mkEntry q36.A q36.C fun x=>f1 x.1)]
def tab:Tab:=tv q37.F q36.F
structure R where
def cR (_:R):St:={ fr:=fun _=>.top,hs:=hs0 }
def kR:Keep:={ ks:=[],bs:=[],hn:=0 }
structure L0 where
 m:Int
 l:(List Int)
 k:Int
def c0 (x:L0):St:={ fr:=lookL .top [(0,(.int .u32 x.m)),(1,(.sl .any (.int .i64) x.l)),(5,(.int .i64 x.k))],hs:={ hp:=lookL .dead [],hn:=0 } }
def kp0:Keep:={ ks:=[(0,none),(1,none),(5,none)],bs:=[],hn:=0 }
def p0 (st:St) (K:L0->Prop):Prop:=gInt .u32 (st.fr 0) fun a1=>gSl .any (.int .i64) (st.fr 1) fun a2=>gInt .i64 (st.fr 5) fun a3=>K ⟨a1,a2,a3⟩
set_option maxHeartbeats 4000000 in
theorem p0_ok (st:St) (K:L0->Prop) (h:p0 st K):∃ x,keepSt kp0 st=c0 x∧K x:=by
 obtain ⟨a1,h0,h⟩:=gInt_elim h
 obtain ⟨a2,h1,h⟩:=gSl_elim h
 obtain ⟨a3,h2,h⟩:=gInt_elim h
 refine⟨_,?_,h⟩
 simp only [keepSt,kp0,List.map,h0,h1,h2]
 rfl
def b0V (f0:q37.T) (f1:q36.T) (rec kx:L0->Prop) (kr:R->Prop) (x:L0):Prop:=
 (bif(decide (x.k < (x.l.length:Int)))then(oget (getI x.l x.k) fun v1=>(bif(decide (v1≥0))then(oget (getI x.l x.k) fun v2=>(bif(decide (v2 < 32))then(oget (getI x.l x.k) fun v3=>(f0 x.m v3 fun r4=>(bif(!r4)then(oget (getI x.l x.k) fun v5=>(f1 v5 fun r6=>(rec ⟨(IntKind.u32.wrap (x.m+r6)),x.l,(IntKind.i64.wrap (x.k+1))⟩)))else(rec ⟨x.m,x.l,(IntKind.i64.wrap (x.k+1))⟩))))else(rec ⟨x.m,x.l,(IntKind.i64.wrap (x.k+1))⟩)))else(rec ⟨x.m,x.l,(IntKind.i64.wrap (x.k+1))⟩)))else(kx ⟨x.m,x.l,x.k⟩))
def ltV (f0:q37.T) (f1:q36.T):Nat->Option LSpec
 | 0=>some (mkLoop 0 kp0 kR p0 c0 cR (b0V f0 f1))
 | _=>none
def lt:Nat->Option LSpec:=ltV q37.F q36.F
def FV (f0:q37.T) (f1:q36.T) (m:Int) (l:(List Int)) (K:Int->Prop):Prop:=
 (∃ n,loopB (b0V f0 f1) n (fun x7=>(K x7.m)) (fun _=>False) ⟨m,l,0⟩)
def F (m:Int) (l:(List Int)) (K:Int->Prop):Prop:=FV q37.F q36.F m l K
def en:Entry:=mkEntry A C fun x=>F x.1 x.2.1
theorem eqv (f0:q37.T) (f1:q36.T) (m:Int) (l:(List Int)) (K:Int->Prop):apure E (tv f0 f1) (ltV f0 f1) 4 228 [enc (.int .u32) m,enc (.slice (.int .i64)) l] (ansK C K)=FV f0 f1 m l K:=by kernel_rfl
theorem l0v (f0:q37.T) (f1:q36.T) (R:St->Prop) (Kx:Nat->St->Prop) (Kr:St->Prop) (x:L0):acode E (tv f0 f1) (afun E (tv f0 f1) 4) 41 (ltV f0 f1) ((loopsIn E.P 228).getD 0 (0,.skip)).2 0 (fun s=>R (keepSt kp0 s)) (fun j s=>Kx j (keepSt kp0 s)) (fun s=>Kr (keepSt kR s)) (c0 x)=b0V f0 f1 (fun x=>R (c0 x)) (fun x=>Kx 0 (c0 x)) (fun r=>Kr (cR r)) x:=by kernel_rfl
theorem l0_ok:LSound E tab (afun E tab 4) 41 lt 0 ((loopsIn E.P 228).getD 0 (0,.skip)).2 (mkLoop 0 kp0 kR p0 c0 cR (b0V q37.F q36.F)):=mkLoop_sound (by decide) (by decide) p0_ok (fun R Kx Kr x=>l0v q37.F q36.F R Kx Kr x)
theorem loops:LoopsOk E tab lt 4 228:=loops_of (nt:=41) (ids:=[0]) (by kernel_rfl) (by kernel_rfl) (by
 intro k i hk l hl
 match k,hk with
 | 0,hk=>cases hk;cases hl;exact l0_ok
 | _+1,hk=>exact absurd hk (by simp))
theorem det (m:Int) (l:(List Int)):Det (F m l):=by
 unfold F FV
 repeat' with_reducible first|exact det_ret _|exact det_false|refine det_cond _ ?_ ?_|refine det_oget _ (fun _=>?_)|refine det_bind (q37.det _ _) (fun _=>?_)|refine det_bind (q36.det _) (fun _=>?_)|refine det_loop (fun _=>?_) (fun _=>?_) (fun _=>?_) _ | unfold b0V
theorem edet a:Det (en a):=mkD (fun x:Dens A=>det x.1 x.2.1) a
theorem ground:Ground E tab:=gnd (tbc q37.sound (tbc q36.sound (tab_nil _))) (dtc q37.edet (dtc q36.edet dtn))
theorem sound:EntrySound E 228 en:=mkSound ground loops (by kernel_rfl) (fun x K=>eqv q37.F q36.F x.1 x.2.1 K)
end q72
namespace q73
abbrev A:List Ty:=[(.st 1),(.int .u32)]
abbrev C:=(cTwo (.st 1) (.int .i64))
abbrev T:Type:=Disk->Int->((Disk×Int)->Prop)->Prop
def tv (f0:q38.T) (f1:q19.T) (f2:q20.T) (f3:q58.T):Tab:=[(62,mkEntry q38.A q38.C fun x=>f0 x.1 x.2.1),(181,mkEntry q19.A q19.C fun x=>f1 x.1),(144,mkEntry q20.A q20.C fun x=>f2 x.1),(260,mkEntry q58.A q58.C fun x=>f3 x.1 x.2.1 x.2.2.1)]
def tab:Tab:=tv q38.F q19.F q20.F q58.F
def FV (f0:q38.T) (f1:q19.T) (f2:q20.T) (f3:q58.T) (d:Disk) (m:Int) (K:(Disk×Int)->Prop):Prop:=
 (f0 m (IntKind.i64.wrap ((d.sure.length:Int) - 2)) fun r1=>(bif(!r1)then(K (d,1))else(f1 m fun r2=>(f2 r2 fun r3=>(f3 d 1 r3 fun r4=>(K (r4.1,r4.2)))))))
def F (d:Disk) (m:Int) (K:(Disk×Int)->Prop):Prop:=FV q38.F q19.F q20.F q58.F d m K
def en:Entry:=mkEntry A C fun x=>F x.1 x.2.1
theorem eqv (f0:q38.T) (f1:q19.T) (f2:q20.T) (f3:q58.T) (d:Disk) (m:Int) (K:(Disk×Int)->Prop):apure E (tv f0 f1 f2 f3) (fun _=>none) 4 262 [enc (.st 1) d,enc (.int .u32) m] (ansK C K)=FV f0 f1 f2 f3 d m K:=by kernel_rfl
theorem loops:LoopsOk E tab (fun _=>none) 4 262:=lpn _ _ _ _
theorem det (d:Disk) (m:Int):Det (F d m):=by
 unfold F FV
 repeat' with_reducible first|exact det_ret _|refine det_cond _ ?_ ?_|refine det_bind (q38.det _ _) (fun _=>?_)|refine det_bind (q19.det _) (fun _=>?_)|refine det_bind (q20.det _) (fun _=>?_)|refine det_bind (q58.det _ _ _) (fun _=>?_)
theorem edet a:Det (en a):=mkD (fun x:Dens A=>det x.1 x.2.1) a
theorem ground:Ground E tab:=gnd (tbc q38.sound (tbc q19.sound (tbc q20.sound (tbc q58.sound (tab_nil _))))) (dtc q38.edet (dtc q19.edet (dtc q20.edet (dtc q58.edet dtn))))
theorem sound:EntrySound E 262 en:=mkSound ground loops (by kernel_rfl) (fun x K=>eqv q38.F q19.F q20.F q58.F x.1 x.2.1 K)
end q73
namespace q74
abbrev A:List Ty:=[(.st 1),(.int .u32)]
abbrev C:=(cTwo (.st 1) (.int .i64))
abbrev T:Type:=Disk->Int->((Disk×Int)->Prop)->Prop
def tv (f0:q73.T) (f1:q59.T):Tab:=[(262,mkEntry q73.A q73.C fun x=>f0 x.1 x.2.1),(261,mkEntry q59.A q59.C fun x=>f1 x.1)]
def tab:Tab:=tv q73.F q59.F
def FV (f0:q73.T) (f1:q59.T) (d:Disk) (m:Int) (K:(Disk×Int)->Prop):Prop:=
 (f0 d m fun r1=>(bif(r1.2 != 0)then(K (r1.1,r1.2))else(f1 r1.1 fun r2=>(K (r2.1,r2.2)))))
def F (d:Disk) (m:Int) (K:(Disk×Int)->Prop):Prop:=FV q73.F q59.F d m K
def en:Entry:=mkEntry A C fun x=>F x.1 x.2.1
theorem eqv (f0:q73.T) (f1:q59.T) (d:Disk) (m:Int) (K:(Disk×Int)->Prop):apure E (tv f0 f1) (fun _=>none) 4 227 [enc (.st 1) d,enc (.int .u32) m] (ansK C K)=FV f0 f1 d m K:=by kernel_rfl
theorem loops:LoopsOk E tab (fun _=>none) 4 227:=lpn _ _ _ _
theorem det (d:Disk) (m:Int):Det (F d m):=by
 unfold F FV
 repeat' with_reducible first|exact det_ret _|refine det_cond _ ?_ ?_|refine det_bind (q73.det _ _) (fun _=>?_)|refine det_bind (q59.det _) (fun _=>?_)
theorem edet a:Det (en a):=mkD (fun x:Dens A=>det x.1 x.2.1) a
theorem ground:Ground E tab:=gnd (tbc q73.sound (tbc q59.sound (tab_nil _))) (dtc q73.edet (dtc q59.edet dtn))
theorem sound:EntrySound E 227 en:=mkSound ground loops (by kernel_rfl) (fun x K=>eqv q73.F q59.F x.1 x.2.1 K)
end q74
namespace q75
abbrev A:List Ty:=[(.st 8),(.int .u32)]
abbrev C:=(cTwo (.st 8) (.int .i64))
abbrev T:Type:=Store->Int->((Store×Int)->Prop)->Prop
def tv (f0:q74.T):Tab:=[(227,mkEntry q74.A q74.C fun x=>f0 x.1 x.2.1)]
def tab:Tab:=tv q74.F
def FV (f0:q74.T) (s:Store) (m:Int) (K:(Store×Int)->Prop):Prop:=
 (bif(m==s.mask)then(K (s,0))else(f0 s.disk m fun r1=>(bif(r1.2==0)then(K ((⟨r1.1,s.sup,m⟩:Store),r1.2))else(K ((⟨r1.1,s.sup,s.mask⟩:Store),r1.2)))))
def F (s:Store) (m:Int) (K:(Store×Int)->Prop):Prop:=FV q74.F s m K
def en:Entry:=mkEntry A C fun x=>F x.1 x.2.1
theorem eqv (f0:q74.T) (s:Store) (m:Int) (K:(Store×Int)->Prop):apure E (tv f0) (fun _=>none) 4 177 [enc (.st 8) s,enc (.int .u32) m] (ansK C K)=FV f0 s m K:=by kernel_rfl
theorem loops:LoopsOk E tab (fun _=>none) 4 177:=lpn _ _ _ _
theorem det (s:Store) (m:Int):Det (F s m):=by
 unfold F FV
 repeat' with_reducible first|exact det_ret _|refine det_cond _ ?_ ?_|refine det_bind (q74.det _ _) (fun _=>?_)
theorem edet a:Det (en a):=mkD (fun x:Dens A=>det x.1 x.2.1) a
theorem ground:Ground E tab:=gnd (tbc q74.sound (tab_nil _)) (dtc q74.edet dtn)
theorem sound:EntrySound E 177 en:=mkSound ground loops (by kernel_rfl) (fun x K=>eqv q74.F x.1 x.2.1 K)
end q75
namespace q76
abbrev A:List Ty:=[(.st 8),(.int .i64)]
abbrev C:=(cTwo (.st 8) (.int .i64))
abbrev T:Type:=Store->Int->((Store×Int)->Prop)->Prop
def tv (f0:q72.T) (f1:q75.T):Tab:=[(228,mkEntry q72.A q72.C fun x=>f0 x.1 x.2.1),(177,mkEntry q75.A q75.C fun x=>f1 x.1 x.2.1)]
def tab:Tab:=tv q72.F q75.F
def FV (f0:q72.T) (f1:q75.T) (s:Store) (i:Int) (K:(Store×Int)->Prop):Prop:=
 (bif(decide (i < 0))then(K (s,4))else(bif(decide (i≥s.sup.blocks))then(K (s,4))else(f0 s.mask ([i]:List Int) fun r1=>(f1 s r1 fun r2=>(K (r2.1,r2.2))))))
def F (s:Store) (i:Int) (K:(Store×Int)->Prop):Prop:=FV q72.F q75.F s i K
def en:Entry:=mkEntry A C fun x=>F x.1 x.2.1
theorem eqv (f0:q72.T) (f1:q75.T) (s:Store) (i:Int) (K:(Store×Int)->Prop):apure E (tv f0 f1) (fun _=>none) 4 264 [enc (.st 8) s,enc (.int .i64) i] (ansK C K)=FV f0 f1 s i K:=by kernel_rfl
theorem loops:LoopsOk E tab (fun _=>none) 4 264:=lpn _ _ _ _
theorem det (s:Store) (i:Int):Det (F s i):=by
 unfold F FV
 repeat' with_reducible first|exact det_ret _|refine det_cond _ ?_ ?_|refine det_bind (q72.det _ _) (fun _=>?_)|refine det_bind (q75.det _ _) (fun _=>?_)
theorem edet a:Det (en a):=mkD (fun x:Dens A=>det x.1 x.2.1) a
theorem ground:Ground E tab:=gnd (tbc q72.sound (tbc q75.sound (tab_nil _))) (dtc q72.edet (dtc q75.edet dtn))
theorem sound:EntrySound E 264 en:=mkSound ground loops (by kernel_rfl) (fun x K=>eqv q72.F q75.F x.1 x.2.1 K)
end q76
namespace q77
abbrev A:List Ty:=[(.st 13),(.st 8),(.int .i64)]
abbrev C:=(cTwo (.st 13) .bool)
abbrev T:Type:=Node->Store->Int->((Node×Bool)->Prop)->Prop
def tv (f0:q63.T):Tab:=[(176,mkEntry q63.A q63.C fun x=>f0 x.1)]
def tab:Tab:=tv q63.F
def FV (f0:q63.T) (n_0:Node) (s:Store) (e:Int) (K:(Node×Bool)->Prop):Prop:=
 (bif(e != 0)then(f0 (⟨n_0.id,n_0.up,s,n_0.primary,n_0.state,n_0.session,n_0.peer,n_0.peerPri,n_0.req,n_0.asking,n_0.askId,n_0.wanted,n_0.minted,n_0.draws,n_0.mints⟩:Node) fun r1=>(K (r1,false)))else(K ((⟨n_0.id,n_0.up,s,n_0.primary,n_0.state,n_0.session,n_0.peer,n_0.peerPri,n_0.req,n_0.asking,n_0.askId,n_0.wanted,n_0.minted,n_0.draws,n_0.mints⟩:Node),true)))
def F (n_0:Node) (s:Store) (e:Int) (K:(Node×Bool)->Prop):Prop:=FV q63.F n_0 s e K
def en:Entry:=mkEntry A C fun x=>F x.1 x.2.1 x.2.2.1
theorem eqv (f0:q63.T) (n_0:Node) (s:Store) (e:Int) (K:(Node×Bool)->Prop):apure E (tv f0) (fun _=>none) 4 125 [enc (.st 13) n_0,enc (.st 8) s,enc (.int .i64) e] (ansK C K)=FV f0 n_0 s e K:=by kernel_rfl
theorem loops:LoopsOk E tab (fun _=>none) 4 125:=lpn _ _ _ _
theorem det (n_0:Node) (s:Store) (e:Int):Det (F n_0 s e):=by
 unfold F FV
 repeat' with_reducible first|exact det_ret _|refine det_cond _ ?_ ?_|refine det_bind (q63.det _) (fun _=>?_)
theorem edet a:Det (en a):=mkD (fun x:Dens A=>det x.1 x.2.1 x.2.2.1) a
theorem ground:Ground E tab:=gnd (tbc q63.sound (tab_nil _)) (dtc q63.edet dtn)
theorem sound:EntrySound E 125 en:=mkSound ground loops (by kernel_rfl) (fun x K=>eqv q63.F x.1 x.2.1 x.2.2.1 K)
end q77
namespace q78
abbrev A:List Ty:=[(.st 1),(.int .i64),.str]
abbrev C:=(cTwo (.st 1) (.int .i64))
abbrev T:Type:=Disk->Int->Str->((Disk×Int)->Prop)->Prop
def tv (f0:q40.T) (f1:q58.T) (f2:q59.T):Tab:=[(105,mkEntry q40.A q40.C fun x=>f0 x.1 x.2.1),(260,mkEntry q58.A q58.C fun x=>f1 x.1 x.2.1 x.2.2.1),(261,mkEntry q59.A q59.C fun x=>f2 x.1)]
def tab:Tab:=tv q40.F q58.F q59.F
def FV (f0:q40.T) (f1:q58.T) (f2:q59.T) (d:Disk) (i:Int) (data:Str) (K:(Disk×Int)->Prop):Prop:=
 (f0 d i fun r1=>(bif(!r1)then(K (d,4))else(bif((data.length:Int) != 8)then(K (d,5))else(f1 d (IntKind.i64.wrap (i+2)) data fun r2=>(bif(r2.2 != 0)then(K (r2.1,r2.2))else(f2 r2.1 fun r3=>(K (r3.1,r3.2))))))))
def F (d:Disk) (i:Int) (data:Str) (K:(Disk×Int)->Prop):Prop:=FV q40.F q58.F q59.F d i data K
def en:Entry:=mkEntry A C fun x=>F x.1 x.2.1 x.2.2.1
theorem eqv (f0:q40.T) (f1:q58.T) (f2:q59.T) (d:Disk) (i:Int) (data:Str) (K:(Disk×Int)->Prop):apure E (tv f0 f1 f2) (fun _=>none) 4 276 [enc (.st 1) d,enc (.int .i64) i,enc .str data] (ansK C K)=FV f0 f1 f2 d i data K:=by kernel_rfl
theorem loops:LoopsOk E tab (fun _=>none) 4 276:=lpn _ _ _ _
theorem det (d:Disk) (i:Int) (data:Str):Det (F d i data):=by
 unfold F FV
 repeat' with_reducible first|exact det_ret _|refine det_cond _ ?_ ?_|refine det_bind (q40.det _ _) (fun _=>?_)|refine det_bind (q58.det _ _ _) (fun _=>?_)|refine det_bind (q59.det _) (fun _=>?_)
theorem edet a:Det (en a):=mkD (fun x:Dens A=>det x.1 x.2.1 x.2.2.1) a
theorem ground:Ground E tab:=gnd (tbc q40.sound (tbc q58.sound (tbc q59.sound (tab_nil _)))) (dtc q40.edet (dtc q58.edet (dtc q59.edet dtn)))
theorem sound:EntrySound E 276 en:=mkSound ground loops (by kernel_rfl) (fun x K=>eqv q40.F q58.F q59.F x.1 x.2.1 x.2.2.1 K)
end q78
end Gm
end
