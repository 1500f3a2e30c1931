/- Part 3 of the proof of WholeSnaps. No conditions. -/
import Derived.Test.YtklligbjoplbgaaGreatPab
import Derived.Great.BuildSlice
import Derived.Deep.AppendLies
import Derived.Lib.BufferWrite
set_option linter.all false
open List renaming length->List.n
open String renaming length->String.n
open Array renaming size->Array.s,toList->Array.t
open ByteArray renaming size->ByteArray.s
open Go.TypeInfo renaming size->Go.TypeInfo.s
open Go.RowKit.Below renaming size->Go.RowKit.Below.s
open Option renaming toList->Option.t,some->cu,none->cw
open Go.World renaming heap->Go.World.h
open Int renaming toNat->Int.m
open Go.Value renaming int->bU,agg->bV,pointer->bW,slice->bX,string->bY,bool->bZ,tuple->cg
open Go.Ending renaming returned->cj
open Go.IntKind renaming i64->cq,u64->ct
open Bool renaming true->cx,false->cy
namespace Go.Proofs.YtklligbjoplbgaaGreat
set_option maxRecDepth 100000
set_option maxHeartbeats 64000000
open Go.RowKit Lib List Nat _root_.Go.Proofs.Tryz
variable {A C Z:gE}{a:Act}{K:Act->cS->Prop}{parts:Array (Nat×Operand)}{af:Array Edge}{ops:Array Oper}{ts:Array dU}{str:fF}{R:Ending->cS->Prop}{Q:Exit->Act->cS->Prop}{fn:Func}{h h5:Head}{B bs l l2 s:cV}{X X':cV->cS->Prop}{ps:List (Nat×cV)}{rest:List Oper}{xs xs':List c7}{D E M b base by' c dst i ix j k m n size cR sz x y z:Nat}{nw:Nat->cV}{mp rm st:Nat->Nat}{f g:Nat->c7}{o op:Oper}{d d2:Option Nat}{P:oN}{q cO:cQ}{p:String}{T dT e sT t t2:dU}{α β:Type}{v v' zv:c7}{w w' w0 w1 w2 w5:cS}{S:cS->Prop}
def iA(w:cS)(k:Nat):Option dU:=match w.h[k]? with|some (.cells _ t _)=>cu t|_=>cw
def lS(t:dU):Bool:=decide (t=127∨t=129∨t=36)
def gV(t:dU):Bool:=decide (t=206∨t=147∨t=145∨t=101)
def oK(w:cS)(D:Nat):cV:=match w.h[D]? with
 |some (.cells cs _ _)=>D:: (((cs[0]?.bind Value.ownBlock).t++(cs[1]?.bind Value.ownBlock).t)++(cs[2]?.bind Value.ownBlock).t)
 |_=> []
theorem sC{w w':cS}{D:Nat}(h:w'.h[D]?=w.h[D]?):oK w' D=oK w D:=by grind[oK]
def PU(w:cS)(d:Option Nat)(l:cV)(k:Nat):Prop:=∃t,iA w k=cu t/\((∃D,d=cu D/\lS t=cx/\k∈oK w D)∨(gV t=cx/\k∈l))
structure Fr(d:Option Nat)(l:cV)(w w':cS):Prop where
 os:w'.os=w.os
 tape:w'.tape=w.tape
 output:w'.output=w.output
 size:w.h.s<=w'.h.s
 block:∀k,k<w.h.s->¬PU w d l k->w'.h[k]?=w.h[k]?
 dty:∀D,d=cu D->iA w D=cu 127/\iA w' D=cu 127
 dev:∀D,d=cu D->∀k∈oK w' D,k∈oK w D∨w.h.s<=k
theorem wA{w w':cS}{k:Nat}(h:w'.h[k]?=w.h[k]?):iA w' k=iA w k:=by grind[iA]
theorem iy(h:iA w b=cu t):b<w.h.s:=by grind[iA]
theorem cM.ty(h:cM w b t n f):iA w b=cu t:=by grind[cM,iA]
theorem ado(h:w'.h[D]?=w.h[D]?):∀k∈oK w' D,k∈oK w D∨w.h.s<=k:=by grind[sC]
theorem Fr.refl(d:Option Nat)(l:cV)(w:cS)(a:∀D,d=cu D->iA w D=cu 127):Fr d l w w:=⟨ae,ae,ae,eN _,λ_ _ _=>ae,λD e=>⟨a D e,a D e⟩,λD _ k b=>.inl b⟩
theorem Fr.tq{w w':cS}(h:dR w w')(d:Option Nat)(l:cV)(a:∀D,d=cu D->iA w D=cu 127):Fr d l w w':=
 ⟨h.os,h.tape,h.output,h.s,λk b _=>h.block k b,λD e=>⟨a D e,by rw[wA (h.block D (iy (a D e)))];grind⟩,λD e=>ado (h.block D (iy (a D e)))⟩
theorem Fr.Ev(h:dR w w')(l:cV):Fr cw l w w':=by grind[Fr.tq]
theorem Fr.cP(h:Fr none [] w w'):dR w w':=
 ⟨h.os,h.tape,h.output,h.size,λk a=>h.block k a (by grind[PU])⟩
theorem Fr.step(h:Fr d l w w1)(g:Fr d2 l2 w1 w2)(n:∀D,d2=some D->d=some D)(r:∀k∈l2,k∈l∨w.heap.size<=k):Fr d l w w2:=by
 have f:∀D,d=some D->d2≠some D->w2.heap[D]?=w1.heap[D]?:=by intro D e i;have p:=(h.dty D e).2;refine g.block D (iy p) ?_;rintro⟨t,m,hc⟩;rw[p] at m;cases m;rcases hc with⟨q,a,b,c⟩|⟨a,b⟩;grind;exact absurd a kB
 refine⟨g.os.trans h.os,g.tape.trans h.tape,g.output.trans h.output,iE h.size g.size,λk j o=>?_,λD e=>⟨(h.dty D e).1,?_⟩,λD e k j=>?_⟩;have e:=h.block k j o;rw[<-e];refine g.block k (pM j h.size) ?_;rintro⟨t,m,hc⟩;rw[wA e] at m;refine o ⟨t,m,?_⟩;rcases hc with⟨D,a,b,c⟩|⟨a,b⟩;exact .inl ⟨D,n D a,b,(h.dev D (n D a) k c).resolve_right cN⟩;grind;by_cases i:d2=some D;exact(g.dty D i).2;rw[wA (f D e i)];exact(h.dty D e).2;by_cases i:d2=some D;rcases g.dev D i k j with h3|h3;exact h.dev D e k h3;exact .inr (iE h.size h3);rw[sC (f D e i)] at j;exact h.dev D e k j
theorem Fr.trans{d:Option Nat}{l:cV}{w w1 w2:cS}(h:Fr d l w w1)(a:Fr d l w1 w2):Fr d l w w2:=h.step a (λ_ e=>e) λ_ b=>.inl b
def Fr.ajE(h:Fr d l w w1)(a:Fr cw l2 w1 w2)(b:∀k∈l2,k∈l∨w.h.s<=k):Fr d l w w2:=h.step a aK b
def Fr.mono{d':Option Nat}{a:cV}(h:Fr d l w w')(b:∀D,d'=cu D->iA w D=cu 127)(c:∀D,d=cu D->d'=cu D)(e:∀k∈l,k∈a∨w.h.s<=k):Fr d' a w w':=(Fr.refl d' a w b).step h c e
def Fr.adp(h:Fr d l w w1)(a:dR w1 w2):Fr d l w w2:=h.ajE (Fr.Ev a []) eQ
def Fr.Rh(h:Fr d l w w1)(i:w.heap.size<=b)(c:jX b w1 w2):Fr d l w w2:=by
 have a:∀D,d=some D->w2.heap[D]?=w1.heap[D]?:=λD e=>c.block D (iy (h.dty D e).2) (by rintro rfl;exact absurd (iy (h.dty _ e).1) cN)
 exact⟨c.os.trans h.os,c.tape.trans h.tape,c.output.trans h.output,iE h.size c.size,λk f g=>(c.block k (pM f h.size) cN).trans (h.block k f g),
  λD e=>⟨(h.dty D e).1,by rw[wA (a D e)];exact(h.dty D e).2⟩,λD e k f=>by rw[sC (a D e)] at f;exact h.dev D e k f⟩
theorem Fr.grown{d:Option Nat}{l:cV}{w w' w2:cS}{row:Option Nat}(h:Fr d l w w')(a:w'.grownBy w2 row)(e:∀k,row=some k->w.heap.size<=k):Fr d l w w2:=by cases row with|none=>exact h.adp ⟨a.os,a.tape,a.output,a.size,λk c=>a.block k c eQ⟩|some b=>exact h.Rh (e b ae) ⟨a.os,a.tape,a.output,a.size,λk c f=>a.block k c jv⟩
def Fr.rS(h:jX b w w')(e:iA w b=some t)(ho:gV t=true)(a:b∈l):Fr none l w w':=
 ⟨h.os,h.tape,h.output,h.size,λk c d=>h.block k c (by rintro rfl;exact d ⟨t,e,.inr ⟨ho,a⟩⟩),aK,aK⟩
theorem Fr.fI(h:Fr d l w w')(a:iA w k=cu t)(b:d=cw∨lS t=cy)(c:gV t=cy∨k∉l):w'.h[k]?=w.h[k]?:=by refine h.block k (iy a) ?_;grind[PU]
theorem Fr.LU(h:Fr (cu D) l w w')(a:iA w k=cu t)(b:k∉oK w D)(c:gV t=cy∨k∉l):w'.h[k]?=w.h[k]?:=by refine h.block k (iy a) ?_;grind[PU]
theorem Fr.adq{D:Nat}{l:cV}{w w':cS}(h:Fr (cu D) l w w'){k:Nat}(c:k<w.h.s)(b:k∉oK w D):k∉oK w' D:=λa=>by rcases h.dev D ae k a with h2|h2<;>grind
theorem cM.fr{d:Option Nat}{l:cV}{w w':cS}{b:Nat}{t:dU}{n:Nat}{f:Nat->c7}(h:cM w b t n f)(s:Fr d l w w')(a:d=cw∨lS t=cy)(c:gV t=cy∨b∉l):cM w' b t n f:=by have:=s.fI h.ty a c;grind[cM]
theorem cM.frX(h:cM w b t n f)(s:Fr (cu D) l w w')(a:b∉oK w D)(c:gV t=cy∨b∉l):cM w' b t n f:=by have:=s.LU h.ty a c;grind[cM]
theorem B5{d:Option Nat}{l:cV}{w w':cS}{base:Nat}{e:dU}{size:Nat}{v:c7}{n:Nat}{xs:List c7}(h:w.ownsRow base e size v n xs)(s:Fr d l w w')(a:d=cw∨lS e=cy)(b:gV e=cy):w'.ownsRow base e size v n xs:=by refine⟨h.1,?_⟩;rcases h.2 with h3|⟨g,cap,cur,rfl,hb,hg,hr⟩;grind;refine .inr ⟨g,cap,cur,ae,hb,?_,hr⟩;rw[s.fI (t:=e) (by grind[iA]) a (.inl b)];exact hg
theorem B6{w:cS}{base base':Nat}{e:dU}{size:Nat}{v:c7}{n:Nat}{xs:List c7}(h:w.ownsRow base e size v n xs)(a:base'<=base):w.ownsRow base' e size v n xs:=
 ⟨h.1,h.2.imp id λ⟨g,cap,cur,h1,h2,r⟩=>⟨g,cap,cur,h1,iE a h2,r⟩⟩
theorem fB.fr{d:Option Nat}{l:cV}{w w':cS}{b:Nat}{st:Nat->Nat}(h:fB w b st)(s:Fr d l w w')(a:b∉l):fB w' b st:=cM.fr h s aw (.inr a)
structure Dv where
 n:Nat
 st:Nat->cV
 nw:Nat->cV
 ps:List (Nat×cV)
 ops:Nat
 left:Int
 di:Bool
def Dv.head(d:Dv)(b a:Nat)(pv:c7):Head:=⟨d.n,b,a,pv,d.ops,d.left,d.di⟩
def j0(s:cV):Prop:=s.n=128/\∀x∈s,x<256
structure pD(d:Dv):Prop where
 st:∀i,j0 (d.st i)
 nw:∀i,j0 (d.nw i)
 ps:∀p∈d.ps,j0 p.2
 q6:d.ps.n<=d.ops
 ops:d.ops<=4611686018427387903
 left: -1<=d.left/\d.left<=9223372036854775807
def jN(w:cS)(D:Nat)(d:Dv):Prop:=pD d/\∃b a pv,od w D (d.head b a pv) d.st d.nw d.ps
theorem jN.ok{d:Dv}(h:jN w D d):pD d:=h.1
theorem od.oK{w:cS}{D:Nat}{h:Head}{st nw:Nat->cV}{ps:List (Nat×cV)}(a:od w D h st nw ps):oK w D=fS D h:=by have e:w.h[D]?=cu (.cells (cL 6 (pP h)) 127 (0,0)):=a.head;unfold Proofs.YtklligbjoplbgaaGreat.oK fS;rw[e];have b:(cL 6 (pP h))[0]?=cu (.slice (s_ h.sb 0) h.n h.n):=rfl;have c:(cL 6 (pP h))[1]?=cu (.slice (s_ h.nb 0) h.n h.n):=rfl;have d:(cL 6 (pP h))[2]?=cu h.pv:=rfl;simp only[b,c,d,xw];cases h.pv.ownBlock<;>rfl
theorem od.adr{st:Nat->cV}(a:od w D h st nw ps):∀k∈fS D h,∃t,iA w k=cu t/\lS t=cx:=by intro k b;unfold fS at b;simp only[iZ] at b;rcases b with rfl|rfl|rfl|b;exact⟨127,cM.ty a.head,ae⟩;exact⟨36,cM.ty a.k7,ae⟩;exact⟨36,cM.ty a.lC,ae⟩;rcases a.wZ.2 with⟨c,_⟩|⟨g,cap,d,c,_,e,_⟩;grind[Value.ownBlock];rw[c] at b;simp only[Value.ownBlock,iZ,jK,uH] at b;subst b;exact⟨129,by grind[iA],ae⟩
theorem jN.fr{l:cV}{w w':cS}{D:Nat}{d:Dv}(h:jN w D d)(s:Fr cw l w w'):jN w' D d:=by have⟨h0,sb,nb,pv,a⟩:=h;refine⟨h0,sb,nb,pv,⟨⟨cM.fr a.head s aD aD,cM.fr a.k7 s aD aD,cM.fr a.lC s aD aD,a.apart,a.q6⟩,B5 a.wZ s aD ae,a.inside⟩⟩
theorem jN.cP{d:Dv}(h:jN w D d)(s:dR w w'):jN w' D d:=h.fr (Fr.Ev s [])
def fC(d:Dv):Dv:=if d.ops<4611686018427387903 then {d with ops:=d.ops+1} else d
def j8(d:Dv):Dv×Bool:=
 if d.left=0 then({d with di:=cx},cy) else if d.di=cx then(d,cy) else if 0<d.left then({d with left:=d.left-1},cx) else(d,cx)
def Ri(d:Dv)(i:Int):Bool:=decide (0<=i/\i<(d.n:Int))
theorem zP(d:Dv)(b a:Nat)(pv:c7):(fC d).head b a pv=jB (d.head b a pv):=by grind[fC,jB,Dv.head]
theorem J1(d:Dv)(b a:Nat)(pv:c7):(j8 d).1.head b a pv=(lB (d.head b a pv)).1/\(j8 d).2=(lB (d.head b a pv)).2:=by grind[j8,lB,Dv.head]
theorem xd(d:Dv):(fC d).n=d.n/\(fC d).st=d.st/\(fC d).nw=d.nw/\(fC d).ps=d.ps/\(fC d).left=d.left/\(fC d).di=d.di:=by unfold fC;grind
theorem xe(d:Dv):(j8 d).1.n=d.n/\(j8 d).1.st=d.st/\(j8 d).1.nw=d.nw/\(j8 d).1.ps=d.ps/\(j8 d).1.ops=d.ops:=by unfold j8;grind
theorem Xg(d:Dv)(h:d.ops<=4611686018427387903):d.ops<=(fC d).ops/\(fC d).ops<=d.ops+1/\(fC d).ops<=4611686018427387903:=by unfold fC;grind
def Ew{d:Dv}(h:pD d):pD (fC d):=by have⟨e1,e2,e3,e4,e5,e6⟩:=xd d;have⟨o1,o2,o3⟩:=Xg d h.ops;refine⟨by rw[e2];exact h.st,by rw[e3];exact h.nw,by rw[e4];exact h.ps,by rw[e4];exact iE h.q6 o1,o3,by rw[e5];exact h.left⟩
theorem TX{d:Dv}(h: -1<=d.left/\d.left<=9223372036854775807): -1<=(j8 d).1.left/\(j8 d).1.left<=9223372036854775807:=by grind[j8]
def PV{d:Dv}(h:pD d):pD (j8 d).1:=by have⟨e1,e2,e3,e4,e5⟩:=xe d;exact⟨by rw[e2];exact h.st,by rw[e3];exact h.nw,by rw[e4];exact h.ps,by rw[e4,e5];exact h.q6,by rw[e5];exact h.ops,TX h.left⟩
def ik(d:Dv)(i:Int):Dv×(cV×Int):=
 (fC d,if Ri d i=cx then(if d.di=cx then(ff,42) else(d.nw i.m,0)) else(ff,41))
theorem xf:j0 ff:=⟨by rfl,λx a=>by grind[ff]⟩
theorem Je{d:Dv}(h:pD d)(i:Int):j0 (ik d i).2.1:=by unfold ik;simp only;split;split;exact xf;exact h.nw _;exact xf
def iq(d:Dv)(i:Int)(s:cV):Dv×Int:=
 if Ri d i=cx then
  (if(j8 (fC d)).2=cx then({(j8 (fC d)).1 with nw:=jH d.nw i.m s,ps:=d.ps++[(i.m,s)]},0) else((j8 (fC d)).1,42))
 else(fC d,41)
def oe(st:Nat->cV)(ps:List (Nat×cV)):Nat->cV:=ps.foldl (λs p=>jH s p.1 p.2) st
def gW(d:Dv):Dv×Int:=
 if(j8 (fC d)).2=cx then({(j8 (fC d)).1 with st:=oe d.st d.ps,ps:=[]},0) else((j8 (fC d)).1,42)
def qU(st:Nat->cV)(fI:List Bool):Nat->List (Nat×cV)->(Nat->cV)
 |_,[]=>st
 |k,p::ps=>qU (if fI.getD k cy=cx then jH st p.1 p.2 else st) fI (k+1) ps
def qI(d:Dv)(fI:List Bool):Dv:=
 {d with st:=qU d.st fI 0 d.ps,nw:=qU d.st fI 0 d.ps,ps:=[],left:=-1,di:=cy}
theorem ads(A:gE)(s:Nat)(b:0<s)(cells:gE)(a:A.s=s)(hc:cells.s=1*s):
 Instr.fill (λi=>cu (i*s,s)) cells [(0,bV A)]=cu A:=by
 have h:=Great.fill_whole b [Value.agg A] cells (by intro v c;cases fM.1 c;exact a) jv;have e:([Value.agg A].flatMap λv=>v.cells.t).toArray=A:=by have:(Value.agg A).cells=A:=rfl;simp[this]
 grind
theorem Ex(t e:dU)(x:Operand)(ho:o.op=.buildSlice t 1 #[(0,x)])(A:gE)(s b:Nat)(z:c7)(k:a.eval x=bV A)(f:P.underlying t=cu (.slice e))(c:(P.info? e).map (λi=>(i.zero,i.s,i.bytes))=cu (cu z,s,b))(j:0<s)(d:s<=16777216)(g:A.s=s)(h:K (a.put o.dst (bX (cu ⟨w.h.s,0,cw⟩) 1 1)) (w.alloc (.cells A e))):o.wp P a w K Q:=by have⟨it,hi1,hz,hz1,hz2⟩:=oG c;refine wp_buildSlice t e 1 #[(0,x)] ho A it z f hi1 hz cN cN ?_ h;grind[ads]
def OD(c:o.guard=cw)(t e:dU)(x:Operand)(ho:o.op=.buildSlice t 1 #[(0,x)])(A:gE)(s b:Nat)(z:c7)(m:a.eval x=bV A)(l:P.underlying t=cu (.slice e))(j:(P.info? e).map (λi=>(i.zero,i.s,i.bytes))=cu (cu z,s,b))(k:0<s)(d:s<=16777216)(f:A.s=s)(h:wpList P ops Q rest (a.put o.dst (bX (cu ⟨w.h.s,0,cw⟩) 1 1)) (w.alloc (.cells A e))):wpList P ops Q (o::rest) a w:=
 mC c λ_ g=>Ex t e x ho A s b z m l j k d f (g _ _ h)
def Ge(s x:Operand)(t:dU)(ho:o.op=.call {callee:=.builtin .append,args:=#[s,x],argTypes:=#[t,t]})(base:Nat)(e:dU)(z:c7)(size b:Nat)(y:P.underlying t=cu (.slice e))(q:(P.info? e).map (λi=>(i.zero,i.s,i.bytes))=cu (cu z,size,b))(l:z.cells.s=size)(k:0<size)(v:c7)(n:Nat)(xs:List c7)(r:a.eval s=v)(f:w.ownsRow base e size v n xs)(B:Nat)(A:gE)(D:dU)(fr:Nat×Nat)(C:a.eval x=bX (cu ⟨B,0,cw⟩) 1 1)(p:w.h[B]?=cu (.cells A D fr))(E:A.s=size)(m:∀u∈A.t,u.oneCell'=cx)(j:n+1<=maxLen)(c:(n+1)*b<=140737488355328)(d:base<=w.h.s)(h:∀g cap w',w'.ownsRow base e size (bX (cu ⟨g,0,cw⟩) (n+1) cap) (n+1) (xs++A.t)->w.grownBy w' v.ownBlock->(v.ownBlock=cu g∨g=w.h.s)->g<w'.h.s->K (a.put o.dst (bX (cu ⟨g,0,cw⟩) (n+1) cap)) w'):o.wp P a w K Q:=by have⟨it,hi1,hz,hz1,hz2⟩:=oG q;exact wp_append_lies w s x t ho base e it z size b y hi1 hz hz1 hz2 l k v n xs r f ⟨B,0,cw⟩ 1 1 A.t C jv (World.news_of_block p) m cN j c d _ ae h
def LV(k:o.guard=cw)(s x:Operand)(t:dU)(ho:o.op=.call {callee:=.builtin .append,args:=#[s,x],argTypes:=#[t,t]})(base:Nat)(e:dU)(z:c7)(size b:Nat)(I:P.underlying t=cu (.slice e))(G:(P.info? e).map (λi=>(i.zero,i.s,i.bytes))=cu (cu z,size,b))(m:z.cells.s=size)(l:0<size)(v:c7)(n:Nat)(xs:List c7)(H:a.eval s=v)(f:w.ownsRow base e size v n xs)(B:Nat)(A:gE)(p:dU)(fr:Nat×Nat)(J:a.eval x=bX (cu ⟨B,0,cw⟩) 1 1)(E:w.h[B]?=cu (.cells A p fr))(D:A.s=size)(q:∀u∈A.t,u.oneCell'=cx)(j:n+1<=maxLen)(c:(n+1)*b<=140737488355328)(d:base<=w.h.s)(h:∀g cap w',w'.ownsRow base e size (bX (cu ⟨g,0,cw⟩) (n+1) cap) (n+1) (xs++A.t)->w.grownBy w' v.ownBlock->(v.ownBlock=cu g∨g=w.h.s)->g<w'.h.s->wpList P ops Q rest (a.put o.dst (bX (cu ⟨g,0,cw⟩) (n+1) cap)) w'):wpList P ops Q (o::rest) a w:=
 mC k λ_ F=>Ge s x t ho base e z size b I G m l v n xs H f B A p fr J E D q j c d λg cap w' r y C h5=>F _ _ (h g cap w' r y C h5)
theorem pE{w:cS}{b:Nat}{t:dU}{n:Nat}{f:Nat->c7}(h:cM w b t n f):w.rangeAt b 0 (cL n f).t:=by
 intro j v a;rw[mR,dy] at a;split at a;next hj=>cases a;rw[oQ];exact cM.cell h hj
 cases a
def Fe(i:Region.wanted op (yielded ops a.tmps)=cx)(ty:dU)(x:Operand)(ho:op.op=.load ty x)(g n:Nat)(t:dU)(f:Nat->c7)(j:a.eval x=bW (cu ⟨g,0,cw⟩))(A:gE)(b:A=cL n f)(d:TypeDesc)(hS:∀w,S w->cM w g t n f)(e:P.underlying ty=cu d)(c:d.isRow=cx)(k:(P.info? ty).map (·.size)=cu n):YieldsIf P ops S op (bV A) a:=by subst b;have h:=yieldsIf_load_mid (P:=P) (S:=S) i ty x ho g 0 j (cL n f).t d (λw h=>pE (hS w h)) e c aG;omega
def wB(e:Region.wanted op (yielded ops a.tmps)=cx)(ty:dU)(x:Operand)(ho:op.op=.load ty x)(g o:Nat)(f:a.eval x=bW (cu ⟨g,o,cw⟩))(A:gE)(d:TypeDesc)(hS:∀w,S w->w.rangeAt g o A.t)(c:P.underlying ty=cu d)(b:d.isRow=cx)(i:(P.info? ty).map (·.size)=cu A.s):YieldsIf P ops S op (bV A) a:=by have h:=yieldsIf_load_mid (P:=P) (S:=S) e ty x ho g o f A.t d hS c b cN;omega
theorem Rj(w:cS)(Z A:gE)(T:dU):(w.alloc (.cells Z T)).setRow w.h.s A=w.alloc (.cells A T):=by unfold World.setRow World.alloc;simp only[World.mk.injEq,true_and,and_true];grind
def B7(b:o.guard=cw)(ty:dU)(x y:Operand)(ho:o.op=.store ty x y)(Z A:gE)(n:Nat)(f:a.eval x=bW (cu ⟨w.h.s,0,cw⟩))(g:a.eval y=bV A)(i:(P.info? ty).map (·.size)=cu n)(e:Z.s=n)(d:A.s=n)(c:A.all (·.oneCell')=cx)(h:wpList P ops Q rest (a.put o.dst undef) (w.alloc (.cells A ty))):wpList P ops Q (o::rest) a (w.alloc (.cells Z ty)):=by refine LW b ty x y ho w.h.s A f g ty Z (AI _ _) jv (by rw[e,d]) c ?_;rw[Rj];exact h
def nH(b:o.guard=none)(t:dU)(x:Operand)(d c e:Option Operand)(ho:o.op=.slice t x d c e)(v:c7)(g:(Instr.sliceAt t (a.eval x) (d.map a.eval) (c.map a.eval) (e.map a.eval)).run P w=.ok v w)(h:wpList P ops Q rest (a.put o.dst v) w):wpList P ops Q (o::rest) a w:=
 mC b λK f=>by
  unfold Oper.wp execOp;simp only[ho,lh,g,nW];exact f _ _ h
def G1(b:o.guard=cw)(t:dU)(x i:Operand)(ho:o.op=.index t x i)(v:c7)(d:(Instr.index t (a.eval x) (a.eval i)).run P w=.ok v w)(h:wpList P ops Q rest (a.put o.dst v) w):wpList P ops Q (o::rest) a w:=
 mC b λK c=>by
  unfold Oper.wp execOp;simp only[ho,lh,d,nW];exact c _ _ h
def vW(b:o.guard=cw)(t:dU)(x i:Operand)(ho:o.op=.indexAddr t x i)(v:c7)(d:(Instr.indexAt t (a.eval x) (a.eval i)).run P w=.ok v w)(h:wpList P ops Q rest (a.put o.dst v) w):wpList P ops Q (o::rest) a w:=
 mC b λK c=>by
  unfold Oper.wp execOp;simp only[ho,lh,d,nW];exact c _ _ h
theorem wC(h:w.ownsRow base e size v n xs)(a:v.ownBlock=cu b):iA w b=cu e:=by rcases h.2 with⟨rfl,_⟩|⟨g,cap,c,rfl,_,d,_⟩;cases a;cases a<;>grind[iA]
theorem sD(h:w.ownsRow base e size v n xs)(c:iA w b=cu t)(d:t≠e):v.ownBlock≠cu b:=λa=>by rw[wC h a] at c;grind
theorem q7{w w':cS}{base:Nat}{e:dU}{size:Nat}{v:c7}{n:Nat}{xs:List c7}(h:w.ownsRow base e size v n xs){b:Nat}(a:v.ownBlock≠cu b)(s:jX b w w'):w'.ownsRow base e size v n xs:=by refine⟨h.1,h.2.imp id λ⟨g,cap,cur,h1,h2,hg,r⟩=>⟨g,cap,cur,h1,h2,?_,r⟩⟩;rw[s.block g (rN.1 hg).1 (by rintro rfl;exact a (by rw[h1];rfl))];exact hg
def vX(h:iA w b=cu t)(s:dR w w'):iA w' b=cu t:=by rw[wA (s.block b (iy h))];exact h
theorem oE{n:Nat}(f:Nat->c7)(h:∀i,(f i).oneCell'=cx):(cL n f).all (·.oneCell')=cx:=by rw[Array.all_eq_true];simp_all[cL]
theorem wD{E:Prop}(b:o.guard=cw)(h:o.wp P a w K Q):
 if Region.wanted o (yielded ops a.tmps)=cx then Oper.wp P o a w K Q else E:=by simp_all[Region.wanted]
theorem Rk(h:Head)(v:c7):∀j,j<6->(if j=2 then v else pP h j)=pP {h with pv:=v} j:=by intro j b;by_cases a:j=2;subst a;rfl;simp_all[pP]
structure xV(w5:cS)(D:Nat)(h h5:Head)(st nw:Nat->cV)(ps:List (Nat×cV))(w:cS):Prop where
 head:kD w5 D h5
 k7:kK w5 h.sb h.n st
 lC:kK w5 h.nb h.n nw
 wZ:w5.ownsRow 0 129 129 h5.pv ps.n (wY ps)
 pY:qT w.h.s (fS D h) w w5
 dns:D≠h.sb
 dnn:D≠h.nb
 pnn:h5.pv.ownBlock≠cu h.nb
theorem aaO(D:Nat)(h j:Head)(st nw:Nat->cV)(ps:List (Nat×cV))(q:Nat)(s:cV)(w t u d:cS)(A B:gE)(E:Nat)(z:c7)(g cap:Nat)(a:od w D h st nw ps)(L:(lB (jB h)).1=j)(R:j.pv=z)(v:t=w.alloc (.cells A 36))(b:jX D t u)(c:(u.drew.alloc (.cells B 129)).grownBy d z.ownBlock)(n:d.ownsRow 0 129 129 (.slice (some ⟨g,0,none⟩) (ps.length+1) cap) (ps.length+1) (wY ps++B.toList))(O: #[Value.int .i64 q]++A=B)(N:A=cL 128 (dg s))(m:cM d D 127 6 (pP j)):
 xV (d.setCell ⟨D,2,none⟩ (.slice (some ⟨g,0,none⟩) (ps.length+1) cap)) D h {j with pv:=.slice (some ⟨g,0,none⟩) (ps.length+1) cap} st nw (ps++[(q,s)]) w:=by
 have r:z=h.pv:=by grind[xb,nM]
 have l:dR w t:=by rw[v];exact aR
 have T:=a.head.ty;have ts:=cM.ty a.k7;have M:=cM.ty a.lC;have i:D≠h.sb:=λe=>by grind
 have f:D≠h.nb:=λe=>by grind
 have J:z.ownBlock≠some h.sb:=by rw[r];exact sD a.wZ ts kB
 have I:z.ownBlock≠some h.nb:=by rw[r];exact sD a.wZ M kB
 have base:∀k,k<w.heap.size->k≠D->z.ownBlock≠some k->d.heap[k]?=w.heap[k]?:=by intro k y F G;have o:k<t.heap.size:=pM y l.size;have C:k<u.heap.size:=pM o b.size;rw[c.block k (by simp_all[lt_succ_of_lt]) (pU G)];rw[Below.heap_alloc u.drew (.cells B 129) k C];exact(b.block k o F).trans (l.block k y)
 have sz:w.heap.size<=d.heap.size:=iE l.size (iE b.size (by have:=c.size;simp at this;omega));have H:kK d h.sb h.n st:=by have:=base h.sb a.k7.lt (pU i) J;unfold kK cM;rw[this];exact a.k7
 have p:kK d h.nb h.n nw:=by have:=base h.nb a.lC.lt (pU f) I;unfold kK cM;rw[this];exact a.lC
 have K:(Value.slice (s_ g 0) (ps.length+1) cap).ownBlock≠some D:=sD n m.ty kB;have x:(Value.slice (s_ g 0) (ps.length+1) cap).ownBlock≠some h.nb:=sD n (cM.ty p) kB;refine⟨kD.set (h:=j) m 2 _ (Rk j _),cM.AJ H _ (pU i) _,cM.AJ p _ (pU f) _,?_,?_,i,f,x⟩;grind[Xf,q7,sy];refine qT.setCell ⟨?_,?_,?_,sz,λk y Q=>?_⟩ amr 2 _;rw[c.os];exact b.os.trans l.os;rw[c.tape];exact b.tape.trans l.tape;rw[c.output];exact b.output.trans l.output;grind[fS]
theorem xV.drew{st:Nat->cV}(m:xV w5 D h h5 st nw ps w):xV w5.drew D h h5 st nw ps w:=⟨m.head,m.k7,m.lC,m.wZ,m.pY.drew,m.dns,m.dnn,m.pnn⟩
theorem TY{q:Nat}(h:∀p∈ps,p.1<n)(a:q<n):∀p∈ps++[(q,s)],p.1<n:=by grind
theorem aaP{st:Nat->cV}(m:xV w5 D h h5 st nw ps w)(g:h5.n=h.n/\h5.sb=h.sb/\h5.nb=h.nb)(b:h.sb≠h.nb)(c:h.n<=1024)(i:∀p∈ps,p.1<h.n)(q:Nat)(s:cV):
 od (w5.setCells h.nb (q*128) (cL 128 (dg s)).toList) D h5 st (jH nw q s) ps/\qT w.heap.size (fS D h) w (w5.setCells h.nb (q*128) (cL 128 (dg s)).toList):=by have⟨e1,e2,e3⟩:=g;have a:=jX.setCells h.nb (cL 128 (dg s)).toList (q*128) w5;refine⟨⟨⟨?_,?_,?_,cN,cN⟩,q7 m.wZ m.pnn a,by grind⟩,?_⟩;unfold kD cM;rw[a.block D m.head.lt m.dnn];exact m.head;rw[e1,e2];unfold kK cM;rw[a.block h.sb m.k7.lt b];exact m.k7;rw[e1,e3];exact m.lC.put q s;exact⟨a.os.trans m.pY.os,a.tape.trans m.pY.tape,a.output.trans m.pY.output,iE m.pY.size a.size,λk d f=>(a.block k (pM d m.pY.size) (λe=>f (by grind[fS]))).trans (m.pY.block k d f)⟩
def AY:(Value.agg zeroCells129).cells.s=129:=dC
section
attribute[local irreducible]wpList Code.wp Calls Oper.wp wpAnyH
theorem OE(D:Nat)(h:Head)(st nw:Nat->cV)(ps:List (Nat×cV))(hl: -1<=h.left/\h.left<=9223372036854775807)(f2:ps.n<=1000000000)(q:Nat)(s:cV)(A:gE)(hA:A=cL 128 (dg s))(w:cS)(a:od w D h st nw ps)(hq:q<h.n)(J:(lB (jB h)).2=cx):
 CP_ 227 #[bW (cu ⟨D,0,cw⟩),bU cq q,bV A] w λe w'=>
  ∃pv,(e=cj (bU cq 0))/\(∀b,pv.ownBlock=cu b->h.pv.ownBlock=cu b∨w.h.s<=b)/\od w' D {(lB (jB h)).1 with pv:=pv} st (jH nw q s) (ps++[(q,s)])/\qT w.h.s (fS D h) w w':=by
 have⟨W0,hW0⟩:=fP (w.alloc (.cells A 36));have a9:dR w W0:=by rw[hW0];exact aR
 have c4:cM W0 w.h.s 36 128 (dg s):=by rw[hW0,hA];exact bp
 have U:kD W0 D h:=cM.cP a.head a9;have f1:jX D w W0:=jX.tq a9;have f:=cz hA;clear hA;have Q:=cz hW0;clear hW0;have c6:=cz U;have Z:=cz U;clear U;have a6:=cz c4;clear c4;have G:=cz a;clear a;obtain⟨d6,-,-,-,d7,-⟩:=nM h;have H:AV (jB h) (q:Int)=cx:=by unfold AV;rw[d6];exact gM ⟨cN,cN⟩
 have b9: -1<=(jB h).left/\(jB h).left<=9223372036854775807:=by rw[d7];exact hl
 have a5:=cz H;clear H;have a8:=cz J;clear J;have HL:=cz b9;clear b9;go_enter func227,ntmps227
 go_wp2_with fail
 rw[<-Q.o];refine aj (AW D h _ c6.o) λw1⟨b8,d2⟩=>?_;have a4:=cz b8;clear b8
 go_wp2_with fail
 refine(Rc D _ _ _ a4.o).mono ?_;rw[a5.o];rintro e w2 ⟨rfl,rfl⟩
 go_wp2_with fail
 refine(Eu D _ HL.o _ a4.o).mono ?_;rw[a8.o];rintro e x ⟨rfl,l,d3⟩;have M:=cz (d2.trans d3);have y:=cz l;clear l;have⟨h3,l⟩:=dI ((lB (jB h)).1);rw[l] at y;have m:=cz l;clear l;have⟨z,hz⟩:=dI h3.pv;have c2:=y.o.cells.2.2.1;rw[hz] at c2;have HZ:=cz hz;clear hz;have e8:D<w.h.s:=G.o.head.lt;have v:cM x w.h.s 36 128 (dg s):=by
  unfold cM;rw[M.o.block _ a6.o.lt cN];exact a6.o
 -- REGION 6
 have d:x.ownsRow 0 129 129 z ps.n (wY ps):=by
  have e1:z=h.pv:=by rw[<-HZ.o,<-m.o,(xb _).2.2.2,(nM h).2.2.2.2.2]
  rw[e1];have hp:W0.ownsRow 0 129 129 h.pv ps.n (wY ps):=by rw[Q.o];exact G.o.wZ.alloc _
  exact q7 hp (sD hp (Z.o.ty) kB) M.o
 have c7:=cz d;have c3:z.ownBlock≠cu w.h.s:=sD d v.ty kB;have d8:z.ownBlock≠cu D:=sD d y.o.ty kB;clear d;have⟨E,hE⟩:=dI w.h.s;rw[hE] at v c3;have e9:E<x.h.s:=v.lt;have e7:D≠E:=cN;have F:A.s=128:=by rw[f.o,cW]
 have d4:=aga (bU cq q) A F;have⟨B,hB⟩:=dI (#[Value.int cq q]++A);rw[hB] at d4;have T:B.s=129:=by rw[<-hB];simp[F]
 have R:∀u∈B.t,u.oneCell'=cx:=by
  intro u I;rw[<-hB,f.o] at I;simp only[Array.toList_append,gH] at I;rcases I with I|I
  . simp at I;rw[I];rfl
  . obtain⟨j,hj,rfl⟩:=vJ.1 I;have:(cL 128 (dg s)).t[j]=dg s j:=by
     have:=dy 128 (dg s) j
     grind
    rw[this];rfl
 skip
 go_upto_region 6 with(fail)
 refine wp_region_held_drew (S:=λW=>cM W E 36 128 (dg s)) dC v (λc=>?_);refine GL 0 16 (dE D 0) c ?_;refine GL 1 17 (dE D 0) c ?_;refine GL 2 18 (dE D 0) c ?_;refine GL 3 19 (dE D 2) c ?_;refine GL 5 21 (bU cq q) c ?_;refine wx_ 6 22 (bV A) ae (Fe dC 36 (.tmp 5) nz E 128 36 (dg s) nz A f.o _ (λw h=>h) vV ae pC) c ?_;refine wx_ 7 23 (bV B) ae (Or.inl ⟨dC,λw _=>by go_simp;skip⟩) c ?_;have e4:x.drew.cell? ⟨D,2,cw⟩=cu z:=c2;have N:=cz c;refine wpAnyH_ready (rs:=[4,8]) dC eQ ?_;refine AllReadyH.cons (o:=⟨cu 20,Op.load 125 (Operand.tmp 19),125,_,_,cw⟩) nz (λK k=>wD ae ?_) ?_
 -- the load first
 have O:=N;go_simp;refine k.out _ _ O.o (λp=>?_);refine wpAnyH_ready (rs:=[8]) dC eQ ?_;refine AllReadyH.cons (o:=⟨cu 24,Op.buildSlice 125 1 #[(0,Operand.tmp 23)],125,_,_,cw⟩) nz (λK k=>wD ae ?_) AllReadyH.nil;refine Ex 125 129 (.tmp 23) nz B 129 136 (bV zeroCells129) nz underlying125 Rg cN cN T ?_;simp only[Oq];have n:=cz (cM.alloc_old N.o (.cells B 129));refine k.out _ _ n.o (λp=>?_)
 rotate_left
 -- the build first
 refine AllReadyH.cons (o:=⟨cu 24,Op.buildSlice 125 1 #[(0,Operand.tmp 23)],125,_,_,cw⟩) nz (λK k=>wD ae ?_) AllReadyH.nil;refine Ex 125 129 (.tmp 23) nz B 129 136 (bV zeroCells129) nz underlying125 Rg cN cN T ?_;simp only[Oq];have n:=cz (cM.alloc_old N.o (.cells B 129));refine k.out _ _ n.o (λp=>?_);refine wpAnyH_ready (rs:=[4]) dC eQ ?_;refine AllReadyH.cons (o:=⟨cu 20,Op.load 125 (Operand.tmp 19),125,_,_,cw⟩) nz (λK k=>wD ae ?_) AllReadyH.nil;have O:=n;have e5:(x.alloc (.cells B 129)).cell? ⟨D,2,cw⟩=cu z:=by rw[World.cell?_alloc_some _ _ _ (by rw[c2];rfl)];exact c2
 go_simp;refine k.out _ _ O.o (λp=>?_)
 all_goals
  refine wpAnyH_ready (rs:=[9]) dC eQ ?_;refine AllReadyH.cons (o:=⟨cu 25,Op.call {callee:=Callee.builtin Builtin.append,args:=#[Operand.tmp 20,Operand.tmp 24],argTypes:=#[125,125]},125,_,_,cw⟩) nz (λK k=>wD ae ?_) AllReadyH.nil;refine Ge (.tmp 20) (.tmp 24) 125 nz 0 129 (bV zeroCells129) 129 136 underlying125 Rg AY cN z ps.n (wY ps) nz ((c7.o:x.drew.ownsRow 0 129 129 z ps.n (wY ps)).alloc _) x.drew.h.s B 129 (0,0) nz (AI _ _) T R aN cN cN ?_;intro g cap w4 X V d1 d5;simp only[Oq];have a7:=cz (cM.grown n.o V c3);have L:=cz (cM.grown (cM.alloc_old (show cM x.drew D 127 6 (pP h3) from y.o) (.cells B 129)) V d8);have c8:=cz (And.intro d1 d5);refine k.out _ _ a7.o (λc=>?_);refine GL 10 26 (dE D 0) c ?_;refine GL 11 27 (dE D 2) c ?_;refine wpAnyH_ready (rs:=[12]) dC eQ ?_;refine AllReadyH.cons (o:=⟨cw,Op.store 125 (Operand.tmp 27) (Operand.tmp 25),0,_,_,cw⟩) nz (λK k=>wD ae ?_) AllReadyH.nil;have e3:w4.cell? ⟨D,2,cw⟩=cu z:=by have:=(kD.cells (h:=h3) L.o).2.2.1;rw[HZ.o] at this;exact this
  have e6:w4.frozen? ⟨D,2,cw⟩=cy:=cM.frozen L.o 2;go_simp;have C:=cz (cM.AJ a7.o ⟨D,2,cw⟩ (by show E≠D;omega) (bX (s_ g 0) (ps.n+1) cap));refine k.out _ _ C.o (λp=>?_);refine wpAnyH_done dC ?_ _;have i:=cz (aaO D h h3 st nw ps q s w W0 x w4 A B E z g cap G.o m.o HZ.o Q.o M.o V X hB f.o L.o);generalize hw5:w4.setCell ⟨D,2,cw⟩ (bX (s_ g 0) (ps.n+1) cap)=w5 at*;have⟨nb,hnb⟩:=dI h.nb;have⟨Y,hnn⟩:=dI h.n;have c1:=(kD.cells (h:={h3 with pv:=bX (s_ g 0) (ps.n+1) cap}) i.o.head).2.1;have t:h3.n=h.n/\h3.sb=h.sb/\h3.nb=h.nb:=by
   obtain⟨a1,a2,a3,_⟩:=xb (jB h);obtain⟨b1,b2,b3,_,_,_⟩:=nM h;rw[<-m.o];exact⟨a1.trans b1,a2.trans b2,a3.trans b3⟩
  simp only[t.1,t.2.2,hnb,hnn] at c1;have c5:=i.o.lC.there hq;rw[hnb] at c5;have f4:(q:Int)<(Y:Int):=cN;have f3:(0:Int)<=(q:Int):=cN;have b7:=G.o.q6;rw[hnn] at b7
  go_upto_region 7 with(fail)
  refine wp_region_held_drew (S:=λW=>W.cell? ⟨D,1,cw⟩=cu (.slice (s_ nb 0) Y Y)/\cM W E 36 128 (dg s)) dC ⟨c1,C.o⟩ (λc=>?_);refine GL 0 28 (dE D 0) c ?_;refine GL 1 29 (dE D 0) c ?_;refine GL 2 30 (dE D 1) c ?_;refine wx_ 3 31 (bX (s_ nb 0) Y Y) ae (Or.inl ⟨dC,λw hw=>by have h1:=hw.1;go_simp⟩) c ?_;refine GL 4 32 (bU cq q) c ?_;refine wx_ 5 33 (bV A) ae (Fe dC 36 (.tmp 5) nz E 128 36 (dg s) nz A f.o _ (λw h=>h.2) vV ae pC) c ?_;refine GL 6 34 (dE nb (q*128)) c ?_;refine wpAnyH_ready (rs:=[7]) dC eQ ?_;refine AllReadyH.cons (o:=⟨cw,Op.store 36 (Operand.tmp 34) (Operand.tmp 33),0,_,_,cw⟩) nz (λK k=>wD ae ?_) AllReadyH.nil;refine wp_store_mid 36 (.tmp 34) (.tmp 33) nz nb (q*128) A nz nz (by rw[F];exact c5) (by rw[F];exact pC) (by rw[f.o];exact oE _ (λ_=>ae)) ?_;have b6:=jX.setCells nb A.t (q*128) w5.drew;have d9:nb<w5.h.s:=by have:=i.o.lC.lt;rw[hnb] at this;exact this
  have e2:nb<w.h.s:=by have:=G.o.lC.lt;rw[hnb] at this;exact this
  have b5:E≠nb:=by rw[<-hE];omega
  have b4:D≠nb:=by have:=i.o.dnn;rw[hnb] at this;exact this
  have c9:(w5.drew.setCells nb (q*128) A.t).cell? ⟨D,1,cw⟩=cu (.slice (s_ nb 0) Y Y)/\cM (w5.drew.setCells nb (q*128) A.t) E 36 128 (dg s):=
   ⟨by rw[yD (w:=w5.drew) (b6.block D i.o.head.lt b4)];exact c1,by unfold cM;rw[b6.block E (cM.lt C.o) b5];exact C.o⟩
  refine k.out _ _ c9 (λp=>?_);refine wpAnyH_done dC ?_ _;have r:=aaP i.o.drew t G.o.apart G.o.q6 (TY G.o.inside hq) q s;rw[hnb,<-f.o] at r;generalize w5.drew.setCells nb (q*128) A.t=w6 at*;go_wp2;go_ret;refine⟨_,ae,?_,by rw[m.o];exact r.1,r.2⟩;intro b hb;cases hb;have e1:z=h.pv:=by rw[<-HZ.o,<-m.o,(xb _).2.2.2,(nM h).2.2.2.2.2]
  rcases c8.o.1 with h5|h5
  . left;rw[<-e1];exact h5
  right;have h6:x.h.s<=g:=by rw[h5];simp
  have h7:=hE;have h8:=cM.lt v;show w.h.s<=g;omega
def vt(w:cS)(D:Nat)(d:Dv)(l:cV):Prop:=pD d/\∃b a pv,od w D (d.head b a pv) d.st d.nw d.ps/\l=fS D (d.head b a pv)
theorem jN.Wi{d:Dv}(h:jN w D d):iA w D=cu 127:=by have⟨h0,sb,nb,pv,h1⟩:=h;exact cM.ty h1.head
def jN.open{d:Dv}(h:jN w D d):∃l,vt w D d l:=by have⟨h0,sb,nb,pv,h1⟩:=h;exact⟨_,h0,sb,nb,pv,h1,ae⟩
theorem vt.shut{d:Dv}(h:vt w D d l):jN w D d:=by obtain⟨a,e,c,pv,b,_⟩:=h;grind[jN]
theorem vt.ty{d:Dv}(h:vt w D d l):∀k∈l,∃t,iA w k=cu t/\lS t=cx:=by obtain⟨b,e,c,pv,a,rfl⟩:=h;exact a.adr
theorem vt.lt{w:cS}{D:Nat}{d:Dv}{l:cV}(h:vt w D d l):∀k∈l,k<w.h.s:=λk a=>by obtain⟨t,b,_⟩:=h.ty k a;exact iy b
def vt.pY{B:Nat}{d:Dv}{m:cV}(h:vt w D d l)(s:qT B m w w')(c:∀k∈l,k<B/\k∉m):vt w' D d l:=by obtain⟨a,f,e,pv,b,rfl⟩:=h;exact⟨a,f,e,pv,b.pY s c,ae⟩
structure uP(w w':cS)(D:Nat)(d':Dv)(l:cV):Prop where
 at_:∃l',vt w' D d' l'/\∀k∈l',k∈l∨w.h.s<=k
 pY:qT w.h.s l w w'
theorem vt.oK{w:cS}{D:Nat}{d:Dv}{l:cV}(h:vt w D d l):oK w D=l:=by obtain⟨b,e,c,pv,a,rfl⟩:=h;exact a.oK
theorem vt.Wi{d:Dv}(h:vt w D d l):iA w D=cu 127:=by obtain⟨b,e,c,pv,a,_⟩:=h;exact cM.ty a.head
theorem uP.fr{w w':cS}{D:Nat}{d d':Dv}{l:cV}(s:uP w w' D d' l)(h:vt w D d l)(m:cV):Fr (some D) m w w':=by have⟨l',h',hk⟩:=s.at_;refine⟨s.pY.os,s.pY.tape,s.pY.output,s.pY.size,λk b g=>s.pY.block k b λc=>?_,λf e=>?_,λf e k a=>?_⟩;have⟨t,ht,hd⟩:=h.ty k c;exact g ⟨t,ht,.inl ⟨D,ae,hd,by rw[h.oK];exact c⟩⟩;cases e;exact⟨h.Wi,h'.Wi⟩;cases e;rw[h'.oK] at a;rw[h.oK];grind
def uP.shut{d':Dv}(s:uP w w' D d' l):jN w' D d':=by obtain⟨a,h,_⟩:=s.at_;exact h.shut
theorem uP.K7{w w':cS}{D:Nat}{d d':Dv}{c b:Nat}{pv:c7}(a:od w D (d.head c b pv) d.st d.nw d.ps)(g:kD w' D (d'.head c b pv))(f:jX D w w')
 (ok:pD d') (e:d'.n=d.n/\d'.st=d.st/\d'.nw=d.nw/\d'.ps=d.ps):uP w w' D d' (fS D (d.head c b pv)):=by have⟨e1,e2,e3,e4⟩:=e;refine⟨⟨fS D (d'.head c b pv),⟨ok,c,b,pv,⟨?_,?_,?_⟩,ae⟩,λk h=>.inl h⟩,qT.rS f (eN _) amr⟩;rw[e2,e3];exact a.tozO.but f g ⟨e1,ae,ae⟩;rw[e4];exact q7 a.wZ (sD a.wZ a.head.ty kB) f;rw[e4];intro p i;show p.1<d'.n;rw[e1];exact a.inside p i
def Am(D:Nat)(d:Dv)(w:cS)(a:jN w D d):CP_ 84 #[bW (cu ⟨D,0,cw⟩)] w λe w'=>e=cj (bU cq d.n)/\w=w':=by obtain⟨_,c,b,pv,h⟩:=a;exact af8 D _ w h.head
def K8(D:Nat)(d:Dv)(w:cS)(a:jN w D d):CP_ 82 #[bW (cu ⟨D,0,cw⟩)] w λe w'=>e=cj (bZ d.di)/\w=w':=by obtain⟨_,c,b,pv,h⟩:=a;exact adm D _ w h.head
def agc(D:Nat)(d:Dv)(l:cV)(i:Int)(q:fh i)(w:cS)(a:vt w D d l):
 CP_ 165 #[bW (cu ⟨D,0,cw⟩),bU cq i] w λe w'=>∃A,e=cj (cg #[bV A,bU cq (ik d i).2.2])/\A=cL 128 (dg (ik d i).2.1)/\uP w w' D (ik d i).1 l:=by obtain⟨o,s,r,pv,b,rfl⟩:=a;refine(adn D _ d.st d.nw i q w b.tozO).mono ?_;rintro e w' ⟨A,g,c,f,p⟩;have n:GZ (d.head s r pv) d.nw i=(ik d i).2:=rfl;rw[n] at g c;rw[<-zP] at f;obtain⟨h,j,k,m,_,_⟩:=xd d;exact⟨A,g,c,uP.K7 (d':=fC d) b f.head p (Ew o) ⟨h,j,k,m⟩⟩
theorem Jf{s:Nat->cV}{x:cV}(h:∀i,j0 (s i))(a:j0 x)(q:Nat):∀i,j0 (jH s q x i):=by grind[jH]
theorem Xh{d:Dv}(h:pD d)(i:Int)(e:j0 s):d.ops<4611686018427387903->pD (iq d i s).1:=by intro ho;have hc:=Ew h;have a:=PV hc;unfold iq;split;split;(next h2 h3=>(have⟨e1,e2,e3,e4,e5⟩:=xe (fC d);obtain⟨f,g,j,k,_,_⟩:=xd d;have c:(fC d).ops=d.ops+1:=by simp_all[fC]);refine⟨a.st,Jf h.nw e _,?_,?_,a.ops,a.left⟩;intro p b;rcases gH.1 b with b|b;exact h.ps p b;grind;show(d.ps++[(i.m,s)]).n<=(j8 (fC d)).1.ops;rw[e5,c,ji,length_singleton];have:=h.q6;omega);omega;exact hc
theorem adt(D:Nat)(d:Dv)(l:cV)(ho:d.ops<=1000000000)(i:Int)(s:cV)(J:j0 s)(A:gE)(E:A=cL 128 (dg s))(w:cS)(a:vt w D d l):
 CP_ 227 #[bW (cu ⟨D,0,cw⟩),bU cq i,bV A] w λe w'=>e=cj (bU cq (iq d i s).2)/\uP w w' D (iq d i s).1 l:=by obtain⟨m,j,g,pv,p,rfl⟩:=a;have c:=Xh m i J cN;have v:=m.q6;have⟨e1,e2,e3,e4,e5⟩:=xe (fC d);obtain⟨K,B,L,M,_,_⟩:=xd d;have z:=J1 (fC d) j g pv;rw[zP] at z;by_cases x:Ri d i=cx;by_cases N:(j8 (fC d)).2=cx;(have n:iq d i s=({(j8 (fC d)).1 with nw:=jH d.nw i.m s,ps:=d.ps++[(i.m,s)]},0):=by simp_all[iq]);have⟨hi0,hin⟩:=l6 (x:decide (0<=i/\i<(d.n:Int))=cx);obtain⟨q,rfl⟩:∃q:Nat,i=(q:Int):=⟨i.m,cN⟩;rw[n] at c|-;rw[tZ] at c|-;refine(OE D (d.head j g pv) d.st d.nw d.ps m.left cN q s A E w p (by show q<d.n;omega) jv).mono ?_;rintro e w' ⟨h,u,y,o,t⟩;rw[<-z.1] at o;refine⟨u,⟨⟨_,⟨c,j,g,h,?_,ae⟩,?_⟩,t⟩⟩;(have C:d.st=(j8 (fC d)).1.st:=by rw[e2,B]);rw[C] at o;exact o;intro k f;by_cases I:w.h.s<=k;omega;refine .inl ?_;simp only[fS,iZ] at f|-;rcases f with f|f|f|f;omega;exact .inr (.inl f);exact .inr (.inr (.inl f));(have F:h.ownBlock=cu k:=by change k∈(match h.ownBlock with|some b=> [b]|none=> []) at f;grind);grind;(have n:iq d i s=((j8 (fC d)).1,42):=by simp_all[iq]);rw[n] at c|-;refine(G0 D (d.head j g pv) m.left i A w p.head (.inr jv)).mono ?_;rintro e w' ⟨u,o,F⟩;have H:AV (d.head j g pv) i=cx:=x;simp_all[uP.K7];(have G:Ri d i=cy:=by grind);(have n:iq d i s=(fC d,41):=by simp_all[iq]);rw[n] at c|-;have r:AV (d.head j g pv) i=cy:=G;refine(G0 D (d.head j g pv) m.left i A w p.head (.inl r)).mono ?_;simp_all[zP,uP.K7]
def Td(i:Nat)(s:cV):Nat->c7:=λj=>if j=0 then bU cq i else dg s (j-1)
def Y8(i:Nat)(s:cV):∀j,(Td i s j).oneCell'=cx:=by intro j;unfold Td;split<;>rfl
theorem agd(i:Nat)(s:cV):(Value.int cq i:: (cL 128 (dg s)).t)=(cL 129 (Td i s)).t:=by apply xK;intro j;rw[mR (xs:=cL 129 (Td i s)),dy];cases j with|zero=>rfl|succ j=>rw[getElem?_cons_succ,mR (xs:=cL 128 (dg s)),dy];by_cases h:j<128;simp_all[Td];grind
theorem adu(ps:List (Nat×cV)){k:Nat}(b:k<ps.n){j:Nat}(a:j<129):(wY ps)[k*129+j]?=cu (Td ps[k].1 ps[k].2 j):=by
 induction ps generalizing k with
 |nil=>grind
 |cons p ps ih=>
  have e:wY (p::ps)=(cL 129 (Td p.1 p.2)).t++wY ps:=by grind[wY,agd]
  rw[e];cases k with|zero=>rw[xx,oQ,IX aG,mR,dy,df a];rfl|succ k=>rw[IV aG,mT,cW,show(k+1)*129+j-129=k*129+j from by omega];grind
theorem PY(h:w.ownsRow 0 129 129 v ps.n (wY ps)):
 ∃a cap,v=bX a ps.n cap/\ps.n<=cap/\∀k(i:k<ps.n),∃g,a=cu ⟨g,0,cw⟩:=by rcases h.2 with⟨c,d⟩|⟨g,cap,b,c,d,e,f,h5⟩<;>grind
theorem LX{g cap:Nat}(h:w.ownsRow 0 129 129 (bX (cu ⟨g,0,cw⟩) ps.n cap) ps.n (wY ps))(b:k<ps.n):
 w.rangeAt g (k*129) (cL 129 (Td ps[k].1 ps[k].2)).t:=by
 intro j v a;rw[mR,dy] at a;split at a;next hj=>cases a;rw[h.cellAt (k*129+j) cN];grind[adu]
 cases a
def zQ:(prog.info? 129).map (·.size)=cu 129:=dC
theorem PZ(h:cM w E 129 129 (Td i s))(b:C=cL 128 (dg s)):w.rangeAt E 1 C.t:=by
 intro j v a;rw[b,mR (xs:=cL 128 (dg s)),dy] at a;split at a;next hj=>cases a;have:=cM.cell h (i:=1+j) cN;simp_all[Td]
 cases a
theorem TZ(st:Nat->cV)(ps:List (Nat×cV))(a:k<ps.n):oe st (ps.take (k+1))=jH (oe st (ps.take k)) ps[k].1 ps[k].2:=by grind[oe,take_succ_eq_append_getElem]
theorem xV.cP{b:cS}{st:Nat->cV}(m:xV w5 D h h5 st nw ps w)(a:dR w5 b):xV b D h h5 st nw ps w:=
 ⟨cM.cP m.head a,cM.cP m.k7 a,cM.cP m.lC a,me m.wZ a,m.pY.trans (qT.tq (a.mono m.pY.size) _),m.dns,m.dnn,m.pnn⟩
theorem xV.P0{st:Nat->cV}(m:xV w5 D h h5 st nw ps w)(b:h.sb≠h.nb)(q:Nat)(s:cV):
 xV (w5.setCells h.sb (q*128) (cL 128 (dg s)).toList) D h h5 (jH st q s) nw ps w:=by have a:=jX.setCells h.sb (cL 128 (dg s)).toList (q*128) w5;refine⟨?_,m.k7.put q s,?_,?_,?_,m.dns,m.dnn,m.pnn⟩;unfold kD cM;rw[a.block D m.head.lt m.dns];exact m.head;unfold kK cM;rw[a.block h.nb m.lC.lt (pU b)];exact m.lC;exact q7 m.wZ (sD m.wZ (cM.ty m.k7) kB) a;exact⟨a.os.trans m.pY.os,a.tape.trans m.pY.tape,a.output.trans m.pY.output,iE m.pY.size a.size,λk c d=>(a.block k (pM c m.pY.size) (λe=>d (by grind[fS]))).trans (m.pY.block k c d)⟩
theorem xV.La{h6:Head}{st:Nat->cV}{ps':List (Nat×cV)}(m:xV w5 D h h5 st nw ps w)(i:Nat)(v:c7)(d:∀j,j<6->(if j=i then v else pP h5 j)=pP h6 j)(c:h6.pv=h5.pv/\ps'=ps∨h6.pv=bX cw 0 0/\ps'=[]):xV (w5.setCell ⟨D,i,cw⟩ v) D h h6 st nw ps' w:=by refine⟨m.head.set i v d,cM.AJ m.k7 _ (pU m.dns) _,cM.AJ m.lC _ (pU m.dnn) _,?_,m.pY.setCell amr i v,m.dns,m.dnn,?_⟩;rcases c with⟨a,b⟩|⟨a,b⟩;rw[a,b];exact q7 m.wZ (sD m.wZ m.head.ty kB) (sy D w5 i v);grind[World.ownsRow_nil,wY];rcases c with⟨a,b⟩|⟨a,b⟩;rw[a];exact m.pnn;grind[Value.ownBlock]
theorem od.mid{g:cS}{f:Head}{st:Nat->cV}(a:od w D h st nw ps)(i:kD g D f)(d:jX D w g)(e:f.pv=h.pv):xV g D h f st nw ps w:=by
 have j:=a.head.ty;have ts:=cM.ty a.k7;have k:=cM.ty a.lC;have c:D≠h.sb:=λe=>by grind
 have b:D≠h.nb:=λe=>by grind
 refine⟨i,?_,?_,?_,qT.rS d (eN _) amr,c,b,?_⟩;unfold kK cM;rw[d.block _ a.k7.lt (pU c)];exact a.k7;unfold kK cM;rw[d.block _ a.lC.lt (pU b)];exact a.lC;rw[e];exact q7 a.wZ (sD a.wZ j kB) d;rw[e];exact sD a.wZ k kB
theorem xV.fin{st:Nat->cV}(m:xV w5 D h h5 st nw ps w)(c:h5.n=h.n/\h5.sb=h.sb/\h5.nb=h.nb)(b:h.sb≠h.nb)(a:h.n<=1024)(d:∀p∈ps,p.1<h.n):
 od w5 D h5 st nw ps:=by have⟨e1,e2,e3⟩:=c;refine⟨⟨m.head,by rw[e1,e2];exact m.k7,by rw[e1,e3];exact m.lC,cN,cN⟩,m.wZ,by grind⟩
def Rl(D:Nat)(h:Head)(k: -1<=h.left/\h.left<=9223372036854775807)(w:cS)(a:kD w D h)(j:(lB (jB h)).2=cy):
 CP_ 226 #[bW (cu ⟨D,0,cw⟩)] w λe w'=>e=cj (bU cq 42)/\kD w' D (lB (jB h)).1/\jX D w w':=by
 have i: -1<=(jB h).left/\(jB h).left<=9223372036854775807:=by rw[(nM h).2.2.2.2.1];exact k
 go_enter func226,ntmps226;go_wp2_with fail;refine aj (AW D h _ a) λw1⟨f,c⟩=>?_;go_wp2_with fail;refine(Eu D _ i _ f).mono ?_;rw[j];rintro e l ⟨rfl,g,d⟩;have b:=cz (c.trans d);go_wp2_with fail;go_ret;exact⟨ae,g,b.o⟩
def OG(D:Nat)(h:Head)(st nw:Nat->cV)(ps:List (Nat×cV))(hl: -1<=h.left/\h.left<=9223372036854775807)(d6:ps.n<=1000000000)(w:cS)(a:od w D h st nw ps)(b8:(lB (jB h)).2=cx):
 CP_ 226 #[bW (cu ⟨D,0,cw⟩)] w λe w'=>e=cj (bU cq 0)/\od w' D {(lB (jB h)).1 with pv:=bX cw 0 0} (oe st ps) nw []/\qT w.h.s (fS D h) w w':=by
 have d5: -1<=(jB h).left/\(jB h).left<=9223372036854775807:=by rw[(nM h).2.2.2.2.1];exact hl
 obtain⟨F,f⟩:=dI ((lB (jB h)).1);rw[f];have d:F.n=h.n/\F.sb=h.sb/\F.nb=h.nb/\F.pv=h.pv:=by
  obtain⟨a1,a2,a3,a4⟩:=xb (jB h);obtain⟨b1,b2,b3,_,_,b4⟩:=nM h;rw[<-f];exact⟨a1.trans b1,a2.trans b2,a3.trans b3,a4.trans b4⟩
 have c4:=cz f;clear f;go_enter func226,ntmps226
 go_wp2_with fail
 refine aj (AW D h _ a.head) λw1⟨d4,a6⟩=>?_;have b9:=cz a6;have x:=cz d4;clear a6
 go_wp2_with fail
 refine(Eu D _ d5 _ x.o).mono ?_;rw[b8];rintro e w3 ⟨rfl,f,d3⟩;have c1:=cz (b9.o.trans d3);have Q:=cz f;clear f;rw[c4.o] at Q;have d:=d;have hm:=a.mid Q.o c1.o d.2.2.2;obtain⟨ao,cap,b6,a8,d2⟩:=PY hm.wZ;have c2:=hm.head.cells.2.2.1;rw[b6] at c2;obtain⟨r,n⟩:=dI h.sb;obtain⟨O,v⟩:=dI h.n;obtain⟨L,hL⟩:=dI ps.n;rw[hL] at c2 a8 d6;have a9:=a.q6;rw[v] at a9;clear d
 go_wp2_with fail
 go_loopw [15] (λc wr=>∃k:Nat,k<=L/\c=bU cq k/\Hid (xV wr D h F (oe st (ps.take k)) nw ps w)) (λc _=>L-(intOf c).m)
 case atStart=>exact⟨0,gw _,ae,hm⟩
 case round=>
  obtain⟨k,hk,rfl,hrel⟩:=hrel;by_cases b5:k<L
  . obtain⟨g,hg⟩:=d2 k (by rw[hL];exact b5);subst hg;have I:k<ps.n:=by rw[hL];exact b5
    obtain⟨p,hp⟩:=dI (ps[k]);have j:=hrel.o.wZ;rw[b6] at j;have m:=LX j I;have l:=TZ st ps I;have H:=a.inside p (by rw[<-hp];exact mP I);rw[hp] at m l;rw[v] at H;obtain⟨i,s⟩:=p;simp only at m l H;clear hp j;obtain⟨A,hA⟩:=fP (cL 129 (Td i s));rw[<-hA] at m;have Y:A.t.n=129:=by rw[hA,mT,cW]
    have R:=cz hA;clear hA;have c6:=cz m;clear m;have y:=cz Y;clear Y;obtain⟨B,h6⟩:=fP ((wr.alloc (.cells zeroCells129 129)).setRow wr.h.s A);have M:cM B wr.h.s 129 129 (Td i s):=by
     rw[h6,R.o];exact setRow_heap _ _ _ _ _ _ (AI _ _)
    have c8:dR wr B:=by rw[h6];exact anI
    have H6:=cz h6;clear h6;have t:=hrel.o.cP c8;have X:=t.head.cells.1;rw[d.2.1,d.1,n,v] at X;have b7:r≠wr.h.s:=by have:=hrel.o.k7.lt;rw[n] at this;omega
    have N:=t.k7.there (q:=i) (by rw[v];exact H);rw[n] at N;have c7:=cz N;clear N;have T:=cz t;clear t;have Z:A.all (·.oneCell')=cx:=by rw[R.o];exact oE _ (Y8 i s)
    obtain⟨C,hC⟩:=fP (cL 128 (dg s));have G:C.s=128:=by rw[hC,cW]
    have a5:C.all (·.oneCell')=cx:=by rw[hC];exact oE _ (λ_=>ae)
    have HC:=cz hC;clear hC;have c3:=cz a5;clear a5;have x:=cz Z;clear Z;obtain⟨E,hE⟩:=dI wr.h.s;rw[hE] at M b7;have HE:=cz hE;have e2:(0:Int)<=(i:Int):=cN;have e3:(i:Int)<(O:Int):=cN;have d9:D≠E:=by have:=hrel.o.head.lt;rw[<-hE];omega
    have c9:D≠r:=by have:=hrel.o.dns;rw[n] at this;exact this
    clear hE
    go_upto_region 7 with(first|(refine wpList_load_mid (op:=⟨cu 18,.load 129 (.tmp 17),_,_,_,cw⟩) ae 129 (.tmp 17) ae g (k*129) ae A.t _ c6.o underlying129 ae (by rw[y.o];exact zQ) ?_;rw[vx])|(refine LW (o:=⟨cw,.store 129 (.tmp 4) (.tmp 18),_,_,_,cw⟩) ae 129 (.tmp 4) (.tmp 18) ae wr.h.s A ae ae 129 zeroCells129 (AI _ _) (by rw[<-mT,y.o];exact zQ) (by rw[<-mT (xs:=A),y.o];exact AY) x.o ?_;rw[<-H6.o]))
    simp only[HE.o];have z:=cz M;clear M;have V:=cz (And.intro X z.o);refine wp_region_held_drew (S:=λW=>W.cell? ⟨D,0,cw⟩=cu (.slice (s_ r 0) O O)/\cM W E 129 129 (Td i s)) dC V.o (λb=>?_);refine GL 0 19 (dE D 0) b ?_;refine GL 1 20 (dE D 0) b ?_;refine GL 2 21 (dE D 0) b ?_;refine wx_ 3 22 (bX (s_ r 0) O O) ae (Or.inl ⟨dC,λw hw=>by have h1:=hw.1;go_simp⟩) b ?_;refine GL 4 23 (dE E 0) b ?_;refine wx_ 5 24 (bU cq i) ae (Or.inl ⟨dC,λw hw=>by have h1:w.cell? ⟨E,0,cw⟩=cu (.int cq i):=cM.cell hw.2 (i:=0) cN;go_simp⟩) b ?_;refine GL 6 25 (dE E 1) b ?_;refine wx_ 7 26 (bV C) ae (wB dC 36 (.tmp 25) nz E 1 nz C _ (λw hw=>PZ hw.2 HC.o) vV ae (by rw[G];exact pC)) b ?_;refine GL 8 27 (dE r (i*128)) b ?_;refine wpAnyH_ready (rs:=[9]) dC eQ ?_;refine AllReadyH.cons (o:=⟨cw,Op.store 36 (Operand.tmp 27) (Operand.tmp 26),0,_,_,cw⟩) nz (λK hK=>wD ae ?_) AllReadyH.nil;refine wp_store_mid 36 (.tmp 27) (.tmp 26) nz r (i*128) C nz nz (by rw[G];exact c7.o) (by rw[G];exact pC) c3.o ?_;have a7:=jX.setCells r C.t (i*128) B.drew;have d1:(B.drew.setCells r (i*128) C.t).cell? ⟨D,0,cw⟩=cu (.slice (s_ r 0) O O)/\cM (B.drew.setCells r (i*128) C.t) E 129 129 (Td i s):=
     ⟨by rw[yD (w:=B.drew) (a7.block D T.o.head.lt c9)];exact V.o.1,by unfold cM;rw[a7.block E (cM.lt z.o) (pU b7)];exact z.o⟩
    refine hK.out _ _ d1 (λe1=>?_);refine wpAnyH_done dC ?_ _;have u:=(T.o.drew).P0 a.apart i s;rw[n,<-HC.o] at u;rw[<-l] at u;have c5:=cz u;clear u;generalize B.drew.setCells r (i*128) C.t=w7 at*;go_wp2;go_roundw
    case rel=>exact⟨k+1,cN,by go_num,c5.o⟩
    case measure=>exact pR
  . obtain rfl:k=L:=cN;have d7:=hrel.o.head.cells.2.2.1;have d8:=cM.frozen hrel.o.head 2;have J:=hrel.o.La 2 (bX cw 0 0) (h6:={F with pv:=bX cw 0 0}) (ps':=[]) (Rk F _) amv;rw[nU (by rw[hL];exact eN _)] at J;have U:=cz J;clear J;go_wp2;go_ret;exact⟨ae,U.o.fin ⟨d.1,d.2.1,d.2.2.1⟩ a.apart a.q6 eQ,U.o.pY⟩
def c8(w:cS)(T:dU)(sz:Nat)(v:c7)(n:Nat)(xs:List c7):Prop:=
 xs.n=n*sz/\∃a cap,v=bX a n cap/\n<=cap/\cap<=maxLen/\
  (0<n->∃b o c d,a=cu ⟨b,o,cw⟩/\w.h[b]?=cu (.cells c T d)/\∀j u,xs[j]?=cu u->c[o+j]?=cu u)
def c8.nil(w:cS)(T:dU)(sz:Nat):c8 w T sz (bX cw 0 0) 0 []:=⟨by simp,cw,0,ae,eN _,gw _,λh=>absurd h (ud _)⟩
theorem c8.jR(h:w.ownsRow base T sz v n xs):c8 w T sz v n xs:=by refine⟨h.1,?_⟩;rcases h.2 with⟨rfl,rfl⟩|⟨g,cap,a,rfl,_,f,b,c,d,e⟩<;>grind
theorem c8.ty(h:c8 w T sz v n xs)(c:v.ownBlock=cu b)(d:0<n):iA w b=cu T:=by obtain⟨_,e,cap,rfl,_,_,a⟩:=h;obtain⟨g,o,f,i,rfl,j,_⟩:=a d;cases c<;>grind[iA]
theorem c8.fI(h:c8 w T sz v n xs)(g:∀b,iA w b=cu T->w'.h[b]?=w.h[b]?):c8 w' T sz v n xs:=by obtain⟨c,a,cap,rfl,d,e,f⟩:=h;refine⟨c,a,cap,ae,d,e,λi=>?_⟩;grind[iA]
theorem c8.fr{d:Option Nat}{l:cV}{w w':cS}{T:dU}{sz:Nat}{v:c7}{n:Nat}{xs:List c7}(h:c8 w T sz v n xs)(s:Fr d l w w')(a:d=cw∨lS T=cy)(b:gV T=cy):c8 w' T sz v n xs:=
 h.fI λ_ c=>s.fI c a (.inl b)
theorem c8.cP(h:c8 w T sz v n xs)(s:dR w w'):c8 w' T sz v n xs:=
 h.fI λb a=>s.block b (iy a)
theorem c8.but{w w':cS}{T t:dU}{sz:Nat}{v:c7}{n:Nat}{xs:List c7}(h:c8 w T sz v n xs){c:Nat}(s:jX c w w')(hc:iA w c=cu t)(d:t≠T):c8 w' T sz v n xs:=
 h.fI λb a=>s.block b (iy a) jv
theorem c8.form(h:c8 w T sz v n xs):
 ∃a cap,v=bX a n cap/\n<=cap/\n<=maxLen/\∀k,k<n->∃b o,a=cu ⟨b,o,cw⟩/\iA w b=cu T/\b<w.h.s/\∀j u,xs[j]?=cu u->w.cell? ⟨b,o+j,cw⟩=cu u:=by obtain⟨e,a,cap,rfl,c,d,f⟩:=h;refine⟨a,cap,ae,c,iE c d,λk g=>?_⟩;grind[iA,cell_of_row]
def An(l:List Bool):List c7:=l.map Value.bool
theorem aaQ{l:List Bool}(h:k<l.n):(An l)[k]?=cu (.bool (l.getD k cy)):=by grind[An]
def LY(w:cS)(v:c7)(l:List Bool):Prop:=c8 w 4 1 v l.n (An l)
theorem Xi(fI:List Bool)(ps:List (Nat×cV))(p:Nat×cV):∀(st:Nat->cV)(k:Nat),qU st fI k (ps++[p])=if fI.getD (k+ps.n) cy=cx then jH (qU st fI k ps) p.1 p.2 else qU st fI k ps:=by induction ps<;>grind[qU]
def Xj(st:Nat->cV)(fI:List Bool)(ps:List (Nat×cV))(a:k<ps.n):
 qU st fI 0 (ps.take (k+1))=if fI.getD k cy=cx then jH (qU st fI 0 (ps.take k)) ps[k].1 ps[k].2 else qU st fI 0 (ps.take k):=by rw[yv a,Xi,oQ,lP,vH cN]
theorem Ff(w:cS)(dT sT ty c:dU)(g o e h:Nat)(a:Addr)(f l:Nat)(b:gE)(t:dU)(d:List c7)(sz n:Nat)(A:P.underlying dT=cu (.slice c))(z:(P.info? c).map (·.size)=cu sz)(r:w.h[g]?=cu (.cells b t (0,0)))(x:n=Nat.min f e)(q:d.n=n*sz)(k:∀j v,d[j]?=cu v->w.cell? (a.add j)=cu v)(m:o+d.n<=b.s)(p:∀v∈d,v.oneCell'=cx):
 (Builtin.copy_ #[dT,sT] ty #[bX (cu ⟨g,o,cw⟩) e h,bX (cu a) f l]).run P w=
  .ok (goInt n) (w.setRow g (b.t.take o++d++b.t.drop (o+d.n)).toArray):=by have u:=run_loadCells_list (P:=P) w a d k;have s:=run_storeCells_at P g o t d 0 b w r cN p;cases y:P.info? c with|none=>grind|some i=>simp_all[Builtin.copy_,yO,Builtin.lenOf,Builtin.firstCells,sizeOf,typeInfo]
theorem OH(d s:Operand)(dT sT:dU)(ho:o.op=.call {callee:=.builtin .copy,args:=#[d,s],argTypes:=#[dT,sT]})(b:dU)(B:P.underlying dT=cu (.slice b))(sz:Nat)(m:(P.info? b).map (·.size)=cu sz)(g n c h:Nat)(q:Nat)(u:a.eval d=bX (cu ⟨g,0,cw⟩) n c)(A:a.eval s=bX (cu ⟨h,0,cw⟩) n q)(t r:dU)(f f':Nat->c7)(x:cM w g t (n*sz) f)(y:cM w h r (n*sz) f')(C:∀i,(f' i).oneCell'=cx)(z:K (a.put o.dst (goInt n)) (w.setRow g (cL (n*sz) f'))):o.wp P a w K Q:=by
 have k:=Ff (P:=P) w dT sT o.type b g 0 n c ⟨h,0,cw⟩ n q (cL (n*sz) f) t (cL (n*sz) f').t sz n B m x eQ aG
  (λj v p=>by
   have l:(⟨h,0,cw⟩:Addr).add j=⟨h,j,cw⟩:=by grind[Addr.add]
   rw[l,cell_of_row w h j _ r _ y]
   grind) aG (λv p=>by
   obtain⟨j,D,rfl⟩:=vJ.1 p;have:=dy (n*sz) f' j
   grind)
 have e:((cL (n*sz) f).t.take 0++(cL (n*sz) f').t++(cL (n*sz) f).t.drop (0+(cL (n*sz) f').t.n)).toArray=cL (n*sz) f':=by grind[cW]
 rw[e] at k;unfold Oper.wp;simp[execOp,ho,resolve,invoke,builtin,u,A,k,Result.andThen];exact z
def xV.ajF{st e c:Nat->cV}{d:List (Nat×cV)}(m:xV w5 D h h5 st nw ps w)(a:od w D h e c d){l:List Bool}(i:LY w v l):LY w5 v l:=
 c8.fI i λb f=>m.pY.block b (iy f) λg=>by
  have⟨t,ht,hd⟩:=a.adr b g;rw[f] at ht;cases ht;exact absurd hd kB
theorem xV.Xk{st:Nat->cV}(m:xV w5 D h h5 st nw ps w)(c:h.sb≠h.nb):
 xV (w5.setRow h.nb (cL (h.n*128) (uF st))) D h h5 st st ps w:=by have a:jX h.nb w5 (w5.setRow h.nb (cL (h.n*128) (uF st))):=⟨ae,ae,ae,by simp_all,λk d b=>setRow_other w5 h.nb k _ b⟩;refine⟨?_,?_,cM.setRow m.lC _,?_,?_,m.dns,m.dnn,m.pnn⟩;unfold kD cM;rw[a.block D m.head.lt m.dnn];exact m.head;unfold kK cM;rw[a.block h.sb m.k7.lt c];exact m.k7;exact q7 m.wZ (sD m.wZ (cM.ty m.lC) kB) a;exact⟨a.os.trans m.pY.os,a.tape.trans m.pY.tape,a.output.trans m.pY.output,iE m.pY.size a.size,λk d b=>(a.block k (pM d m.pY.size) (λe=>b (by grind[fS]))).trans (m.pY.block k d b)⟩
def aaR(D:Nat)(h:Head)(st nw:Nat->cV)(ps:List (Nat×cV))(fI:List Bool)(v:c7)(e5:ps.n<=1000000000)(w:cS)(a:od w D h st nw ps)(hv:LY w v fI):
 CP_ 16 #[bW (cu ⟨D,0,cw⟩),v] w λe w'=>e=cj (cg #[])/\od w' D {h with pv:=bX cw 0 0,left:=-1,di:=cy} (qU st fI 0 ps) (qU st fI 0 ps) []/\qT w.h.s (fS D h) w w':=by
 obtain⟨bo,e6,rfl,O,b7,-⟩:=c8.form hv;have hm:=a.mid a.head (jX.refl D w) ae;obtain⟨ao,cap,d3,b8,e3⟩:=PY hm.wZ;have c2:=hm.head.cells.2.2.1;rw[d3] at c2;obtain⟨y,d6⟩:=dI h.sb;obtain⟨H,d2⟩:=dI h.nb;obtain⟨f,a8⟩:=dI h.n;obtain⟨L,hL⟩:=dI ps.n;obtain⟨M,hM⟩:=dI fI.n;rw[hL] at c2 b8 e5;rw[hM] at O b7;have b9:=a.q6;rw[a8] at b9;have t:=cz d6;clear d6;have N:=cz d2;clear d2;have n:=cz a8;clear a8;have X:=cz hL;clear hL;rw[hM];have Y:=cz hM;clear hM;unfold maxLen at b7;go_enter func16,ntmps16
 go_wp2_with fail
 go_loopw [11] (λc wr=>∃k:Nat,k<=L/\c=bU cq k/\Hid (xV wr D h h (qU st fI 0 (ps.take k)) nw ps w)) (λc _=>L-(intOf c).m)
 case atStart=>exact⟨0,gw _,ae,hm⟩
 case round=>
  obtain⟨k,hk,rfl,hrel⟩:=hrel;by_cases c6:k<L
  . obtain⟨g,hg⟩:=e3 k (by rw[X.o];exact c6);subst hg;have a6:k<ps.n:=by rw[X.o];exact c6
    obtain⟨p,hp⟩:=dI (ps[k]);have x:=hrel.o.wZ;rw[d3] at x;have G:=LX x a6;have m:=Xj st fI ps a6;have a5:=a.inside p (by rw[<-hp];exact mP a6);rw[hp] at G m;rw[n.o] at a5;obtain⟨i,s⟩:=p;simp only at G m a5;have a2:=cz m;clear m;clear hp x;obtain⟨A,hA⟩:=fP (cL 129 (Td i s));rw[<-hA] at G;have b4:A.t.n=129:=by rw[hA,mT,cW]
    have b1:=cz hA;clear hA;have a1:=cz G;clear G;have l:=cz b4;clear b4;obtain⟨W6,h6⟩:=fP ((wr.alloc (.cells zeroCells129 129)).setRow wr.h.s A);have Q:cM W6 wr.h.s 129 129 (Td i s):=by
     rw[h6,b1.o];exact setRow_heap _ _ _ _ _ _ (AI _ _)
    have d9:dR wr W6:=by rw[h6];exact anI
    have H6:=cz h6;clear h6;have F:=hrel.o.cP d9;have b3:=F.head.cells.1;rw[t.o,n.o] at b3;have d5:y≠wr.h.s:=by have:=hrel.o.k7.lt;rw[t.o] at this;omega
    have a9:=F.k7.there (q:=i) (by rw[n.o];exact a5);rw[t.o] at a9;have d8:=cz a9;clear a9;have e4:=F.ajF a hv;have I:=cz F;clear F;have b5:A.all (·.oneCell')=cx:=by rw[b1.o];exact oE _ (Y8 i s)
    obtain⟨C,hC⟩:=fP (cL 128 (dg s));have a3:C.s=128:=by rw[hC,cW]
    have b6:C.all (·.oneCell')=cx:=by rw[hC];exact oE _ (λ_=>ae)
    have HC:=cz hC;clear hC;have d7:=cz b6;clear b6;have V:=cz b5;clear b5;obtain⟨E,hE⟩:=dI wr.h.s;rw[hE] at Q d5;have HE:=cz hE;have f7:(0:Int)<=(i:Int):=cN;have f8:(i:Int)<(f:Int):=cN;have f6:D≠E:=by have:=hrel.o.head.lt;rw[<-hE];omega
    have e1:D≠y:=by have:=hrel.o.dns;rw[t.o] at this;exact this
    have e8:(k:Int)<9223372036854775807:=cN;clear hE;by_cases c3:k<M
    . obtain⟨f1,e7,e,-,-,u⟩:=c8.form e4;cases e;obtain⟨b,o,rfl,-,-,u⟩:=u k (by rw[Y.o];exact c3);have ck:=u k _ (aaQ (by rw[Y.o];exact c3));have Z:=cz Q;clear Q;have b2:=cz (And.intro b3 Z.o);obtain⟨q,hq⟩:=dI (fI.getD k cy);rw[hq] at ck;have HQ:=cz hq;clear hq;rcases q with _|_;have r:=a2.o;rw[HQ.o,cZ eQ] at r;have j:=I.o;rw[<-r] at j;have J:=cz j;clear j
      rotate_left
      go_upto_region 4 with(first|(refine wpList_load_mid (op:=⟨cu 15,.load 129 (.tmp 14),_,_,_,cw⟩) ae 129 (.tmp 14) ae g (k*129) ae A.t _ a1.o underlying129 ae am1 ?_;rw[vx])|(refine LW (o:=⟨cw,.store 129 (.tmp 5) (.tmp 15),_,_,_,cw⟩) ae 129 (.tmp 5) (.tmp 15) ae wr.h.s A ae ae 129 zeroCells129 (AI _ _) amM amG V.o ?_;rw[<-H6.o]))
      simp only[HE.o];refine wp_region_held_drew (S:=λW=>W.cell? ⟨D,0,cw⟩=cu (.slice (s_ y 0) f f)/\cM W E 129 129 (Td i s)) dC b2.o (λd=>?_);refine GL 0 26 (dE D 0) d ?_;refine GL 1 27 (dE D 0) d ?_;refine GL 2 28 (dE D 0) d ?_;refine wx_ 3 29 (bX (s_ y 0) f f) ae (Or.inl ⟨dC,λw R=>by have h1:=R.1;go_simp⟩) d ?_;refine GL 4 30 (dE E 0) d ?_;refine wx_ 5 31 (bU cq i) ae (Or.inl ⟨dC,λw R=>by have h1:w.cell? ⟨E,0,cw⟩=cu (.int cq i):=cM.cell R.2 (i:=0) cN;go_simp⟩) d ?_;refine GL 6 32 (dE E 1) d ?_;refine wx_ 7 33 (bV C) ae (wB dC 36 (.tmp 32) nz E 1 nz C _ (λw R=>PZ R.2 HC.o) vV ae (by rw[a3];exact pC)) d ?_;refine GL 8 34 (dE y (i*128)) d ?_;refine wpAnyH_ready (rs:=[9]) dC eQ ?_;refine AllReadyH.cons (o:=⟨cw,Op.store 36 (Operand.tmp 34) (Operand.tmp 33),0,_,_,cw⟩) nz (λK hK=>wD ae ?_) AllReadyH.nil;refine wp_store_mid 36 (.tmp 34) (.tmp 33) nz y (i*128) C nz nz (by rw[a3];exact d8.o) (by rw[a3];exact pC) d7.o ?_;have O:=jX.setCells y C.t (i*128) W6.drew;have a4:(W6.drew.setCells y (i*128) C.t).cell? ⟨D,0,cw⟩=cu (.slice (s_ y 0) f f)/\cM (W6.drew.setCells y (i*128) C.t) E 129 129 (Td i s):=
       ⟨by rw[yD (w:=W6.drew) (O.block D I.o.head.lt e1)];exact b2.o.1,by unfold cM;rw[O.block E (cM.lt Z.o) (pU d5)];exact Z.o⟩
      refine hK.out _ _ a4 (λe2=>?_);refine wpAnyH_done dC ?_ _;have j:=(I.o.drew).P0 a.apart i s;rw[t.o,<-HC.o] at j;have r:=a2.o;rw[HQ.o,df ae] at r;rw[<-r] at j;have J:=cz j;clear j;generalize W6.drew.setCells y (i*128) C.t=w7 at*
      all_goals
       go_wp2_with first|(refine wpList_load_mid (op:=⟨cu 15,.load 129 (.tmp 14),_,_,_,cw⟩) ae 129 (.tmp 14) ae g (k*129) ae A.t _ a1.o underlying129 ae am1 ?_;rw[vx])|(refine LW (o:=⟨cw,.store 129 (.tmp 5) (.tmp 15),_,_,_,cw⟩) ae 129 (.tmp 5) (.tmp 15) ae wr.h.s A ae ae 129 zeroCells129 (AI _ _) amM amG V.o ?_;rw[<-H6.o])
       go_roundw
       case rel=>exact⟨k+1,cN,by go_num,J.o⟩
       case measure=>exact pR
    . have r:=a2.o;have hq:fI.getD k cy=cy:=by rw[zE,getElem?_eq_none (by rw[Y.o];omega)];rfl
      rw[hq,cZ eQ] at r;have j:=I.o;rw[<-r] at j;clear hq Q;have J:=cz j;clear j
      go_wp2_with (first|(refine wpList_load_mid (op:=⟨cu 15,.load 129 (.tmp 14),_,_,_,cw⟩) ae 129 (.tmp 14) ae g (k*129) ae A.t _ a1.o underlying129 ae am1 ?_;rw[vx])|(refine LW (o:=⟨cw,.store 129 (.tmp 5) (.tmp 15),_,_,_,cw⟩) ae 129 (.tmp 5) (.tmp 15) ae wr.h.s A ae ae 129 zeroCells129 (AI _ _) amM amG V.o ?_;rw[<-H6.o]))
      go_roundw
      case rel=>exact⟨k+1,cN,by go_num,J.o⟩
      case measure=>exact pR
  . obtain rfl:k=L:=cN;have f2:=hrel.o.head.cells.2.2.1;have f3:=cM.frozen hrel.o.head 2;have a7:=hrel.o.La 2 (bX cw 0 0) (h6:={h with pv:=bX cw 0 0}) (ps':=[]) (Rk h _) amv;rw[nU (by rw[X.o];exact eN _)] at a7;have z:=cz a7;clear a7;clear c2
    go_upto_region 7 with(fail)
    generalize wr.setCell ⟨D,2,cw⟩ (bX cw 0 0)=w8 at*;have c0:=z.o.head.cells.1;have c1:=z.o.head.cells.2.1;simp only[t.o,n.o] at c0;simp only[N.o,n.o] at c1;refine wp_region_held_drew (S:=λW=>W.cell? ⟨D,0,cw⟩=cu (.slice (s_ y 0) f f)/\W.cell? ⟨D,1,cw⟩=cu (.slice (s_ H 0) f f)) dC ⟨c0,c1⟩ (λd=>?_);refine GL 0 39 (dE D 0) d ?_;refine GL 1 40 (dE D 0) d ?_;refine GL 2 41 (dE D 1) d ?_;refine wx_ 3 42 (bX (s_ H 0) f f) ae (Or.inl ⟨dC,λw R=>by have h1:=R.2;go_simp⟩) d ?_;refine GL 4 43 (dE D 0) d ?_;refine GL 5 44 (dE D 0) d ?_;refine GL 6 45 (dE D 0) d ?_;refine wx_ 7 46 (bX (s_ y 0) f f) ae (Or.inl ⟨dC,λw R=>by have h1:=R.1;go_simp⟩) d ?_;refine wpAnyH_ready (rs:=[8]) dC eQ ?_;refine AllReadyH.cons (o:=⟨cu 47,Op.call {callee:=Callee.builtin Builtin.copy,args:=#[Operand.tmp 42,Operand.tmp 46],argTypes:=#[124,124]},3,_,_,cw⟩) nz (λK hK=>wD ae ?_) AllReadyH.nil;have d4:=z.o.k7;have d1:=z.o.lC;rw[t.o,n.o] at d4;rw[N.o,n.o] at d1;refine OH (.tmp 42) (.tmp 46) 124 124 nz 36 underlying124 128 pC H f f y f nz nz 36 36 (uF nw) (uF (qU st fI 0 ps)) d1 d4 (λ_=>ae) ?_;simp only[Oq];have a4:(w8.drew.setRow H (cL (f*128) (uF (qU st fI 0 ps)))).cell? ⟨D,0,cw⟩=cu (.slice (s_ y 0) f f)/\(w8.drew.setRow H (cL (f*128) (uF (qU st fI 0 ps)))).cell? ⟨D,1,cw⟩=cu (.slice (s_ H 0) f f):=by
     have hD:D≠H:=by have:=z.o.dnn;rw[N.o] at this;exact this
     have e:=setRow_other w8.drew H D (cL (f*128) (uF (qU st fI 0 ps))) hD;rw[yD (w:=w8.drew) (a:=⟨D,0,cw⟩) e,yD (w:=w8.drew) (a:=⟨D,1,cw⟩) e];exact⟨c0,c1⟩
    refine hK.out _ _ a4 (λe2=>?_);refine wpAnyH_done dC ?_ _;have B:=(z.o.drew).Xk a.apart;have e9:w8.drew.setRow h.nb (cL (h.n*128) (uF (qU st fI 0 ps)))=w8.drew.setRow H (cL (f*128) (uF (qU st fI 0 ps))):=by rw[N.o,n.o]
    rw[e9] at B;have c4:=B.head.cells.2.2.2.2.1;have f4:=cM.frozen B.head 4;have c5:=B.head.cells.2.2.2.2.2;have f5:=cM.frozen B.head 5;have c9:=B.La 4 (bU cq (-1)) (h6:={h with pv:=bX cw 0 0,left:=-1}) (ps':=[]) (PR {h with pv:=bX cw 0 0} (-1)) amu;have U:=c9.La 5 (bZ cy) (h6:={h with pv:=bX cw 0 0,left:=-1,di:=cy}) (ps':=[]) (PT {h with pv:=bX cw 0 0,left:=-1} cy) amu;have T:=cz U;clear U;generalize w8.drew.setRow H (cL (f*128) (uF (qU st fI 0 ps)))=w9 at*;go_wp2
    go_end0
    exact⟨ae,T.o.fin ⟨ae,ae,ae⟩ a.apart a.q6 eQ,T.o.pY⟩
def Dw:List c7->Nat->List c7->List c7
 |xs,_,[]=>xs
 |xs,o,v::r=>Dw (xs.set o v) (o+1) r
theorem zR:∀(a:List c7)(xs:List c7)(o:Nat),(Dw xs o a).n=xs.n
 | [],_,_=>rfl
 |v::r,xs,o=>by unfold Dw;rw[zR r];simp
theorem yP:∀(a:List c7)(xs:List c7)(o j:Nat),o+a.n<=xs.n->(Dw xs o a)[j]?=if o<=j/\j<o+a.n then a[j-o]? else xs[j]?
 | [],xs,o,j,_=>by simp_all[cZ,Dw]
 |v::r,xs,o,j,h=>by
  simp only[lr] at h|-;unfold Dw;rw[yP r (xs.set o v) (o+1) j aF]
  grind
theorem tt{base e size n cap g:Nat}:∀(a:List c7)(o:Nat){w:cS}{xs:List c7},w.ownsRow base e size (bX (cu ⟨g,0,cw⟩) n cap) n xs->
 (w.setCells g o a).ownsRow base e size (bX (cu ⟨g,0,cw⟩) n cap) n (Dw xs o a)
 | [],_,_,_,h=>h
 |v::r,o,w,xs,h=>by
  rw[World.setCells];unfold Dw;exact tt r (o+1) (h.stored o v).1
theorem aaS{st:Nat->cV}(h:∀i,j0 (st i))(a:∀p∈ps,j0 p.2):∀i,j0 (oe st ps i):=by unfold oe;induction ps generalizing st with|nil=>exact h|cons p ps ih=>simp_all[Jf]
theorem T3{fI:List Bool}(a:∀p∈ps,j0 p.2):∀{st:Nat->cV}(k:Nat),(∀i,j0 (st i))->∀i,j0 (qU st fI k ps i):=by induction ps with|nil=>simp[qU]|cons p ps ih=>intro st k h;refine ih (λq b=>a q (lu _ b)) (k+1) ?_;grind[Jf]
theorem G4{a:Head}{B:Nat}(e:a.sb=h.sb/\a.nb=h.nb)(d:∀b,a.pv.ownBlock=cu b->h.pv.ownBlock=cu b∨B<=b):∀k∈fS D a,k∈fS D h∨B<=k:=by intro k c;simp only[fS,iZ] at c|-;grind
theorem adv(D:Nat)(d:Dv)(l:cV)(ho:d.ops<=1000000000)(w:cS)(a:vt w D d l):
 CP_ 226 #[bW (cu ⟨D,0,cw⟩)] w λe w'=>e=cj (bU cq (gW d).2)/\uP w w' D (gW d).1 l:=by obtain⟨f,h,g,pv,m,rfl⟩:=a;have n:=f.q6;have c:=PV (Ew f);have⟨e1,e2,e3,e4,e5⟩:=xe (fC d);obtain⟨t,u,p,v,_,_⟩:=xd d;have o:=J1 (fC d) h g pv;rw[zP] at o;by_cases x:(j8 (fC d)).2=cx;(have k:gW d=({(j8 (fC d)).1 with st:=oe d.st d.ps,ps:=[]},0):=by simp_all[gW]);(rw[k];refine(OG D (d.head h g pv) d.st d.nw d.ps f.left cN w m jv).mono ?_;rintro e w' ⟨s,j,i⟩;rw[<-o.1] at j;refine⟨s,⟨⟨_,⟨⟨aaS f.st f.ps,c.nw,by simp,gw _,c.ops,c.left⟩,h,g,bX cw 0 0,?_,ae⟩,G4 ⟨ae,ae⟩ (by intro b r;cases r)⟩,i⟩⟩;have q:d.nw=(j8 (fC d)).1.nw:=by rw[e3,p]);rw[q] at j;exact j;(have k:gW d=((j8 (fC d)).1,42):=by simp_all[gW]);rw[k];refine(Rl D (d.head h g pv) f.left w m.head jv).mono ?_;grind[uP.K7]
def adw(D:Nat)(d:Dv)(l:cV)(ho:d.ops<=1000000000)(v:c7)(fI:List Bool)(w:cS)(a:vt w D d l)(g:LY w v fI):
 CP_ 16 #[bW (cu ⟨D,0,cw⟩),v] w λe w'=>e=cj (cg #[])/\uP w w' D (qI d fI) l:=by
 obtain⟨c,k,j,pv,m,rfl⟩:=a;have h:=c.q6;refine(aaR D (d.head k j pv) d.st d.nw d.ps fI v cN w m g).mono ?_;rintro e w' ⟨o,g,f⟩;have i:=T3 (fI:=fI) c.ps 0 c.st;exact⟨o,⟨⟨_,⟨⟨i,i,by simp[qI],gw _,c.ops,by simp[qI]⟩,k,j,bX cw 0 0,g,ae⟩,G4 ⟨ae,ae⟩ (by intro b n;cases n)⟩,f⟩⟩
def eV(l:Nat->cQ):Nat->c7:=λi=>dF (l (i/3)) (i%3)
theorem nQ(l:Nat->cQ):∀i,(eV l i).oneCell'=cx:=λ_=>dJ _ _
def adx(l:Nat->cQ):c7:=bV (cL 24 (eV l))
def zS:(prog.info? 191).map (·.size)=cu 24:=dC
theorem LZ(n:Nat)(l:Nat->cQ)(k:Nat)(b:k*3+3<=n):(cL n (eV l)).extract (k*3) (k*3+3)=cL 3 (dF (l k)):=by apply yp;intro j;rw[dy,Array.getElem?_extract];by_cases a:j<3;rw[df aG,df a,dy,df cN];grind[eV];grind
theorem Rm:prog.underlying 191=cu (.array 8 106):=by rfl
theorem wE(h:(P.info? t).map (·.size)=cu n):∃a,P.info? t=cu a/\a.s=n:=by simp_all
theorem B8(l:Nat->cQ)(k:Nat)(b:k<8)(W:cS):(Instr.index 191 (bV (cL 24 (eV l))) (bU cq k)).run prog W=.ok (bV (cL 3 (dF (l k)))) W:=by
 have a:(part 106 (cL 24 (eV l)) (k*3)).run prog W=.ok (bV (cL 3 (dF (l k)))) W:=by have⟨it,hi,hs⟩:=wE kx;simp[part,isAgg106,sizeOf,typeInfo,hi,hs,LZ 24 l k cN]
 have⟨it,hi,hs⟩:=wE kx;simp_all[Instr.index,asIntOf]
theorem P4(b c a:Nat)(d:c<=a)(i:a<=128)(j:c<128)(W:cS):(Instr.sliceAt 36 (bW (cu ⟨b,0,cw⟩)) (cu (.int cq c)) (cu (.int cq a)) cw).run prog W=.ok (bX (cu ⟨b,c,cw⟩) (a-c) (128-c)) W:=by
 have k:prog.underlying 36=cu (.array 128 5):=vV;have⟨it,hi5,hs5⟩:=wE CE;have f:(Instr.sliceBound (bU cq a) 128 .sliceAlen).run prog W=.ok a W:=by have e:(0:Int)<=(a:Int)/\(a:Int)<=(128:Nat):=cN;simp_all[Instr.sliceBound,asIntOf]
 have g:(Instr.sliceBound (bU cq c) a .sliceB).run prog W=.ok c W:=by simp[Instr.sliceBound,asIntOf,d]
 have h:¬128=c:=cN;simp_all[Instr.sliceAt,Instr.sureAddr,Instr.sliceBounds,Addr.add]
def aaT(b:Nat)(W:cS):(Instr.sliceAt 36 (bW (cu ⟨b,0,cw⟩)) cw cw cw).run prog W=.ok (bX (cu ⟨b,0,cw⟩) 128 128) W:=by rfl
def mE(l:Nat->cQ)(k:Nat):cV:=(range k).flatMap λi=>iM (l i)
def KP(l:Nat->cQ)(k:Nat):Bool:=(range k).all λi=>ij (l i)
def mW(l:Nat->cQ):Option cV:=if KP l 8=cx then cu (mE l 8) else cw
theorem J2(l:Nat->cQ)(k:Nat):mE l (k+1)=mE l k++iM (l k):=by grind[mE,range_succ]
theorem q8(l:Nat->cQ)(k:Nat):(mE l k).n=k*16:=by induction k<;>grind[J2,fY,mE]
theorem aaU(l:Nat->cQ)(k:Nat):∀x∈mE l k,x<256:=by intro x a;unfold mE at a;obtain⟨i,_,h⟩:=Dh.1 a;exact pX _ x h
theorem aaV(l:Nat->cQ)(k:Nat):KP l (k+1)=(KP l k&&ij (l k)):=by grind[KP]
theorem age{l:Nat->cQ}(h:k<n)(a:ij (l k)=cy):KP l n=cy:=by grind[KP]
theorem ady{l:Nat->cQ}:j0 ((mW l).getD ff):=by grind[mW,q8,aaU,j0,ff]
theorem Ao(s b:cV)(e:s.n+b.n<=128):
 (splice (cL 128 (dg s)).t s.n (b.map λ(x:Nat)=>Value.int .u8 (x:Int))).toArray=cL 128 (dg (s++b)):=by
 apply yp;intro j;rw[Lo,dy];unfold splice;have a:(cL 128 (dg s)).t.n=128:=by grind[cW]
 by_cases c:j<s.n;rw[IX jv,getElem?_take,df c,mR (xs:=cL 128 (dg s)),dy,df cN,df cN];grind[dg];rw[IV jv,lP,a,vH cN];by_cases d:j<s.n+b.n;rw[IX jv,rO,df cN,jE cN];grind[dg];rw[IV jv,mQ,getElem?_drop,mR (xs:=cL 128 (dg s)),dy,show s.n+b.n+(j-s.n-b.n)=j from by omega];simp_all[dg]
theorem Rn:zeroCells36=cL 128 (dg []):=by rfl
def Jg:(#[Value.int cq 0,bU ct 0,bU .u32 0]:gE).s=3:=rfl
def Fg(l:Nat->cQ)(hl:∀i,i<8->dD (l i))(w:cS):
 CP_ 185 #[adx l] w λe w'=>∃A,e=cj (cg #[bV A,bU cq (gi 51 (mW l))])/\A=cL 128 (dg ((mW l).getD ff))/\dR w w':=by
 unfold adx;have⟨N,hN⟩:=fP (cL 24 (eV l));rw[<-hN];have⟨W0,hW0⟩:=fP (((w.alloc (.cells N 191)).alloc (.cells zeroCells36 36)).alloc (.cells zeroCells36 36));have s1:(w.alloc (.cells N 191)).h.s=w.h.s+1:=by simp
 have s2:((w.alloc (.cells N 191)).alloc (.cells zeroCells36 36)).h.s=w.h.s+1+1:=by simp
 have d7:W0.h.s=w.h.s+1+1+1:=by rw[hW0];simp
 have a3:cM W0 w.h.s 191 24 (eV l):=by rw[hW0,hN];exact anE
 have a4:cM W0 (w.h.s+1) 36 128 (dg ff):=by rw[hW0,vU,<-s1];exact cM.alloc_old (cM.alloc _ _ _ _) _
 have a5:cM W0 (w.h.s+1+1) 36 128 (dg (mE l 0)):=by rw[hW0,<-s2,Rn];exact bp
 have T:dR w W0:=by rw[hW0];exact anl
 have f:∀k,k<8->∀W:cS,(Instr.index 191 (bV N) (bU cq (k:Nat))).run prog W=.ok (bV (cL 3 (dF (l k)))) W:=λk hk W=>by rw[hN];exact B8 l k hk W
 have⟨E2,D⟩:=fP (w.h.s+1);have⟨E4,E⟩:=fP (w.h.s+1+1);have⟨E1,C⟩:=fP w.h.s;have g1:w.h.s+1<=E2:=cN;have g2:E2<E4:=cN;have g3:w.h.s<=E4:=cN;have g4:E4<W0.h.s:=cN;rw[<-C] at a3;rw[<-D] at a4;rw[<-E] at a5;have HE:=cz (And.intro C (And.intro D E));clear C D E s1 s2 d7;have b1:=cz f;clear f;have c8:N.t.n=24:=by rw[hN,mT,cW]
 have d6:W0.rangeAt E1 0 N.t:=by rw[hN];exact pE a3
 have HN:=cz hN;clear hN;have b9:=cz hW0;clear hW0;have HL:=cz hl;clear hl;have Q:=cz (And.intro a4 (And.intro a5 (gJ E4 W0)));have M:=cz T;clear T;go_enter func185,ntmps185
 go_upto_region 2 with(fail)
 rw[<-b9.o,<-HE.o.2.2,<-HE.o.2.1,<-HE.o.1]
 go_wp2_with ((refine wpList_load_mid (op:=⟨cu 9,Op.load 191 (Operand.tmp 1),191,_,_,cw⟩) ae 191 (.tmp 1) ae E1 0 ae N.t _ d6 Gf ae (by rw[c8];exact zS) ?_;rw[vx]))
 go_loopw [10] (λc wr=>∃k:Nat,k<=8/\c=bU cq k/\Hid (KP l k=cx/\cM wr E2 36 128 (dg ff)/\cM wr E4 36 128 (dg (mE l k))/\Below E4 W0 wr)) (λc _=>8-(intOf c).m)
 case atStart=>exact⟨0,gw _,ae,ae,Q.o⟩
 case round=>
  obtain⟨k,hk,rfl,hrel⟩:=hrel;by_cases H:k<8
  . have hp:=HL.o k H;have b:=xU (l k) hp;have⟨A,hA⟩:=fP (cL 3 (dF (l k)));have K:mO (l k)=bV A:=by rw[hA];exact(GX _).symm
    rw[K] at b;have f:=b1.o k H;rw[<-hA] at f;have c6:A.s=3:=by rw[hA,cW]
    have c5:A.all (·.oneCell')=cx:=by rw[hA];exact oE _ (dJ _)
    have HA:=cz hA;clear hA;have z:=cz (And.intro c6 c5);have a9:=cz f;clear f;have HC:=cz b;clear b;have a7:(wr.alloc (.cells A 106)).rangeAt wr.h.s 0 A.t:=by
     have:=pE (cM.alloc wr 106 3 (dF (l k)));rw[<-HA.o] at this;exact this
    have b4:=cz a7;clear a7;have c9:Below E4 W0 (wr.alloc (.cells A 106)):=hrel.o.2.2.2.alloc (by have:=cM.lt hrel.o.2.2.1;omega) _;have s:cM (wr.alloc (.cells A 106)) E4 36 128 (dg (mE l k)):=cM.alloc_old hrel.o.2.2.1 _;have c2:cM (wr.alloc (.cells A 106)) E2 36 128 (dg ff):=cM.alloc_old hrel.o.2.1 _;have t:=cz (And.intro c9 (And.intro s c2));clear s
    go_wp2_with (first|(refine G1 (o:=⟨cu 13,Op.index 191 (Operand.tmp 9) (Operand.tmp 10),106,_,_,cw⟩) ae 191 (.tmp 9) (.tmp 10) ae (bV A) (a9.o _) ?_)|(refine B7 (o:=⟨cw,Op.store 106 (Operand.tmp 6) (Operand.tmp 13),0,_,_,cw⟩) ae 106 (.tmp 6) (.tmp 13) ae #[Value.int cq 0,bU ct 0,bU .u32 0] A 3 ae ae kx Jg z.o.1 z.o.2 ?_)|(refine wpList_load_mid (op:=⟨cu 15,Op.load 106 (Operand.tmp 6),106,_,_,cw⟩) ae 106 (.tmp 6) ae wr.h.s 0 ae A.t _ b4.o Al ae (by rw[mT,z.o.1];exact kx) ?_;rw[vx]))
    refine(HC.o _).mono ?_;have⟨q,hq⟩:=dI (ij (l k));rw[hq];have HQ:=cz hq;clear hq;rintro e w5 ⟨r,rfl,s,F⟩;have d9:E4<(wr.alloc (.cells A 106)).h.s:=cM.lt t.o.2.1;have d1:Below E4 W0 w5:=t.o.1.trans (F.mono cN);have a6:cM w5 E4 36 128 (dg (mE l k)):=cM.cP t.o.2.1 F;have c3:cM w5 E2 36 128 (dg ff):=cM.cP t.o.2.2 F;have d2:E4<w5.h.s:=cM.lt a6;have h:=cz (And.intro d1 (And.intro a6 c3));have b2:=cz s;clear s;cases q with
    |false=>
     have a1:mW l=cw:=by unfold mW;rw[cZ];rw[age H HQ.o];simp
     have O:=cz a1;clear a1
     go_wp2_with (first|refine wpList_store_row (o:=⟨cw,Op.store 36 (Operand.tmp 2) (Operand.tmp 21),0,_,_,cw⟩) ae 36 (.tmp 2) (.tmp 21) ae E2 ae 128 (dg ff) zeroCells36 ae vU 36 (dg ff) h.o.2.2 pC (jC _) ?_)
     refine iH (mD (p:=2) (q:=3) (ty:=36) ae ae (cM.setRow h.o.2.2 (dg ff)) vV ae pC) ae<|⟨_,by rw[O.o];rfl,by rw[O.o];rfl,?_⟩;exact below_setRow (M.o.trans (h.o.1.mono g3)) cN _
    |true=>
     have a:=b2.o;rw[df ae] at a;obtain⟨bo,n,d5⟩:∃bo n,r=bX bo 16 n:=by
      rcases a.2 with⟨L,R⟩|⟨g,cap,c1,L,_⟩
      . rw[fY] at R;cases R
      . rw[fY] at L;exact⟨_,_,L⟩
     subst d5;obtain⟨B,d⟩:∃B:List c7,B=(iM (l k)).map (λ(x:Nat)=>Value.int .u8 (x:Int)):=⟨_,ae⟩;have X:B.n=16:=by rw[d,mQ,fY]
     have d3:∀v∈B,v.oneCell'=cx:=by
      intro v K;rw[d] at K;obtain⟨x,_,rfl⟩:=gI.1 K;rfl
     have a2:∃ad,bo=cu ad/\∀j v,B[j]?=cu v->w5.cell? (ad.add j)=cu v:=by
      rcases a.2 with⟨L,R⟩|⟨g,cap,c1,L,_⟩
      . rw[fY] at R;cases R
      . cases L;refine⟨_,ae,λj v K=>?_⟩;rw[d] at K;exact a.cells (g:=g) ae j v K
     have Z:k*16+B.n<=(cL 128 (dg (mE l k))).t.n:=by rw[X,mT,cW];omega
     have Y:w5.h[E4]?=cu (.cells (cL 128 (dg (mE l k))).t.toArray 36 (0,0)):=by rw[vx];exact h.o.2.1
     have I:=P4 E4 (k*16) ((k+1)*16) cN cN cN;have e1:(((k*16:Nat)):Int)=(k:Int)*16:=cN;have e2:((((k+1)*16:Nat)):Int)=((k:Int)+1)*16:=cN;rw[e1,e2,show(k+1)*16-k*16=16 from by omega] at I;have b6:=cz I;clear I;have V:KP l (k+1)=cx:=by rw[aaV,hrel.o.1,HQ.o];rfl
     have J:=Ao (mE l k) (iM (l k)) (by rw[q8,fY];omega);rw[q8,<-d,<-J2] at J;have b7:=cz J;clear J;have m:=cz (And.intro X (And.intro d3 (And.intro a2 (And.intro Z Y))));have e5:=cz d;clear d a;have a8:=cz V;clear V;have e3:(0:Int)<=(k:Int)*16:=cN
     go_wp2_with (first|((with_reducible refine Y4 ⟨cu 27,Op.slice 36 (Operand.tmp 4) (cu (Operand.tmp 23)) (cu (Operand.tmp 26)) cw,22,_,_,cw⟩ ?_);refine nH (o:=⟨cu 27,Op.slice 36 (Operand.tmp 4) (cu (Operand.tmp 23)) (cu (Operand.tmp 26)) cw,22,_,_,cw⟩) ae 36 (.tmp 4) (cu (.tmp 23)) (cu (.tmp 26)) cw ae (bX (s_ E4 (k*16)) 16 (128-k*16)) (b6.o _) ?_)|(refine wpList_copy_splice (o:=⟨cu 29,Op.call {callee:=Callee.builtin Builtin.copy,args:=#[Operand.tmp 27,Operand.tmp 28],argTypes:=#[22,22]},3,_,_,cw⟩) ae (.tmp 27) (.tmp 28) 22 22 ae 5 oT CE (s_ E4 (k*16)) bo 16 (128-k*16) 16 n ae ae E4 (k*16) (cL 128 (dg (mE l k))).t 36 m.o.2.2.2.2 B (by rw[m.o.1];rfl) (λ_=>⟨ae,m.o.2.2.1⟩) m.o.2.2.2.1 m.o.2.1 E4 W0 h.o.1 (eN _) ?_;intro w8 d8 G))
     have d4:cM w8 E4 36 128 (dg (mE l (k+1))):=by
      have:=d8.o;rw[b7.o] at this;exact this
     have e4:Below E4 W0 w8:=G;have c4:cM w8 E2 36 128 (dg ff):=by
      have h0:cM W0 E2 36 128 (dg ff):=Q.o.1;exact cM.FX h0 G cN
     have b3:=cz (And.intro a8.o (And.intro c4 (And.intro d4 G)));go_wp2;go_roundw
     case rel=>exact⟨k+1,cN,by go_num,b3.o⟩
     case measure=>exact pR
  . obtain rfl:k=8:=cN;have y:mW l=cu (mE l 8):=by unfold mW;rw[df hrel.o.1]
    have u:=cz y;clear y;have⟨S,hS⟩:=fP (cL 128 (dg (mE l 8)));have a:wr.rangeAt E4 0 S.t:=by rw[hS];exact pE hrel.o.2.2.1
    have U:S.t.n=128:=by rw[hS,mT,cW]
    have b8:=cz U;clear U;have b5:=cz a;clear a
    go_wp2_with (first|(refine wpList_load_mid (op:=⟨cu 31,Op.load 36 (Operand.tmp 4),36,_,_,cw⟩) ae 36 (.tmp 4) ae E4 0 ae S.t _ b5.o vV ae (by rw[b8.o];exact pC) ?_;rw[vx])|refine wpList_store_row (o:=⟨cw,Op.store 36 (Operand.tmp 2) (Operand.tmp 31),0,_,_,cw⟩) ae 36 (.tmp 2) (.tmp 31) ae E2 ae 128 (dg (mE l 8)) S ae hS 36 (dg ff) hrel.o.2.1 pC (jC _) ?_)
    refine iH (mD (p:=2) (q:=3) (ty:=36) ae ae (cM.setRow hrel.o.2.1 (dg (mE l 8))) vV ae pC) ae<|⟨_,by rw[u.o];rfl,by rw[u.o];rfl,?_⟩;exact below_setRow (M.o.trans (hrel.o.2.2.2.mono g3)) cN _
theorem Ey:(#[Value.int cq 0,bU ct 0,bU .u32 0,Value.int cq 0,bU ct 0,bU .u32 0,Value.int cq 0,bU ct 0,bU .u32 0,Value.int cq 0,bU ct 0,bU .u32 0,Value.int cq 0,bU ct 0,bU .u32 0,Value.int cq 0,bU ct 0,bU .u32 0,Value.int cq 0,bU ct 0,bU .u32 0,Value.int cq 0,bU ct 0,bU .u32 0]:gE)=cL 24 (eV λ_=>cX):=rfl
def zT(s:cV)(i:Nat):cV:=(s.drop (i*16)).take 16
def okN(s:cV)(k:Nat):Bool:=(range k).all λi=>(nZ (zT s i)).isSome
def EX(s:cV)(k:Nat):Nat->cQ:=λi=>if i<k then AU (zT s i) else cX
def pZ(s:cV):Option (Nat->cQ):=if okN s 8=cx then cu (EX s 8) else cw
theorem adz(s:cV)(k:Nat):okN s (k+1)=(okN s k&& (nZ (zT s k)).isSome):=by grind[okN]
theorem aia(h:k<n)(a:nZ (zT s k)=cw):okN s n=cy:=by grind[okN]
theorem aaW(s:cV)(k:Nat):EX s (k+1)=λi=>if i=k then AU (zT s k) else EX s k i:=by funext i;unfold EX;grind
def Ro(h:j0 s)(a:k<8):(zT s k).n=16:=by unfold zT;rw[lP,tY,h.1];omega
theorem adA(h:cM w E 36 128 (dg s))(a:j0 s)(c:k<8):
 eT .u8 w (bX (cu ⟨E,k*16,cw⟩) 16 (128-k*16)) (dN (zT s k)):=by have d:=Ro a c;refine⟨_,_,by rw[dA,d],by grind[dA],?_,λ_=>⟨E,k*16,ae,cM.lt h,?_⟩⟩;intro x b;unfold dN at b;obtain⟨y,e,rfl⟩:=gI.1 b;have:=a.2 y (mS (lQ e));grind[Lit.wf,IntKind.min,IntKind.max,IntKind.signed,IntKind.bits];grind[dA,cM.cell,tj,dg,zT]
theorem adB{l:Nat->cQ}(h:cM w E 191 24 (eV l))(c:k<8)(p:cQ):
 cM (w.setCells E (k*3) (cL 3 (dF p)).t) E 191 24 (eV λi=>if i=k then p else l i):=by
 refine cM.congr (cM.setCells (cL 3 (dF p)).t (k*3) h) λj b=>?_;unfold KO eV;rw[mT,cW];by_cases a:k*3<=j/\j<k*3+3;rw[df a];simp only[show j/3=k from by omega,oR];rw[show j%3=j-k*3 from by omega];show(cL 3 (dF p)).t.getD (j-k*3) (bU .u8 0)=_;rw[zE,mR,dy,df cN];rfl
 grind
theorem Xl{l:Nat->cQ}(h:cM w E 191 24 (eV l))(b:k<8):w.there E (k*3) 3:=λj a=>
 ⟨by grind[cM.cell],cM.frozen h _⟩
theorem yQ(E k:Nat)(b:k<8)(W:cS):(Instr.indexAt 191 (bW (cu ⟨E,0,cw⟩)) (bU cq k)).run prog W=.ok (bW (cu ⟨E,k*3,cw⟩)) W:=by have⟨it,hi,hs⟩:=wE kx;have a:(k:Int)<8:=cN;simp[Instr.indexAt,asIntOf,yO Rm,Instr.sureAddr,sizeOf,typeInfo,hi,hs,Addr.add];grind
theorem aaX{p:cQ}(h:nZ bs=cu p):p=AU bs:=by grind[nZ]
def Ca(s:cV)(hs:j0 s)(A:gE)(hA:A=cL 128 (dg s))(w:cS):
 CP_ 207 #[.agg A] w λe w'=>∃N,e=.returned (.tuple #[.agg N,.int .i64 (gi 51 (pZ s))])/\N=cL 24 (eV ((pZ s).getD λ_=>cX))/\dR w w':=by
 have⟨W0,hW0⟩:=fP (((w.alloc (.cells A 36)).alloc (.cells (#[Value.int .i64 0,.int .u64 0,.int .u32 0,Value.int .i64 0,.int .u64 0,.int .u32 0,Value.int .i64 0,.int .u64 0,.int .u32 0,Value.int .i64 0,.int .u64 0,.int .u32 0,Value.int .i64 0,.int .u64 0,.int .u32 0,Value.int .i64 0,.int .u64 0,.int .u32 0,Value.int .i64 0,.int .u64 0,.int .u32 0,Value.int .i64 0,.int .u64 0,.int .u32 0]:gE) 191)).alloc (.cells (#[Value.int .i64 0,.int .u64 0,.int .u32 0,Value.int .i64 0,.int .u64 0,.int .u32 0,Value.int .i64 0,.int .u64 0,.int .u32 0,Value.int .i64 0,.int .u64 0,.int .u32 0,Value.int .i64 0,.int .u64 0,.int .u32 0,Value.int .i64 0,.int .u64 0,.int .u32 0,Value.int .i64 0,.int .u64 0,.int .u32 0,Value.int .i64 0,.int .u64 0,.int .u32 0]:gE) 191));have s1:(w.alloc (.cells A 36)).heap.size=w.heap.size+1:=by simp
 have s2:((w.alloc (.cells A 36)).alloc (.cells (#[Value.int .i64 0,.int .u64 0,.int .u32 0,Value.int .i64 0,.int .u64 0,.int .u32 0,Value.int .i64 0,.int .u64 0,.int .u32 0,Value.int .i64 0,.int .u64 0,.int .u32 0,Value.int .i64 0,.int .u64 0,.int .u32 0,Value.int .i64 0,.int .u64 0,.int .u32 0,Value.int .i64 0,.int .u64 0,.int .u32 0,Value.int .i64 0,.int .u64 0,.int .u32 0]:gE) 191)).heap.size=w.heap.size+1+1:=by simp
 have b7:W0.heap.size=w.heap.size+1+1+1:=by rw[hW0];simp
 have g:cM W0 w.heap.size 36 128 (dg s):=by rw[hW0,hA];exact anE
 have I:cM W0 (w.heap.size+1) 191 24 (eV λ_=>cX):=by rw[hW0,Ey,<-s1];exact cM.alloc_old (cM.alloc _ _ _ _) _
 have z:cM W0 (w.heap.size+1+1) 191 24 (eV λ_=>cX):=by rw[hW0,<-s2,Ey];exact bp
 have R:dR w W0:=by rw[hW0];exact anl
 have⟨E2,F⟩:=fP (w.heap.size+1);have⟨E4,G⟩:=fP (w.heap.size+1+1);have⟨E1,E⟩:=fP w.heap.size;have g1:w.heap.size+1<=E2:=cN;have g2:E2<E4:=cN;have g3:w.heap.size<=E4:=cN;have g4:E4<W0.heap.size:=cN;have g5:E1<E4:=cN;rw[<-E] at g;rw[<-F] at I;rw[<-G] at z;have e0:EX s 0=λ_=>cX:=by funext i;unfold EX;rw[cZ cN]
 rw[<-e0] at z;clear e0;have HE:=cz (And.intro E (And.intro F G));clear E F G s1 s2 b7;have b5:=cz hW0;clear hW0;have HS:=cz hs;clear hs;have v:=cz (And.intro g (And.intro I (And.intro z (gJ E4 W0))));clear g I z;have L:=cz R;clear R;clear hA;go_enter func207,ntmps207
 go_upto_region 2 with(fail)
 rw[<-b5.o,<-HE.o.2.2,<-HE.o.2.1,<-HE.o.1]
 go_wp2_with (fail)
 go_loopw [8] (λc wr=>∃k:Nat,k<=8/\c=.int .i64 k/\Hid (okN s k=true/\cM wr E4 191 24 (eV (EX s k))/\Below E4 W0 wr)) (λc _=>8-(intOf c).toNat)
 case atStart=>exact⟨0,gw _,ae,ae,v.o.2.2⟩
 case round=>
  obtain⟨k,hk,rfl,hrel⟩:=hrel;by_cases u:k<8
  . have g:cM wr E1 36 128 (dg s):=cM.FX v.o.1 hrel.o.2.2 g5;have l:cM wr E2 191 24 (eV λ_=>cX):=cM.FX v.o.2.1 hrel.o.2.2 g2;have hu:=adA g HS.o u;have d:=wX _ _ wr hu ⟨_,_,_,ae,cN⟩;have⟨q,hq⟩:=dI (nZ (zT s k));rw[hq] at d;have HQ:=cz hq;clear hq hu g;have HC:=cz d;clear d;have H2:=cz l;clear l;have J:=P4 E1 (k*16) ((k+1)*16) cN cN cN;have e1:(((k*16:Nat)):Int)=(k:Int)*16:=cN;have e2:((((k+1)*16:Nat)):Int)=((k:Int)+1)*16:=cN;rw[e1,e2,show(k+1)*16-k*16=16 from by omega] at J;have b2:=cz J;clear J e1 e2;have b8:(0:Int)<=(k:Int)*16:=cN
    go_wp2_with (first|((with_reducible refine Y4 ⟨some 17,Op.slice 36 (Operand.tmp 1) (some (Operand.tmp 13)) (some (Operand.tmp 16)) none,22,_,_,none⟩ ?_);refine nH (o:=⟨some 17,Op.slice 36 (Operand.tmp 1) (some (Operand.tmp 13)) (some (Operand.tmp 16)) none,22,_,_,none⟩) ae 36 (.tmp 1) (some (.tmp 13)) (some (.tmp 16)) none ae (.slice (s_ E1 (k*16)) 16 (128-k*16)) (b2.o _) ?_))
    refine aj HC.o λw5 x=>?_;have T:E4<wr.heap.size:=cM.lt hrel.o.2.1;have V:Below E4 W0 w5:=hrel.o.2.2.trans (x.mono cN);have a1:cM w5 E4 191 24 (eV (EX s k)):=cM.cP hrel.o.2.1 x;have O:cM w5 E2 191 24 (eV λ_=>cX):=cM.cP H2.o x;have f:=cz (And.intro V (And.intro a1 O));clear V a1 O x T;cases q with
    |none=>
     have Y:pZ s=none:=by unfold pZ;rw[cZ];rw[aia u HQ.o];simp
     have M:=cz Y;clear Y;have⟨A5,hA5⟩:=fP (cL 3 (dF cX));have hv:mO ((none:Option cQ).getD cX)=.agg A5:=by rw[hA5];exact(GX _).symm
     rw[hv];have n:A5.size=3:=by rw[hA5,cW]
     have m:A5.all (·.oneCell')=true:=by rw[hA5];exact oE _ (dJ _)
     have b:=cz (And.intro n m);clear n m hv hA5;have Q:cM (w5.alloc (.cells A5 106)) E2 191 24 (eV λ_=>cX):=cM.alloc_old f.o.2.2 _;have K:=cz Q;clear Q;have a:Below E4 W0 (w5.alloc (.cells A5 106)):=f.o.1.alloc anX _;have a5:=cz a;clear a;have h:gi 51 (none:Option cQ)=51:=rfl;rw[h];clear h
     go_wp2_with (first|(refine B7 (o:=⟨none,Op.store 106 (Operand.tmp 6) (Operand.tmp 19),0,_,_,none⟩) ae 106 (.tmp 6) (.tmp 19) ae #[Value.int .i64 0,.int .u64 0,.int .u32 0] A5 3 ae ae kx Jg b.o.1 b.o.2 ?_)|refine wpList_store_row (o:=⟨none,Op.store 191 (Operand.tmp 2) (Operand.tmp 23),0,_,_,none⟩) ae 191 (.tmp 2) (.tmp 23) ae E2 ae 24 (eV λ_=>cX) (#[Value.int .i64 0,.int .u64 0,.int .u32 0,Value.int .i64 0,.int .u64 0,.int .u32 0,Value.int .i64 0,.int .u64 0,.int .u32 0,Value.int .i64 0,.int .u64 0,.int .u32 0,Value.int .i64 0,.int .u64 0,.int .u32 0,Value.int .i64 0,.int .u64 0,.int .u32 0,Value.int .i64 0,.int .u64 0,.int .u32 0,Value.int .i64 0,.int .u64 0,.int .u32 0]:gE) ae Ey 191 (eV λ_=>cX) K.o zS (nQ _) ?_)
     refine iH (mD (p:=2) (q:=3) (ty:=191) ae ae (cM.setRow K.o (eV λ_=>cX)) Gf ae zS) ae<|⟨_,by rw[M.o];rfl,by rw[M.o];rfl,?_⟩;exact below_setRow (L.o.trans (a5.o.mono g3)) cN _
    |some p=>
     have H:=aaX HQ.o;have⟨A5,hA5⟩:=fP (cL 3 (dF p));have hv:mO ((some p:Option cQ).getD cX)=.agg A5:=by rw[hA5];exact(GX _).symm
     rw[hv];have h:gi 51 (some p:Option cQ)=0:=rfl;rw[h];clear h;have n:A5.size=3:=by rw[hA5,cW]
     have m:A5.all (·.oneCell')=true:=by rw[hA5];exact oE _ (dJ _)
     have b:=cz (And.intro n m);clear n m hv;have a2:(w5.alloc (.cells A5 106)).rangeAt w5.heap.size 0 A5.toList:=by
      have:=pE (cM.alloc w5 106 3 (dF p));rw[<-hA5] at this;exact this
     have a8:=cz a2;clear a2;have D:cM (w5.alloc (.cells A5 106)) E4 191 24 (eV (EX s k)):=cM.alloc_old f.o.2.1 _;have a:Below E4 W0 (w5.alloc (.cells A5 106)):=f.o.1.alloc anX _;have a4:=Xl D u;have y:=adB D u p;rw[H,<-aaW,<-H,<-hA5] at y;have r:Below E4 W0 ((w5.alloc (.cells A5 106)).setCells E4 (k*3) A5.toList):=by
      have t:=jX.setCells E4 A5.toList (k*3) (w5.alloc (.cells A5 106));exact⟨t.os.trans a.os,t.tape.trans a.tape,t.output.trans a.output,iE a.size t.size,λj hj=>(t.block j (by have:=a.size;omega) cN).trans (a.block j hj)⟩
     have Z:okN s (k+1)=true:=by rw[adz,hrel.o.1,HQ.o];rfl
     have b4:=cz a4;clear a4 D a H hA5;have⟨W9,hW9⟩:=fP ((w5.alloc (.cells A5 106)).setCells E4 (k*3) A5.toList);rw[<-hW9] at y r;have b6:=cz hW9;clear hW9;have a7:=cz (And.intro Z (And.intro y r));clear Z y r;have X:∀W:cS,(Instr.indexAt 191 (dE E4 0) (.int .i64 k)).run prog W=.ok (dE E4 (k*3)) W:=λW=>yQ E4 k u W;have a6:=cz X;clear X
     go_wp2_with (first|(refine B7 (o:=⟨none,Op.store 106 (Operand.tmp 6) (Operand.tmp 19),0,_,_,none⟩) ae 106 (.tmp 6) (.tmp 19) ae #[Value.int .i64 0,.int .u64 0,.int .u32 0] A5 3 ae ae kx Jg b.o.1 b.o.2 ?_)|(refine wpList_load_mid (op:=⟨some 25,Op.load 106 (Operand.tmp 6),106,_,_,none⟩) ae 106 (.tmp 6) ae w5.heap.size 0 ae A5.toList _ a8.o Al ae (by rw[mT,b.o.1];exact kx) ?_;rw[vx])|(refine vW (o:=⟨some 26,Op.indexAddr 191 (Operand.tmp 4) (Operand.tmp 24),0,_,_,none⟩) ae 191 (.tmp 4) (.tmp 24) ae (dE E4 (k*3)) (a6.o _) ?_)|(refine wpList_store_mid (op:=⟨none,Op.store 106 (Operand.tmp 26) (Operand.tmp 25),0,_,_,none⟩) ae 106 (.tmp 26) (.tmp 25) ae E4 (k*3) A5 ae ae (by rw[b.o.1];exact b4.o) (by rw[b.o.1];exact kx) b.o.2 ?_;rw[<-b6.o]))
     go_roundw
     case rel=>exact⟨k+1,cN,by go_num,a7.o⟩
     case measure=>exact pR
  . obtain rfl:k=8:=cN;have C:pZ s=some (EX s 8):=by unfold pZ;rw[df hrel.o.1]
    have B:=cz C;clear C;have l:cM wr E2 191 24 (eV λ_=>cX):=cM.FX v.o.2.1 hrel.o.2.2 g2;have⟨S,hS⟩:=fP (cL 24 (eV (EX s 8)));have a3:wr.rangeAt E4 0 S.toList:=by rw[hS];exact pE hrel.o.2.1
    have U:S.toList.length=24:=by rw[hS,mT,cW]
    have b1:=cz hS;clear hS;have b3:=cz U;clear U;have a9:=cz a3;clear a3;have H2:=cz l;clear l
    go_wp2_with (first|(refine wpList_load_mid (op:=⟨some 28,Op.load 191 (Operand.tmp 4),191,_,_,none⟩) ae 191 (.tmp 4) ae E4 0 ae S.toList _ a9.o Gf ae (by rw[b3.o];exact zS) ?_;rw[vx])|refine wpList_store_row (o:=⟨none,Op.store 191 (Operand.tmp 2) (Operand.tmp 28),0,_,_,none⟩) ae 191 (.tmp 2) (.tmp 28) ae E2 ae 24 (eV (EX s 8)) S ae b1.o 191 (eV λ_=>cX) H2.o zS (nQ _) ?_)
    refine iH (mD (p:=2) (q:=3) (ty:=191) ae ae (cM.setRow H2.o (eV (EX s 8))) Gf ae zS) ae<|⟨_,by rw[B.o];rfl,by rw[B.o];rfl,?_⟩;exact below_setRow (L.o.trans (hrel.o.2.2.mono g3)) cN _
def Ez(h:cM w b 206 1040 (tR st rm))(q r:Nat)(v:Int)(a:v=(r:Int)):
 cM (w.setCell ⟨b,1024+q,cw⟩ (bU cq v)).drew b 206 1040 (tR st (λk=>if k=q then r else rm k)):=by subst a;exact(cM.set h (1024+q) (bU cq r)).congr λj _=>aaM st rm q r j
theorem G5(h:cM w b 206 1040 (tR st rm))(c:i<1024)(v:Nat):
 cM (w.setCell ⟨b,i,cw⟩ (bU .u8 v)) b 206 1040 (tR (kC st i v) rm):=by refine(cM.set h i (bU .u8 v)).congr λj _=>?_;by_cases a:j=i;subst a;rw[df ae,LS _ _ c,Jb];simp_all[tR,Gc]
theorem Dx(h:cM w b 206 1040 (tR st rm))(c:∀k,k<16->rm k=km st k):fB w b st:=by refine cM.congr h λj a=>?_;unfold tR;grind
theorem P5(h:cM w b 206 1040 (tR st rm))(a:i<1024):w.cell? ⟨b,i,cw⟩=cu (.int .u8 (st i:Nat)):=by grind[cM.cell,LS]
theorem T4(h:cM w b 206 1040 (tR st rm))(a:k<16):w.cell? ⟨b,1024+k,cw⟩=cu (.int cq (rm k:Nat)):=by grind[cM.cell,PQ]
theorem Xm(st:Nat->Nat){a:Nat}(k:Nat):km (kC st i a) k=if k=i/64 then km st (i/64)-(if st i=1 then 1 else 0)+(if a=1 then 1 else 0) else km st k:=by by_cases h:k=i/64;subst h;rw[df ae];have b:=aaK st (i:=i) (k:=i/64) a ae;have c:st i=1->0<km st (i/64):=λh=>Jc cN cN h;grind;rw[cZ h];grind[OC]
theorem Lb(b:Nat)(st:Nat->Nat)(i f:Nat)(B:i<1024)(w:cS)(t:fB w b st):
 CP_ 146 #[bW (cu ⟨b,0,cw⟩),bU cq i,bU .u8 f] w λe w'=>e=cj (cg #[])/\fB w' b (kC st i f)/\jX b w w':=by
 have hc:=t.state B;have E:=t.room (k:=i/64) cN;have F:=cM.frozen t i;have H:=cM.frozen t (1024+i/64);have K:=TR st (i/64);have g:st i=1->1<=km st (i/64):=λh=>Jc cN cN h;have M:(0:Int)<=(i:Int):=cN;have N:(i:Int)<1024:=cN;have O:(0:Int)<=(i:Int)/64:=cN;have Q:(i:Int)/64<16:=cN;have I:Hid (∀k,km (kC st i f) k=if k=i/64 then km st (i/64)-(if st i=1 then 1 else 0)+(if f=1 then 1 else 0) else km st k):=Xm st;have⟨x,HX⟩:=sO (st i);have⟨r,HR⟩:=sO (km st (i/64));rw[HX.o] at hc g;rw[HR.o] at E K g;have J:Hid (jX b w w):=jX.refl b w;by_cases q:x=1
 . by_cases s:f=1
   . (have y:((x:Int)==1)=cx:=by rw[xL];omega);(have g:=g q;have D:(x:Int)=1:=cN;have z:((f:Int)==1)=cx:=by rw[xL];omega);have m:=cz q;clear q;have n:=cz s;clear s;clear D;go_enter func146,ntmps146;go_wp2_with fail;go_region;(have⟨w1,hw1⟩:=fP ((w.setCell ⟨b,1024+i/64,cw⟩ (bU cq ((r:Int)-1))).drew);rw[<-hw1];have l:cM w1 b 206 1040 (tR st (λk=>if k=i/64 then r-1 else km st k)):=by rw[hw1];exact Ez t (i/64) (r-1) _ cN);(have o:jX b w w1:=by rw[hw1];exact(J.o.setCell _ _).drew);clear hw1;have F:=cM.frozen l i;have u:=cz o;clear o;have hc:=P5 l B;rw[HX.o] at hc;go_wp2_with fail;(have⟨w2,hw2⟩:=fP (w1.setCell ⟨b,i,cw⟩ (bU .u8 (f:Int)));rw[<-hw2];have a:=G5 l B f;have c:jX b w w2:=by rw[hw2];exact u.o.setCell _ _);(rw[<-hw2] at a;clear hw2;have E:=T4 a (k:=i/64) cN;have H:=cM.frozen a (1024+i/64);simp only[oR] at E;have v:=cz c;clear c;obtain⟨r',C⟩:∃r',r-1=r':=⟨_,ae⟩;rw[C] at E;have L:r'<=64:=by have:=C;omega);go_wp2_with fail;go_region;have⟨w3,hw3⟩:=fP ((w2.setCell ⟨b,1024+i/64,cw⟩ (bU cq ((r':Int)+1))).drew);rw[<-hw3];have p:=Ez a (i/64) (r'+1) ((r':Int)+1) cN;have A:jX b w w3:=by rw[hw3];exact(v.o.setCell _ _).drew
     rw[<-hw3] at p;have d:fB w3 b (kC st i f):=Dx p (λk _=>by
      rw[I.o k,HX.o,HR.o];have:=m.o;have:=n.o;have:=C;by_cases G:k=i/64
      . subst G;simp[*]<;>first|rfl|omega|exact HR.o
      . simp[G])
     have j:=cz A;go_wp2;go_end0;exact⟨ae,d,j.o⟩
   . (have y:((x:Int)==1)=cx:=by rw[xL];omega);(have g:=g q;have D:(x:Int)=1:=cN;have z:((f:Int)==1)=cy:=by rw[lR];omega);have m:=cz q;clear q;have n:=cz s;clear s;clear D;go_enter func146,ntmps146;go_wp2_with fail;go_region;(have⟨w1,hw1⟩:=fP ((w.setCell ⟨b,1024+i/64,cw⟩ (bU cq ((r:Int)-1))).drew);rw[<-hw1];have l:cM w1 b 206 1040 (tR st (λk=>if k=i/64 then r-1 else km st k)):=by rw[hw1];exact Ez t (i/64) (r-1) _ cN);(have o:jX b w w1:=by rw[hw1];exact(J.o.setCell _ _).drew);clear hw1;have F:=cM.frozen l i;have u:=cz o;clear o;have hc:=P5 l B;rw[HX.o] at hc;go_wp2_with fail;have⟨w2,hw2⟩:=fP (w1.setCell ⟨b,i,cw⟩ (bU .u8 (f:Int)));rw[<-hw2];have a:=G5 l B f;have c:jX b w w2:=by rw[hw2];exact u.o.setCell _ _
     rw[<-hw2] at a;clear hw2;have d:fB w2 b (kC st i f):=Dx a (λk _=>by
      rw[I.o k,HX.o,HR.o]
      grind)
     have j:=cz c;clear c;go_wp2;go_end0;exact⟨ae,d,j.o⟩
 . by_cases s:f=1
   . (have y:((x:Int)==1)=cy:=by rw[lR];omega);(have z:((f:Int)==1)=cx:=by rw[xL];omega);have m:=cz q;clear q;have n:=cz s;clear s;go_enter func146,ntmps146;go_wp2_with fail;(have⟨w2,hw2⟩:=fP (w.setCell ⟨b,i,cw⟩ (bU .u8 (f:Int)));rw[<-hw2];have a:=G5 t B f;have c:jX b w w2:=by rw[hw2];exact J.o.setCell _ _);rw[<-hw2] at a;clear hw2;have E:=T4 a (k:=i/64) cN;have H:=cM.frozen a (1024+i/64);rw[HR.o] at E;have v:=cz c;clear c;go_wp2_with fail;go_region;have⟨w3,hw3⟩:=fP ((w2.setCell ⟨b,1024+i/64,cw⟩ (bU cq ((r:Int)+1))).drew);rw[<-hw3];have p:=Ez a (i/64) (r+1) ((r:Int)+1) cN;have A:jX b w w3:=by rw[hw3];exact(v.o.setCell _ _).drew
     rw[<-hw3] at p;have d:fB w3 b (kC st i f):=Dx p (λk _=>by
      rw[I.o k,HX.o,HR.o]
      grind)
     have j:=cz A;go_wp2;go_end0;exact⟨ae,d,j.o⟩
   . (have y:((x:Int)==1)=cy:=by rw[lR];omega);(have z:((f:Int)==1)=cy:=by rw[lR];omega);have m:=cz q;clear q;have n:=cz s;clear s;go_enter func146,ntmps146;go_wp2_with fail;have⟨w2,hw2⟩:=fP (w.setCell ⟨b,i,cw⟩ (bU .u8 (f:Int)));rw[<-hw2];have a:=G5 t B f;have c:jX b w w2:=by rw[hw2];exact J.o.setCell _ _
     rw[<-hw2] at a;clear hw2;have d:fB w2 b (kC st i f):=Dx a (λk _=>by
      rw[I.o k,HX.o,HR.o];have:=m.o;have:=n.o;by_cases G:k=i/64
      . subst G;simp[*]<;>first|omega|exact HR.o
      . simp[G])
     have j:=cz c;clear c;go_wp2;go_end0;exact⟨ae,d,j.o⟩
def isB(st:Nat->Nat)(i:Int)(s:Nat):Bool:=decide (0<=i/\i<1024/\st i.m=s)
def sQ(st:Nat->Nat)(i:Int)(s v:Nat):Nat->Nat:=if isB st i s=cx then kC st i.m v else st
def Fh(st:Nat->Nat)(i:Int)(s:Nat):Int:=if isB st i s=cx then 0 else 72
def Gg(b:Nat)(st:Nat->Nat)(i:Int)(s v:Nat)(p:fh i)(w:cS)(q:fB w b st):
 CP_ 173 #[bW (cu ⟨b,0,cw⟩),bU cq i,bU .u8 s,bU .u8 v] w λe w'=>e=cj (bU cq (Fh st i s))/\fB w' b (sQ st i s v)/\jX b w w':=by
 have⟨r,hr⟩:=dI (isB st i s);have h:=cz q;clear q;have o:=cz p;clear p;have a:=cz hr;clear hr;have m:Hid (decide (0<=i/\i<1024/\st i.m=s)=r):=a.o;cases r with
 |false=>
  have c:Fh st i s=72:=by unfold Fh;rw[a.o];rfl
  have d:sQ st i s v=st:=by unfold sQ;rw[a.o];rfl
  rw[c,d];clear c d;go_enter func173,ntmps173;go_wp2_with fail;refine(Du b st i s _ h.o o.o).mono ?_;rw[m.o];rintro e w1 ⟨rfl,rfl⟩;go_wp2;go_ret;exact⟨ae,h.o,jX.refl _ _⟩
 |true=>
  have c:Fh st i s=0:=by unfold Fh;rw[a.o];rfl
  have d:sQ st i s v=kC st i.m v:=by unfold sQ;rw[a.o];rfl
  rw[c,d];clear c d;have t:=l6 m.o;obtain⟨k,rfl⟩:∃k:Nat,i=(k:Int):=⟨i.m,cN⟩;have n:k<1024:=cN;rw[tZ];clear t;go_enter func173,ntmps173;go_wp2_with fail;refine(Du b st k s _ h.o o.o).mono ?_;rw[m.o];rintro e w1 ⟨rfl,rfl⟩;go_wp2_with fail;refine aj (Lb b st k v n _ h.o) λw2⟨g,f⟩=>?_;have l:=cz g;clear g;have j:=cz f;clear f;go_wp2;go_ret;exact⟨ae,l.o,j.o⟩
def adC(b:Nat)(st:Nat->Nat)(i:Int)(g:fh i)(w:cS)(h:fB w b st):
 CP_ 124 #[bW (cu ⟨b,0,cw⟩),bU cq i] w λe w'=>e=cj (bU cq (Fh st i 1))/\fB w' b (sQ st i 1 2)/\jX b w w':=by have k:=cz h;clear h;have j:=cz g;clear g;go_enter func124,ntmps124;go_wp2_with fail;refine aj (Gg b st i 1 2 j.o _ k.o) λw1⟨c,a⟩=>?_;have f:=cz c;clear c;have d:=cz a;clear a;go_wp2;go_ret;exact⟨ae,f.o,d.o⟩
def T5(b:Nat)(st:Nat->Nat)(i:Int)(g:fh i)(w:cS)(h:fB w b st):
 CP_ 179 #[bW (cu ⟨b,0,cw⟩),bU cq i] w λe w'=>e=cj (bU cq (Fh st i 2))/\fB w' b (sQ st i 2 1)/\jX b w w':=by have k:=cz h;clear h;have j:=cz g;clear g;go_enter func179,ntmps179;go_wp2_with fail;refine aj (Gg b st i 2 1 j.o _ k.o) λw1⟨c,a⟩=>?_;have f:=cz c;clear c;have d:=cz a;clear a;go_wp2;go_ret;exact⟨ae,f.o,d.o⟩
def aaY(b:Nat)(st:Nat->Nat)(i:Int)(g:fh i)(w:cS)(h:fB w b st):
 CP_ 180 #[bW (cu ⟨b,0,cw⟩),bU cq i] w λe w'=>e=cj (bU cq (Fh st i 2))/\fB w' b (sQ st i 2 3)/\jX b w w':=by have k:=cz h;clear h;have j:=cz g;clear g;go_enter func180,ntmps180;go_wp2_with fail;refine aj (Gg b st i 2 3 j.o _ k.o) λw1⟨c,a⟩=>?_;have f:=cz c;clear c;have d:=cz a;clear a;go_wp2;go_ret;exact⟨ae,f.o,d.o⟩
def Gh(st:Nat->Nat):Nat->c7:=λk=>bU cq (km st k:Nat)
def J3(h:fB w b st):w.rangeAt b 1024 (cL 16 (Gh st)).t:=by
 intro j v a;rw[mR,dy] at a;split at a;next hj=>cases a;exact h.room hj
 cases a
theorem T6(A:gE)(k:Nat)(r:Int)(a:k<16)(h:A[k]?=cu (.int cq r))(w:cS):
 (Instr.index 204 (bV A) (bU cq k)).run prog w=.ok (bU cq r) w:=by simp_all[Instr.index,asIntOf,part]
def Y9:(prog.info? 204).map (·.size)=cu 16:=dC
theorem count_map(b:Nat)(st:Nat->Nat)(w:cS)(p:fB w b st):
 CP_ 61 #[bW (cu ⟨b,0,cw⟩)] w λe w'=>e=cj (bU cq (fR st:Nat))/\w=w':=by
 have h:=J3 p;have d:=cz h;clear h p;have m:∀k,k<16->(cL 16 (Gh st))[k]?=cu (.int cq (km st k:Nat)):=by intro k o;rw[dy,df o];rfl
 have c:(cL 16 (Gh st)).s=16:=cW _ _;have⟨A,hAA⟩:=fP (cL 16 (Gh st));rw[<-hAA] at d m c;clear hAA;have f:A.t.toArray=A:=by simp
 have q:=cz m;clear m;go_enter func61,ntmps61;go_wp2_with (refine wpList_load_mid (op:=⟨cu 9,.load 204 (.tmp 8),_,_,_,cw⟩) ae 204 (.tmp 8) ae b 1024 ae A.t _ d.o underlying204 ae (by rw[mT,c];exact Y9) ?_;rw[f]);clear c f
 go_loop [3,10] (λv i=>∃(k s:Nat),k<=16/\i=bU cq k/\v=bU cq s/\Hid (s=GY st k))
  (λ_ i=>16-(intOf i).m)
 exact⟨0,0,cN,ae,ae,ae⟩;obtain⟨k,s,o,rfl,rfl,j⟩:=hrel;by_cases g:k<16
 . (have t:(k:Int)<16:=cN;have x:s<=1024:=by have y:=j.o;have z:=TT st k;omega);(have n:=TR st k;have a:=q.o k g;have l:Hid (s+km st k=GY st (k+1)):=by unfold Hid;rw[j.o];rfl);have⟨r,hr⟩:=dI (km st k);rw[hr] at a l n;clear hr;have u:=T6 A k r g a;clear a;go_wp2;go_round;grind;exact pR
 . obtain rfl:k=16:=cN;go_wp2;go_ret;exact⟨by rw[j.o];rfl,ae⟩
def L0(st:Nat->Nat):Int:=match nG st with|some i=>(i:Nat)|none=>0
def L5(st:Nat->Nat):Int:=match nG st with|some _=>0|none=>71
def L6(st:Nat->Nat):Nat->Nat:=match nG st with|some i=>kC st i 2|none=>st
theorem Gi(h:nG st=cu i):L0 st=(i:Nat)/\L5 st=0/\L6 st=kC st i 2:=by unfold L0 L5 L6;grind
theorem L7(h:nG st=cw):L0 st=0/\L5 st=71/\L6 st=st:=by unfold L0 L5 L6;grind
theorem P6(b:Nat)(st:Nat->Nat)(w:cS)(Q:fB w b st):
 CP_ 183 #[bW (cu ⟨b,0,cw⟩)] w λe w'=>e=cj (cg #[bU cq (L0 st),bU cq (L5 st)])/\fB w' b (L6 st)/\jX b w w':=by
 have m:=cz Q;have F:=J3 Q;have o:=cz F;clear F Q;have M:∀k,k<16->(cL 16 (Gh st))[k]?=cu (.int cq (km st k:Nat)):=by intro k Z;rw[dy,df Z];rfl
 have f:(cL 16 (Gh st)).s=16:=cW _ _;have⟨A,hAA⟩:=fP (cL 16 (Gh st));rw[<-hAA] at o M f;clear hAA;have u:A.t.toArray=A:=by simp
 have H:=cz M;clear M;have⟨R,hR⟩:=dI (nG st);have G:=cz hR;clear hR;go_enter func183,ntmps183;go_wp2_with (refine wpList_load_mid (op:=⟨cu 11,.load 204 (.tmp 10),_,_,_,cw⟩) ae 204 (.tmp 10) ae b 1024 ae A.t _ o.o underlying204 ae (by rw[mT,f];exact Y9) ?_;rw[u]);clear f u
 go_loop [4,12] (λv i=>∃(k s:Nat),k<=16/\i=bU cq k/\v=bU cq s/\s<16/\Hid (s=sZ st k))
  (λ_ i=>16-(intOf i).m)
 exact⟨0,0,cN,ae,ae,cN,ae⟩;obtain⟨k,s,Z,rfl,rfl,F,X⟩:=hrel;by_cases z:k<16
 . (have I:(k:Int)<16:=cN;have I:(s:Int)<16:=cN;have I:(0:Int)<=(s:Int):=cN;have a:=H.o k z;have hc:=fB.room m.o F;have d:Hid (sZ st (k+1)=if km st s<km st k then k else s):=by unfold Hid;rw[X.o];rfl);have⟨r,hr⟩:=dI (km st k);have⟨q,hq⟩:=dI (km st s);rw[hr,hq] at d;rw[hr] at a;rw[hq] at hc;clear hr hq;have H:=T6 A k r z a;clear a;by_cases D:q<r
   . (have E:(q:Int)<(r:Int):=cN;have t:Hid (k=sZ st (k+1)):=by unfold Hid;rw[d.o,df D]);go_wp2;go_round;grind;simp[intOf];omega
   . (have E:¬(q:Int)<(r:Int):=cN;have t:Hid (s=sZ st (k+1)):=by unfold Hid;rw[d.o,cZ D]);go_wp2;go_round;exact⟨k+1,s,cN,by go_num,ae,F,t.o⟩;simp[intOf];omega
 . obtain rfl:k=16:=cN;have l:Hid (s=LP st):=X.o;have F:¬((16:Nat):Int)<16:=cN;go_wp2_with fail
   go_loop [7] (λi=>∃(p j:Nat),p=64*s+j/\j<=64/\i=bU cq p/\Hid (∀j',j'<j->st (64*s+j')≠1))
    (λi=>64*s+64-(intOf i).m)
   exact⟨64*s,0,ae,cN,by go_num,λj' h=>absurd h (wQ _)⟩;obtain⟨p,j,T,F,rfl,K⟩:=hrel;by_cases O:j<64
   . (have U:(p:Int)<((s:Int)+1)*64:=cN;have V:p<1024:=cN;have n:=cz T;clear T;have C:fh (p:Int):=by unfold fh;omega);by_cases g:st p=1
     . (have c:Hid (R=cu p):=by unfold Hid;rw[<-G.o,n.o];unfold nG;rw[<-l.o];exact Q9 K.o (by rw[<-n.o];exact g) 64 O);have y:decide (0<=(p:Int)/\(p:Int)<1024/\st (p:Int).m=1)=cx:=gM ⟨cN,cN,by rw[tZ];exact g⟩;have I:=cz y;clear y g;go_wp2_with fail;refine(Du b st p 1 _ m.o C).mono ?_;rw[I.o];rintro e w1 ⟨rfl,rfl⟩;go_wp2_with fail
       refine aj (Lb b st p 2 V _ m.o) λw2⟨B,x⟩=>?_;have J:=cz B;clear B;have H:=cz x;clear x;go_wp2;refine iH (v:=cg #[bU cq p,bU cq 0]) (by simp[results,results183,go_sem]) ae (by
        have⟨e1,e2,e3⟩:=Gi (G.o.trans c.o);rw[e1,e2,e3];exact⟨ae,J.o,H.o⟩)
     . (have y:decide (0<=(p:Int)/\(p:Int)<1024/\st (p:Int).m=1)=cy:=jG (by rw[tZ];exact λh=>g h.2.2);have I:=cz y;clear y;have L:Hid (∀j',j'<j+1->st (64*s+j')≠1):=by intro j' F;by_cases N:j'=j;subst N;rw[<-n.o];exact g;exact K.o j' cN);clear g;go_wp2_with fail;refine(Du b st p 1 _ m.o C).mono ?_;rw[I.o];rintro e w1 ⟨rfl,rfl⟩;go_wp2;go_round;exact⟨p+1,j+1,by have:=n.o;omega,cN,by go_num,L.o⟩;simp[intOf];have:=n.o;omega
   . have Y:j=64:=cN;have U:¬(p:Int)<((s:Int)+1)*64:=cN;have c:Hid (R=cw):=by unfold Hid;rw[<-G.o];unfold nG;rw[<-l.o];exact Ra (λj' h=>K.o j' cN)
     clear T;go_wp2;refine iH (v:=cg #[bU cq 0,bU cq 71]) (by simp[results,results183,go_sem]) ae (by
      have⟨e1,e2,e3⟩:=L7 (G.o.trans c.o);rw[e1,e2,e3];exact⟨ae,m.o,jX.refl _ _⟩)
theorem aaZ(st rm:Nat):cL 1040 (tR (λ_=>st) (λ_=>rm))=Array.replicate 1024 (bU .u8 st)++Array.replicate 16 (bU cq rm):=by apply yp;intro j;rw[dy,Array.getElem?_append];simp only[Array.size_replicate,Array.getElem?_replicate];unfold tR;grind
theorem Y':zeroCells206=cL 1040 (tR (λ_=>0) (λ_=>0)):=by rw[aaZ];kernel_rfl
def Za:(prog.info? 206).map (·.size)=cu 1040:=dC
theorem Xn(st:Nat->Nat)(s k:Nat)(h:∀i,st i≠1):qu st s k=0:=by induction k with|zero=>rfl|succ k ih=>simp_all[BY]
def Dy(k:Nat):Nat->Nat:=λi=>if 4<=i/\i<k then 1 else 0
theorem Xo:Dy 4=λ_=>0:=by funext i;simp_all[Dy]
theorem Xp(h:4<=k):kC (Dy k) k 1=Dy (k+1):=by funext i;unfold kC Dy;grind
theorem aa0{T:Int}(b:4<=k)(d:k<=1024)(c:(k:Int)<=T∨k=4)(a:T<=(k:Int)∨1024<=k):Dy k=qH T:=by funext i;unfold Dy qH;grind
def Xq(w:cS):fB (w.alloc (.cells zeroCells206 206)) w.h.s (Dy 4):=by rw[Xo,Y'];exact Dx (cM.alloc w 206 1040 (tR (λ_=>0) (λ_=>0))) (λk _=>(Xn _ _ _ (λ_=>by decide)).symm)
def Rp(T:Int)(v:fh T)(w:cS):
 CP_ 86 #[bU cq T] w λe w'=>e=cj (bW (cu ⟨w.h.s,0,cw⟩))/\fB w' w.h.s (qH T)/\Below w.h.s w w':=by
 unfold fh at v;have⟨w0,hw0⟩:=fP (w.alloc (.cells zeroCells206 206));have g:fB w0 w.h.s (Dy 4):=by rw[hw0];exact Xq w
 have c:Below w.h.s w w0:=by rw[hw0];exact aR
 go_enter func86,ntmps86
 go_wp2_with fail
 rw[<-hw0];clear hw0;have⟨B,hB⟩:=fP w.h.s;rw[<-hB] at g c|-;have p:=cz hB;clear hB
 go_loopw [4] (λi wr=>∃(k:Nat),4<=k/\k<=1024/\i=bU cq k/\Hid ((k:Int)<=T∨k=4)/\fB wr B (Dy k)/\Below B w wr)
  (λi _=>1024-(intOf i).m)
 case atStart=>exact⟨4,cN,by omega,ae,.inr ae,g,c⟩
 case round=>
  clear g c;obtain⟨k,r,x,rfl,u,s,hbel⟩:=hrel;have q:=cz s;clear s;rcases Int.lt_or_le 1024 T with hT1|hT1
  all_goals
   by_cases f:(k:Int)<T/\k<1024
   . have b:(k:Int)<if(1024:Int)<T then 1024 else T:=by split<;>omega
     have o:k<1024:=f.2;have m:Hid (((k+1:Nat):Int)<=T∨k+1=4):=.inl cN;clear f
     go_wp2_with fail
     refine(Lb B _ k 1 o _ q.o).mono ?_;rw[Xp r];rintro e w1 ⟨rfl,j,h⟩;have d:=hbel.trans (h.cP (eN _) (by rw[p.o];exact hbel.size));have l:=cz j;clear j;clear h b;go_wp2;go_roundw
     case rel=>exact⟨k+1,cN,by omega,by go_num,m.o,l.o,d⟩
     case measure=>simp[intOf];omega
   . have b:¬(k:Int)<if(1024:Int)<T then 1024 else T:=by split<;>omega
     have a:Dy k=qH T:=aa0 r x u.o cN;have t:=cz a;clear a f;go_wp2;go_ret;have n:=p.o;subst n;exact⟨ae,by rw[<-t.o];exact q.o,hbel⟩
def mF(st:Nat->Nat)(k:Nat):Nat->Nat:=λi=>if i<k/\st i=3 then 1 else st i
theorem OI(st:Nat->Nat):mF st 0=st:=by rfl
theorem J4(st:Nat->Nat)(k:Nat):mF st k k=st k:=by simp_all[mF]
theorem Rq(h:st k=3):kC (mF st k) k 1=mF st (k+1):=by funext i;unfold kC mF;grind
theorem T7(h:st k≠3):mF st k=mF st (k+1):=by funext i;unfold mF;grind
theorem Rr(h:fB w b (mF st 1024)):fB w b (mV st):=by
 have a:∀i,i<1024->mF st 1024 i=mV st i:=by simp_all[mF,mV]
 have g:∀k,k<16->km (mF st 1024) k=km (mV st) k:=λk f=>JZ λi c d=>a i cN;refine cM.congr h λj e=>?_;unfold tR;grind
def Xr(b:Nat)(st:Nat->Nat)(w:cS)(s:fB w b st):
 CP_ 228 #[bW (cu ⟨b,0,cw⟩)] w λe w'=>e=cj (cg #[])/\fB w' b (mV st)/\jX b w w':=by
 have p:fB w b (mF st 0):=by rw[OI];exact s
 clear s;have l:=cz p;clear p;have m:=jX.refl b w;go_enter func228,ntmps228
 go_wp2_with fail
 go_loopw [3] (λi wr=>∃(k:Nat),k<=1024/\i=bU cq k/\Hid (fB wr b (mF st k))/\jX b w wr)
  (λi _=>1024-(intOf i).m)
 case atStart=>exact⟨0,cN,ae,l,m⟩
 case round=>
  clear l m;obtain⟨k,v,rfl,j,c⟩:=hrel;by_cases r:k<1024
  . have u:(k:Int)<1024:=cN;have o:fh (k:Int):=by unfold fh;omega
    by_cases g:st k=3
    . have n:decide (0<=(k:Int)/\(k:Int)<1024/\mF st k (k:Int).m=3)=cx:=gM ⟨cN,cN,by rw[tZ,J4];exact g⟩;have q:=cz n;clear n;have t:=cz g;clear g
      go_wp2_with fail
      refine(Du b _ k 3 _ j.o o).mono ?_;rw[q.o];rintro e w1 ⟨rfl,rfl⟩
      go_wp2_with fail
      refine(Lb b _ k 1 r _ j.o).mono ?_;rw[Rq t.o];rintro e w2 ⟨rfl,a,f⟩;have f:=c.trans f;have d:=cz a;clear a;go_wp2;go_roundw
      case rel=>exact⟨k+1,cN,by go_num,d.o,f⟩
      case measure=>exact pR
    . have n:decide (0<=(k:Int)/\(k:Int)<1024/\mF st k (k:Int).m=3)=cy:=jG (by rw[tZ,J4];exact λh=>g h.2.2);have q:=cz n;clear n;have a:=j.o;rw[T7 g] at a;have d:=cz a;clear a g
      go_wp2_with fail
      refine(Du b _ k 3 _ j.o o).mono ?_;rw[q.o];rintro e w1 ⟨rfl,rfl⟩;go_wp2;go_roundw
      case rel=>exact⟨k+1,cN,by go_num,d.o,c⟩
      case measure=>exact pR
  . obtain rfl:k=1024:=cN;go_wp2
    go_end0
    exact⟨ae,Rr j.o,c⟩
def adD(st rm:Nat->Nat):∀i,(tR st rm i).oneCell'=cx:=by intro i;unfold tR;split<;>rfl
def adE(b:Nat)(st:Nat->Nat)(w:cS)(i:fB w b st):
 CP_ 118 #[bW (cu ⟨b,0,cw⟩)] w λe w'=>e=cj (bW (cu ⟨w.h.s,0,cw⟩))/\fB w' w.h.s st/\dR w w':=by
 have⟨w0,hw0⟩:=fP (w.alloc (.cells zeroCells206 206));have c:cM w0 w.h.s 206 1040 (tR (λ_=>0) (λ_=>0)):=by rw[hw0,Y'];exact bp
 have a:cM (w.alloc (.cells zeroCells206 206)) w.h.s 206 1040 (tR (λ_=>0) (λ_=>0)):=by rw[<-hw0];exact c
 have h:dR w w0:=by rw[hw0];exact aR
 unfold fB at i;have j:=cz i;clear i;have f:=cz a;clear a;have g:=cz hw0;clear hw0;go_enter func118,ntmps118;have⟨A,hA⟩:=fP (cL 1040 (tR st (km st)));have d:=cz hA;clear hA;go_wp2_with (first|(refine tL (o:=⟨cu 6,.load 206 (.tmp 5),_,_,_,cw⟩) ae 206 (.tmp 5) ae b ae 1040 206 _ j.o _ underlying206 ae Za ?_;rw[<-d.o])|(refine wpList_store_row (o:=⟨cw,.store 206 (.tmp 3) (.tmp 6),_,_,_,cw⟩) ae 206 (.tmp 3) (.tmp 6) ae w.h.s ae 1040 (tR st (km st)) A ae d.o 206 (tR (λ_=>0) (λ_=>0)) f.o Za (adD _ _) ?_;rw[<-g.o,<-d.o]));go_ret;refine⟨ae,?_,?_⟩;rw[d.o];exact cM.setRow c (tR st (km st));exact Below.setRow h (eN _) _
end
def Xs(v:c7)(l:List Int)(w:cS)(K:eT cq w v l):
 CP_ 91 #[v] w λe w'=>∃v',e=cj v'/\nX w' w.h.s v' (iN (pW l))/\dR w w':=by
 obtain⟨L,cap,rfl,y,_,hc⟩:=K;have z:=cz hc;clear hc;have g:=cM.alloc w 249 4096 (iJ λ_=>cy);rw[<-Y0] at g;have p:dR w (w.alloc (.cells zeroCells249 249)):=(gJ _ _).alloc (eN _) _;go_enter func91,ntmps91;go_wp2_with (fail);have⟨W,hW⟩:=fP (w.alloc (.cells zeroCells249 249));rw[<-hW] at g p|-;have J:W.h.s=w.h.s+1:=by rw[hW];simp
 have D:Below (w.h.s+1) W W:=gJ _ _;clear hW
 go_loopw [8] (λi wr=>∃(k:Nat),k<=l.n/\i=bU cq k/\cM wr w.h.s 249 4096 (iJ (pW (l.take k)))/\dR w wr)
  (λi _=>l.n-(intOf i).m)
 exact⟨0,gw _,ae,g.congr (λi _=>by simp[iJ,pW]),p⟩;obtain⟨k,N,rfl,a,hbel⟩:=hrel;by_cases d:k<l.n
 . obtain⟨b,o,rfl,s,c⟩:=z.o (by intro h;simp[h] at d);have C:=aap s c hbel d;clear c;by_cases f:0<=l[k]/\l[k]<4096
   . obtain⟨n,x⟩:∃n:Nat,l[k]=(n:Int):=⟨l[k].m,cN⟩;have A:=cz x;rw[x] at C f;clear x;have t:=a.cell (i:=n) cN;have E:=a.frozen n;simp only[iJ] at t;have G:(n:Int)<(4096:Int):=cN;have F:(0:Int)<=(n:Int):=cN;go_wp2;go_roundw;refine⟨k+1,cN,by go_num,a.GQ n cx (λj u=>?_),hbel.setCell (eN _) _⟩;rw[F2 d,A.o];by_cases q:j=n;subst q;simp;rw[cZ q,jG cN,Bool.or_false];exact pR
   . (have m:Hid (∀j,j<4096->pW (l.take (k+1)) j=pW (l.take k) j):=by intro j u;rw[F2 d,jG cN,Bool.or_false]);by_cases B:0<=l[k];have M:¬l[k]<4096:=λh=>f ⟨B,h⟩;rotate_left
     all_goals
      clear f;go_wp2;go_roundw
      case rel=>exact⟨k+1,cN,by go_num,a.congr (λj u=>by simp only[iJ];rw[m.o j u]),hbel⟩
      case measure=>exact pR
 . have H:Hid (l.take k=l):=nU cN;rw[H.o] at a;go_wp2_with (go_at_call 158;refine(PG _ _ _ a).mono ?_;rintro e w1 ⟨v',rfl,I,r⟩);go_ret;exact⟨_,ae,I.mono hbel.size,Below.step hbel hbel.size r⟩
theorem nX.but{w w':cS}{base b:Nat}{v:c7}{l:List (Int×Int)}{st:Nat->Nat}(h:nX w base v l)(d:fB w b st)(c:jX b w w'):nX w' base v l:=by
 refine⟨h.1,h.2.imp id λ⟨g,cap,cur,h1,h2,hg,r⟩=>⟨g,cap,cur,h1,h2,?_,r⟩⟩;have a:g≠b:=by rintro rfl;grind[fB,cM]
 rw[c.block g (rN.1 hg).1 a];exact hg
def lq(st:Nat->Nat)(s:Nat):List (Int×Int):=iN λn=>decide (n<1024/\st n=s)
def L8{s:Nat}(h:nX w base v (lq st s)):fm w v (lq st s):=nX.sl h
theorem aa1(st:Nat->Nat)(s:Nat):iN (pW (mb (λn=>st n==s) 1024))=lq st s:=by unfold lq;refine wy λn a=>?_;unfold pW;rw[wM,qS,qS,vN];grind
theorem Xt{a:Nat->Nat}{s s':Nat}(h:∀n,n<1024->(st n=s↔a n=s')):lq st s=lq a s':=by unfold lq;grind
def fB.FX{B:Nat}(h:fB w b st)(c:Below B w w')(a:b<B):fB w' b st:=cM.FX h c a
theorem fB.lt{b:Nat}{w:cS}{st:Nat->Nat}(h:fB w b st):b<w.h.s:=cM.lt h
section
attribute[local irreducible]wpList Code.wp Calls Oper.wp wpAnyH
def agi(b:Nat)(st:Nat->Nat)(s:Nat)(w:cS)(H:fB w b st):
 CP_ 68 #[bW (cu ⟨b,0,cw⟩),bU .u8 s] w λe w'=>∃r,e=cj r/\nX w' w.h.s r (lq st s)/\dR w w':=by
 have⟨i0,hi,hz0,hz1',hz2⟩:=oG K4;have G:=cz H;clear H;have d:=iD w w.h.s 3 1;obtain⟨f,E⟩:∃f:Nat->Bool,f=λn=>st n==s:=⟨_,ae⟩;have t:iN (pW (mb f 1024))=lq st s:=by rw[E];exact aa1 st s
 have A:=cz t;clear t;have K:Hid (∀k:Nat,k<1024->decide (0<=(k:Int)/\(k:Int)<1024/\st (k:Int).m=s)=f k):=by
  intro k O;rw[E,wM,qS,tZ,xL];constructor
  . exact λh=>h.2.2
  . exact λh=>⟨cN,cN,h⟩
 clear E;go_enter func68,ntmps68
 go_wp2_with fail
 go_loopw [5,7] (λv i wr=>∃(k:Nat),k<=1024/\i=bU cq k/\wr.ownsRow w.h.s 3 1 v (mb f k).n ((mb f k).map (Value.int cq))/\dR w wr)
  (λ_ i _=>1024-(intOf i).m)
 case atStart=>exact⟨0,cN,ae,d,gJ _ _⟩
 case round=>
  clear d;obtain⟨k,O,rfl,a,hbel⟩:=hrel;have x:=hbel.size;by_cases F:k<1024
  . have N:(k:Int)<1024:=cN;have u:fh (k:Int):=by unfold fh;omega
    have o:=K.o k F;have p:=cz (G.o.FX hbel G.o.lt);have Q:=si f k;by_cases c:f k=cx
    . rw[c] at o;have g:Hid (mb f (k+1)=mb f k++[(k:Int)]):=by unfold Hid;rw[zJ,df c]
      have z:=cz o;clear o c;have B:=cz a.lt
      go_wp2_with fail
      refine(Du b st k s _ p.o u).mono ?_;rw[z.o];rintro e w1 ⟨rfl,rfl⟩
      go_wp2_with (first|(at_builtin;refine yE _ ae (.tmp 14) (.tmp 16) 81 ae w.h.s 3 i0 (bU cq 0) 1 8 qt hi hz0 hz1' hz2 ae kB _ _ _ ae (a.alloc _) ⟨wr.h.s,0,cw⟩ 1 1 [bU cq k] ae ae (cell_one_new _ _ _) bg aN cN aF ?_;intro v' w2 m l _))
      go_roundw
      case rel=>
       refine⟨k+1,cN,by go_num,?_,(hbel.alloc cN _).grown l aF (λj h=>(B.o j h).1)⟩;rw[g.o,ji,nL];exact m
      case measure=>exact pR
    . have q:f k=cy:=by simpa using c
      rw[q] at o;have g:Hid (mb f (k+1)=mb f k):=by unfold Hid;rw[zJ,cZ c]
      have z:=cz o;clear o q c
      go_wp2_with fail
      refine(Du b st k s _ p.o u).mono ?_;rw[z.o];rintro e w1 ⟨rfl,rfl⟩;go_wp2;go_roundw
      case rel=>exact⟨k+1,cN,by go_num,by rw[g.o];exact a,hbel⟩
      case measure=>exact pR
  . obtain rfl:k=1024:=cN;have I:=qZ a (PD f 1024 cN) (iE (si f 1024) cN);have L:=cz I;clear a I
    go_wp2_with fail
    refine(Xs _ _ _ L.o).mono ?_;rw[A.o];rintro e w5 ⟨y,rfl,J,D⟩;have C:=Below.step hbel x D;have M:=cz J;clear J;go_wp2;go_ret;exact⟨y,ae,M.o.mono x,C⟩
def Jh(b:Nat)(st:Nat->Nat)(w:cS)(c:fB w b st):
 CP_ 26 #[bW (cu ⟨b,0,cw⟩)] w λe w'=>∃r,e=cj r/\nX w' w.h.s r (lq st 2)/\dR w w':=by have f:=cz c;clear c;go_enter func26,ntmps26;go_wp2_with fail;refine ah (agi b st 2 _ f.o) λy w1⟨d,a⟩=>?_;have g:=cz d;clear d;go_wp2;go_ret;exact⟨y,ae,g.o,a⟩
theorem adF(d:e≠206)(h:w.ownsRow base e size v n xs)(f:fB w b st)(c:jX b w w'):w'.ownsRow base e size v n xs:=by
 refine⟨h.1,h.2.imp id λ⟨g,cap,cur,h1,h2,hg,r⟩=>⟨g,cap,cur,h1,h2,?_,r⟩⟩;have a:g≠b:=by rintro rfl;grind[fB,cM]
 rw[c.block g (rN.1 hg).1 a];exact hg
theorem jX.grown{b:Nat}{w wr w2:cS}{row:Option Nat}(h:jX b w wr)(a:wr.grownBy w2 row)(f:∀k,row=some k->w.heap.size<=k):jX b w w2:=
 ⟨a.os.trans h.os,a.tape.trans h.tape,a.output.trans h.output,iE h.size a.size,λk d c=>
  (a.block k (pM d h.size) (λe=>absurd (f k e.symm) cN)).trans (h.block k d c)⟩
theorem jX.alloc{b:Nat}{w wr:cS}(h:jX b w wr)(o:Obj):jX b w (wr.alloc o):=h.trans (jX.tq ((gJ _ _).alloc (eN _) o))
def Zb(l:cV):List c7:=l.map λi=>bU cq (i:Nat)
def zU(st:Nat->Nat)(n:Int):Option (cV×(Nat->Nat)):=if n<=(fR st:Nat) then cu (iI st n.m) else cw
def ajG:c7->Nat
 |bX _ n _=>n
 |_=>0
def T8{α:Type}(o:Option α):Int:=if o.isSome=cx then 0 else 71
def xg(st:Nat->Nat)(n:Int):cV:=((zU st n).map (·.1)).getD []
def A6(st:Nat->Nat)(n:Int):Nat->Nat:=((zU st n).map (·.2)).getD st
theorem adG(st:Nat->Nat)(k:Nat):∀i∈(iI st k).1,i<1024:=by induction k with|zero=>intro i a;cases a|succ k ih=>cases b:nG (iI st k).2 with|none=>rw[show iI st (k+1)=(match nG (iI st k).2 with|some i=>((iI st k).1++[i],kC (iI st k).2 i 2)|none=>iI st k) from ae,b];exact ih|some j=>rw[BZ st b];intro i a;simp only[gH,fM] at a;rcases a with a|rfl;grind;exact(qv b).1
def adH(b:Nat)(st:Nat->Nat)(n:Int)(G:fh n)(w:cS)(F:fB w b st):
 CP_ 223 #[.pointer (some ⟨b,0,none⟩),.int .i64 n] w λe w'=>∃v,e=.returned (.tuple #[v,.int .i64 (T8 (zU st n))])/\w'.ownsRow w.heap.size 3 1 v (xg st n).length (Zb (xg st n))/\fB w' b (A6 st n)/\jX b w w':=by
 have⟨i0,hi,hz0,hz1',hz2⟩:=oG K4;unfold fh at G;have G:=F.lt;have T:=cz F;clear F;have J:fR st<=1024:=by rw[Et];exact LQ _ _ _
 have f:=iD w w.heap.size 3 1;by_cases m:¬n<=(fR st:Nat)
 . (have l:zU st n=none:=cZ m;have u:xg st n=[]:=by unfold xg;rw[l];rfl);(have G:A6 st n=st:=by unfold A6;rw[l];rfl);rw[l,u,G];have hc:T8 (none:Option (cV×(Nat->Nat)))=71:=rfl;rw[hc];clear l u G hc;have y:((fR st:Nat):Int)<n:=cN;have⟨C,HC⟩:=sO (fR st);rw[HC.o] at y m J;go_enter func223,ntmps223;go_wp2_with fail;refine(count_map b st _ T.o).mono ?_;rw[HC.o];rintro e w1 ⟨rfl,rfl⟩;go_wp2;refine iH (v:=.tuple #[.slice none 0 0,.int .i64 71]) (by simp[results,results223,go_sem]) ae ⟨_,ae,f,T.o,jX.refl _ _⟩
 have Q:n<=(fR st:Nat):=cN;have l:zU st n=some (iI st n.toNat):=df Q;have u:xg st n=(iI st n.toNat).1:=by unfold xg;rw[l];rfl
 have G:A6 st n=(iI st n.toNat).2:=by unfold A6;rw[l];rfl
 rw[l,u,G];have hc:T8 (some (iI st n.toNat))=0:=rfl;rw[hc];clear l u G hc m;have⟨N,hN⟩:=dI n.toNat;rw[hN];have F:N<=fR st:=cN;have H:∀k:Nat,k<=N->((k:Int)<n↔k<N):=by intro k _;omega
 have D:=cz H;clear H;have R:¬((fR st:Nat):Int)<n:=cN;have⟨C,HC⟩:=sO (fR st);rw[HC.o] at R Q J F;have I:=jX.refl b w;have B:Hid (fB w b (iI st 0).2):=T.o;clear hN;go_enter func223,ntmps223;go_wp2_with fail;refine(count_map b st _ T.o).mono ?_;rw[HC.o];rintro e w1 ⟨rfl,rfl⟩;go_wp2_with fail
 go_loopw [6] (λv wr=>∃(k c:Nat)(a:Option Addr),k<=N/\v=.slice a k c/\wr.ownsRow w.heap.size 3 1 (.slice a k c) k (Zb (iI st k).1)/\Hid (fB wr b (iI st k).2)/\jX b w wr)
  (λv _=>N-ajG v)
 exact⟨0,0,none,gw _,ae,f,B,I⟩;clear f I B;obtain⟨k,c,a,H,rfl,i,t,o⟩:=hrel;have F:=o.size;by_cases K:k<N
 . have L:(k:Int)<n:=(D.o k H).2 K;obtain⟨l,u⟩:=zN st (k:=k) am2;obtain⟨j,U⟩:=Gd (st:=(iI st k).2) am2;have s:=BZ st U;have⟨e1,e2,e3⟩:=Gi U;have F:=(qv U).1;have F:=cz s;clear s;have V:=cz e1;clear e1;have X:=cz e2;clear e2;have Y:=cz e3;clear e3;clear l u U;go_wp2_with fail;refine(P6 b _ _ t.o).mono ?_;rw[V.o,X.o,Y.o];rintro e w2 ⟨rfl,M,x⟩;have q:=adF kB i t.o x;have p:=o.trans x;have Z:=cz M;clear M x i;have G:=p.size;have A:=cz q.lt;go_wp2_with (first|(at_builtin;refine yE _ ae (.tmp 25) (.tmp 27) 81 ae w.heap.size 3 i0 (.int .i64 0) 1 8 qt hi hz0 hz1' hz2 ae kB _ _ _ ae (q.alloc _) ⟨w2.heap.size,0,none⟩ 1 1 [.int .i64 j] ae ae (cell_one_new _ _ _) bg aN cN aF ?_;intro v' I r d _))
   have z:=(p.alloc (.cells #[.int .i64 j] 3)).grown d (λk h=>(A.o k h).1);have O:fB I b (kC (iI st k).2 j 2):=cM.grown (cM.alloc_old Z.o _) d (by
    intro h;have:=(A.o b h).1;omega)
   (have G:=cz O;clear O d;obtain⟨J,U,rfl⟩:∃a c,v'=.slice a (k+1) c:=by rcases FZ r with⟨_,V⟩|⟨g,cap,h,_⟩;omega;exact⟨_,_,h⟩);go_roundw;refine⟨k+1,U,J,cN,ae,?_,?_,z⟩;rw[F.o];(show I.ownsRow w.heap.size 3 1 _ _ (Zb ((iI st k).1++[j]));unfold Zb;rw[nL];exact r);rw[F.o];exact G;simp[ajG];omega
 . obtain rfl:k=N:=cN;have L:¬(k:Int)<n:=λh=>K ((D.o k H).1 h);have F:Hid ((iI st k).1.length=k):=(zN st (k:=k) am2).2;have E:=cz i;clear i;go_wp2;refine iH (v:=.tuple #[.slice a k c,.int .i64 0]) (by simp[results,results223,go_sem]) ae ⟨_,ae,by rw[F.o];exact E.o,t.o,o⟩
def lN(w:cS)(T:dU)(v:c7)(l:cV):Prop:=c8 w T 1 v l.n (l.map λ(x:Nat)=>Value.int .u8 (x:Int))/\∀x∈l,x<256
theorem lN.ints(h:lN w T v l):eT .u8 w v (dN l):=by obtain⟨⟨p,e,cap,rfl,q,r,i⟩,h5⟩:=h;refine⟨e,cap,by grind[dN],by grind[dA,maxLen],?_,λn=>?_⟩;intro x d;unfold dN at d;obtain⟨y,s,rfl⟩:=gI.1 d;grind[Lit.wf,IntKind.min,IntKind.max,IntKind.signed,IntKind.bits];(have m:0<l.n:=by rcases l with _|⟨a,l⟩;exact absurd ae n;simp);obtain⟨b,o,f,g,rfl,c,h6⟩:=i m;refine⟨b,o,ae,(rN.1 c).1,λj k=>?_⟩;rw[dA] at k;rw[cell_of_row w b (o+j) f T g c,tj];grind
theorem lN.cap(h:lN w T v l):yI v:=by obtain⟨⟨_,b,cap,rfl,a,_⟩,_⟩:=h;exact⟨_,_,_,ae,a⟩
theorem lN.fr{d:Option Nat}{l:cV}{w w':cS}{T:dU}{v:c7}{bs:cV}(h:lN w T v bs)(s:Fr d l w w')(a:d=cw∨lS T=cy)(b:gV T=cy):lN w' T v bs:=⟨h.1.fr s a b,h.2⟩
theorem lN.own(h:mN w base v l)(a:∀x∈l,x<256):lN w 5 v l:=⟨c8.jR h,a⟩
theorem lN.sec(h:cM w E 36 128 (dg s))(a:j0 s):lN w 36 (bX (cu ⟨E,0,cw⟩) 128 128) s:=by refine⟨⟨by grind,_,_,by rw[a.1],by rw[a.1];omega,by grind[maxLen],λ_=>⟨E,0,_,_,ae,h,λj u b=>?_⟩⟩,a.2⟩;rw[rO] at b;cases c:s[j]? with|none=>grind|some x=>rw[c] at b;cases b;have d:=(nB.1 c).1;rw[a.1] at d;simp_all[dy,dg]
structure Pl where
 dv:Dv
 mp:Nat->Nat
 cR:Nat
 base:Nat
def J5(D M s b:Nat):Nat->c7:=λi=>if i=0 then bW (cu ⟨D,0,cw⟩) else if i=1 then bW (cu ⟨M,0,cw⟩) else if i=2 then bU ct s else bU ct b
def mf(w:cS)(P D M s b:Nat):Prop:=cM w P 147 4 (J5 D M s b)
theorem mf.cells{P s:Nat}(h:mf w P D M s b):w.cell? ⟨P,0,cw⟩=cu (.pointer (cu ⟨D,0,cw⟩))/\w.cell? ⟨P,1,cw⟩=cu (.pointer (cu ⟨M,0,cw⟩))/\w.cell? ⟨P,2,cw⟩=cu (.int ct s)/\w.cell? ⟨P,3,cw⟩=cu (.int ct b):=
 ⟨cM.cell h (i:=0) cN,cM.cell h (i:=1) cN,cM.cell h (i:=2) cN,cM.cell h (i:=3) cN⟩
def gy(x:Nat):Prop:=x<18446744073709551616
structure fc(w:cS)(P D M:Nat)(s:Pl):Prop where
 row:mf w P D M s.cR s.base
 dev:jN w D s.dv
 map:fB w M s.mp
 ok:gy s.cR/\gy s.base
theorem fc.fr{l:cV}{w w':cS}{P D M:Nat}{s:Pl}(h:fc w P D M s)(f:Fr cw l w w')(b:P∉l)(a:M∉l):fc w' P D M s:=
 ⟨cM.fr h.row f aD (.inr b),h.dev.fr f,h.map.fr f a,h.ok⟩
theorem fc.cP{P:Nat}{s:Pl}(h:fc w P D M s)(b:dR w w'):fc w' P D M s:=h.fr (Fr.Ev b []) eQ eQ
theorem fc.tyM{P:Nat}{s:Pl}(h:fc w P D M s):iA w M=cu 206:=cM.ty h.map
theorem fc.tyP{P:Nat}{s:Pl}(h:fc w P D M s):iA w P=cu 147:=cM.ty h.row
theorem ajI{a:Nat}{u:dU}(c:iA w a=cu t)(d:iA w b=cu u)(h:t≠u):a≠b:=by grind
theorem fc.ne{P:Nat}{s:Pl}(h:fc w P D M s):P≠M:=ajI h.tyP h.tyM kB
theorem fc.aic{P:Nat}{s:Pl}(h:fc w P D M s)(a:jX b w w')(c:vt w D s.dv l)(g:b∉l)(d:b≠P)(e:b≠M):fc w' P D M s:=by refine⟨?_,?_,fB.rS h.map a (pU e),h.ok⟩;unfold mf cM;rw[a.block P (cM.lt h.row) (pU d)];exact h.row;exact(c.pY (qT.rS (l:=[b]) a (eN _) aY) (λk f=>⟨c.lt k f,by grind⟩)).shut
theorem fc.but{w w':cS}{P D M b:Nat}{s:Pl}{t:dU}(h:fc w P D M s)(d:jX b w w')(a:iA w b=cu t)(g:lS t=cy)(c:gV t=cy):fc w' P D M s:=by have⟨l,hl⟩:=h.dev.open;refine h.aic d hl (λf=>?_) (λe=>?_) (λe=>?_);have⟨u,hu,hd⟩:=hl.ty b f;grind;rw[e,h.tyP] at a;cases a;cases c;rw[e,h.tyM] at a;cases a;cases c
theorem agj(b:Nat)(w:cS)(a:gE):jX b w (w.setRow b a):=
 ⟨ae,ae,ae,by simp_all,λk _ c=>setRow_other w b k a c⟩
def fc.yS{P:Nat}{s:Pl}(h:fc w P D M s)(b:fB w' M mp)(a:jX M w w'):fc w' P D M {s with mp:=mp}/\Fr cw [M] w w':=by have f:Fr cw [M] w w':=Fr.rS a h.tyM ae eQ;exact⟨⟨cM.fr h.row f aD (.inr (by simp[h.ne])),h.dev.fr f,b,h.ok⟩,f⟩
def fc.dlt{P:Nat}{s:Pl}(h:fc w P D M s):∀a,cu D=cu a->iA w a=cu 127:=λa e=>by cases e;exact h.dev.Wi
def pF(b:cV):cV:=b++replicate (128-b.n) 0
theorem G6{b:cV}(h:b.n<=128)(a:∀x∈b,x<256):j0 (pF b):=by grind[pF,j0]
theorem T9{b:cV}:cL 128 (dg b)=cL 128 (dg (pF b)):=by refine JR λi a=>?_;grind[dg,pF]
theorem Ji{b:cV}(h:b.n=128):pF b=b:=by simp_all[pF]
def ky(s:Pl)(i:Int)(b:cV):Pl×(cQ×Int):=
 ({s with dv:=(iq s.dv i (pF b)).1},if(iq s.dv i (pF b)).2=0 then((i.m,s.cR,kU (pF b)),0) else(cX,(iq s.dv i (pF b)).2))
def tu(s:Pl)(b:cV):Pl×(cQ×Int):=
 if b.n>128 then(s,(cX,92)) else
 match nG s.mp with
 |none=>(s,(cX,71))
 |some i=>
  if(ky s i b).2.2=0 then({(ky s i b).1 with mp:=kC s.mp i 2},(ky s i b).2)
  else((ky s i b).1,(cX,(ky s i b).2.2))
def eW(s:Pl)(i:Int)(b:cV):Pl×(cQ×Int):=
 if b.n>128 then(s,(cX,92)) else
 if 0<=i/\i<1024/\s.mp i.m=2 then ky s i b else(s,(cX,72))
def gr(s:Pl)(q:cQ):Pl×(cV×Int):=
 if q=cX then(s,(ff,0)) else
 ({s with dv:=(ik s.dv q.1).1},
  if(ik s.dv q.1).2.2=41 then(ff,91) else
  if(ik s.dv q.1).2.2≠0 then(ff,(ik s.dv q.1).2.2) else
  if kU (ik s.dv q.1).2.1≠q.2.2 then(ff,91) else((ik s.dv q.1).2.1,0))
def qd(s:Pl)(q:cQ):Pl×Int:=
 if q=cX then(s,0) else
 if q.2.1>s.base then({s with mp:=sQ s.mp q.1 2 1},Fh s.mp q.1 2) else({s with mp:=sQ s.mp q.1 2 3},Fh s.mp q.1 2)
def iR(s:Nat):Nat:=(s+1)%18446744073709551616
def tS(s:Pl):Pl:={s with cR:=iR s.cR}
def oU(s:Pl):Pl:={s with mp:=mV s.mp,base:=s.cR,cR:=iR s.cR}
theorem aa3(D M s b:Nat):(#[Value.pointer (cu ⟨D,0,cw⟩),bW (cu ⟨M,0,cw⟩),bU ct s,bU ct b]:gE)=cL 4 (J5 D M s b):=by rfl
theorem mf.of{P s:Nat}(h:w.h[P]?=cu (.cells #[bW (cu ⟨D,0,cw⟩),bW (cu ⟨M,0,cw⟩),bU ct s,bU ct b] 147 (0,0))):mf w P D M s b:=by grind[mf,cM,aa3]
def zV(D M s b:Nat)(w:cS):
 CP_ 85 #[bW (cu ⟨D,0,cw⟩),bW (cu ⟨M,0,cw⟩),bU ct s,bU ct b] w λe w'=>e=cj (bW (cu ⟨w.h.s,0,cw⟩))/\mf w' w.h.s D M s b/\dR w w':=by have a:=mf.of (AI w (.cells #[dE D 0,dE M 0,bU ct s,bU ct b] 147));have d:=cz a;clear a;have c:dR w (w.alloc (.cells #[dE D 0,dE M 0,bU ct s,bU ct b] 147)):=(gJ _ _).alloc (eN _) _;have f:=cz c;clear c;go_enter func85,ntmps85;go_wp2;go_ret;exact⟨ae,d.o,f.o⟩
def nO(P D M s b:Nat)(w:cS)(h:mf w P D M s b):CP_ 106 #[bW (cu ⟨P,0,cw⟩)] w λe w'=>e=cj (bW (cu ⟨D,0,cw⟩))/\w=w':=by obtain⟨a,-,-,-⟩:=h.cells;clear h;go_enter func106,ntmps106;go_wp2;go_ret;exact aE
def qw(P D M s b:Nat)(w:cS)(h:mf w P D M s b):CP_ 25 #[bW (cu ⟨P,0,cw⟩)] w λe w'=>e=cj (bW (cu ⟨M,0,cw⟩))/\w=w':=by obtain⟨-,a,-,-⟩:=h.cells;clear h;go_enter func25,ntmps25;go_wp2;go_ret;exact aE
def wF(P D M s b:Nat)(w:cS)(h:mf w P D M s b):CP_ 52 #[bW (cu ⟨P,0,cw⟩)] w λe w'=>e=cj (bU ct s)/\w=w':=by obtain⟨-,-,a,-⟩:=h.cells;clear h;go_enter func52,ntmps52;go_wp2;go_ret;exact aE
def Rs(P D M s b:Nat)(w:cS)(h:mf w P D M s b):CP_ 119 #[bW (cu ⟨P,0,cw⟩)] w λe w'=>e=cj (bU ct b)/\w=w':=by obtain⟨-,-,-,a⟩:=h.cells;clear h;go_enter func119,ntmps119;go_wp2;go_ret;exact aE
theorem L9(D M s b x:Nat):∀j,j<4->(if j=2 then(bU ct x:c7) else J5 D M s b j)=J5 D M x b j:=by grind[J5]
theorem aa4(D M s b x:Nat):∀j,j<4->(if j=3 then(bU ct x:c7) else J5 D M s b j)=J5 D M s x j:=by intro j a;unfold J5;grind
def wG(s:Nat):IntKind.u64.wrap ((s:Int)+1)=(((s+1)%18446744073709551616:Nat):Int):=by rfl
theorem Dz(s:Nat):gy (iR s):=by grind[gy,iR]
def Rt(P D M s b:Nat)(w:cS)(h:mf w P D M s b):CP_ 56 #[bW (cu ⟨P,0,cw⟩)] w λe w'=>e=cj (cg #[])/\mf w' P D M (iR s) b/\jX P w w':=by obtain⟨-,-,g,-⟩:=h.cells;have i:=cM.frozen h 2;have d:mf (w.setCell ⟨P,2,cw⟩ (bU ct (iR s:Nat))) P D M (iR s) b:=(cM.set h 2 (bU ct (iR s:Nat))).congr (L9 D M s b (iR s));have c:=cz d;clear d h;have a:=cz (sy P w 2 (bU ct (iR s:Nat)));have f:IntKind.u64.wrap ((s:Int)+1)=((iR s:Nat):Int):=wG s;have⟨x,hx⟩:=dI (iR s);rw[hx] at f c a|-;clear hx;go_enter func56,ntmps56;go_wp2;go_end0;exact⟨ae,c.o,a.o⟩
def Ma(P D M:Nat)(s:Pl)(w:cS)(h:fc w P D M s):CP_ 171 #[bW (cu ⟨P,0,cw⟩)] w λe w'=>e=cj (cg #[])/\fc w' P D M (oU s)/\Fr cw [P,M] w w':=by
 obtain⟨-,u,-,-⟩:=h.row.cells;have H:=cz h;clear h;have⟨x,hx⟩:=dI (iR s.cR);have B:IntKind.u64.wrap ((s.cR:Int)+1)=((x:Nat):Int):=by rw[<-hx];exact wG s.cR
 have m:oU s= {s with mp:=mV s.mp,base:=s.cR,cR:=x}:=by unfold oU;rw[hx]
 rw[m];have n:gy x:=by rw[<-hx];exact Dz _
 have t:=cz n;clear hx m n;go_enter func171,ntmps171;go_wp2_with fail
 refine aj (Xr M s.mp _ H.o.map) λw1⟨i,g⟩=>?_;have⟨hp1,hf1⟩:=H.o.yS i g;obtain⟨-,-,q,v⟩:=hp1.row.cells;have z:=cM.frozen hp1.row 2;have A:=cM.frozen hp1.row 3;have p:mf (w1.setCell ⟨P,3,cw⟩ (bU ct s.cR)) P D M s.cR s.cR:=(cM.set hp1.row 3 (bU ct s.cR)).congr (aa4 D M s.cR s.base s.cR);have l:mf ((w1.setCell ⟨P,3,cw⟩ (bU ct s.cR)).setCell ⟨P,2,cw⟩ (bU ct x)) P D M x s.cR:=(cM.set p 2 (bU ct x)).congr (L9 D M s.cR s.cR x);have b:jX P w1 ((w1.setCell ⟨P,3,cw⟩ (bU ct s.cR)).setCell ⟨P,2,cw⟩ (bU ct x)):=(sy P w1 3 _).setCell 2 _;have c:Fr cw [P,M] w1 ((w1.setCell ⟨P,3,cw⟩ (bU ct s.cR)).setCell ⟨P,2,cw⟩ (bU ct x)):=Fr.rS b hp1.tyP ae eQ;have j:=H.o.ok;have a:fc ((w1.setCell ⟨P,3,cw⟩ (bU ct s.cR)).setCell ⟨P,2,cw⟩ (bU ct x)) P D M {s with mp:=mV s.mp,base:=s.cR,cR:=x}:=
  ⟨l,hp1.dev.fr c,fB.rS hp1.map b (pU hp1.ne),t.o,j.1⟩
 have o:=cz (And.intro a ((hf1.mono (d':=cw) aK aK (λk r=>.inl (by simp at r;simp[r]))).trans c));clear a hf1 c b l j hp1 i g;have d:=(mf.cells p).2.2.1;have f:=cM.frozen p 2;clear p;have⟨y,HY⟩:=sO s.cR;rw[HY.o] at q d f B o;clear u;go_upto_region 2 with(fail);clear q v z A;have⟨w2,hw2⟩:=dI (w1.setCell ⟨P,3,cw⟩ (bU ct y));rw[hw2] at d f o|-;clear hw2;go_wp2;go_end0;exact⟨ae,by rw[HY.o];exact o.o.1,o.o.2⟩
theorem Ru{d:Dv}{i:Int}(h:(iq d i s).2=0):0<=i/\i<(d.n:Int):=by by_cases a:Ri d i=cx;exact l6 a;simp_all[iq]
theorem lN.form{b:cV}(h:lN w T v b):∃a cap,v=bX a b.n cap/\b.n<=cap/\b.n<=9223372036854775807:=by obtain⟨⟨_,a,cap,rfl,c,d,_⟩,_⟩:=h;exact⟨a,cap,ae,c,by grind[maxLen]⟩
theorem aa5(h:st i=1):kC (kC st i 2) i 1=st:=by grind[aaJ,aaI]
theorem aa6(st:Nat->Nat)(s:Nat)(i:Int):Q0 (lq st s) i=decide (0<=i/\i<1024/\st i.m=s):=by unfold Q0;rw[wM,qS,qS];have a:gT (lq st s)=cx:=qY _;have e:nV (lq st s)=nu (lq st s):=BO a;rw[e,vM];unfold lq;rw[zI];grind
structure alw(W:cS)(P D M:Nat)(s:Pl)(d:cV)(w:cS)(E3 E4 E6:Nat)(q:cQ)(rs:cV):Prop where
 pl:fc W P D M s
 dv:∃l,vt W D s.dv l/\E4∉l/\E6∉l
 r3:Fb W E3 q
 r4:cM W E4 36 128 (dg ff)
 r6:cM W E6 36 128 (dg rs)
 fr:Fr (cu D) [] w W
 o4:w.h.s<=E4
 o6:w.h.s<=E6
 n46:E4≠E6
def s6(h:bodyPost P fn R .ret a w):bodyPost P fn R .ret a w:=h
def Rv:prog.built 36 []=cu zeroCells36:=dC
theorem aid{cells:gE}(h:P.built t []=cu cells)(f:Nat×Operand->Nat×c7):P.built t (Array.map f #[]).t=cu cells:=by grind
def yT{P:oN}(w:cS)(d:Nat)(e:dU)(sz:Nat)(xs g:gE)(f:Nat->Bool):∀(c:cV),
 (∀i∈c,∃a b,(part e xs (i*sz)).run P w=.ok a w/\(part e g (i*sz)).run P w=.ok b w/\(Op.equalIn d e a b).run P w=.ok (f i) w)->(Op.eqItems d e sz xs g c).run P w=.ok (c.all f) w
 | [],_=>by rfl
 |i::c,h=>by
  have⟨a,b,p1,p2,p3⟩:=h i nC;have l:=yT w d e sz xs g f c (λj k=>h j (lu _ k));simp only[Op.eqItems,lh,p1,p2,p3,nW,all_cons];cases f i
  . simp
  . simpa using l
def Ua(l:Nat->cQ)(k:Nat)(a:k<8)(W:cS):(part 106 (cL 24 (eV l)) (k*3)).run prog W=.ok (bV (cL 3 (dF (l k)))) W:=by have⟨it,hi,hs⟩:=wE kx;simp[part,isAgg106,sizeOf,typeInfo,hi,hs,LZ 24 l k cN]
def Zc(l m:Nat->cQ):Bool:=(range 8).all λi=>decide (l i=m i)
def adI(l m:Nat->cQ)(w:cS):(Op.equal 191 (bV (cL 24 (eV l))) (bV (cL 24 (eV m)))).run prog w=.ok (Zc l m) w:=by have⟨it,a,hs⟩:=wE kx;have hc:prog.cellsOf 106=3:=dC;unfold Op.equal Op.maxDepth;rw[run_equalIn_array w 9999 _ _ Rm a,hc];refine yT w 9999 106 3 _ _ _ (range 8) λi a=>?_;rw[yo] at a;refine⟨_,_,Ua l i a w,Ua m i a w,?_⟩;have:=LN (l i).1 (l i).2.1 (l i).2.2 (m i).1 (m i).2.1 (m i).2.2 w 9997;rw[WZ] at this;exact this
theorem aie(l m:Nat->cQ)(r:Bool)(h:Zc l m=r)(w:cS):(binOp .eql 191 (bV (cL 24 (eV l))) (bV (cL 24 (eV m)))).run prog w=.ok (bZ r) w:=by have a:=adI l m w;simp_all[binOp]
theorem P7(s:cV)(k:Nat)(a:k<128)(W:cS):(part 5 (cL 128 (dg s)) (k*1)).run prog W=.ok (dg s k) W:=by have h5:(isAgg 5).run prog W=.ok cy W:=isAgg5 W;simp_all[part,dy]
def Mb(s t:cV):Bool:=(range 128).all λi=>decide (s.getD i 0=t.getD i 0)
theorem aa7{t:cV}(b:j0 s)(c:j0 t):Mb s t=decide (s=t):=by unfold Mb;rw[wM,qS,rz];constructor;intro h;apply xK;intro i;by_cases a:i<128;have:=h i (yo.2 a);rw[qS,zE,zE,jE (by rw[b.1];exact a),jE (by rw[c.1];exact a)] at this;grind;rw[getElem?_eq_none (by rw[b.1];omega),getElem?_eq_none (by rw[c.1];omega)];grind
theorem aif:prog.underlying 36=cu (.array 128 5):=by rfl
def agk(s t:cV)(w:cS):(Op.equal 36 (bV (cL 128 (dg s))) (bV (cL 128 (dg t)))).run prog w=.ok (Mb s t) w:=by have⟨it,a,hs⟩:=wE CE;have hc:prog.cellsOf 5=1:=dC;unfold Op.equal Op.maxDepth;rw[run_equalIn_array w 9999 _ _ aif a,hc];unfold Mb;refine yT w 9999 5 1 (cL 128 (dg s)) (cL 128 (dg t)) (λi=>decide (s.getD i 0=t.getD i 0)) (range 128) (λi a=>?_);rw[yo] at a;refine⟨_,_,P7 s i a w,P7 t i a w,?_⟩;unfold dg;rw[I7 w 9998 5 .u8 .u8 _ _ yU];congr 1;rw[wM];simp;omega
theorem ahH(s t:cV)(r:Bool)(h:Mb s t=r)(w:cS):(binOp .neq 36 (bV (cL 128 (dg s))) (bV (cL 128 (dg t)))).run prog w=.ok (bZ !r) w:=by have a:=agk s t w;simp_all[binOp]
theorem iO:(#[Value.int cq 0,bU ct 0,bU .u32 0]:gE)=cL 3 (dF cX):=rfl
theorem cM.but{w w':cS}{b c:Nat}{t:dU}{n:Nat}{f:Nat->c7}(h:cM w b t n f)(d:jX c w w')(a:b≠c):cM w' b t n f:=by unfold cM;rw[d.block b (cM.lt h) a];exact h
theorem Cb(h:cM w b t n f)(a:A=cL n f):w.rangeAt b 0 A.t:=by grind[pE]
def Rw(h:k∉oK w D)(b:dR w w')(a:iA w D=cu 127):k∉oK w' D:=by rw[sC (b.block D (iy a))];exact h
def Mc(h:k∉oK w D)(b:Fr cw l w w')(a:iA w D=cu 127):k∉oK w' D:=by rw[sC (b.fI a aD aD)];exact h
def mX:Nat->cQ:=λ_=>cX
theorem DC{s:Pl}(h:pD s.dv)(q:cQ):j0 (gr s q).2.1:=by grind[gr,xf,Je]
def du(s:Pl)(q:cQ):Pl×((Nat->cQ)×Int):=
 if(gr s q).2.2≠0 then((gr s q).1,(mX,(gr s q).2.2)) else
 match pZ (gr s q).2.1 with
 |none=>((gr s q).1,(mX,91))
 |some l=>((gr s q).1,(l,0))
def fD(s:Pl)(l:Nat->cQ):Pl×(cQ×Int):=
 match mW l with
 |none=>(s,(cX,51))
 |some b=>tu s b
theorem Gj{l:Nat->cQ}{b:cV}(h:mW l=cu b):j0 b:=by grind[ady]
structure Way where
 first:Nat->cQ
 mG:Nat->cQ
 block:cQ
def P8:Way:=⟨mX,mX,cX⟩
def nR(a:Way):Nat->c7:=λi=>if i<24 then eV a.first i else if i<48 then eV a.mG (i-24) else dF a.block (i-48)
theorem adJ(a:Way):∀i,(nR a i).oneCell'=cx:=by grind[nR,nQ,dJ]
def agl:(prog.info? 193).map (·.size)=cu 51:=dC
def agm:(#[Value.int cq 0,bU ct 0,bU .u32 0,Value.int cq 0,bU ct 0,bU .u32 0,Value.int cq 0,bU ct 0,bU .u32 0,Value.int cq 0,bU ct 0,bU .u32 0,Value.int cq 0,bU ct 0,bU .u32 0,Value.int cq 0,bU ct 0,bU .u32 0,Value.int cq 0,bU ct 0,bU .u32 0,Value.int cq 0,bU ct 0,bU .u32 0,Value.int cq 0,bU ct 0,bU .u32 0,Value.int cq 0,bU ct 0,bU .u32 0,Value.int cq 0,bU ct 0,bU .u32 0,Value.int cq 0,bU ct 0,bU .u32 0,Value.int cq 0,bU ct 0,bU .u32 0,Value.int cq 0,bU ct 0,bU .u32 0,Value.int cq 0,bU ct 0,bU .u32 0,Value.int cq 0,bU ct 0,bU .u32 0,Value.int cq 0,bU ct 0,bU .u32 0]:gE)=cL 51 (nR P8):=rfl
theorem nS{w:cS}{b:Nat}{t:dU}{m:Nat}{f:Nat->c7}(h:cM w b t m f){o n:Nat}(c:o+n<=m):w.there b o n:=λj a=>
 ⟨by grind[cM.cell],cM.frozen h _⟩
theorem DD(n:Nat)(g:Nat->c7)(j o:Nat)(h:o<=j/\j<o+n):(λi=>(cL n g).t.getD i (bU .u8 0)) (j-o)=g (j-o):=by show(cL n g).t.getD (j-o) (bU .u8 0)=_;rw[zE,mR (xs:=cL n g),dy,df cN];rfl
theorem aa8{a:Way}(h:cM w E 193 51 (nR a))(l:Nat->cQ):cM (w.setCells E 0 (cL 24 (eV l)).t) E 193 51 (nR {a with first:=l}):=by refine cM.congr (cM.setCells _ 0 h) λj c=>?_;unfold KO;rw[mT,cW];by_cases b:0<=j/\j<0+24;rw[df b,DD 24 _ j 0 b];simp_all[nR];simp_all[cZ,nR]
theorem Xu{a:Way}(h:cM w E 193 51 (nR a))(l:Nat->cQ):cM (w.setCells E 24 (cL 24 (eV l)).t) E 193 51 (nR {a with mG:=l}):=by refine cM.congr (cM.setCells _ 24 h) λj c=>?_;unfold KO;rw[mT,cW];by_cases b:24<=j/\j<24+24;rw[df b,DD 24 _ j 24 b];simp_all[nR,cZ];rw[cZ b];unfold nR;grind
theorem aa9{a:Way}(h:cM w E 193 51 (nR a))(q:cQ):cM (w.setCells E 48 (cL 3 (dF q)).t) E 193 51 (nR {a with block:=q}):=by refine cM.congr (cM.setCells _ 48 h) λj c=>?_;unfold KO;rw[mT,cW];by_cases b:48<=j/\j<48+3;rw[df b,DD 3 _ j 48 b];unfold nR;grind;simp_all[cZ,nR]
theorem Rx{a:Way}(h:cM w E 193 51 (nR a))(d:k<8)(c:A=cL 3 (dF (a.first k))):w.rangeAt E (k*3) A.t:=by
 intro j v b;rw[c,mR (xs:=cL 3 _),dy] at b;split at b;next hj=>cases b;rw[cM.cell h (i:=k*3+j) cN];unfold nR eV;grind
 cases b
theorem Ry(E o k:Nat)(b:k<8)(W:cS):(Instr.indexAt 191 (bW (cu ⟨E,o,cw⟩)) (bU cq k)).run prog W=.ok (bW (cu ⟨E,o+k*3,cw⟩)) W:=by have⟨it,hi,hs⟩:=wE kx;have a:(k:Int)<8:=cN;simp[Instr.indexAt,asIntOf,yO Rm,Instr.sureAddr,sizeOf,typeInfo,hi,hs,Addr.add];grind
theorem zW(a:j0 s){l:Nat->cQ}(h:pZ s=cu l):∀i,dD (l i):=by intro i;unfold pZ at h;split at h;cases h;unfold EX;split;exact Gb λx b=>a.2 x (mS (lQ b));grind[dD,cX];cases h
theorem dV:dD cX:=⟨by decide,by decide,by decide⟩
theorem yV{s:Pl}(h:pD s.dv)(q:cQ):∀i,dD ((du s q).2.1 i):=by intro i;unfold du;split;exact dV;cases a:pZ (gr s q).2.1 with|none=>exact dV|some l=>exact zW (DC h q) a i
def fi(s:Pl)(cO:cQ)(i:Nat):Pl×(Way×Int):=
 if(du s cO).2.2≠0 then((du s cO).1,(P8,(du s cO).2.2)) else
 if(du (du s cO).1 ((du s cO).2.1 (i/8))).2.2≠0 then((du (du s cO).1 ((du s cO).2.1 (i/8))).1,(P8,(du (du s cO).1 ((du s cO).2.1 (i/8))).2.2)) else
 ((du (du s cO).1 ((du s cO).2.1 (i/8))).1,
   (⟨(du s cO).2.1,(du (du s cO).1 ((du s cO).2.1 (i/8))).2.1,(du (du s cO).1 ((du s cO).2.1 (i/8))).2.1 (i%8)⟩,0))
theorem Rz{a:Way}(h:cM w E 193 51 (nR a))(c:A=cL 3 (dF a.block)):w.rangeAt E 48 A.t:=by
 intro j v b;rw[c,mR (xs:=cL 3 _),dy] at b;split at b;next hj=>cases b;rw[cM.cell h (i:=48+j) cN];unfold nR;grind
 cases b
theorem adK{s:Pl}(h:pD s.dv)(q:cQ):pD (gr s q).1.dv:=by unfold gr;split;exact h;exact Ew h
theorem Ub{s:Pl}(h:pD s.dv)(q:cQ):pD (du s q).1.dv:=by grind[du,adK]
theorem rU{s:Pl}(h:pD s.dv)(q:cQ)(i:Nat):(∀k,dD ((fi s q i).2.1.first k))/\(∀k,dD ((fi s q i).2.1.mG k))/\dD (fi s q i).2.1.block:=by unfold fi;split;exact⟨λ_=>dV,λ_=>dV,dV⟩;split;exact⟨λ_=>dV,λ_=>dV,dV⟩;grind[yV,Ub]
def mz(i:Int):Bool:=decide (0<=i/\i<64)
theorem Gk(i:Int)(w:cS):CP_ 108 #[bU cq i] w λe w'=>e=cj (bZ (mz i))/\w=w':=by
 by_cases b:0<=i;have a:mz i=decide (i<64):=by unfold mz;grind
 rw[a];have c:decide (0<=i)=cx:=gM b;clear a;have⟨r,a⟩:=dI (decide (i<64));rw[a];rotate_left;have a:mz i=cy:=jG (λx=>b x.1);rw[a];have c:decide (0<=i)=cy:=jG b;clear a
 all_goals
  go_enter func108,ntmps108;go_wp2;go_ret;exact aE
def oV(s:Pl)(cO:cQ)(i:Int):Pl×(cV×Int):=
 if mz i=cy then(s,(ff,111)) else
 if(fi s cO i.m).2.2≠0 then((fi s cO i.m).1,(ff,(fi s cO i.m).2.2)) else
 gr (fi s cO i.m).1 (fi s cO i.m).2.1.block
def Zd:(prog.info? 106).map (λi=>(i.zero,i.s,i.bytes))=cu (cu (bV #[bU cq 0,bU ct 0,bU .u32 0]),3,24):=dC
def iS(l:List cQ):List c7:=l.flatMap λp=>(cL 3 (dF p)).t
theorem yW(l:List cQ):(iS l).n=l.n*3:=by unfold iS;induction l<;>grind[cW]
theorem jk(l m:List cQ):iS (l++m)=iS l++iS m:=by grind[iS]
theorem qe(p:cQ):iS [p]=(cL 3 (dF p)).t:=by rfl
def oO(l:List cQ):∀u∈iS l,u.oneCell'=cx:=by intro u a;unfold iS at a;obtain⟨p,_,h⟩:=Dh.1 a;rw[zM] at h;simp at h;rcases h with rfl|rfl|rfl<;>rfl
def il(w:cS)(base:Nat)(v:c7)(l:List cQ):Prop:=w.ownsRow base 106 3 v l.n (iS l)
def il.nil(w:cS)(base:Nat):il w base (bX cw 0 0) []:=iD _ _ _ _
def lk(w:cS)(v:c7)(l:List cQ):Prop:=c8 w 106 3 v l.n (iS l)
theorem il.sl{l:List cQ}(h:il w base v l):lk w v l:=c8.jR h
theorem Xv(b:Region.wanted op (yielded ops a.tmps)=cx)(t:dU)(parts:Array (Nat×Operand))(ho:op.op=.build t parts)(cells:gE)(c:P.built t (parts.map λ(i,x)=>(i,a.eval x)).t=cu cells):YieldsIf P ops S op (bV cells) a:=by refine .inl ⟨b,λw _=>?_⟩;simp_all[execOp,run_build]
def agn:(prog.info? 278).map (λi=>(i.zero,i.s,i.bytes))=cu (cu (bV #[bU cq 0,bU ct 0,bU .u32 0,bU cq 0,bU ct 0,bU .u32 0,bU cq 0,bU ct 0,bU .u32 0]),9,72):=dC
def adL(p q r:cQ):prog.built 278 [(0,bV (cL 3 (dF p))),(1,bV (cL 3 (dF q))),(2,bV (cL 3 (dF r)))]=cu (cL 9 (eV λi=> [p,q,r].getD i cX)):=by
 have⟨it,h1,h2,h3,h4⟩:=oG agn;have⟨ie,i1,i2,i3,i4⟩:=oG Zd;have b:prog.underlying 278=cu (.array 3 106):=underlying278;unfold Program.built;rw[h1,b];simp only[h2,i1,i3];have c:=Great.fill_whole (s:=3) cN [Value.agg (cL 3 (dF p)),bV (cL 3 (dF q)),bV (cL 3 (dF r))]
  (Value.agg #[bU cq 0,bU ct 0,bU .u32 0,bU cq 0,bU ct 0,bU .u32 0,bU cq 0,bU ct 0,bU .u32 0]).cells
  (by intro v a;simp at a;rcases a with rfl|rfl|rfl<;>exact cW _ _) ae
 refine(show _=_ from c).trans ?_;congr 1
theorem Uc(l:Nat->cQ)(k:Nat)(b:k<3)(W:cS):(Instr.index 278 (bV (cL 9 (eV l))) (bU cq k)).run prog W=.ok (bV (cL 3 (dF (l k)))) W:=by
 have c:prog.underlying 278=cu (.array 3 106):=underlying278;have⟨it,hi,hs⟩:=wE kx;have a:(part 106 (cL 9 (eV l)) (k*3)).run prog W=.ok (bV (cL 3 (dF (l k)))) W:=by simp[part,isAgg106,sizeOf,typeInfo,hi,hs,LZ 9 l k cN]
 simp_all[Instr.index,asIntOf]
theorem Md(b:Region.wanted op (yielded ops a.tmps)=cx)(t:dU)(x i:Operand)(ho:op.op=.indexAddr t x i)(v:c7)(c:∀w,(Instr.indexAt t (a.eval x) (a.eval i)).run P w=.ok v w):YieldsIf P ops S op v a:=by refine .inl ⟨b,λw _=>?_⟩;simp_all[execOp]
def lI(a:Way)(q:cQ)(i:Nat):List cQ:=[a.block,a.first (i/8),q].filter λp=>decide (p≠cX)
theorem zX(f:α->Bool)(l:List α)(a:k<l.n):(l.take (k+1)).filter f=(l.take k).filter f++if f l[k]=cx then [l[k]] else []:=by grind[take_succ_eq_append_getElem]
theorem Jj(s:Pl)(q:cQ):(gr s q).1.dv.ops<=s.dv.ops+1:=by unfold gr;split;grind;show(fC s.dv).ops<=_;unfold fC;grind
theorem xW(s:Pl)(q:cQ):(du s q).1.dv.ops<=s.dv.ops+1:=by grind[du,Jj]
theorem uQ(s:Pl)(q:cQ)(i:Nat):(fi s q i).1.dv.ops<=s.dv.ops+2:=by grind[fi,xW]
theorem zY(d:Dv)(i:Int)(b:cV):(iq d i b).1.ops<=d.ops+1:=by
 have h:(fC d).ops<=d.ops+1:=by unfold fC;grind
 grind[iq,j8]
theorem Jk(s:Pl)(b:cV):(tu s b).1.dv.ops<=s.dv.ops+1:=by unfold tu;split;grind;cases nG s.mp with|none=>grind|some i=>simp only;split<;>exact zY _ _ _
theorem nI(s:Pl)(l:Nat->cQ):(fD s l).1.dv.ops<=s.dv.ops+1:=by unfold fD;cases mW l with|none=>grind|some b=>exact Jk s b
theorem DE(b:cV)(h:∀x∈b,x<256):kU b<4294967296:=LM 0 b kB h
theorem J6{s:Pl}(h:gy s.cR)(b:cV)(c:∀x∈b,x<256):dD (tu s b).2.1:=by unfold tu;split;exact dV;next hl=>cases a:nG s.mp with|none=>exact dV|some i=>have d:=(qv a).1;simp only;split;unfold ky;simp only;split;exact⟨by grind,h,DE _ (G6 cN c).2⟩;exact dV;exact dV
theorem oh{s:Pl}(h:gy s.cR)(l:Nat->cQ):dD (fD s l).2.1:=by unfold fD;cases a:mW l with|none=>exact dV|some b=>exact J6 h b (Gj a).2
def jd(l:Nat->cQ)(k:Nat)(p:cQ):Nat->cQ:=λi=>if i=k then p else l i
theorem vY{l:Nat->cQ}{p:cQ}(a:∀i,dD (l i))(b:dD p):∀i,dD (jd l k p i):=by grind[jd]
def kZ(s:Pl)(cO:cQ)(i:Int)(b:cV):Pl×(cQ×List cQ×Int):=
 if mz i=cy then(s,(cO,[],111)) else
 if 128<b.n then(s,(cO,[],92)) else
 let w:=fi s cO i.m
 if w.2.2≠0 then(w.1,(cO,[],w.2.2)) else
 if fR w.1.mp<3 then(w.1,(cO,[],71)) else
 let p:=tu w.1 b
 if p.2.2≠0 then(p.1,(cO,[],p.2.2)) else
 let u:=fD p.1 (jd w.2.1.mG (i.m%8) p.2.1)
 if u.2.2≠0 then(u.1,(cO,[],u.2.2)) else
 let t:=fD u.1 (jd w.2.1.first (i.m/8) u.2.1)
 if t.2.2≠0 then(t.1,(cO,[],t.2.2)) else
 (t.1,(t.2.1,lI w.2.1 cO i.m,0))
theorem Me(s:Pl)(q:cQ):(du s q).1.cR=s.cR:=by grind[du,gr]
theorem uR(s:Pl)(q:cQ)(i:Nat):(fi s q i).1.cR=s.cR:=by grind[fi,Me]
theorem DF(s:Pl)(b:cV):(tu s b).1.cR=s.cR:=by unfold tu;split;rfl;cases nG s.mp with|none=>rfl|some i=>simp only;split<;>rfl
theorem oj(s:Pl)(l:Nat->cQ):(fD s l).1.cR=s.cR:=by grind[fD,DF]
def rV(l:Nat->cQ):Bool:=Zc l mX
def Fi(l:Nat->cQ)(N:gE)(i:N=cL 24 (eV l))(w:cS):
 tf 159 #[.agg N] w (.bool (rV l)):=by
 have⟨b,hb⟩:=dI (rV l);have e:=aie l mX b hb;rw[<-i] at e;have k:∀W,(binOp .eql 191 (.agg N) (.agg (#[Value.int .i64 0,.int .u64 0,.int .u32 0,Value.int .i64 0,.int .u64 0,.int .u32 0,Value.int .i64 0,.int .u64 0,.int .u32 0,Value.int .i64 0,.int .u64 0,.int .u32 0,Value.int .i64 0,.int .u64 0,.int .u32 0,Value.int .i64 0,.int .u64 0,.int .u32 0,Value.int .i64 0,.int .u64 0,.int .u32 0,Value.int .i64 0,.int .u64 0,.int .u32 0]:gE))).run prog W=.ok (.bool b) W:=e;clear e;rw[hb];clear hb;have h:=cz i;clear i;have a:=cz (Fr.refl none [] w aK);have⟨W1,HW1⟩:=yB (w.alloc (.cells N 191));have c:dR w W1:=by rw[HW1.o];exact aR
 have d:cM W1 w.heap.size 191 24 (eV l):=by rw[HW1.o,h.o];exact bp
 have f:=cz (Fr.adp a.o c);have j:=cz ((show w.heap.size<=w.heap.size from a.o.size));have g:=cz (d);clear d c;go_enter func159,ntmps159;go_upto_region 1 with(fail);rw[<-HW1.o];go_wp2_with (first|((with_reducible refine Y4 ⟨some 3,Op.load 191 (Operand.tmp 1),191,_,_,none⟩ ?_);refine wpList_load_mid (op:=⟨some 3,Op.load 191 (Operand.tmp 1),191,_,_,none⟩) ae 191 (.tmp 1) ae w.heap.size 0 ae N.toList _ (Cb (g.o) h.o) Gf ae (by rw[mT,h.o,cW];exact zS) ?_;rw[vx]));clear a;try go_ret
 exact⟨ae,(f.o).cP⟩
end
def Ud{o':Oper}(b:Region.wanted o (yielded ops a.tmps)=cx)(ho:o'= {o with guard:=cw})(h:wpList P ops Q (o'::rest) a w):wpList P ops Q (o::rest) a w:=by subst ho;unfold wpList at h|-;rw[df b];rw[df nz] at h;exact h
def om(s:Pl)(y:Way)(cO:cQ)(i:Nat):Pl×(cQ×List cQ×Int):=
 let b:=jd y.mG (i%8) cX
 let a:=jd y.first (i/8) cX
 let jS:=if rV b=cx then(if rV a=cx then 0 else 1) else 2
 if fR s.mp<jS then(s,(cO,[],71)) else
 let u:=if jS=2 then fD s b else(s,(cX,0))
 if u.2.2≠0 then(u.1,(cO,[],u.2.2)) else
 let t:=if 0<jS then fD u.1 (jd a (i/8) u.2.1) else(u.1,(cX,0))
 if t.2.2≠0 then(t.1,(cO,[],t.2.2)) else(t.1,(t.2.1,lI y cO i,0))
def iF(s:Pl)(cO:cQ)(i:Int):Pl×(cQ×List cQ×Int):=
 if mz i=cy then(s,(cO,[],111)) else
 let w:=fi s cO i.m
 if w.2.2≠0 then(w.1,(cO,[],w.2.2)) else
 if w.2.1.block=cX then(w.1,(cO,[],0)) else
 om w.1 w.2.1 cO i.m
theorem aba(l:Nat->cQ)(k:Nat)(p q:cQ):jd (jd l k p) k q=jd l k q:=by grind[jd]
theorem adM{s:Pl}{y:Way}(b:rV (jd y.mG (i%8) cX)=cx)(a:rV (jd y.first (i/8) cX)=cx):om s y cO i=(s,(cX,lI y cO i,0)):=by grind[om]
theorem adN{s:Pl}{y:Way}(b:rV (jd y.mG (i%8) cX)=cx)(a:rV (jd y.first (i/8) cX)=cy):
 om s y cO i=if fR s.mp<1 then(s,(cO,[],71)) else
  if(fD s (jd y.first (i/8) cX)).2.2≠0 then((fD s (jd y.first (i/8) cX)).1,(cO,[],(fD s (jd y.first (i/8) cX)).2.2)) else
  ((fD s (jd y.first (i/8) cX)).1,((fD s (jd y.first (i/8) cX)).2.1,lI y cO i,0)):=by grind[om,aba]
theorem adO{s:Pl}{y:Way}(a:rV (jd y.mG (i%8) cX)=cy):
 om s y cO i=if fR s.mp<2 then(s,(cO,[],71)) else
  let u:=fD s (jd y.mG (i%8) cX)
  if u.2.2≠0 then(u.1,(cO,[],u.2.2)) else
  let t:=fD u.1 (jd (jd y.first (i/8) cX) (i/8) u.2.1)
  if t.2.2≠0 then(t.1,(cO,[],t.2.2)) else
  (t.1,(t.2.1,lI y cO i,0)):=by
 grind[om]
def Xw(a:w.grownBy w' (some b)):jX b w w':=⟨a.os,a.tape,a.output,a.size,λk c d=>a.block k c jv⟩
def Xx(a:w.grownBy w' none):dR w w':=⟨a.os,a.tape,a.output,a.size,λk b=>a.block k b eQ⟩
section
theorem Fr.own(h:Fr d l w0 w)(b:w.grownBy w' v.ownBlock)(ho:w.ownsRow base e size v n xs)(a:w0.h.s<=base):Fr d l w0 w':=
 h.grown b λk c=>iE a (ho.lt k c).1
end
theorem mml:(∀(a b:α)(l:List α),(a∈b::l)=(a=b∨a∈l))/\(∀a:α,(a∈([]:List α))=False)/\
 (∀(p q:α->Prop)(a:α),(∀x,x=a∨q x->p x)=(p a/\∀x,q x->p x))/\(∀(p:α->Prop)(a:α),(∀x,x=a->p x)=p a)/\
 (∀(x y:α)(l:List α),(x::l).set 0 y=y::l)/\(∀(x y:α)(l:List α)(n:Nat),(x::l).set (n+1) y=x::l.set n y):=
 by grind
theorem mmp:(∀p:Prop,(p∨False)=p)/\(∀p:Prop,(False∨p)=p)/\(∀p:Prop,(True∨p)=True)/\(∀p:Prop,(p∨True)=True)/\(∀p:Prop,(p/\p)=p)/\(∀p:Prop,(p/\True)=p):=
 by grind
structure R4 where
 b:Nat
 t:dU
 n:Nat
 f:Nat->c7
structure O4 where
 e:dU
 z:Nat
 v:c7
 n:Nat
 xs:List c7
def O4.ob(o:O4):Option Nat:=o.v.ownBlock
def eS(L:List R4)(O:List O4):cV:=L.map R4.b++O.filterMap O4.ob
structure lO(d:Option Nat)(X:cV->cS->Prop):Prop where
 cP:∀{B w w'},X B w->dR w w'->X B w'
 add:∀{B w b},X B w->w.h.s<=b->X (b::B) w
 mono:∀{B B' w},X B w->(∀k∈B',k∈B)->X B' w
 but:∀{B w w' b t},X B w->b∈B->jX b w w'->iA w b=cu t->gV t=cy->(lS t=cy∨∀D,d=cu D->b∉oK w D)->X B w'
 dev:∀{B w D},X B w->d=cu D->iA w D=cu 127/\∀k∈oK w D,k<w.h.s
structure St(w0:cS)(d:Option Nat)(l:cV)(L:List R4)(O:List O4)(X:cV->cS->Prop)(w:cS):Prop where
 fr:Fr d l w0 w
 row:∀r∈L,cM w r.b r.t r.n r.f/\gV r.t=cy/\(lS r.t=cy∨∀D,d=cu D->r.b∉oK w D)
 own:∀o∈O,w.ownsRow w0.h.s o.e o.z o.v o.n o.xs/\gV o.e=cy/\lS o.e=cy
 lo:∀b∈eS L O,w0.h.s<=b
 nd:(eS L O).Nodup
 x:X (eS L O) w
 mh:lO d X
section
variable {L:List R4}{O:List O4}
theorem P9{w:cS}{D:Nat}(h:iA w D=cu 127):D∈oK w D:=by grind[oK,iA]
theorem iB{k:Nat}:k∈eS L O↔(∃r∈L,r.b=k)∨∃o∈O,o.v.ownBlock=cu k:=by grind[eS,O4.ob]
theorem St.lt(h:St w0 d l L O X w):∀k∈eS L O,k<w.h.s:=by intro k a;rcases iB.1 a with⟨r,b,rfl⟩|⟨o,ho,e⟩;exact cM.lt (h.row r b).1;exact((h.own o ho).1.lt k e).2
def St.start(w:cS)(d:Option Nat)(l:cV)(a:lO d X)(b:X [] w):St w d l [] [] X w:=
 ⟨Fr.refl d l w λD e=>(a.dev b e).1,by simp,by simp,by simp[eS],by simp[eS],b,a⟩
theorem St.Wi(h:St w0 d l L O X w):∀D,d=cu D->iA w D=cu 127:=λD e=>(h.mh.dev h.x e).1
theorem St.cP(h:St w0 d l L O X w)(a:dR w w'):St w0 d l L O X w':=
 ⟨h.fr.adp a,λr b=>⟨cM.cP (h.row r b).1 a,(h.row r b).2.1,(h.row r b).2.2.imp id λf D e=>Rw (f D e) a (h.Wi D e)⟩,
  λo ho=>⟨me (h.own o ho).1 a,(h.own o ho).2⟩,h.lo,h.nd,h.mh.cP h.x a,h.mh⟩
theorem St.drew(h:St w0 d l L O X w):St w0 d l L O X w.drew:=h.cP ((gJ _ _).drew)
theorem St.alloc(h:St w0 d l L O X w){A:gE}{n:Nat}{f:Nat->c7}(t:dU)(m:A=cL n f)(ho:gV t=cy):
 St w0 d l (⟨w.h.s,t,n,f⟩::L) O X (w.alloc (.cells A t)):=by have i:dR w (w.alloc (.cells A t)):=(gJ _ _).alloc (eN _) _;have g:=h.cP i;have k:w.h.s∉eS L O:=λc=>ud _ (h.lt _ c);refine⟨g.fr,λr j=>?_,g.own,λb a=>?_,?_,h.mh.cP (h.mh.add h.x (eN _)) i,h.mh⟩;rcases iZ.1 j with rfl|j;refine⟨by grind[cM.alloc],ho,.inr λD e c=>?_⟩;rw[sC (i.block D (iy (h.Wi D e)))] at c;exact ud _ ((h.mh.dev h.x e).2 _ c);exact g.row r j;rcases iZ.1 (show b∈w.h.s::eS L O from a) with rfl|a;exact h.fr.size;exact h.lo b a;exact yx.2 ⟨k,h.nd⟩
theorem Fj{L:List R4}{r r':R4}(b:L[k]?=cu r)(a:r'.b=r.b):(L.set k r').map R4.b=L.map R4.b:=by apply xK;grind
theorem St.modify(h:St w0 d l L O X w){r:R4}(v:L[k]?=cu r)(f':Nat->c7)(n:jX r.b w w')(C:cM w' r.b r.t r.n f'):St w0 d l (L.set k ⟨r.b,r.t,r.n,f'⟩) O X w':=by
 have s:r∈L:=kA v;have m:=h.row r s;have g:=cM.ty m.1;have b:r.b∈eS L O:=iB.2 (.inl ⟨r,s,ae⟩);have a:eS (L.set k ⟨r.b,r.t,r.n,f'⟩) O=eS L O:=gD (· ++O.filterMap O4.ob) (Fj (r':=⟨r.b,r.t,r.n,f'⟩) v ae);have x:∀D,d=cu D->w'.h[D]?=w.h[D]?:=λD e=>n.block D (iy (h.Wi D e)) (by
  rintro rfl;have:=h.Wi _ e;rcases m.2.2 with j|j
  . rw[wT (g.symm.trans this)] at j;exact absurd j kB
  grind[P9])
 refine⟨?_,λq z=>?_,λo ho=>?_,by rw[a];exact h.lo,by rw[a];exact h.nd,by rw[a];exact h.mh.but h.x b n g m.2.1 m.2.2,h.mh⟩;exact h.fr.Rh (h.lo _ b) n;rcases List.mem_iff_getElem?.1 z with⟨i,p⟩;rw[BI] at p;by_cases c:k=i;subst c;rw[df ae] at p;grind[sC];(rw[cZ c] at p;have t:q∈L:=kA p;have B:=h.row q t;have y:q.b≠r.b:=by(have f:(L.map R4.b).Nodup:=(yy.1 h.nd).1;intro e;have j:(L.map R4.b)[k]?=cu r.b:=by grind);(have A:(L.map R4.b)[i]?=cu r.b:=by grind);grind[getElem?_inj]);grind[cM.but,sC];have u:=h.own o ho;refine⟨q7 u.1 (λe=>?_) n,u.2⟩;have f:=(yy.1 h.nd).2.2;exact f r.b (gI.2 ⟨r,s,ae⟩) r.b (IY.2 ⟨o,ho,e⟩) ae
theorem St.oW(h:St w0 d l L O X w){r:R4}(a:L[k]?=cu r):cM w r.b r.t r.n r.f:=(h.row r (kA a)).1
theorem St.uS(h:St w0 d l L O X w){o:O4}(a:O[k]?=cu o):w.ownsRow w0.h.s o.e o.z o.v o.n o.xs:=(h.own o (kA a)).1
theorem St.cell(h:St w0 d l L O X w){k:Nat}{r:R4}(b:L[k]?=cu r){i:Nat}(a:i<r.n):w.cell? ⟨r.b,i,cw⟩=cu (r.f i):=cM.cell (h.oW b) a
theorem St.set(h:St w0 d l L O X w){r:R4}(a:L[k]?=cu r)(f':Nat->c7):St w0 d l (L.set k ⟨r.b,r.t,r.n,f'⟩) O X (w.setRow r.b (cL r.n f')):=
 h.modify a f' (agj _ _ _) (cM.setRow (h.oW a) f')
theorem St.put(h:St w0 d l L O X w){r:R4}(a:L[k]?=cu r)(i:Nat)(v:c7):St w0 d l (L.set k ⟨r.b,r.t,r.n,λj=>if j=i then v else r.f j⟩) O X (w.setCell ⟨r.b,i,cw⟩ v):=
 h.modify a _ (sy _ _ _ _) (cM.set (h.oW a) i v)
theorem St.call(h:St w0 d l L O X w)(f:Fr d2 l2 w w')(b:∀D,d2=cu D->d=cu D)(i:∀k∈l2,k∈l∨w0.h.s<=k)(m:lO d X')(n:∀B,X B w->X' B w'):St w0 d l L O X' w':=by
 refine⟨h.fr.step f b i,λr j=>?_,λo ho=>?_,h.lo,h.nd,n _ h.x,m⟩
 . have a:=h.row r j;cases c:d2 with
   |none=>subst c;exact ang
   |some D=>
    subst c;rcases a.2.2 with h1|h1
    . grind[cM.fr]
    . exact⟨cM.frX a.1 f (h1 D (b D ae)) (.inl a.2.1),a.2.1,.inr λp e=>by
       rcases wT (e.symm.trans (b D ae)) with rfl
       grind[Fr.adq,cM.lt]⟩
 have q:=h.own o ho;grind[B5]
theorem St.take(h:St w0 d l L O X w)(a:St w0 d l L O X' w')(ho:w'.ownsRow w.h.s e z v n xs)(s:gV e=cy)(t:lS e=cy)(r:∀B,X B w->X' B w'):St w0 d l L (⟨e,z,v,n,xs⟩::O) X' w':=by
 have u:w0.h.s<=w.h.s:=h.fr.size;have c:∀k,v.ownBlock=cu k->eS L (⟨e,z,v,n,xs⟩::O)=L.map R4.b++k::O.filterMap O4.ob:=by grind[eS,O4.ob]
 cases m:v.ownBlock with
 |none=>
  have:eS L (⟨e,z,v,n,xs⟩::O)=eS L O:=by grind[eS,O4.ob]
  refine⟨a.fr,a.row,λo f=>?_,by rw[this];exact a.lo,by rw[this];exact a.nd,by rw[this];exact a.x,a.mh⟩;rcases iZ.1 f with rfl|f;grind[B6];exact a.own o f
 |some g=>
  have p:=ho.lt g m;have q:g∉eS L O:=λf=>by have:=h.lt g f;omega
  refine⟨a.fr,a.row,λo f=>?_,λb i=>?_,?_,?_,a.mh⟩;rcases iZ.1 f with rfl|f;grind[B6];exact a.own o f;rw[c g m] at i;simp only[gH,iZ] at i;rcases i with i|rfl|i;exact a.lo b (gH.2 (.inl i));omega;exact a.lo b (gH.2 (.inr i));rw[c g m];have:=a.nd;unfold eS at this q;grind;refine a.mh.mono (r _ (h.mh.add h.x p.1)) λk j=>?_;rw[c g m] at j;simp only[gH,iZ] at j;rcases j with j|rfl|j;grind[eS];grind;grind[eS]
theorem St.grow(h:St w0 d l L O X w){o:O4}(s:O[k]?=cu o){g C:Nat}(x:w.grownBy w' o.v.ownBlock)(hn:w'.ownsRow w0.h.s o.e o.z v' C xs')(I:v'.ownBlock=cu g)(p:o.v.ownBlock=cu g∨g=w.h.s):St w0 d l L (O.set k ⟨o.e,o.z,v',C,xs'⟩) X w':=by
 have R:o∈O:=kA s;have A:=h.own o R;have a1:k<O.n:=(nB.1 s).1
 -- the new blocks:g,and the old ones but o's
 have u:∀b∈eS L (O.set k ⟨o.e,o.z,v',C,xs'⟩),b∈g::eS L O:=by
  intro b n;rcases iB.1 n with⟨r,J,e⟩|⟨q,t,e⟩
  . grind[iB]
  . rcases vy t with m|rfl
    . grind[iB]
    grind
 have F:w0.h.s<=g:=(hn.lt g I).1;have Q:∀b∈eS L (O.set k ⟨o.e,o.z,v',C,xs'⟩),w0.h.s<=b:=λb n=>by
  rcases iZ.1 (u b n) with rfl|m
  . exact F
  . exact h.lo b m
 have a6:∀r∈L,cu r.b≠o.v.ownBlock:=λr J e=>
  (yy.1 h.nd).2.2 r.b (gI.2 ⟨r,J,ae⟩) r.b (IY.2 ⟨o,R,e.symm⟩) ae
 have a4:∀i q,O[i]?=cu q->i≠k->∀b,q.v.ownBlock=cu b->o.v.ownBlock≠cu b:=by
  intro i q y a3 b n v;have j:(O.filterMap O4.ob).Nodup:=(yy.1 h.nd).2.1;have:∀(O:List O4)(i k:Nat)(q o:O4),(O.filterMap O4.ob).Nodup->O[i]?=cu q->O[k]?=cu o->i<k->q.v.ownBlock=cu b->o.v.ownBlock=cu b->False:=by
   intro O
   induction O with
   |nil=>grind
   |cons a O ih=>
    intro i k q o j y s a2 n v;cases k with
    |zero=>omega
    |succ k=>
     cases i with
     |zero=>
      simp only[getElem?_cons_zero,yz] at y;subst y;rw[filterMap_cons_some (f:=O4.ob) n,yx] at j;exact j.1 (IY.2 ⟨o,kA (by simpa using s),v⟩)
     |succ i=>
      refine ih i k q o ?_ jv jv cN n v;cases E:a.v.ownBlock with
      |none=>grind[filterMap_cons_none,O4.ob]
      |some c=>simp_all[O4.ob]
  grind
 have Y:∀D,d=cu D->w'.h[D]?=w.h[D]?:=λD e=>x.block D (iy (h.Wi D e)) (λV=>by
  have m:=wC A.1 V.symm;have z:=A.2.2;rw[<-wT ((h.Wi D e).symm.trans m)] at z;exact absurd z kB)
 refine⟨h.fr.grown x λb e=>(A.1.lt b e).1,λr J=>?_,λq t=>?_,Q,?_,?_,h.mh⟩
 . have hR:=h.row r J
   grind[cM.grown,sC]
 . rcases List.mem_iff_getElem?.1 t with⟨i,y⟩;rw[BI] at y;by_cases N:k=i
   . grind
   . rw[cZ N] at y;have U:=h.own q (kA y);refine⟨U.1.kept x ?_,U.2⟩;cases a5:q.v.ownBlock<;>grind
 . -- no block twice
   have j:=h.nd;unfold eS at j|-;have H:∀(O:List O4)(k:Nat),O[k]?=cu o->(O.filterMap O4.ob).Nodup->(∀q∈O,q.v.ownBlock=cu g->o.v.ownBlock=cu g)->
    ((O.set k ⟨o.e,o.z,v',C,xs'⟩).filterMap O4.ob).Nodup:=by
    intro O
    induction O with
    |nil=>grind
    |cons a O ih=>
     intro k s j t;cases k with
     |zero=>
      simp only[getElem?_cons_zero,yz] at s;subst s;rw[BJ,filterMap_cons_some (f:=O4.ob) (a:=⟨a.e,a.z,v',C,xs'⟩) I,yx]
      grind[O4.ob]
     |succ k=>
      have G:O[k]?=cu o:=by grind
      rw[FV];cases E:a.v.ownBlock with
      |none=>
       grind[O4.ob]
      |some c=>
       rw[filterMap_cons_some (f:=O4.ob) E,yx] at j|-;refine⟨λT=>?_,ih k G j.2 λq m=>t q (lu _ m)⟩;have⟨q,m,z⟩:=IY.1 T;rcases vy m with h3|rfl
       . grind
       . rw[show(Value.ownBlock v')=cu c from z] at I;cases I;have:=t a (nC ..) E;exact j.1 (IY.2 ⟨o,kA G,this⟩)
   rw[yy] at j|-;have M:∀q∈O,q.v.ownBlock=cu g->o.v.ownBlock=cu g:=λq t e=>by
    rcases p with m|m
    . exact m
    . have:=h.lt g (iB.2 (.inr ⟨q,t,e⟩));omega
   refine⟨j.1,H O k s j.2.1 M,λa E b n=>?_⟩;have⟨q,m,z⟩:=IY.1 n;rcases vy m with h3|rfl
   . grind
   . have Z:g=b:=wT (I.symm.trans z);rcases p with h4|h4
     . grind
     . have:=h.lt a (gH.2 (.inl E));omega
 . -- what else is known
   refine h.mh.mono (B:=g::eS L O) ?_ u;cases n:o.v.ownBlock with
   |none=>
    rw[n] at x;refine h.mh.cP ?_ (Xx x);rcases p with m|m
    . grind
    . exact h.mh.add h.x cN
   |some b=>
    rw[n] at x;have K:b∈eS L O:=iB.2 (.inr ⟨o,R,n⟩);have hx:X (g::eS L O) w:=by
     rcases p with m|m
     . rw[n] at m;cases m;exact h.mh.mono h.x λk s=>by
        grind
     . exact h.mh.add h.x cN
    exact h.mh.but hx (lu _ K) (Xw x) (wC A.1 n) A.2.1 (.inl A.2.2)
end
/-! ### What else is known -/
def xh:lO cw (λ_ _=>True):=⟨λ_ _=>iG,λ_ _=>iG,λ_ _=>iG,λ_ _ _ _ _ _=>iG,λ_ e=>by cases e⟩
theorem adP{w:cS}{D:Nat}{v:Dv}(h:jN w D v):iA w D=cu 127/\∀k∈oK w D,k<w.h.s:=by refine⟨h.Wi,λk a=>?_⟩;have⟨l,hl⟩:=h.open;rw[hl.oK] at a;exact hl.lt k a
theorem fc.aih{P:Nat}{s:Pl}(h:fc w P D M s)(c:jX b w w')(a:iA w b=cu t)(ho:gV t=cy)(d:lS t=cy∨b∉oK w D):fc w' P D M s:=by rcases d with h1|h1;grind[fc.but];have⟨l,hl⟩:=h.dev.open;rw[hl.oK] at h1;refine h.aic c hl h1 (λe=>?_) (λe=>?_);rw[e,h.tyP] at a;cases a;cases ho;rw[e,h.tyM] at a;cases a;cases ho
def C'(P D M:Nat)(s:Pl):cV->cS->Prop:=λ_ w=>fc w P D M s
def dQ(P D M:Nat)(s:Pl):lO (cu D) (C' P D M s):=
 ⟨λh a=>fc.cP h a,λh _=>h,λh _=>h,λh _ a c ho b=>fc.aih h a c ho (b.imp id λf=>f D ae),fun {B w D'} (h:fc w P D M s) e=>by cases e;exact adP h.dev⟩
def yX(e:dU)(z:Nat)(v:c7)(n:Nat)(xs:List c7):cV->cS->Prop:=λB w=>c8 w e z v n xs/\(0<n->∀b,v.ownBlock=cu b->b∉B)
def P'(h:yX e z v n xs B w)(a:dR w w'):yX e z v n xs B w':=⟨h.1.cP a,h.2⟩
def c8.akY(h:c8 w T sz v n xs)(s:jX c w w')(hc:0<n->∀b,v.ownBlock=cu b->b≠c):c8 w' T sz v n xs:=by obtain⟨i,e,cap,rfl,j,k,l⟩:=h;refine⟨i,e,cap,ae,j,k,λd=>?_⟩;obtain⟨b,o,f,g,rfl,a,m⟩:=l d;exact⟨b,o,f,g,ae,by rw[s.block b (rN.1 a).1 (hc d b ae)];exact a,m⟩
def Ze(h:yX e z v n xs B w)(d:b∈B)(a:jX b w w'):yX e z v n xs B w':=
 ⟨h.1.akY a λf c hc e=>h.2 f c hc (e▸d),h.2⟩
def Zf(h:yX e z v n xs B w)(f:w.h.s<=b):yX e z v n xs (b::B) w:=
 ⟨h.1,λd c hc a=>by
  rcases iZ.1 a with rfl|a
  . have:=iy (h.1.ty hc d);omega
  . exact h.2 d c hc a⟩
def Ue{a:cV}(h:yX e z v n xs B w)(f:∀k∈a,k∈B):yX e z v n xs a w:=⟨h.1,λd c hc b=>h.2 d c hc (f c b)⟩
def adQ(h:yX e z v n xs B w)(f:Fr d l w w')(a:lS e=cy)(b:gV e=cy):yX e z v n xs B w':=⟨h.1.fr f (.inr a) b,h.2⟩
theorem lO.sl(h:lO d X)(e:dU)(z:Nat)(v:c7)(n:Nat)(xs:List c7):lO d (λB w=>X B w/\yX e z v n xs B w):=
 ⟨λa b=>⟨h.cP a.1 b,P' a.2 b⟩,λa b=>⟨h.add a.1 b,Zf a.2 b⟩,λa b=>⟨h.mono a.1 b,Ue a.2 b⟩,λa b c t u v=>⟨h.but a.1 b c t u v,Ze a.2 b c⟩,λa e=>h.dev a.1 e⟩
/-! ### Types of rows -/
def kg(P:oN)(ty:dU)(n:Nat):Prop:=(∃d,P.underlying ty=cu d/\d.isRow=cx)/\(P.info? ty).map (·.size)=cu n
def lD(P:oN)(ty:dU):Prop:=(∃d,P.underlying ty=cu d/\d.isRow=cy)/\(P.info? ty).map (·.size)=cu 1
section
def xz(dst:Nat)(ty:dU)(x:Nat)(h:wpList P ops Q (⟨cu dst,.load ty (.tmp x),t2,p,af,cw⟩::rest) a w):wpList P ops Q (⟨cu dst,.load ty (.tmp x),t2,p,af,cw⟩::rest) a w:=h
def tM(ty:dU)(x y:Nat)(h:wpList P ops Q (⟨cw,.store ty (.tmp x) (.tmp y),t2,p,af,cw⟩::rest) a w):wpList P ops Q (⟨cw,.store ty (.tmp x) (.tmp y),t2,p,af,cw⟩::rest) a w:=h
def adR(ty:dU)(x:Nat){c:c7}(h:wpList P ops Q (⟨cw,.store ty (.tmp x) (.const c),t2,p,af,cw⟩::rest) a w):wpList P ops Q (⟨cw,.store ty (.tmp x) (.const c),t2,p,af,cw⟩::rest) a w:=h
def Zg(dst:Nat)(ty:dU)(x:Nat)(h:wpList P ops Q (⟨cu dst,.box ty (.tmp x),t2,p,af,cw⟩::rest) a w):wpList P ops Q (⟨cu dst,.box ty (.tmp x),t2,p,af,cw⟩::rest) a w:=h
def G7(dst:Nat)(ty:dU)(h:wpList P ops Q (⟨cu dst,.alloc ty,t2,p,af,cw⟩::rest) a w):wpList P ops Q (⟨cu dst,.alloc ty,t2,p,af,cw⟩::rest) a w:=h
def Uf(dst:Nat)(x y:Nat)(h:wpList P ops Q (⟨cu dst,.call {callee:=.builtin .append,args:=#[.tmp x,.tmp y],argTypes:=ts},t2,p,af,cw⟩::rest) a w):wpList P ops Q (⟨cu dst,.call {callee:=.builtin .append,args:=#[.tmp x,.tmp y],argTypes:=ts},t2,p,af,cw⟩::rest) a w:=h
variable {L:List R4}{O:List O4}{ty:dU}
def Qa(S:St w0 d l L O X w)(k:Nat){r:R4}(c:L[k]?=cu r)(f:a.eval (.tmp x)=bW (cu ⟨r.b,0,cw⟩))(b:A=cL r.n r.f)(e:kg P ty r.n)(h:wpList P ops Q rest (a.put (cu dst) (bV A)) w):wpList P ops Q (⟨cu dst,.load ty (.tmp x),t2,p,af,cw⟩::rest) a w:=by have⟨⟨dd,hu,hd⟩,hi⟩:=e;have:=wpList_load_mid (op:=⟨cu dst,.load ty (.tmp x),t2,p,af,cw⟩) (ops:=ops) (rest:=rest) (Q:=Q) ae ty (.tmp x) ae r.b 0 f A.t dd (Cb (S.oW c) b) hu hd aG;rw[vx] at this;exact this h
theorem xX(h:cM w b t n f){o:Nat}(d:o+m<=n)(c:∀i,i<m->f (o+i)=g i)(a:A=cL m g):w.rangeAt b o A.t:=by subst a;intro j v e;grind[dy,cM.cell]
def Qb(S:St w0 d l L O X w)(k:Nat){r:R4}(e:L[k]?=cu r){o:Nat}(n:a.eval (.tmp x)=bW (cu ⟨r.b,o,cw⟩))(g:Nat->c7)(f:o+m<=r.n)(c:∀i,i<m->r.f (o+i)=g i)(b:A=cL m g)(j:kg P ty m)(h:wpList P ops Q rest (a.put (cu dst) (bV A)) w):wpList P ops Q (⟨cu dst,.load ty (.tmp x),t2,p,af,cw⟩::rest) a w:=by have⟨⟨dd,hu,hd⟩,hi⟩:=j;have:=wpList_load_mid (op:=⟨cu dst,.load ty (.tmp x),t2,p,af,cw⟩) (ops:=ops) (rest:=rest) (Q:=Q) ae ty (.tmp x) ae r.b o n A.t dd (xX (S.oW e) f c b) hu hd aG;rw[vx] at this;exact this h
theorem ajJ{o cap:Nat}(R:c8 w e z (bX (cu ⟨b,o,cw⟩) n cap) n xs)(s:j<n)(f:a.eval (.tmp x)=bW (cu ⟨b,o+j*z,cw⟩))(m:A.s=z)(q:∀i,i<z->xs[j*z+i]?=A[i]?)(d:kg P ty z)(h:wpList P ops Q rest (a.put (cu dst) (bV A)) w):wpList P ops Q (⟨cu dst,.load ty (.tmp x),t2,p,af,cw⟩::rest) a w:=by
 have⟨⟨dd,hu,hd⟩,hi⟩:=d;have c:w.rangeAt b (o+j*z) A.t:=by have⟨h1,ao,cap',h2,h3,h4,h5⟩:=R;obtain⟨g,o',k,l,rfl,r,hc⟩:=h5 cN;cases h2;intro i v t;grind[cell_of_row]
 have:=wpList_load_mid (op:=⟨cu dst,.load ty (.tmp x),t2,p,af,cw⟩) (ops:=ops) (rest:=rest) (Q:=Q) ae ty (.tmp x) ae b _ f A.t dd c hu hd jv;rw[vx] at this;exact this h
theorem jF{o:Nat}(hc:w.cell? ⟨b,o,cw⟩=cu v)(f:a.eval (.tmp x)=bW (cu ⟨b,o,cw⟩))(e:lD P ty)(h:wpList P ops Q rest (a.put (cu dst) v) w):wpList P ops Q (⟨cu dst,.load ty (.tmp x),t2,p,af,cw⟩::rest) a w:=by
 have⟨⟨dd,hu,hd⟩,hi⟩:=e;refine mC ae λ_ d=>?_;have c:(isAgg ty).run P w=.ok cy w:=by unfold isAgg;rw[lh,yO hu w];cases dd<;>simp_all [TypeDesc.isRow]
 unfold Oper.wp execOp;simp only[f,Instr.loadAt,Instr.sureAddr,lh,rR,nW,loadVar,c,cZ QU,run_load,hc];exact d _ _ h
def yY(S:St w0 d l L O X w)(k:Nat){r:R4}(c:L[k]?=cu r)(i:Nat)(f:r.f i=v)(b:i<r.n)(g:a.eval (.tmp x)=bW (cu ⟨r.b,i,cw⟩))(e:lD P ty)(h:wpList P ops Q rest (a.put (cu dst) v) w):wpList P ops Q (⟨cu dst,.load ty (.tmp x),t2,p,af,cw⟩::rest) a w:=
 jF (by rw[S.cell c b,f]) g e h
theorem oX(S:St w0 d l L O X w)(g:a.eval (.tmp x)=bW (cu ⟨w.h.s,0,cw⟩))(j:a.eval (.tmp y)=bV A)(b:A=cL n f)(e:kg P ty n)(ho:gV ty=cy)(c:Z.s=n)(k:∀i,(f i).oneCell'=cx)(h:∀W,St w0 d l (⟨w.h.s,ty,n,f⟩::L) O X W->wpList P ops Q rest (a.put cw undef) W):wpList P ops Q (⟨cw,.store ty (.tmp x) (.tmp y),t2,p,af,cw⟩::rest) a (w.alloc (.cells Z ty)):=
 B7 (o:=⟨cw,.store ty (.tmp x) (.tmp y),t2,p,af,cw⟩) ae ty (.tmp x) (.tmp y) ae Z A n g j e.2 c (by rw[b,cW]) (by grind[oE]) (h _ (S.alloc ty b ho))
def Qc(S:St w0 d l L O X w)(k:Nat){r:R4}(b:L[k]?=cu r)(j:a.eval (.tmp x)=bW (cu ⟨r.b,0,cw⟩))(m:a.eval (.tmp y)=bV A)(e:A=cL r.n f)(g:kg P ty r.n)(c:∀i,(f i).oneCell'=cx)(h:∀W,St w0 d l (L.set k ⟨r.b,r.t,r.n,f⟩) O X W->wpList P ops Q rest (a.put cw undef) W):wpList P ops Q (⟨cw,.store ty (.tmp x) (.tmp y),t2,p,af,cw⟩::rest) a w:=
 wpList_store_row (o:=⟨cw,.store ty (.tmp x) (.tmp y),t2,p,af,cw⟩) ae ty (.tmp x) (.tmp y) ae r.b j r.n f A m e r.t r.f (S.oW b) g.2 c (h _ (S.set b f))
theorem Cc{o:Nat}{q:Operand}(e:w.there b o 1)(r:a.eval (.tmp x)=bW (cu ⟨b,o,cw⟩))(s:a.eval q=v)(n:v.oneCell'=cx)(d:lD P ty)(h:wpList P ops Q rest (a.put cw undef) (w.setCell ⟨b,o,cw⟩ v)):wpList P ops Q (⟨cw,.store ty (.tmp x) q,t2,p,af,cw⟩::rest) a w:=by
 refine mC ae λ_ g=>?_;have c:=Mf (P:=P) b o [v] 0 w (λj k=>by simpa using(e j cN).1) (λj k=>by simpa using(e j cN).2) (λu t=>by grind);have hc:v.cells=#[v]:=by cases v<;>first|rfl|cases n
 have f:(storeVar ty ⟨b,o,cw⟩ v).run P w=.ok () (w.setCell ⟨b,o,cw⟩ v):=by cases l:P.info? ty with|none=>have:=d.2;grind|some i=>(have m:i.s=1:=by have:=d.2;grind);simp only[xJ] at c;simp[storeVar,sizeOf,typeInfo,l,hc,m,c];rfl
 unfold Oper.wp execOp;simp only[r,s,Instr.storeAt,Instr.sureAddr,lh,rR,nW,f];exact g _ _ h
def vz(S:St w0 d l L O X w)(k:Nat){r:R4}(b:L[k]?=cu r)(i:Nat){q:Operand}(m:i<r.n)(f:a.eval (.tmp x)=bW (cu ⟨r.b,i,cw⟩))(g:a.eval q=v)(e:v.oneCell'=cx)(c:lD P ty)(h:∀W,St w0 d l (L.set k ⟨r.b,r.t,r.n,λj=>if j=i then v else r.f j⟩) O X W->wpList P ops Q rest (a.put cw undef) W):wpList P ops Q (⟨cw,.store ty (.tmp x) q,t2,p,af,cw⟩::rest) a w:=
 Cc (nS (S.oW b) cN) f g e c (h _ (S.put b i v))
def G8(S:St w0 d l L O X w)(k:Nat){r:R4}(b:L[k]?=cu r){o:Nat}{f':Nat->c7}(j:o+m<=r.n)(q:a.eval (.tmp x)=bW (cu ⟨r.b,o,cw⟩))(s:a.eval (.tmp y)=bV A)(e:A=cL m g)(n:kg P ty m)(c:∀i,(g i).oneCell'=cx)(f:∀w',cM w r.b r.t r.n r.f->w'=w.setCells r.b o (cL m g).t->cM w' r.b r.t r.n f')(h:∀W,St w0 d l (L.set k ⟨r.b,r.t,r.n,f'⟩) O X W->wpList P ops Q rest (a.put cw undef) W):wpList P ops Q (⟨cw,.store ty (.tmp x) (.tmp y),t2,p,af,cw⟩::rest) a w:=by
 subst e;exact wpList_store_mid (op:=⟨cw,.store ty (.tmp x) (.tmp y),t2,p,af,cw⟩) ae ty (.tmp x) (.tmp y) ae r.b o (cL m g) q s (by rw[cW];exact nS (S.oW b) j) (by rw[cW];exact n.2) (oE g c)
  (h _ (S.modify b f' (jX.setCells _ _ _ _) (f _ (S.oW b) ae)))
def yZ(S:St w0 d l L O X w)(e:a.eval (.tmp x)=bV A)(b:A=cL n f)(ho:gV ty=cy)(h:∀W,St w0 d l (⟨w.h.s,ty,n,f⟩::L) O X W->wpList P ops Q rest (a.put (cu dst) (bW (cu ⟨w.h.s,0,cw⟩))) W):wpList P ops Q (⟨cu dst,.box ty (.tmp x),t2,p,af,cw⟩::rest) a w:=by refine mC ae λK c=>?_;unfold Oper.wp execOp;simp only[lh,Instr.box,newVar,newRow,Gl,rR,nW];rw[e];exact c _ _ (h _ (S.alloc ty b ho))
end
def xi(P:oN)(t e:dU)(z by':Nat):Prop:=P.underlying t=cu (.slice e)/\∃zv,(P.info? e).map (λi=>(i.zero,i.s,i.bytes))=cu (cu zv,z,by')/\zv.cells.s=z/\0<z
section
variable {L:List R4}{O:List O4}{ty:dU}
def St.pop{r:R4}(h:St w0 d l (r::L) O X w):St w0 d l L O X w:=by have a:∀k∈eS L O,k∈eS (r::L) O:=λk e=>lu _ e;exact⟨h.fr,λq f=>h.row q (lu _ f),h.own,λb c=>h.lo b (a b c),(yx.1 (show(r.b::eS L O).Nodup from h.nd)).2,h.mh.mono h.x a,h.mh⟩
theorem St.OJ{o:O4}(h:St w0 d l L (o::O) X w):St w0 d l L O X w:=by
 have a:∀k∈eS L O,k∈eS L (o::O):=λk g=>by grind[iB]
 refine⟨h.fr,h.row,λq f=>h.own q (lu _ f),λb c=>h.lo b (a b c),?_,h.mh.mono h.x a,h.mh⟩;have e:=h.nd;grind[eS]
theorem St.Jl(h:St w0 d l L O X w)(e:dU)(z:Nat)(c:gV e=cy)(f:lS e=cy):St w0 d l L (⟨e,z,bX cw 0 0,0,[]⟩::O) X w:=by
 have a:eS L (⟨e,z,bX cw 0 0,0,[]⟩::O)=eS L O:=by rfl
 refine⟨h.fr,h.row,λq b=>?_,by rw[a];exact h.lo,by rw[a];exact h.nd,by rw[a];exact h.x,h.mh⟩;rcases iZ.1 b with rfl|b;grind[World.ownsRow_nil];exact h.own q b
theorem St.Ug(h:St w0 d l (⟨b,e,n,f⟩::L) O X w)(m:lS e=cy):
 St w0 d l L (⟨e,n,bX (cu ⟨b,0,cw⟩) 1 1,1,(cL n f).t⟩::O) X w:=by
 have c:eS L (⟨e,n,bX (s_ b 0) 1 1,1,(cL n f).t⟩::O)=L.map R4.b++b::O.filterMap O4.ob:=by rfl
 have i:(L.map R4.b++b::O.filterMap O4.ob).Perm (eS (⟨b,e,n,f⟩::L) O):=perm_middle;have j:=h.row _ (nC ..);refine⟨h.fr,λq a=>h.row q (lu _ a),λq a=>?_,λk g=>h.lo k (i.mem_iff.1 (c▸g)),by rw[c];exact i.nodup_iff.2 h.nd,h.mh.mono h.x λk g=>i.mem_iff.1 (c▸g),h.mh⟩;rcases iZ.1 a with rfl|a;refine⟨⟨by simp_all[cW],.inr ⟨b,1,cL n f,ae,h.lo b (nC ..),j.1,eN _,by decide,by simp_all[cW],by grind[take_of_length_le,cW]⟩⟩,j.2.1,m⟩;exact h.own q a
def Mg(S:St w0 d l L O X w)(i:a.eval (.tmp x)=bV A)(b:A=cL n f)(g:xi P t e n by')(c:n<=16777216)(ho:gV e=cy)(h:∀W,St w0 d l (⟨w.h.s,e,n,f⟩::L) O X W->wpList P ops Q rest (a.put (cu dst) (bX (cu ⟨w.h.s,0,cw⟩) 1 1)) W):
 wpList P ops Q (⟨cu dst,.buildSlice t 1 #[(0,.tmp x)],t2,p,af,cw⟩::rest) a w:=by have⟨hu,zv,hi,hz,h0⟩:=g;exact OD (o:=⟨cu dst,.buildSlice t 1 #[(0,.tmp x)],t2,p,af,cw⟩) ae t e (.tmp x) ae A n by' zv i hu hi h0 c (by rw[b,cW]) (h _ (S.alloc e b ho))
theorem tA(S:St w0 d l L O X w)(k:Nat){r:R4}(n:L[k]?=cu r)(j:Nat){o:O4}(e:O[j]?=cu o)(z:a.eval (.tmp x)=o.v)(B:a.eval (.tmp y)=bX (cu ⟨r.b,0,cw⟩) 1 1)(v:r.n=o.z)(A:xi P t o.e o.z by')(C:∀i,(r.f i).oneCell'=cx)(s:(o.n+1)*by'<=140737488355328)(q:o.n+1<=maxLen)(h:∀g cap W,St w0 d l L (O.set j ⟨o.e,o.z,bX (cu ⟨g,0,cw⟩) (o.n+1) cap,o.n+1,o.xs++(cL r.n r.f).t⟩) X W->wpList P ops Q rest (a.put (cu dst) (bX (cu ⟨g,0,cw⟩) (o.n+1) cap)) W):
 wpList P ops Q (⟨cu dst,.call {callee:=.builtin .append,args:=#[.tmp x,.tmp y],argTypes:=#[t,t]},t2,p,af,cw⟩::rest) a w:=by
 have⟨f,zv,hi,hz,h0⟩:=A;refine LV (o:=⟨cu dst,.call {callee:=.builtin .append,args:=#[.tmp x,.tmp y],argTypes:=#[t,t]},t2,p,af,cw⟩) ae (.tmp x) (.tmp y) t ae w0.h.s o.e zv o.z by' f hi hz h0 o.v o.n o.xs z (S.uS e) r.b (cL r.n r.f) r.t (0,0) B (S.oW n) (by rw[cW,v])
  (λu f=>?_) q s S.fr.size λg cap w' b m c _=>h g cap w' ?_
 grind[oE,Array.all_eq_true_iff_forall_mem];exact S.grow e m b ae c
def J7{B:gE}(d:a.eval (.tmp x)=bV A)(b:a.eval (.tmp ix)=bU cq k)(c:∀W,(Instr.index t (bV A) (bU cq k)).run P W=.ok (bV B) W)(h:wpList P ops Q rest (a.put (cu dst) (bV B)) w):wpList P ops Q (⟨cu dst,.index t (.tmp x) (.tmp ix),t2,p,af,cw⟩::rest) a w:=
 G1 (o:=⟨cu dst,.index t (.tmp x) (.tmp ix),t2,p,af,cw⟩) ae t (.tmp x) (.tmp ix) ae (bV B) jv h
end
def fK:kg prog 106 3:=⟨⟨_,Al,ae⟩,kx⟩
def CH:kg prog 191 24:=⟨⟨_,Gf,ae⟩,zS⟩
def Cd:kg prog 36 128:=⟨⟨_,vV,ae⟩,pC⟩
def gX:xi prog 107 106 3 24:=⟨underlying107,_,Zd,ae,cN⟩
theorem dk(h:A=cL 3 (dF q)):mO q=bV A:=by grind[GX]
def mr(l:Nat->cQ):List cQ:=(range 8).map l
def jY(cR:Nat)(x:Pl×(List cQ×Int))(q:cQ):Pl×(List cQ×Int):=
 if x.2.2≠0 then x else
 if jV q cR=cy then x else
 if(du x.1 q).2.2≠0 then((du x.1 q).1,([],(du x.1 q).2.2)) else
 ((du x.1 q).1,(x.2.1++q:: (mr (du x.1 q).2.1).filter (jV · cR),0))
def vA(cR:Nat)(l:List cQ)(x:Pl×(List cQ×Int)):Pl×(List cQ×Int):=l.foldl (jY cR) x
def gY(s:Pl)(cO:cQ)(cR:Nat):Pl×(List cQ×Int):=
 if jV cO cR=cy then(s,([],0)) else
 if(du s cO).2.2≠0 then((du s cO).1,([],(du s cO).2.2)) else
 vA cR (mr (du s cO).2.1) ((du s cO).1,([cO],0))
theorem abb{l:List cQ}{x:Pl×(List cQ×Int)}(h:x.2.2≠0):vA cR l x=x:=by unfold vA;induction l with|nil=>rfl|cons q l ih=>simp_all[jY]
theorem qf(l:Nat->cQ):(mr l).n=8:=by rfl
theorem Jm(l:Nat->cQ)(k:Nat)(h:k<(mr l).n):(mr l)[k]=l k:=by simp[mr]
theorem Mh(f:β->α->β)(b:β)(l:List α)(a:k<l.n):(l.take (k+1)).foldl f b=f ((l.take k).foldl f b) l[k]:=by grind[take_succ_eq_append_getElem]
theorem Uh(f:β->α->β)(b:β)(l:List α)(k:Nat):l.foldl f b=(l.drop k).foldl f ((l.take k).foldl f b):=by grind[take_append_drop]
theorem Xy{s:Pl}{st:Nat}(h:jV q st=cy):gY s q st=(s,([],0)):=by simp_all[gY]
theorem Ui{s a:Pl}{st:Nat}{l:Nat->cQ}{c:Int}(h:jV q st=cx)(b:du s q=(a,(l,c)))(hc:c≠0):gY s q st=(a,([],c)):=by grind[gY]
theorem Xz{s a:Pl}{st:Nat}{l:Nat->cQ}(h:jV q st=cx)(b:du s q=(a,(l,0))):gY s q st=vA st (mr l) (a,([q],0)):=by grind[gY]
structure rC where
 lT:Nat
 cR:Nat
 iL:cQ
 len:Nat
 gm:Nat
def kV(u:rC):Nat->c7:=λi=>if i=0 then bU ct u.lT else if i=1 then bU ct u.cR else if i<5 then dF u.iL (i-2) else if i=5 then bU cq u.len else bU cq u.gm
theorem Mi(u:rC):cL 7 (kV u)=#[bU ct u.lT,bU ct u.cR,bU cq u.iL.1,bU ct u.iL.2.1,bU .u32 u.iL.2.2,bU cq u.len,bU cq u.gm]:=rfl
theorem ug(u:rC):∀i,(kV u i).oneCell'=cx:=by intro i;unfold kV;split;rfl;split;rfl;split;exact dJ _ _;split<;>rfl
def lJ(u:rC):Bool:=decide (1<=u.lT/\u.lT<=281474976710655/\1<=u.cR/\u.cR<=281474976710655/\ij u.iL=cx/\u.iL≠cX/\1<=u.len/\u.len<=65535/\64<=u.gm/\u.gm<=1024)
def Mj{u:rC}(h:cM w b 143 7 (kV u)):w.cell? ⟨b,0,cw⟩=cu (.int ct u.lT)/\w.cell? ⟨b,1,cw⟩=cu (.int ct u.cR)/\w.cell? ⟨b,2,cw⟩=cu (.int cq u.iL.1)/\w.cell? ⟨b,3,cw⟩=cu (.int ct u.iL.2.1)/\w.cell? ⟨b,4,cw⟩=cu (.int .u32 u.iL.2.2)/\w.cell? ⟨b,5,cw⟩=cu (.int cq u.len)/\w.cell? ⟨b,6,cw⟩=cu (.int cq u.gm):=
 ⟨cM.cell h (i:=0) cN,cM.cell h (i:=1) cN,cM.cell h (i:=2) cN,cM.cell h (i:=3) cN,cM.cell h (i:=4) cN,cM.cell h (i:=5) cN,cM.cell h (i:=6) cN⟩
section
attribute[local irreducible]wpList Code.wp Calls Oper.wp wpAnyH
theorem OK(u:rC)(w:cS):tf 260 #[bV (cL 7 (kV u))] w (bZ (lJ u)):=by
 have d:=cz (yK u.iL);have⟨b,a⟩:=dI (decide (u.iL=cX));have c:=F9 u.iL cX b a;have⟨A,HA⟩:=yB (cL 7 (kV u));rw[<-HA.o];have S:=St.start w cw [] xh iG;have⟨r,hr⟩:=dI (ij u.iL);rw[hr] at d;have v:lJ u=decide (1<=u.lT/\u.lT<=281474976710655/\1<=u.cR/\u.cR<=281474976710655/\r=cx/\b=cy/\1<=u.len/\u.len<=65535/\64<=u.gm/\u.gm<=1024):=by unfold lJ;rw[hr,<-a];simp
 have p:=cz v;clear v hr a;have⟨t,s,⟨p1,p2,p3⟩,l,n⟩:=u;simp only[mO] at d c p|-;unfold cX at c;simp only at c;have y:∀w,(binOp .neq 106 (bV #[bU cq p1,bU ct p2,bU .u32 p3]) (bV #[bU cq 0,bU ct 0,bU .u32 0])).run prog w=.ok (bZ !b) w:=c;clear c;go_enter func260,ntmps260;go_wp2_with (first|((with_reducible refine Zg 1 143 0 ?_);refine yZ S ae HA.o ae ?_;clear S;intro W S;obtain⟨f,g,h,i,j,m,o⟩:=Mj (S.oW (k:=0) ae);simp only at f g h i j m o)|(go_at_call 241;refine aj (d.o _) λW a=>?_;replace S:=S.cP a;clear a f g h i j m o;obtain⟨f,g,h,i,j,m,o⟩:=Mj (S.oW (k:=0) ae);simp only at f g h i j m o));all_goals go_ret
 all_goals(refine⟨?_,S.fr.cP⟩;rw[p.o];clear S p d HA;first|(show Ending.returned (bZ cy)=_;rw[jG (λq=>by obtain⟨_,_,_,_,_,_,_,_,_,_⟩:=q;first|omega|simp_all)])|refine gD (λx=>Ending.returned (bZ x)) (decide_eq_decide.2 ⟨λ_=>⟨cN,cN,by omega,cN,by assumption,by simp_all,cN,by omega,cN,cN⟩,λq=>by obtain⟨_,_,_,_,_,_,_,_,_,_⟩:=q;omega⟩))
end
def Mk(k:IntKind)(l:List Int):Nat->c7:=λi=>bU k (l.getD i 0)
theorem adS(k:IntKind)(l:List Int)(h:l.n=n):(l.map (Value.int k)).toArray=cL n (Mk k l):=by apply yp;intro j;rw[Lo,rO,dy];by_cases a:j<n;simp_all[Mk];grind
theorem eT.row{k:IntKind}{l:List Int}(h:cM w b t n (Mk k l))(a:l.n=n)(e:n<=9223372036854775807)(c:∀x∈l,(Lit.int k x).wf=cx):eT k w (bX (cu ⟨b,0,cw⟩) n n) l:=by refine⟨_,_,by rw[a],cN,c,λ_=>⟨b,0,ae,cM.lt h,λj d=>?_⟩⟩;rw[oQ,cM.cell h cN];grind[Mk]
def Ap:(prog.info? 82).map (λi=>(i.zero,i.s,i.bytes))=cu (cu (.int ct 0),1,8):=dC
def uT:(prog.info? 3).map (λi=>(i.zero,i.s,i.bytes))=cu (cu (.int cq 0),1,8):=dC
section
variable {L:List R4}{O:List O4}{ty:dU}
def St.iv(h:St w0 d l L O X w)(a:dR w w')(ho:w'.ownsRow w.h.s e z v n xs)(b:gV e=cy)(c:lS e=cy):St w0 d l L (⟨e,z,v,n,xs⟩::O) X w':=
 h.take (h.cP a) ho b c λB f=>h.mh.cP (B:=B) f a
def St.uh(h:St w0 d l L O X w)(f:Fr d2 l2 w w')(g:∀D,d2=cu D->d=cu D)(i:∀k∈l2,k∈l∨w0.h.s<=k)(j:lO d X')(a:∀B,X B w->X' B w')(ho:w'.ownsRow w.h.s e z v n xs)(b:gV e=cy)(c:lS e=cy):St w0 d l L (⟨e,z,v,n,xs⟩::O) X' w':=
 h.take (h.call f g i j a) ho b c a
def XA(dst:Nat)(ty:dU)(n:Nat)(h:wpList P ops Q (⟨cu dst,.buildSlice ty n parts,t2,p,af,cw⟩::rest) a w):wpList P ops Q (⟨cu dst,.buildSlice ty n parts,t2,p,af,cw⟩::rest) a w:=h
def RC(x y:Nat){o:Option Nat}(h:wpList P ops Q (⟨o,.call {callee:=.builtin .copy,args:=#[.tmp x,.tmp y],argTypes:=ts},t2,p,af,cw⟩::rest) a w):wpList P ops Q (⟨o,.call {callee:=.builtin .copy,args:=#[.tmp x,.tmp y],argTypes:=ts},t2,p,af,cw⟩::rest) a w:=h
def zZ(dst:Nat)(ty:dU)(h:wpList P ops Q (⟨cu dst,.build ty parts,t2,p,af,cw⟩::rest) a w):wpList P ops Q (⟨cu dst,.build ty parts,t2,p,af,cw⟩::rest) a w:=h
def mH(S:St w0 d l L O X w)(k:IntKind)(b:List Int)(m:P.underlying t=cu (.slice e))(g:(P.info? e).map (λi=>(i.zero,i.s,i.bytes))=cu (cu zv,1,by'))(q:0<n)(r:n<=16777216)(ho:gV e=cy)(c:b.n=n)(j:parts.t.map (λp=>(p.1,a.eval p.2))=((b.map (Value.int k)).zipIdx 0).map λx=>(x.2,x.1))(h:∀W,St w0 d l (⟨w.h.s,e,n,Mk k b⟩::L) O X W->wpList P ops Q rest (a.put (cu dst) (bX (cu ⟨w.h.s,0,cw⟩) n n)) W):
 wpList P ops Q (⟨cu dst,.buildSlice t n parts,t2,p,af,cw⟩::rest) a w:=by have⟨it,hi1,hz,hz1,hz2⟩:=oG g;refine mC ae λK f=>wp_buildSlice t e n parts ae (cL n (Mk k b)) it zv m hi1 hz jv jv (by rw[hz1];refine(gD (Instr.fill _ _) ((Array.toList_map).trans j)).trans ?_;rw[<-adS k b c];exact Great.fill_flat _ _ (λv o=>by obtain⟨n,_,rfl⟩:=gI.1 o;rfl) (by simp[c])) (f _ _ (h _ (S.alloc e ae ho)))
theorem Uj(S:St w0 d l L O X w)(k:Nat){cap:Nat}{o:Option Nat}(f:L[k]?=cu ⟨b,36,128,dg s⟩){q:Nat}(G:s.n=q)(R:lN w T v bs)(E:s.n+bs.n<=128)(F:bs.n<=m)(g:P.underlying dT=cu (.slice 5))(e:(P.info? 5).map (·.size)=cu 1)(t:a.eval (.tmp x)=bX (cu ⟨b,q,cw⟩) m cap)(A:a.eval (.tmp y)=v)(h:∀W,St w0 d l (L.set k ⟨b,36,128,dg (s++bs)⟩) O X W->wpList P ops Q rest (a.put o (goInt bs.n)) W):
 wpList P ops Q (⟨o,.call {callee:=.builtin .copy,args:=#[.tmp x,.tmp y],argTypes:=#[dT,sT]},t2,p,af,cw⟩::rest) a w:=by
 subst G;obtain⟨⟨J,B,c,rfl,K,M,D⟩,h5⟩:=R;by_cases C:bs.n=0;obtain rfl:bs=[]:=yr C;refine wpList_copy_nothing ae (.tmp x) (.tmp y) dT sT ae 5 g e _ B m cap _ c t A (Nat.zero_min _) (h _ ?_);have:=S.modify f (dg (s++[])) (jX.refl _ _) (by rw[wR];exact S.oW f);exact this
 . obtain⟨i,o',H,I,rfl,N,hc⟩:=D cN;have z:Nat.min bs.n m=bs.n:=vH F;refine wpList_copy_own ae (.tmp x) (.tmp y) dT sT ae 5 g e b s.n m cap ⟨i,o',cw⟩ _ c t A (cL 128 (dg s)) 36 (S.oW f) (bs.map λ(x:Nat)=>Value.int .u8 (x:Int)) cN
    (λj u U=>?_) aG (λu g=>by obtain⟨_,_,rfl⟩:=gI.1 g;rfl) ?_
   (have r:(⟨i,o',cw⟩:Addr).add j=⟨i,o'+j,cw⟩:=by grind[Addr.add]);grind[cell_of_row];rw[mQ];have n:=Ao s bs E;unfold splice at n;rw[mQ] at n;rw[n];exact h _ (S.set f _)
theorem OL(w:cS)(dT sT ty c:dU)(g o b d:Nat)(s:fF)(a:gE)(t:dU)(j:P.underlying dT=cu (.slice c))(i:(P.info? c).map (·.size)=cu 1)(h:w.h[g]?=cu (.cells a t (0,0)))(f:s.s<=b)(e:o+s.s<=a.s):
 (Builtin.copy_ #[dT,sT] ty #[bX (cu ⟨g,o,cw⟩) b d,bY s]).run P w=.ok (goInt s.s) (w.setRow g (a.t.take o++byteCells s.data.t++a.t.drop (o+s.s)).toArray):=
 by grind[run_copy_row_string]
def rW(s:fF):cV:=s.data.toList.map UInt8.toNat
def abc(x:Nat){s:fF}{o:Option Nat}(h:wpList P ops Q (⟨o,.call {callee:=.builtin .copy,args:=#[.tmp x,.const (bY s)],argTypes:=ts},t2,p,af,cw⟩::rest) a w):wpList P ops Q (⟨o,.call {callee:=.builtin .copy,args:=#[.tmp x,.const (bY s)],argTypes:=ts},t2,p,af,cw⟩::rest) a w:=h
theorem ajK(S:St w0 d l L O X w)(k:Nat){cap:Nat}{o:Option Nat}(i:L[k]?=cu ⟨b,36,128,dg s⟩){q:Nat}(u:s.n=q)(t:s.n+(rW str).n<=128)(y:(rW str).n<=m)(v:P.underlying dT=cu (.slice 5))(f:(P.info? 5).map (·.size)=cu 1)(r:a.eval (.tmp x)=bX (cu ⟨b,q,cw⟩) m cap)(h:∀W,St w0 d l (L.set k ⟨b,36,128,dg (s++rW str)⟩) O X W->wpList P ops Q rest (a.put o (goInt str.s)) W):
 wpList P ops Q (⟨o,.call {callee:=.builtin .copy,args:=#[.tmp x,.const (bY str)],argTypes:=#[dT,sT]},t2,p,af,cw⟩::rest) a w:=by
 subst u;have e:(rW str).n=str.s:=by grind[rW,size_eq]
 refine mC ae λK j=>?_;have c:=OL (P:=P) w dT sT t2 5 b s.n m cap str (cL 128 (dg s)) 36 v f (S.oW i) cN aG;have g:=Ao s (rW str) t;have n:byteCells str.data.t=(rW str).map λ(x:Nat)=>Value.int .u8 (x:Int):=by unfold rW;rw[wO];rfl
 unfold splice at g;rw[mQ,<-n,e,<-wP] at g;rw[g] at c;unfold Oper.wp;simp[execOp,resolve,invoke,builtin,r,show a.eval (.const (bY str))=bY str from ae,c,Result.andThen];exact j _ _ (h _ (S.set i _))
def uU(S:St w0 d l L O X w)(e:∀w,(zeroValue ty).run P w=.ok (bV Z) w)(c:Z=cL n f)(ho:gV ty=cy)(h:∀W,St w0 d l (⟨w.h.s,ty,n,f⟩::L) O X W->wpList P ops Q rest (a.put (cu dst) (bW (cu ⟨w.h.s,0,cw⟩))) W):wpList P ops Q (⟨cu dst,.alloc ty,t2,p,af,cw⟩::rest) a w:=by refine mC ae λK b=>?_;unfold Oper.wp execOp;simp only[lh,Instr.alloc,e,newVar,newRow,Gl,rR,nW];exact b _ _ (h _ (S.alloc ty c ho))
def A7(b:P.built ty []=cu Z)(h:wpList P ops Q rest (a.put (cu dst) (bV Z)) w):wpList P ops Q (⟨cu dst,.build ty #[],t2,p,af,cw⟩::rest) a w:=
 wpList_buildTo ae ty #[] ae (cu dst) ae Z (aid b _) h
theorem oY(S:St w0 d l L O X w)(k:Nat){r:R4}{p q:Tmp}(e:L[k]?=cu r)(h:fn.results=#[.cell p ty,.tmp q])(f:a.tmps.getD p undef=bW (cu ⟨r.b,0,cw⟩))(g:kg P ty r.n)(c:a.defers=[])(b:R (cj (cg #[bV (cL r.n r.f),a.tmps.getD q undef])) w):bodyPost P fn R .ret a w:=by have⟨⟨dd,h1,h2⟩,h3⟩:=g;exact iH (mD h f (S.oW e) h1 jv h3) c b
theorem G9(S:St w0 d l L O X w)(k:Nat){r:R4}{p q b:Tmp}(f:L[k]?=cu r)(h:fn.results=#[.cell p ty,.tmp q,.tmp b])(g:a.tmps.getD p undef=bW (cu ⟨r.b,0,cw⟩))(i:kg P ty r.n)(e:a.defers=[])(c:R (cj (cg #[bV (cL r.n r.f),a.tmps.getD q undef,a.tmps.getD b undef])) w):bodyPost P fn R .ret a w:=by have⟨⟨dd,h1,h2⟩,h3⟩:=i;exact iH (OB h g (S.oW f) h1 jv h3) e c
theorem ago(S:St w0 d l L O X w)(k:Nat){r:R4}{p:Tmp}(e:L[k]?=cu r)(h:fn.results=#[.cell p ty])(f:a.tmps.getD p undef=bW (cu ⟨r.b,0,cw⟩))(g:kg P ty r.n)(c:a.defers=[])(b:R (cj (bV (cL r.n r.f))) w):bodyPost P fn R .ret a w:=by have⟨⟨dd,h1,h2⟩,h3⟩:=g;exact iH (TQ h f (S.oW e) h1 jv h3) c b
end
theorem lN.EA(h:cM w E 36 128 (dg s))(d:j0 s)(o n cap:Nat)(i:o+n<=128)(hc:n<=cap)(e:cap<=128):lN w 36 (bX (cu ⟨E,o,cw⟩) n cap) ((s.drop o).take n):=by
 have f:((s.drop o).take n).n=n:=by rw[lP,tY,d.1];omega
 refine⟨⟨by grind,_,_,by rw[f],cN,by grind[maxLen],λ_=>⟨E,o,_,_,ae,h,λj u b=>?_⟩⟩,λx g=>d.2 x (mS (lQ g))⟩;rw[rO] at b;cases c:((s.drop o).take n)[j]? with
 |none=>grind
 |some x=>
  rw[c] at b;cases b;have a:j<n:=by grind
  rw[getElem?_take,df a,getElem?_drop] at c;rw[dy,df cN];grind[dg]
theorem Ml(s:cV)(n:Nat):dg (s++replicate n 0)=dg s:=by grind[dg]
def mu:rC:=⟨0,0,cX,0,0⟩
def Zh:(#[Value.int ct 0,bU ct 0,bU cq 0,bU ct 0,bU .u32 0,bU cq 0,bU cq 0]:gE)=cL 7 (kV mu):=rfl
def Fk:kg prog 143 7:=⟨⟨_,underlying143,ae⟩,dC⟩
def fZ:lD prog 82:=⟨⟨_,underlying82,ae⟩,dC⟩
def DG:lD prog 3:=⟨⟨_,vP,ae⟩,dC⟩