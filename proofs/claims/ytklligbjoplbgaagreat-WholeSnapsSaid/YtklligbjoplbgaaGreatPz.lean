/- WholeSnaps holds of the given program. No conditions. -/
import Derived.Test.YtklligbjoplbgaaGreatPai
import Derived.Test.YtklligbjoplbgaaGreatRows
import Derived.Deep.Strs
set_option linter.all false
open List renaming length->List.n
open String renaming length->String.n
open Array renaming size->Array.s,toList->Array.t
open ByteArray renaming size->ByteArray.s,toList->ByteArray.t
open Go.TypeInfo renaming size->Go.TypeInfo.s
open Go.RowKit.Below renaming size->Go.RowKit.Below.s
open Option renaming toList->Option.t,some->cu,none->cw
open Go.World renaming heap->Go.World.h
open Int renaming toNat->Int.m
open Go.Value renaming int->bU,agg->bV,pointer->bW,slice->bX,string->bY,bool->bZ,tuple->cg
open Go.Ending renaming returned->cj
open Go.IntKind renaming i64->cq
open Bool renaming true->cx,false->cy
namespace Go.Proofs.YtklligbjoplbgaaGreat
set_option maxRecDepth 100000
set_option maxHeartbeats 64000000
open Go.RowKit Lib List Nat _root_.Go.Proofs.Tryz Go.Shelf
variable {b:ee}{r:ee×Int}{dK:Bool}{sn ir zz:fF}{d:Dv}{x z:GT}{ats text:cV}{tk:List (Int×Int)}{jQ iP:List cQ}{c:List dw}{cs xs:List c7}{N a base fuel i j k n:Nat}{spare:Nat->Bool}{B E:Nat->cV}{A C:Nat->Prop}{s:Pl}{t:Pl×(cQ×(List cQ×Int))}{q cO top:cQ}{s0 v y:dw}{e:dU}{H α:Type}{u:rC}{w:cS}
theorem FR(v s:fF):(kX v s).s<=49:=by unfold kX;split;decide;next h=>have a:v.s<=24:=kF jv;split;omega;split;decide;next h2=>have b:s.s<=24:=kF jv;rw[Lx,Lx];have:yh.s=1:=rfl;omega
theorem YN(l:List dw)(id:Nat):(l7 l id).s<=49:=by unfold l7;split;decide;split;exact FR _ _;split;decide;grind[FR]
def V4{i:Af}(h:i∈pL x):i.1.s<=49:=by unfold pL at h;obtain⟨s,_,rfl⟩:=gI.1 h;exact YN _ _
theorem GK(x:GT):(pL x).n=x.b.cU.n:=by grind[pL]
def acz(i:Af):(Z8 i).n=4:=by rfl
structure akG(x:IQ):Prop where
 name:x.name.s<=140737488355328
 toN:x.toN.s<=140737488355328
 data:x.data.n<=140737488351232
 fI:x.fI.n<=140737488351232
 n:fh x.n
 byte:∀y∈x.data,y<256
structure YO(w:cS)(v:c7)(l:List IQ):Prop where
 row:∃T,c8 w T 6 v l.n (opC l)
 dat:∀x∈l,∃T,c8 w T 1 (bX x.da x.data.n x.dc) x.data.n (ej x.data)
 kep:∀x∈l,∃T,c8 w T 1 (bX x.ka x.fI.n x.kc) x.fI.n (An x.fI)
 op:∀x∈l,akG x
section
open Go.Deep Go.ChangeShapes Go.WideShapes Go.ChangeAt
theorem kO{a b:Bool}(h:a=cx)(g:b=cx):(a&&b)=cx:=by grind
def own:ownKnob prog.godebug=cw:=dC
def laidOut:laidOutB prog=cx:=dC
def ajf:prog.cellsOf 5=1:=dC
def ahs:mapsRowed prog=cx:=dC
def aht:(prog.stops==[])=cx:=dC
def ahu:(prog.stopKnobs==[])=cx:=dC
def ahv:prog.stopsHeard=cx:=dC
def ahw:prog.mayEnter=cx:=dC
def ahx:prog.liftsFinal=cy:=dC
def ajg:(prog.make==cu .cut)=cx:=dC
end
section
open Go.Deep Go.ChangeShapes Go.WideShapes Go.ChangeAt
section
variable {enc:dU×c7->H}
theorem ahy{a:Addr}{u:c7}(h:w.cell? a=cu u):∃cs T b,w.h[a.block]?=cu (.cells cs T b)/\cs[a.off]?=cu u/\a.spot=cw:=by grind[World.cell?_spot,World.cell?]
theorem JM{t:dU}{z:Nat}(hu:prog.underlying t=some (.slice e))(hz:prog.cellsOf e=z)(M:0<z)(cells:α->List c7)(hk:∀a,(cells a).length=z)(Q:α->DataW H->Prop)(hE:∀cs n D Pl,DataW.trod enc prog w base spare dK n e cs=some (D,Pl)->∃a,cs=cells a/\Q a D){v:c7}{d:DataW H}{p:List MemPlace}(h:DataW.trod enc prog w base spare dK fuel t [v]=some (d,p)):
 ∃(l:List α)(ao:Option Addr)(cap:Nat),v=.slice ao l.length cap/\(∃T,c8 w T z v l.length (l.flatMap cells))/\(∀a∈l,∃g Z D,d=.slice g Z/\D∈g/\g.length=l.length/\Q a D):=by
 rcases open_slice hu h with⟨J,Y⟩|⟨x,c,cap,m,n,D,Pl,J,_,R,U,a4,Y,A⟩
 . obtain rfl:v=.slice none 0 0:=by grind
   exact⟨[],none,0,ae,⟨0,by simp,none,0,ae,eN _,gw _,λh=>absurd h (ud _)⟩,λa h=>absurd h jK⟩
 . obtain rfl:v=.slice (some x) c cap:=by grind
   have a3:c<=m:=by grind
   rw[hz] at A;have O:∀i:Fin c,∃a,(∀j,j<z->w.cell? (x.add (i.val*z+j))=(cells a)[j]?)/\Q a (D i.val):=by
    intro i;obtain⟨F,hc,ht⟩:=A i.val cN;obtain⟨a,rfl,V⟩:=hE _ _ _ _ ht;obtain⟨_,_,a2⟩:=World.cells?_some hc
    grind[add_add]
   have ea:∀k,(x.add k).block=x.block/\(x.add k).off=x.off+k/\(k=0->x.add k=x):=λk=>by grind[Addr.add]
   let f:Fin c->α:=λi=>Classical.choose (O i)
   have hf:∀i,(∀j,j<z->w.cell? (x.add (i.val*z+j))=(cells (f i))[j]?)/\Q (f i) (D i.val):=λi=>Classical.choose_spec (O i);have q:(ofFn f).length=c:=length_ofFn;refine⟨ofFn f,some x,cap,by rw[q],?_,?_⟩
   . rw[q];rcases vK c with h0|h0
     . subst h0;exact⟨0,by simp,some x,cap,ae,R,U,λh=>absurd h (ud _)⟩
     . have r:∀i(K:i<c)j(E:j<z),∃cs T I,w.heap[x.block]?=some (.cells cs T I)/\cs[x.off+(i*z+j)]?=(cells (f ⟨i,K⟩))[j]?/\(i*z+j=0->x.spot=none):=λi K j E=>by
        have h1:=(hf ⟨i,K⟩).1 j E
        grind[ahy]
       obtain⟨cs,T,I,G,_,C⟩:=r 0 h0 0 M;obtain⟨b,o,Z⟩:=x;have C:=C eQ;simp only at G C r;subst C;refine⟨T,by grind[xk],s_ b o,cap,ae,R,U,λ_=>⟨b,o,cs,I,ae,G,λj u E=>?_⟩⟩;have L:j<c*z:=by grind[xk]
       have V:j/z<c:=(div_lt_iff_lt_mul M).2 L;have X:j%z<z:=mod_lt _ M;have B:j/z*z+j%z=j:=by grind[div_add_mod]
       obtain⟨F,T',a1,s,y,_⟩:=r (j/z) V (j%z) X;rw[G] at s;cases s;rw[B] at y;have N:=flat_get hk (ofFn f) (i:=j/z) cN X;rw[B,E] at N;rw[y,N];simp
   . intro a ha;obtain⟨i,rfl⟩:=List.mem_ofFn.1 ha;cases Y<;>grind
theorem V5{α β:Type}(g:α->β)(l:List α):l.flatMap (λa=> [g a])=l.map g:=by induction l<;>simp_all
theorem acA{t:dU}(i:prog.underlying t=cu (.slice 5)){v:c7}{d:DataW H}{p:List MemPlace}(h:DataW.trod enc prog w base spare dK fuel t [v]=cu (d,p)):
 ∃(l:cV)(c:Option Addr)(cap:Nat),v=bX c l.n cap/\(∃T,c8 w T 1 v l.n (ej l))/\(∀y∈l,y<256)/\((∀n∈d.weights prog t,n<=reachBytes)->l.n<=140737488351232):=by
 obtain⟨l,c,cap,e,⟨T,R⟩,g⟩:=JM i ajf kB (λ(a:Nat)=> [Value.int .u8 (a:Int)]) (λ_=>ae) (λa _=>a<256) (λcs n D Pl h=>by
  obtain⟨y,rfl,_,f⟩:=DataW.trod_int yU h;have o:IntKind.u8.min=0:=rfl;have q:IntKind.u8.max=255:=rfl;simp[Lit.wf] at f;exact⟨y.m,by grind,cN⟩) h
 refine⟨l,c,cap,e,⟨T,by grind[ej,V5]⟩,λy k=>(g y k).choose_spec.choose_spec.choose_spec.2.2.2,λf=>?_⟩;rcases l with _|⟨a,l⟩;grind;obtain⟨b,m,D,rfl,_,j,_⟩:=g a nC;have:=f ((b.n+m.n)*prog.bytesOf 5) (by simp[DataW.weights,i]);rw[show prog.bytesOf 5=1 from by kernel_rfl,j] at this;grind[reachBytes]
theorem acB{t:dU}(f:prog.underlying t=cu (.slice 4)){v:c7}{d:DataW H}{p:List MemPlace}(h:DataW.trod enc prog w base spare dK fuel t [v]=cu (d,p)):
 ∃(l:List Bool)(c:Option Addr)(cap:Nat),v=bX c l.n cap/\(∃T,c8 w T 1 v l.n (An l))/\((∀n∈d.weights prog t,n<=reachBytes)->l.n<=140737488351232):=by
 obtain⟨l,c,cap,e,⟨T,R⟩,i⟩:=JM f (show prog.cellsOf 4=1 from by kernel_rfl) kB (λ(a:Bool)=> [Value.bool a]) (λ_=>ae) (λ_ _=>True) (λcs n D Pl h=>by
  obtain⟨y,rfl,_⟩:=DataW.trod_bool underlying4 h
  grind) h
 refine⟨l,c,cap,e,⟨T,by grind[An,V5]⟩,λj=>?_⟩;rcases l with _|⟨a,l⟩;grind;obtain⟨b,k,D,rfl,_,g,_⟩:=i a nC;have:=j ((b.n+k.n)*prog.bytesOf 4) (by simp[DataW.weights,f]);rw[show prog.bytesOf 4=1 from by kernel_rfl,g] at this;grind[reachBytes]
def alu{x:Int}(h:(Lit.int cq x).wf=cx):fh x:=by have a:IntKind.i64.min= -9223372036854775808:=rfl;have b:IntKind.i64.max=9223372036854775807:=rfl;simp[Lit.wf] at h;unfold fh;omega
theorem KH{P:oN}{e:dU}:∀{l:List (DataW H)}{D:DataW H},D∈l->∀n∈D.weights P e,n∈DataW.weightsAll P e l
 |d::l,D,h,n,hn=>by
  unfold DataW.weightsAll;rcases iZ.1 h with rfl|h
  . grind
  . exact Dj _ (KH h n hn)
def afL:prog.cellsOf 3=1/\prog.cellsOf 9=1/\prog.cellsOf 22=1/\prog.cellsOf 39=1/\prog.cellsOf 41=6:=⟨dC,by kernel_rfl,by kernel_rfl,by kernel_rfl,dC⟩
structure OpQ(w:cS)(x:IQ)(D:DataW H):Prop where
 dat:∃T,c8 w T 1 (bX x.da x.data.n x.dc) x.data.n (ej x.data)
 kep:∃T,c8 w T 1 (bX x.ka x.fI.n x.kc) x.fI.n (An x.fI)
 op:(∀n∈D.weights prog 41,n<=reachBytes)->akG x
def ahz{D:DataW H}{Pl:List MemPlace}(h:DataW.trod enc prog w base spare dK n 41 cs=some (D,Pl)):∃x:IQ,cs=opE x/\OpQ w x D:=by
 obtain⟨Y,Z,u,v,y⟩:=afL;obtain⟨xs,m,_,X,g,i,a⟩:=DataW.trod_struct underlying41 h;rw[y] at g
 match cs,g with
 | [c0,c1,c2,c3,c4,c5],_=>
 match xs,i with
 | [y0,y1,y2,y3,y4,y5],_=>
  have B:=a 0 _ ae;have C:=a 1 _ ae;have E:=a 2 _ ae;have F:=a 3 _ ae;have G:=a 4 _ ae;have I:=a 5 _ ae;simp only[Y,Z,u,v,drop_zero,drop_succ_cons,take_succ_cons,take_zero,getElem?_cons_zero,getElem?_cons_succ] at B C E F G I;obtain⟨p,M,x0,_⟩:=DataW.trod_int vP B;obtain⟨b,N,x1,_⟩:=DataW.trod_string za C;obtain⟨c,O,x2,_⟩:=DataW.trod_string za E;obtain⟨q,Q,x3,w3⟩:=DataW.trod_int vP F;obtain⟨z,p4⟩:=y4;obtain⟨A,p5⟩:=y5;obtain⟨l4,r,e,R,J,L,w4⟩:=acA oT G;obtain⟨l5,s,f,T,K,w5⟩:=acB underlying39 I;cases M;cases N;cases O;cases Q;subst R T x0 x1 x2 x3;cases X;have o:∀{j t}{d:DataW H},([3,9,9,3,22,39]:List dU)[j]?=some t->([.lit (.int .i64 p),.lit (.string b.data.toList),.lit (.string c.data.toList),.lit (.int .i64 q),z,A]:List (DataW H))[j]?=some d->∀n∈d.weights prog t,n∈(DataW.agg [.lit (.int .i64 p),.lit (.string b.data.toList),.lit (.string c.data.toList),.lit (.int .i64 q),z,A]:DataW H).weights prog 41:=λU V n k=>by
   unfold DataW.weights;rw[underlying41];exact DataW.weights_mem_each U V n k
  refine⟨⟨⟨p,b,c,q,l4,l5⟩,r,e,s,f⟩,ae,J,K,λl=>⟨?_,?_,?_,?_,alu w3,L⟩⟩
  . have:=l _ (o (j:=1) ae ae b.data.toList.length (by simp[DataW.weights]));unfold reachBytes at this;show b.size<=_;simp at this;omega
  . have:=l _ (o (j:=2) ae ae c.data.toList.length (by simp[DataW.weights]));unfold reachBytes at this;show c.size<=_;simp at this;omega
  . exact w4 λn k=>l n (o (j:=4) ae ae n k)
  . exact w5 λn k=>l n (o (j:=5) ae ae n k)
theorem aah{v:c7}{d:DataW H}{p:List MemPlace}(h:DataW.trod enc prog w base spare dK fuel 30 [v]=cu (d,p))(g:∀n∈d.weights prog 30,n<=reachBytes):
 ∃(l:List IQ)(b:Option Addr)(cap:Nat),v=bX b l.n cap/\YO w v l:=by obtain⟨l,b,cap,e,R,f⟩:=JM underlying30 afL.2.2.2.2 kB opE Ll (OpQ w) (λcs n D Pl h=>ahz h) h;refine⟨l,b,cap,e,⟨R,λx a=>?_,λx a=>?_,λx a=>?_⟩⟩;obtain⟨_,_,D,_,_,_,q⟩:=f x a;exact q.dat;obtain⟨_,_,D,_,_,_,q⟩:=f x a;exact q.kep;obtain⟨c,k,D,rfl,i,_,q⟩:=f x a;refine q.op λn j=>g n ?_;grind[DataW.weights,underlying30,KH]
end
end
structure xR(x:GT)(d:Dv):Prop where
 n:d.n=x.s.dv.n
 nw:∀a,x.s.mp a≠1->d.nw a=x.s.dv.nw a
def Wr.agree(w:Wr (λa=>x.s.mp a=1) x.s.dv d):xR x d:=⟨w.n,λ_ h=>w.nw h⟩
theorem xR.pt{x:GT}{d:Dv}(G:Good x)(w:xR x d){s:dw}(a:s∈x.b.cU):(∀k,pt d.nw s.cO k=pt x.s.dv.nw s.cO k)/\(∀k,pt x.s.dv.nw s.cO k≠cX->d.nw (pt x.s.dv.nw s.cO k).1=x.s.dv.nw (pt x.s.dv.nw s.cO k).1):=by
 have k:∀k,Go.Proofs.YtklligbjoplbgaaGreat.pt x.s.dv.nw s.cO k≠cX->d.nw (Go.Proofs.YtklligbjoplbgaaGreat.pt x.s.dv.nw s.cO k).1=x.s.dv.nw (Go.Proofs.YtklligbjoplbgaaGreat.pt x.s.dv.nw s.cO k).1:=λk h=>w.nw _ (by
  have:=G.tk _ ⟨s,k,a,h,ae⟩;omega)
 exact⟨((G.rd s a).congr k).2,k⟩
theorem Good.agree(G:Good x)(w:xR x d):Good (asked x d):=by
 have e:∀s∈x.b.cU,∀k,pt d.nw s.cO k=pt x.s.dv.nw s.cO k:=λs b=>(w.pt G b).1;have c:=λa=>Re.GC (M:=(·∈x.b.cU)) e a;refine⟨G.inc,G.q6,G.xE,G.ti.GC e,λs b=>?_,?_,?_,λa h=>G.tk a ((c a).1 h),λa h=>(G.ac a h).imp (c a).2 id,λq h=>?_,G.nd,G.st,G.nx⟩;show Rd d.nw d.n s.cO;rw[w.n];exact((G.rd s b).congr (w.pt G b).2).1
 show sW d.n x.s.mp;rw[w.n];exact G.map
 show 64<=d.n/\d.n<=1024;rw[w.n];exact G.n
 have:=G.hd q h;simp_all[asked]
theorem Laid.congr{D:Nat->cV}{st:Nat}{dK:List cQ}(L:Laid D n st q text tk dK ats)(e:∀a∈ats,E a=D a):Laid E n st q text tk dK ats:=by obtain⟨⟨y,z,l,m,A,d,f,g,i,j,k,o,B,C,p,r,s,t,u,b,c,v⟩,w,x⟩:=L;exact⟨⟨y,z,l,m,A,d,f,g,i,j,k,o,by grind,by grind,p,r,s.congr λa h=>e a (b a h),t.congr λa h=>e a (c a h),u,b,c,v⟩,w,x⟩
def Good.low(G:Good x)(h:a<4):x.s.mp a≠1:=λe=>by have:=(G.map a).2.1 cN;omega
def IM.agree{y:GT}(D:IM x y)(w:xR y d):IM x (asked y d):=by have G:=D.oC;obtain⟨text,ats,c,L,f⟩:=D.laid;have j:=λt=>mod_lt t (show 4>0 by decide);refine⟨G.agree w,D.b,w.n.trans D.n,⟨text,ats,c,L.congr λa g=>w.nw a λe=>?_,f⟩,D.ub,(w.nw _ (G.low (j _))).trans D.slot,λa h b=>(w.nw a (G.low h)).trans (D.ring a h b),D.cR,D.dK,D.free,D.two⟩;obtain⟨q,i,rfl⟩:=gI.1 (L.perm.mem_iff.2 g);have:=(G.hd q i).1;omega
def Ring.agree(G:Good x)(R:Ring x.s.dv.nw u)(w:xR x d):Ring d.nw u:=
 ⟨(w.nw _ (G.low (mod_lt _ kB))).trans R.here,R.right,R.parts,λi b a v c=>by rw[w.nw i (G.low b)] at c;exact R.iP i b a v c⟩
def Fit.agree(F:Fit x)(w:xR x d):Fit (asked x d):=F.dev w.n
theorem YP(D:IM x z)(R:Ring z.s.dv.nw z.ub)(F:Fit z)(o:z.s.dv.di=cy)(t:∀s∈z.b.cU,tU s)(E:z.ub.lT<=281474976710600/\z.b.next<=281474976710600/\z.ub.cR<=281474976710600):
 ∃d,mM z.s.dv=(asked z d,0)/\Wr (λ_=>False) z.s.dv d/\d.di=cy:=by
 have G:=D.oC;have B:=G.n;obtain⟨r,c,A⟩:=ach R o cN;obtain⟨text,ats,l,L,k⟩:=D.laid;rw[<-D.b] at l;rw[<-D.n] at L;have p:(fW z.s.dv).1.nw=z.s.dv.nw:=funext λa=>c.nw id;obtain⟨v,w,pv,j,dv⟩:=aci (u:=⟨(fW z.s.dv).1,qH (z.s.dv.n:Nat),0,0⟩) L G.map G.n l t (G.afl F) A c.n (λa _=>congrFun p a);refine⟨v.dv,?_,c.trans pv.wr,dv⟩;have q:zA (qH (z.s.dv.n:Nat)) (nV (lq z.s.mp 2))=z.s.mp:=by
  funext a;have H:∀i:Int,i∈nV (lq z.s.mp 2)↔∃b:Nat,(b:Int)=i/\b<1024/\z.s.mp b=2:=λi=>by
   have m:∀n:Fin 4096,n∈kJ (lq z.s.mp 2)↔n.val<1024/\z.s.mp n.val=2:=λn=>by
    grind[lq,Pv,qY,Lz]
   unfold nV;rw[gI];exact⟨λ⟨n,h,e⟩=>⟨n.val,e,(m n).1 h⟩,λ⟨b,e,h1,h2⟩=>⟨⟨b,cN⟩,(m _).2 ⟨h1,h2⟩,e⟩⟩
  have f:=G.map a;have g:=D.free a;have y:qH (z.s.dv.n:Nat) a=if 4<=a/\a<z.s.dv.n then 1 else 0:=by grind[qH]
  rw[QO _ _ _ (λi C=>by
   grind) (λb=>by grind[qH]),y]
  grind
 unfold mM;rw[cZ jv,r];unfold ym;rw[cZ eQ,cZ (by simp only[lx];rw[D.ub.2.2.2.1,<-D.n,c.n];simp),cZ (by simp only[lx];rw[D.ub.2.2.1];decide)];simp only[lx];rw[c.n,w];unfold Bu;rw[cZ eQ,cZ jv];refine xI ?_ ae;have j:v.mp=qH (z.s.dv.n:Nat):=j;simp only[j,q];show GT.mk z.b z.dK z.ub ⟨v.dv,z.s.mp,iR z.ub.cR,z.ub.cR⟩=⟨z.b,z.dK,z.ub,⟨v.dv,z.s.mp,z.s.cR,z.s.base⟩⟩;rw[D.cR.1,D.cR.2,D.ub.2.1]
def Had(x:GT)(q:cQ):Prop:=q≠cX/\∃s∈x.b.cU,∃k,pt x.s.dv.nw s.cO k=q
structure my(C:Nat->Prop)(x:GT):Prop where
 mp:∀a,C a->x.s.mp a≠1
 had:∀q,Had x q->C q.1->q.2.1<=x.s.base
def py(b c:List dw):Prop:=∀t∈c,t.cO=cX∨∃u∈b,u.cO=t.cO
theorem my.leave(K:my C x)(g:s.dv.nw=x.s.dv.nw)(f:s.base=x.s.base)(e:wL x.s.base jQ x.s.mp s.mp)(m:py x.b.cU b.cU)(j:∀q∈jQ,Had x q):my C {x with b:=b,s:=s}:=by refine⟨λa d h=>?_,λq l hc=>?_⟩;rcases e.one a h with h|⟨_,q,c,rfl,h2⟩;exact K.mp a d h;have:=K.had q (j q c) d;omega;(show q.2.1<=s.base;rw[f];obtain⟨i,t,n,k,c⟩:=l;have c:pt s.dv.nw t.cO k=q:=c;rw[g] at c;rcases m t n with h2|⟨u,hu,h2⟩);grind[ET];rw[<-h2] at c;exact K.had q ⟨i,u,hu,k,c⟩ hc
def my.agree(G:Good x)(K:my C x)(w:xR x d):my C (asked x d):=
 ⟨K.mp,λq ⟨h0,s,hs,k,e⟩ hc=>K.had q ⟨h0,s,hs,k,((w.pt G hs).1 k).symm.trans e⟩ hc⟩
theorem my.call(G:Good x)(K:my C x){k:GT->GT×Int}(w:Wr (λa=>x.s.mp a=1) x.s.dv (dX x k).1.s.dv)(h:(k x).2=0->my C (k x).1):my C (dX x k).1:=by
 unfold dX at w|-;split;exact K
 next hd=>
 rw[cZ hd] at w;unfold td at w|-;split;next h1=>rw[df h1] at w;exact K.agree G w.agree
 grind
theorem JN(l:List dw)(i:Nat):(dH l i).cO=cX∨∃u∈l,u.cO=(dH l i).cO:=by by_cases h:i<l.n;exact .inr ⟨_,(kf h).1,ae⟩;left;unfold dH;simp[getD,getElem?_eq_none (Nat.le_of_not_lt h)];rfl
theorem py.refl(b:List dw):py b b:=λt h=>.inr ⟨t,h,ae⟩
def py.set{b:List dw}(h:py b c)(g:y.cO=cX∨∃u∈b,u.cO=y.cO):py b (c.set i y):=λt a=>by rcases vy a with h1|rfl;exact h t h1;exact g
theorem py.snoc{b:List dw}(h:py b c)(g:y.cO=cX∨∃u∈b,u.cO=y.cO):py b (c++[y]):=λt a=>by rcases gH.1 a with h1|h1;exact h t h1;grind
def py.erase{b:List dw}(h:py b c)(i:Nat):py b (c.eraseIdx i):=λt a=>h t (BK a)
def S7(b:ee)(cT:fF)(n:Int):py b.cU (iK b cT n).1.cU:=by
 unfold iK u0;repeat' split
 all_goals first|exact .refl _|exact(py.refl _).snoc (.inl rfl)
def V6(b:ee)(f t:fF):py b.cU (jy b f t).1.cU:=by
 unfold jy u0;repeat' split
 all_goals first|exact .refl _|exact(py.refl _).snoc (JN _ _)
def YQ(b:ee)(cT:fF)(st:Nat):py b.cU (im b cT st).1.cU:=by
 unfold im;repeat' split
 all_goals first|exact .refl _|(refine py.set (py.snoc (.refl _) ?_) ?_<;>exact JN _ _)
theorem YR(b:ee)(cT:fF):py b.cU (jI b cT).1.cU:=by grind[jI,JN,py]
def Pp(b:ee)(cT:fF):py b.cU (fp b cT).1.cU:=by
 unfold fp;repeat' split
 all_goals first|exact .refl _|exact(py.refl _).erase _
def my.same(K:my C x)(a:py x.b.cU b.cU):my C (rK x b):=K.leave (s:=x.s) (jQ:=[]) ae ae (.nil _ _) a eQ
def my.put(K:my C x)(a:py x.b.cU r.1.cU):my C (pJ x r).1:=by unfold pJ;split;exact K;exact K.same a
theorem my.left(G:Good x)(K:my C x){s:dw}(g:py x.b.cU b.cU)(f:s∈x.b.cU)(h:(oM b s x).2=0):my C (oM b s x).1:=by
 have p:=Bv x.s s.cO (gj x.b.cU s.id);have a:=G.all f;unfold oM vj at*;generalize gY x.s s.cO (gj x.b.cU s.id)=r at*;split at h;grind[vD]
 next h1=>
 rw[cZ h1];have a:=a cN;have i:∀q∈r.2.1,q.1<1024:=λq c=>by obtain⟨j,k,e,_⟩:=(a q).1 c;have:=(G.rd s f).2.1 k;rw[e] at this;rcases this with h|h;grind;have:=G.n;omega
 have d:=rk r.2.1 r.1 i;rw[p.1.ba,p.2.1] at d;exact K.leave (s:=dM r.1 r.2.1) (by rw[d.2.1];exact p.1.nn) d.2.2.1 d.1 g λq c=>by grind[Had]
theorem Og{b:ee}{cT:fF}{c:Int}(e:nK b.cU cT=(cw,c)):c≠0:=by grind[nK]
def my.ah1(G:Good x)(K:my C x)(r:ee×(dw×Int))(a:py x.b.cU r.1.cU)(b:r.2.2=0->r.2.1∈x.b.cU)(h:(oA x r).2=0):my C (oA x r).1:=by unfold oA at*;split at h;omega;next h1=>rw[cZ h1];exact K.left G a (b cN) h
theorem afM(G:Good x)(cT:fF)(h:(jI x.b cT).2.2=0):(jI x.b cT).2.1∈x.b.cU:=by grind[jI,Og,dH,qO]
theorem V7(G:Good x)(cT:fF)(h:(fp x.b cT).2.2=0):(fp x.b cT).2.1∈x.b.cU:=by unfold fp at*;rcases e:nK x.b.cU cT with⟨_|i,c⟩;grind[Og];rw[e] at h;simp only at h|-;split at h;simp at h;next h1=>rw[cZ h1];exact(qO G e).2.1
theorem Oh(G:Good x)(K:my C x)(cT:fF)(h:(tW x (ez x.b cT)).2=0):my C (tW x (ez x.b cT)).1:=by
 unfold tW at h|-;by_cases o:(ez x.b cT).2.2=131;grind;by_cases f:(ez x.b cT).2.2≠0;grind;rw[cZ o,cZ f];clear h o;unfold ez at f|-;split at f;simp at f
 next vs hfs=>
 split at f;simp at f
 next i hi=>
 split at f;simp at f
 next hcl=>
 split at f;simp at f
 next j hj=>
 split at f;simp at f
 next all hall=>
 split at f;simp at f
 next hlen=>
 simp only[hfs,hi,hcl,hj,hall,hlen,mq];obtain⟨w,sn⟩:=vs;have a:=qB hfs;have b:=oB G.inc a.1 hi;have l:=(kf b.1).1;obtain⟨j',c,m,r,t,u,_⟩:=G.afi l (G.ZT a.2 b.2.1).1;rw[hj] at m;cases m;have p:∀q∈jO (dH x.b.cU j).di (gj x.b.cU (dH x.b.cU i).id),Had x q:=λq g=>by unfold jO at g;rw[r] at g;obtain⟨n,k,e,_⟩:=(G.ti.di t l u.symm).1 (AE.1 g).1;grind[Had]
 have d:=rk (jO (dH x.b.cU j).di (gj x.b.cU (dH x.b.cU i).id)) x.s λq g=>by obtain⟨n,s,v,k,rfl⟩:=p q g;have:=G.tk _ ⟨s,k,v,n,ae⟩;have:=(G.map (pt x.s.dv.nw s.cO k).1).2.1 cN;have:=G.n;omega
 exact K.leave (s:=dM x.s _) (by rw[d.2.1]) d.2.2.1 d.1 (((py.refl _).set jv).erase _) p
structure ajh(x:GT)(t:Pl)(cO top:cQ)(iP:List cQ):Prop where
 iP:∀q∈iP,q≠cX/\∃k,pt x.s.dv.nw cO k=q
 mp:∀a,x.s.mp a≠1->t.mp a=x.s.mp a
 base:t.base=x.s.base
 pts:∀l,pt t.dv.nw top l≠cX->(∃k,pt x.s.dv.nw cO k=pt t.dv.nw top l)∨x.s.mp (pt t.dv.nw top l).1=1
theorem Ch.soft{t:Pl}(H:Ch x.s t cO top i iP):ajh x t cO top iP:=
 ⟨λq c=>by obtain⟨a,k,_,e⟩:=(H.iP q).1 c;grind,H.mp2,H.pw.ba,λl a=>by
  by_cases b:Kp i l
  . exact .inr (H.new l b a).1.fr
  . exact .inl ⟨l,(H.fI l b).symm⟩⟩
theorem my.Yp(G:Good x)(K:my C x)(w:v∈x.b.cU){t:Pl}(H:ajh x t v.cO top iP)(B:Wr (λa=>x.s.mp a=1) x.s.dv t.dv)(h:(se v.id top iP {x with s:=t}).2=0):my C (se v.id top iP {x with s:=t}).1:=by
 unfold se zx at*;by_cases c:(jT (gK x.b v.id top) v.id iP).2.2≠0;rw[df c] at h;grind[vD];rw[cZ c];clear h;unfold jT at c|-;split at c;simp at c
 next k hk=>
 split at c;simp at c
 next d g hkill=>
 simp only[hk,hkill];rw[tI] at hk;have n:=kN hk;have z:dH x.b.cU k=v:=G.ti.id n.2.1 w n.2.2;have F:dH (gK x.b v.id top).cU k= {v with cO:=top}:=by unfold gK;rw[Bx n.1,z,df ae]
 have D:=II _ _ _ _ hkill;have y:(gK x.b v.id top).cU.set k {dH (gK x.b v.id top).cU k with di:=d}=x.b.cU.set k {v with cO:=top,di:=d}:=by have:=Ed G.inc n.1 top {v with cO:=top,di:=d};grind
 have r:∀q∈g,Had x q:=λq j=>by have b:=(D q).2.1 j;simp only[jK,false_or] at b;obtain⟨i,k,e⟩:=H.iP q b.1;grind[Had]
 have o:=rk g t λq j=>by obtain⟨i,s,A,k,rfl⟩:=r q j;have:=G.tk _ ⟨s,k,A,i,ae⟩;have:=(G.map (pt x.s.dv.nw s.cO k).1).2.1 cN;have:=G.n;omega
 have E:t.base=x.s.base:=H.base;refine⟨λa p b=>?_,λq j hc=>?_⟩;rcases o.1.one a b with b|⟨_,q,f,rfl,h4⟩;exact K.mp a p (Dk λf=>f (by rw[<-H.mp a f];exact b));have:=K.had q (r q f) p;omega;(show q.2.1<=(dM t g).base;rw[o.2.2.1,E];obtain⟨i,u,m,l,b⟩:=j;have b:pt (dM t g).dv.nw u.cO l=q:=b;have m:u∈(gK x.b v.id top).cU.set k {dH (gK x.b v.id top).cU k with di:=d}:=m;rw[o.2.1] at b;rw[y] at m;rcases vy m with f|rfl);exact K.had q ⟨i,u,f,l,((B.agree.pt G f).1 l).symm.trans b⟩ hc;subst b;rcases H.pts l i with⟨k,e⟩|e;exact K.had _ ⟨i,v,w,k,e⟩ hc;exact absurd e (K.mp _ hc)
theorem Good.Oi(G:Good x)(K:my C x)(c:v∈x.b.cU)(d:PW (λa=>x.s.mp a=1) x.s t.1)(H:t.2.2.2=0->ajh x t.1 v.cO t.2.1 t.2.2.1)(h:(sV v.id x t).2=0):my C (sV v.id x t).1:=by unfold sV at*;by_cases b:t.2.2.2≠0;rw[df b] at h;grind[vD];rw[cZ b] at h|-;exact K.Yp G c (H cN) d.wr h
theorem S8(G:Good x)(K:my C x)(f:lX x.s.dv.nw)(g:gy x.s.cR)(cT:fF)(i:Int)(bs:cV)(d:∀y∈bs,y<256)(h:(mL cT i bs x).2=0):my C (mL cT i bs x).1:=by unfold mL at*;by_cases a:(qL x.b cT i).2≠0;grind;rw[cZ a] at h|-;by_cases b:128<bs.n;grind;rw[cZ b] at h|-;have v:=G.JA (by simpa using a);have c:=SL f g G.n.2 G.map (G.two v.1) (i:=i) d;exact G.Oi K v.1 c.1 (λe=>(c.2 e).2.2.1.soft) h
theorem V8(G:Good x)(K:my C x)(d:lX x.s.dv.nw)(f:gy x.s.cR)(cT:fF)(i:Int)(h:(rL cT i x).2=0):my C (rL cT i x).1:=by
 unfold rL at*;by_cases b:(qL x.b cT i).2≠0;grind
 rw[cZ b] at h|-;have v:=G.JA (by simpa using b);have c:=Lj d f G.n.2 G.map (G.two v.1) (i:=i);exact G.Oi K v.1 c.1 (λe=>by
  rcases(c.2 e).2.2 with h|⟨b,h2,h3,h4,_⟩
  . exact h.1.soft
  . exact⟨by rw[h4];simp,λa _=>congrFun b a,c.1.ba,λl _=>.inl ⟨l,by rw[h2,h3]⟩⟩) h
theorem Pq(G:Good x)(cT:fF)(h:¬(fQ x.b cT).2≠0):py x.b.cU (fQ x.b cT).1.cU:=by obtain⟨v,_,a,e,_⟩:=Cy G h;rw[e];intro t b;grind
theorem acC(G:Good x)(K:my C x)(a:lX x.s.dv.nw)(b:gy x.s.cR)(o:YF)(c:∀y∈o.data,y<256)(f:o.kind≠9):my C (rM x o).1:=by
 unfold rM;simp only;split;refine K.call G (IG G _ _).2 λ_=>?_;unfold mB;split;exact K;exact K.put (S7 _ _ _);split;exact K.call G (KB G a b _ _ _ c).2 (S8 G K a b _ _ _ c);split;exact K.call G (NL G a b _ _).2 (V8 G K a b _ _);split;obtain⟨d,e,w⟩:=BB o.name o.n x;rw[e];exact K.agree G (w _).agree;split;refine K.call G (GF G _).2 λ_=>?_;unfold qA;split;exact K;split;exact K;exact K.leave (s:=tS x.s) (jQ:=[]) ae ae (.nil _ _) (YQ _ _ _) eQ;split;refine K.call G (KA G _ _).2 λ_=>?_;unfold qN;split;exact K;exact K.put (V6 _ _ _);split;refine K.call G (FP G _).2 λ_=>?_;unfold l9;split;exact K;next h=>exact K.same (Pq G _ h)
 split;exact K.call G (NK G _).2 (K.ah1 G _ (YR _ _) (afM G _));split;refine K.call G (FN G _).2 λh=>?_;unfold kY at*;cases e:eO o.name with|none=>exact K|some p=>rw[e] at h;simp only[Option.elim] at h|-;split;(next h1=>rw[df h1] at h;exact K.ah1 G _ (Pp _ _) (V7 G _) h);simp_all[Oh]
 exact K
def PW.none{t:Pl}(h:PW (λ_=>False) s t):PW A s t:=h.mono λ_ h=>h.elim
def foldl_rel{α β:Type}(R:α->α->Prop)(d:∀a,R a a)(e:∀a b c,R a b->R b c->R a c){f:α->β->α}(h:∀a x,R a (f a x)):∀(l:List β)(a:α),R a (l.foldl f a)
 | [],a=>d a
 |x::l,a=>e _ _ _ (h a x) (foldl_rel R d e h l (f a x))
def Pr(s t:Pl):Prop:=PW (λ_=>False) s t/\t.mp=s.mp
theorem Pr.refl(s:Pl):Pr s s:=⟨.refl _,ae⟩
theorem Pr.trans{s t u:Pl}(h:Pr s t)(g:Pr t u):Pr s u:=⟨h.1.trans g.1,g.2.trans h.2⟩
theorem KI(s:Pl)(cO:cQ)(n:Int):Pr s (eP s cO n).1:=by
 have d:∀(l:List cQ)(w:Nat)(s:Pl),Pr s (fV s l w).1:=λl w s=>
  foldl_rel (f:=fU w) (λa b:Pl×(List cQ×Int)=>Pr a.1 b.1) (λ_=>.refl _) (λ_ _ _=>Pr.trans) (λa x=>by
   have:=ye (A:=λ_=>False) a.1 x;unfold fU;repeat' split
   all_goals first|exact .refl _|exact this) l (s,([],0))
 have text:∀(l:List cQ)(s:Pl),Pr s (pH s l).1:=λl s=>
  foldl_rel (f:=jU) (λa b:Pl×(cV×Int)=>Pr a.1 b.1) (λ_=>.refl _) (λ_ _ _=>Pr.trans) (λa x=>by
   have:=NA (A:=λ_=>False) a.1 x;unfold jU;repeat' split
   all_goals first|exact .refl _|exact this) l (s,([],0))
 have c:=foldl_rel (f:=iW) (λa b:Pl×(List cQ×List cQ×Int)=>Pr a.1 b.1) (λ_=>.refl _) (λ_ _ _=>Pr.trans) (λa x=>by
  have:=d a.2.1 x a.1;unfold iW;repeat' split
  all_goals first|exact .refl _|exact this) (qW n) (s,([cO],[cO],0))
 unfold eP;split;exact .refl _;simp only;split;exact c;generalize (qW n).foldl iW (s,([cO],[cO],0))=r at*;have t:Pr r.1 (eX r.1 r.2.1 n.m).1:=by grind[eX]
 have c:Pr s r.1:=c;split<;>exact c.trans t
def YS(ats:cV)(s t:Pl):Prop:=PW (·∈ats) s t/\t.mp=s.mp
theorem YS.refl{ats:cV}(s:Pl):YS ats s s:=⟨.refl _,ae⟩
theorem YS.trans{ats:cV}{s t u:Pl}(h:YS ats s t)(g:YS ats t u):YS ats s u:=⟨h.1.trans g.1,g.2.trans h.2⟩
def YS.sub{a b:cV}{t:Pl}(h:YS a s t)(g:∀x∈a,x∈b):YS b s t:=⟨h.1.mono g,h.2⟩
def Pr.wt{t:Pl}(h:Pr s t):YS ats s t:=⟨h.1.none,h.2⟩
theorem KJ(bs ats:cV)(g:s.mp 0≠2):YS ats s (fH s bs ats).1:=by
 have text:∀(dZ:cV)(s:Pl),s.mp 0≠2->YS dZ s (gz s bs dZ).1:=λdZ s h=>by have:=SN (A:=(·∈dZ)) (m:=s.mp) (f:=ib dZ) (λa x e=>NM a x jv) ((finRange (fu bs.n 128)).map λk=>rJ bs k.val) (s,([],0)) ae;exact this
 have b:∀(ps:List cQ)(dZ:cV)(s:Pl),s.mp 0≠2->YS dZ s (eU s ps dZ).1:=λps dZ s h=>by have:=SN (A:=(·∈dZ)) (m:=s.mp) (f:=gQ dZ) (λa x e=>VI a x jv) ((finRange (fu ps.n 8)).map λk=>oI ps k.val) (s,([],0)) ae;exact this
 have c:∀(f:Nat)(a:Pl×(List cQ×Int))(dZ:cV),a.1.mp 0≠2->YS dZ a.1 (iX f a dZ).1:=by intro f;induction f with|zero=>exact λa dZ _=>.refl _|succ f ih=>intro a dZ h;unfold iX;split;have n:=b a.2.1 dZ a.1 h;exact n.trans ((ih _ _ (by rw[n.2];exact h)).sub λx d=>mS d);exact .refl _
 unfold fH;split;exact .refl _;have t:=text ats s g;have l:=t.trans ((c 20 (gz s bs ats) (ats.drop (gz s bs ats).2.1.n) (by rw[t.2];exact g)).sub λx d=>mS d);grind
theorem Ta(text ats:cV)(e:s.mp 0≠2):YS ats s (gG s text ats).1:=by
 have o:∀b q p n,Pr b.1 (mw5 b q p n).1:=λb q p n=>by
  have:=KI b.1 p (n:Nat);unfold mw5;repeat' split
  all_goals first|exact .refl _|exact this
 have m:∀a i g k j,Pr a.1 (mw4 a i g k j).1:=λa i g k j=>by unfold mw4;split;exact .refl _;exact(KI a.1 i (g:Nat)).trans (o _ _ _ _)
 have d:=(KJ (s:=s) text (ats.take (jS (text.n:Nat))) e).sub (b:=ats) λx f=>lQ f;unfold gG mw2;split;exact d;split;exact d;next sp hsp=>have l:=(KJ (s:=(fH s text (ats.take (jS (text.n:Nat)))).1) sp ((ats.take (ats.n-1)).drop (jS (text.n:Nat))) (by rw[d.2];exact e)).sub (b:=ats) λx f=>lQ (mS f);have b:=d.trans l;unfold mw3;split;exact b;split;exact b;next t ht=>refine(b.trans ?_).trans (m _ _ _ _ _).wt;have p:=By (fH (fH s text (ats.take (jS (text.n:Nat)))).1 sp ((ats.take (ats.n-1)).drop (jS (text.n:Nat)))).1 (ats.getD (ats.n-1) 0) t;refine⟨p.1.mono λc ⟨h1,h2⟩=>?_,p.2.1⟩;rw[h1];rw[zE] at h1|-;cases h:ats[ats.n-1]? with|none=>rw[h] at h1;simp at h1;rw[h1] at h2;exact absurd h2 (by rw[b.2];exact e)|some x=>grind
theorem V9(G:Good x):PW (λa=>x.s.mp a=1) x.s (gC x.s x.b x.dK).1:=by
 have j:∀q∈x.dK,q.1<1024:=λq d=>by have:=(G.hd q d).1;have:=(G.map q.1).2.1 cN;have:=G.n;omega
 have b:=rk x.dK x.s j;have m:∀a,(dM x.s x.dK).mp a=1->x.s.mp a=1:=λa h=>by rcases b.1.one a h with h|⟨_,q,d,_,h2⟩;exact h;have:=(G.hd q d).2.2.1;omega
 have base:PW (λa=>x.s.mp a=1) x.s (dM x.s x.dK):=⟨by rw[b.2.1];exact .refl _,b.2.2.2,b.2.2.1⟩;unfold gC;split;exact .refl _
 next text ht=>
 split
 . exact base
 next hc=>
 have t:(dM x.s x.dK).mp 0=0:=(b.1.zero 0).2 (Dk λh=>by have:=(G.map 0).2.1 h;omega);obtain⟨k,i⟩:=dI (nF text.n (dM x.s x.dK).dv.n);rw[i] at hc|-;have c:k<=fR (dM x.s x.dK).mp:=cN;have r:zU (dM x.s x.dK).mp (k:Nat)=cu (iI (dM x.s x.dK).mp k):=by simp_all[zU]
 have e:xg (dM x.s x.dK).mp (k:Nat)=(iI (dM x.s x.dK).mp k).1:=by grind[xg]
 have f:A6 (dM x.s x.dK).mp (k:Nat)=(iI (dM x.s x.dK).mp k).2:=by grind[A6]
 obtain⟨n,o,l,p⟩:=JD _ _ c;rw[e,f];have w:=Ta (s:={dM x.s x.dK with mp:=(iI (dM x.s x.dK).mp k).2}) text (iI (dM x.s x.dK).mp k).1 (by
  grind)
 refine base.trans ⟨w.1.wr.mono λa g=>m a (l a g),w.1.st,w.1.ba⟩
def Dv.set(d:Dv):Prop:=d.nw=oe d.st d.ps
theorem YT(f:Nat->cV)(a b:List (Nat×cV)):oe f (a++b)=oe (oe f a) b:=by grind[oe]
def Wr.set{e:Dv}(h:Wr A d e)(g:d.set):e.set:=by obtain⟨l,o,f,k,_,rfl,_⟩:=h;show oe d.nw l=oe d.st (d.ps++l);rw[YT,g]
def Dv.calm(d:Dv):Prop:=d.ps=[]/\d.st=d.nw
def Dv.calm.set(h:d.calm):d.set:=by unfold Dv.set;rw[h.1,h.2];rfl
theorem V'{a:Nat}(fI:List Bool):∀(l:List (Nat×cV))(f:Nat->cV)(k:Nat),(∀p∈l,p.1≠a)->qU f fI k l a=f a
 | [],_,_,_=>rfl
 |p::l,f,k,h=>by
  unfold qU;rw[V' fI l _ (k+1) λq b=>h q (lu _ b)];split
  . unfold jH;grind
  . rfl
theorem Wb(hc:z.s.dv.calm)(w:Wr (λa=>z.s.mp a=1) z.s.dv d)(fI:List Bool):xR z (qI d fI):=by
 obtain⟨l,o,f,k,c,rfl,_⟩:=w;refine⟨ae,λa b=>?_⟩;show qU z.s.dv.st fI 0 (z.s.dv.ps++l) a=_;rw[hc.1,hc.2]
 grind[V']
def YU(d:Dv)(fI:List Bool):(qI d fI).calm/\(qI d fI).al:=⟨⟨ae,ae⟩,ae,ae⟩
structure Oj(x:GT)(k:Nat):Prop where
 oC:Good x
 fit:Fit x
 ring:Ring x.s.dv.nw x.ub
 set:x.s.dv.set
 st:x.s.cR<=k
 nx:x.b.next<=k
 tx:x.ub.lT<=k
def Oj.ok(h:Oj x k)(a:x.s.dv.al):Ok x k:=⟨⟨h.oC,h.fit,a⟩,h.ring,h.st,h.nx,h.tx⟩
def Ok.okB(h:Ok x k)(s:x.s.dv.set):Oj x k:=⟨h.inv.oC,h.inv.fit,h.ring,s,h.st,h.nx,h.tx⟩
def Oj.agree(h:Oj x k)(w:xR x d)(s:d.set):Oj (asked x d) k:=⟨h.oC.agree w,h.fit.agree w,h.ring.agree h.oC w,s,h.st,h.nx,h.tx⟩
def Oj.far{y:GT}(h:Oj x k)(G:Good y)(F:Fit y)(s:y.s.dv.set)(f:Far x y j):Oj y (k+j):=by have m:=mod_lt x.ub.lT (show 4>0 by decide);refine⟨G,F,?_,s,by have:=f.st;have:=h.st;omega,by have:=f.nx;have:=h.nx;omega,by rw[f.ub];have:=h.tx;omega⟩;rw[f.ub];exact⟨(f.ring _ m).trans h.ring.here,h.ring.right,h.ring.parts,λi b a v c=>by rw[f.ring i b] at c;exact h.ring.iP i b a v c⟩
structure Com(z:GT)(k:Nat):Prop where
 ok:Oj z k
 done:∃x,IM x z
 calm:z.s.dv.calm
 iP:∀q,Had z q->q.2.1<=z.s.base
def Com.agree(h:Com z k)(w:xR z d)(c:d.calm):Com (asked z d) k:=by obtain⟨x,D⟩:=h.done;exact⟨h.ok.agree w c.set,⟨x,D.agree w⟩,c,λq ⟨h0,s,hs,k,e⟩=>h.iP q ⟨h0,s,hs,k,((w.pt h.ok.oC hs).1 k).symm.trans e⟩⟩
theorem Com.le{z:GT}{k j:Nat}(h:Com z k)(l:k<=j):Com z j:=⟨⟨h.ok.oC,h.ok.fit,h.ok.ring,h.ok.set,iE h.ok.st l,iE h.ok.nx l,iE h.ok.tx l⟩,h.done,h.calm,h.iP⟩
structure QQ(z x:GT):Prop where
 wr:Wr (λa=>z.s.mp a=1) z.s.dv x.s.dv
 keeps:my (λa=>z.s.mp a≠1) x
def Com.since(h:Com z k):QQ z z:=⟨.refl _,λ_ a=>a,λq b _=>h.iP q b⟩
def QQ.mp(S:QQ z x)(a:Nat)(h:x.s.mp a=1):z.s.mp a=1:=Dk λb=>S.keeps.mp a b h
def Oj.ask(h:Oj x k)(c:lX x.s.dv.nw)(d:gy x.s.cR)(o:YF)(b:∀y∈o.data,y<256)(a:o.kind≠9):Oj (rM x o).1 (k+1)/\(rM x o).1.s.dv.n=x.s.dv.n/\∀z,QQ z x->QQ z (rM x o).1:=by obtain⟨g,f,s⟩:=N' h.oC h.fit c d o b a;exact⟨h.far g.1 f (g.2.set h.set) (YD h.oC g s),g.2.n,λz S=>⟨S.wr.trans (g.2.mono S.mp),acC h.oC S.keeps c d o b a⟩⟩
def Ol(a:d.set)(h:(gW d).2=0):(gW d).1.calm:=by
 unfold gW at*;split at h;next h1=>rw[df h1];obtain⟨o,f,k,e,_⟩:=GA d;rw[e];exact⟨ae,a.symm⟩
 omega
theorem acE(e:d.set)(h:(eY d u).2=0):(eY d u).1.calm:=by
 unfold eY at*;generalize lK u=ub at*;cases ub with|none=>simp at h|some b=>
 simp only at h|-;by_cases a:(gW d).2≠0;grind;rw[cZ a] at h|-;by_cases c:(iq (gW d).1 ((u.lT%4:Nat):Int) b).2≠0;grind;rw[cZ c] at h|-;have w:=(Nz (A:=λ_=>True) (gW d).1 ((u.lT%4:Nat):Int) b λ_ _=>iG).1;exact Ol (w.set (Ol e cN).set) h
theorem KK(G:Good x)(e:x.s.dv.set)(h:(ju x).2=0):(ju x).1.s.dv.calm/\∀a,4<=a->x.s.mp a≠1->(ju x).1.s.dv.nw a=x.s.dv.nw a:=by have m:=V9 G;unfold ju uy at*;generalize gC x.s x.b x.dK=r at*;by_cases c:r.2.2.2≠0;grind;rw[cZ c] at h|-;by_cases b:(eY r.1.dv (qX x r)).2≠0;grind;rw[cZ b];have b:(eY r.1.dv (qX x r)).2=0:=cN;have u:=(Eg r.1.dv (qX x r)).2.1 b;refine⟨acE (m.wr.set e) b,λa f d=>?_⟩;show(eY r.1.dv (qX x r)).1.nw a=_;rw[u.2];unfold jH;rw[cZ cN];exact m.wr.nw d
theorem Oj.sync(h:Oj x k)(B:k<=281474976710600)(o:lX x.s.dv.nw)(e:(dX x iC).2=0):Com (dX x iC).1 (k+1)/\IM x (dX x iC).1/\(∀a,4<=a->x.s.mp a≠1->(dX x iC).1.s.dv.nw a=x.s.dv.nw a):=by
 have y:=h.st;have z:=h.nx;have A:=h.tx;have G:=h.oC;have g:(dX x iC).1=(ju x).1/\(ju x).2=0:=by unfold dX at*;split at e;simp at e;next h1=>rw[cZ h1];unfold td at*;split at e;omega;next m=>rw[cZ m];have m:(iC x).2=0:=cN;unfold iC at*;grind
 rw[g.1];have D:=Eh G o ami cN (λt e=>ux e) g.2;obtain⟨c,same⟩:=KK G h.set g.2;have u:iR x.ub.lT=x.ub.lT+1:=tH cN;have C:iR x.s.cR=x.s.cR+1:=tH cN;have w:Ring (ju x).1.s.dv.nw (ju x).1.ub:=by obtain⟨text,ats,_,L,_⟩:=D.laid;refine⟨D.slot,D.ub.2.2.2.2,L.parts G.n.2 ami,λi n j v l r=>?_⟩;rw[D.ub.1,u];rw[D.ring i n j] at l;by_cases d:i=x.ub.lT%4;rw[d,h.ring.here,JI h.ring.right h.ring.parts] at l;grind;have:=h.ring.iP i n d v l r;omega
 refine⟨⟨⟨D.oC,D.fit G h.fit,w,c.set,by rw[D.cR.1];omega,by rw[D.b];omega,by rw[D.ub.1];omega⟩,⟨x,D⟩,c,λq p=>?_⟩,D,same⟩;obtain⟨f,s,b,k,rfl⟩:=p;rw[D.b] at b;have d:pt (ju x).1.s.dv.nw s.cO k=pt x.s.dv.nw s.cO k:=((G.rd s b).congr λk f=>by
  have:=G.tk _ ⟨s,k,b,f,ae⟩;exact same _ ((G.map _).2.1 cN).1 cN).2 k
 rw[D.cR.2];rw[d] at f|-;have:=(G.ti.bt b f).2;unfold Dc at this;split at this;have:=G.ti.st b ‹_›;omega;exact this
theorem Com.afN(h:Com z k)(t:k<=281474976710600)(q:∀s∈z.b.cU,tU s)(w:xR z d)(c:d.calm)(i:d.di=cy):
 ∃e,mM d=(asked z e,0)/\Wr (λ_=>False) d e/\e.di=cy/\Com (asked z e) k:=by
 have g:=h.agree w c;obtain⟨x,D⟩:=g.done;obtain⟨e,m,b,n⟩:=YP D g.ok.ring g.ok.fit i q ⟨by have:=h.ok.tx;grind[asked],by have:=h.ok.nx;grind[asked],by have:=h.ok.st;have:=D.cR.2;have:=D.ub.2.1;have:=D.oC.st;grind[asked]⟩;have r:xR (asked z d) e:=⟨b.n,λa _=>b.nw id⟩;have j:e.calm:=by obtain⟨l,o,f,k,u,rfl,_⟩:=b;cases l with|nil=>exact⟨by show d.ps++[]=[];rw[c.1];rfl,c.2⟩|cons p l=>grind[mem_cons_self]
 exact⟨e,m,b,n,g.agree r j⟩
def oD(b c:List dw):Prop:=∀t∈b,∃u∈c,u.id=t.id/\dG u=dG t/\(t.dz=cx->u.cO=t.cO/\u.blocks=t.blocks)
def oD.sub{b:List dw}(h:∀t∈b,t∈c):oD b c:=λt a=>⟨t,h t a,ae,ae,λ_=>⟨ae,ae⟩⟩
theorem oD.refl(b:List dw):oD b b:=.sub λ_ h=>h
theorem oD.set(l:List dw)(k:Nat)(b:y.id=(dH l k).id)(c:dG y=dG (dH l k))(d:(dH l k).dz=cx->y.cO=(dH l k).cO/\y.blocks=(dH l k).blocks):oD l (l.set k y):=λt a=>by obtain⟨j,f,rfl⟩:=zF a;by_cases e:k=j;grind[dH,mem_iff_getElem];exact⟨l[j],vJ.2 ⟨j,by grind,by grind⟩,ae,ae,λ_=>⟨ae,ae⟩⟩
def xH(b:List dw)(ir sn:fF)(cO:cQ)(n:Nat):Prop:=∃s∈b,∃v∈b,s.dz=cx/\dG v=(0,ir)/\dG s=(v.id,sn)/\s.cO=cO/\s.blocks=n
theorem xH.stays{b:List dw}(h:xH b ir sn cO n)(g:oD b c)(ho:∀u∈c,u.dz=cy->∀t∈b,t.dz=cx->dG u≠dG t):xH c ir sn cO n:=by obtain⟨s,a,v,d,o,p,q,r,w⟩:=h;obtain⟨s',e,f,i,j⟩:=g s a;obtain⟨v',k,l,m,_⟩:=g v d;grind[xH]
theorem Tb(b:ee)(cT:fF)(n:Int):oD b.cU (iK b cT n).1.cU:=by grind[iK,u0,oD]
theorem Wc(b:ee)(f t:fF):oD b.cU (jy b f t).1.cU:=by
 unfold jy u0;repeat' split
 all_goals first|exact .refl _|exact .sub λ_ h=>I3 _ h
theorem oD.trans{a b c:List dw}(h:oD a b)(g:oD b c)(f:∀t∈a,t.dz=cx->∀u∈b,u.id=t.id->u.dz=cx):oD a c:=λt d=>by obtain⟨u,u1,u2,u3,u4⟩:=h t d;obtain⟨w,j,k,l,i⟩:=g u u1;exact⟨w,j,k.trans u2,l.trans u3,λe=>⟨(i (f t d e u u1 u2)).1.trans (u4 e).1,(i (f t d e u u1 u2)).2.trans (u4 e).2⟩⟩
def Good.owned(G:Good x){s:dw}(a:s∈x.b.cU)(h:s.dz=cx):(dG s).1≠0:=by obtain⟨o,ho,_,b⟩:=G.xE.own a h;unfold dG;rw[h];show s.cY≠0;rw[<-b];exact G.ti.pos ho
theorem xH.oC{y:GT}(G:Good x)(H:Good y)(h:xH x.b.cU ir sn cO n)(g:oD x.b.cU y.b.cU):xH y.b.cU ir sn cO n:=
 h.stays g λu d e t c a b=>by
  have:=G.owned c a;rw[<-b] at this;unfold dG at this;grind
theorem YV{x:GT}(G:Good x)(cT:fF)(st:Nat):oD x.b.cU (im x.b cT st).1.cU:=by
 unfold im;split;exact .refl _
 next ir sn hfs=>
 split;exact .refl _
 next i hi=>
 split;exact .refl _;split;exact .refl _;split;exact .refl _;have a:=qB hfs;have b:=oB G.inc (Bw (Ec a.1)) hi;have c:dG (dH x.b.cU i)=(0,ir):=by have:=b.2.1;unfold uC at this;grind
 have f:=(G.afc (kf b.1).1 c).1;rw[set_append_left _ _ b.1];intro t d;obtain⟨u,e,h⟩:=oD.set x.b.cU i (y:={dH x.b.cU i with dB:=x.b.next,di:=[]}) ae ae (λ_=>⟨ae,ae⟩) t d;grind
theorem YW{x:GT}(G:Good x)(cT:fF):oD x.b.cU (jI x.b cT).1.cU:=by unfold jI;split;exact .refl _;next i c hi=>split;exact .refl _;exact .set _ _ ae ae λh=>by rw[(qO G hi).2.2] at h;cases h
def YX(id:Nat)(l:List cQ):oD b.cU (jT b id l).1.cU:=by
 unfold jT;repeat' split
 all_goals first|exact .refl _|exact .set _ _ rfl rfl λ_=>⟨ae,ae⟩
theorem Ps(G:Good x)(b:v∈x.b.cU)(ir:v.dz=cy)(top:cQ):oD x.b.cU (gK x.b v.id top).cU:=λt a=>by
 refine⟨_,gI.2 ⟨t,a,ae⟩,?_⟩;split;next h=>exact⟨ae,ae,λe=>by rw[G.ti.id a b h,ir] at e;cases e⟩
 grind
theorem YY{x:GT}(G:Good x){v:dw}(d:v∈x.b.cU)(ir:v.dz=cy)(t:Pl)(top:cQ)(iP:List cQ):oD x.b.cU (se v.id top iP {x with s:=t}).1.b.cU:=by unfold se zx;split;exact .refl _;(refine(Ps G d ir top).trans (YX _ _) λt b e u c g=>?_;obtain⟨w,f,rfl⟩:=gI.1 c;have a:w.id=t.id:=by grind);rw[G.ti.id f b a];grind
theorem Om(G:Good x)(a:v∈x.b.cU)(ir:v.dz=cy)(t:Pl×(cQ×(List cQ×Int))):oD x.b.cU (sV v.id x t).1.b.cU:=by grind[sV,YY,oD]
theorem wv{k:GT->GT×Int}(h:(k x).2=0->oD x.b.cU (k x).1.b.cU):oD x.b.cU (dX x k).1.b.cU:=by unfold dX td;grind[oD,asked]
theorem aji(s:fF)(h:0<=atIdx s):s=s.extract 0 (atIdx s).m++yh++s.extract ((atIdx s).m+1) s.s:=by
 unfold atIdx firstIdx at*;cases e:(range s.s).find? λi=>s[i]! ==64 with
 |none=>grind
 |some k=>
  have c:=find?_some e;have a:=yo.1 (mem_of_find?_eq_some e);simp only[tZ];obtain⟨d⟩:=s;have a:k<d.s:=a;have b:d[k]=64:=by(have:(ByteArray.mk d)[k]! =64:=by grind);rw[getElem!_pos (ByteArray.mk d) k a] at this;exact this
  apply ByteArray.ext;apply Array.ext';simp only[ByteArray.data_append,ByteArray.data_extract,Array.toList_append,Array.toList_extract];show d.t=(extract d.t 0 k++[64])++extract d.t (k+1) d.s;rw[<-b];simp[extract];rw[show take (d.s-(k+1)) (drop (k+1) d.t)=drop (k+1) d.t from nU eQ]
  conv=>lhs;rw[<-Aj k d.t,De cN]
  simp
theorem On{cT v s:fF}(h:eO cT=cu (v,s))(b:s≠sG):cT=v++yh++s/\eo v=cx/\eo s=cx:=by have a:=Ec h;unfold eO at h;split at h;cases h;next h1=>simp only[yz,I0] at h;obtain⟨rfl,rfl⟩:=h;unfold x5 at h1 b a|-;by_cases c:0<=atIdx cT;simp only[df c] at h1 b a|-;grind[aji];grind
theorem Wd{t:dw}{v:fF}(h:dG t=(0,v))(g:t.dz=cx->(dG t).1≠0):t.dz=cy:=by grind
theorem Wf{x:GT}(G:Good x)(cT:fF){ir sn:fF}{cO:cQ}{n:Nat}(h:xH x.b.cU ir sn cO n):xH (fp x.b cT).1.cU ir sn cO n:=by unfold fp;split;exact h;next i c hi=>split;exact h;next hw=>have b:=qO G hi;have l:=G.ZU b.2.1 b.2.2 hw;obtain⟨s,j,v,k,a,d,f,g⟩:=h;have e:=λt=>(G.inc.erase b.1 (s:=t)).2;refine⟨s,e s ⟨j,λe=>?_⟩,v,e v ⟨k,λe=>?_⟩,a,d,f,g⟩;grind;simp_all[dG]
theorem Tc{x:GT}(G:Good x)(cT:fF){ir sn:fF}(F:cT≠ir++yh++sn){cO:cQ}{n:Nat}(h:xH x.b.cU ir sn cO n):xH (ez x.b cT).1.cU ir sn cO n:=by
 unfold ez;split;exact h
 next vs hfs=>
 split;exact h
 next i hi=>
 split;exact h;split;exact h
 next j hj=>
 split;exact h;split;exact h;obtain⟨F,s'⟩:=vs;have a:=qB hfs;have b:=oB G.inc a.1 hi;have ask:=b.2.1;unfold uC at ask;rw[cZ a.2] at ask;obtain⟨v',q,A,k⟩:=ask;obtain⟨s,M,v,p,I,m,J,K,L⟩:=h;have g:=(kf b.1).1;have s0:=(G.ZT a.2 b.2.1).1;have T:s≠dH x.b.cU i:=λe=>by rw[<-e,J] at k;simp only[I0] at k;have:v=v':=G.ti.id p q k.1;rw[<-this,m] at A;simp only[I0,true_and] at A;grind[On]
 have U:v≠dH x.b.cU i:=λe=>by have:=Wd m (G.owned p);grind
 obtain⟨j',c,C,F,D,E,_⟩:=G.afi g s0;rw[hj] at C;cases C;have f:=(kN hj).1;have r:i≠j:=λe=>by have:=(G.ti.pK D g E.symm).2.2;grind
 suffices H:∀y:dw,y.id=(dH x.b.cU j).id->dG y=dG (dH x.b.cU j)->y.dz=(dH x.b.cU j).dz->y.cO=(dH x.b.cU j).cO->y.blocks=(dH x.b.cU j).blocks->xH ((x.b.cU.set j y).eraseIdx i) ir sn cO n from H _ ae ae ae ae ae
 intro y z X Y Z J;have F:dH (x.b.cU.set j y) i=dH x.b.cU i:=by simp_all[dH,pU]
 have R:Da (x.b.cU.set j y):=G.inc.ES z;have B:∀t,t∈(x.b.cU.set j y).eraseIdx i↔t∈x.b.cU.set j y/\t≠dH x.b.cU i:=λt=>by rw[R.erase jv,F];rfl
 have l:=(kf f).1;have F:y≠dH x.b.cU i:=λe=>r (G.inc.at b.1 f (G.inc.inj g l (by rw[<-e,z])));have d:∀t∈x.b.cU,t≠dH x.b.cU i->∃u∈(x.b.cU.set j y).eraseIdx i,u.id=t.id/\dG u=dG t/\u.dz=t.dz/\u.cO=t.cO/\u.blocks=t.blocks:=λt N o=>by by_cases e:t=dH x.b.cU j;subst e;exact⟨y,(B y).2 ⟨(G.inc.set f y).2 aw,F⟩,z,X,Y,Z,J⟩;exact⟨t,(B t).2 ⟨(G.inc.set f t).2 (.inl ⟨N,e⟩),o⟩,ae,ae,ae,ae,ae⟩
 obtain⟨u,O,u1,u2,u3,u4,u5⟩:=d s M T;obtain⟨w,Q,F,V,_⟩:=d v p U;exact⟨u,O,w,Q,u3.trans I,V.trans m,by grind,u4.trans K,u5.trans L⟩
theorem ahA(G:Good x)(F:Fit x)(c:lX x.s.dv.nw)(f:gy x.s.cR)(o:YF)(b:∀y∈o.data,y<256)(a:o.kind≠9)(h6:o.kind≠6)(g:o.kind=8->o.name≠ir++yh++sn)(h:xH x.b.cU ir sn cO n):xH (rM x o).1.b.cU ir sn cO n:=by
 have H:=(N' G F c f o b a).1.1;have st:oD x.b.cU (rM x o).1.b.cU∨o.kind=8:=by
  unfold rM;simp only;split
  . exact .inl (wv λ_=>by
     unfold mB pJ;grind[Tb,oD,rK])
  split
  . exact .inl (wv λ_=>by
     unfold mL;split
     . exact .refl _
     split
     . exact .refl _
     . next h1 _=>exact Om G (G.JA cN).1 (G.JA cN).2 _)
  split
  . exact .inl (wv λ_=>by
     unfold rL;split
     . exact .refl _
     . next h1=>exact Om G (G.JA cN).1 (G.JA cN).2 _)
  split
  . obtain⟨d,e,_⟩:=BB o.name o.n x;rw[e];exact .inl (.refl _)
  split
  . exact .inl (wv λ_=>by
     unfold qA;grind[YV,oD,rK])
  split
  . exact .inl (wv λ_=>by
     unfold qN pJ;grind[Wc,oD,rK])
  split
  . exact .inl (wv λ_=>by
     grind[uA,oA,oM,vj,YW,oD])
  split
  . omega
  exact .inl (.refl _)
 rcases st with st|e8;exact h.oC G H st;(have e:(rM x o).1=(dX x (kY o.name)).1:=by grind[rM]);rw[e];unfold dX td;split;exact h;split;exact h;grind[kY,eO,oA,oM,vj,Wf,tW,Tc]
def qm(D:Nat->cV)(cO:cQ)(i:Nat):cV:=Ea D (pt D cO (9+i))
theorem acF(h:s.dv.di=cy)(R:Rd s.dv.nw s.dv.n cO)(o:i<64):(oV s cO (i:Nat)).2=(qm s.dv.nw cO i,0):=by
 have j:=IE h (R.1 0 cN);rw[show pt s.dv.nw cO 0=cO from ae] at j;have d:=(ye (A:=λ_=>False) s cO).1;have m:=QP s cO;have a:=SK s cO;have e:pt s.dv.nw cO (1+i/8)=nd s.dv.nw cO (i/8):=by unfold pt;grind
 have n:pt s.dv.nw cO (9+i)=nd s.dv.nw (nd s.dv.nw cO (i/8)) (i%8):=by unfold pt;grind
 have b:=R.1 (1+i/8) cN;rw[e] at b;have f:=R.2.1 (9+i);have l2:=IE (s:=(du s cO).1) jv (q:=nd s.dv.nw cO (i/8)) (by rw[a,d.wr.n];exact b);have k:=(ye (A:=λ_=>False) (du s cO).1 (nd s.dv.nw cO (i/8))).1;have d2:=QP (du s cO).1 (nd s.dv.nw cO (i/8));have c:=SK (du s cO).1 (nd s.dv.nw cO (i/8));have g:=SJ (s:=(du (du s cO).1 (nd s.dv.nw cO (i/8))).1) jv (q:=pt s.dv.nw cO (9+i)) (by rw[c,a,k.wr.n,d.wr.n];exact f);have l:fi s cO i=((du (du s cO).1 (nd s.dv.nw cO (i/8))).1,(⟨nd s.dv.nw cO,nd s.dv.nw (nd s.dv.nw cO (i/8)),pt s.dv.nw cO (9+i)⟩,0)):=by simp_all[fi]
 unfold oV;rw[cZ (by grind[mz]),show((i:Nat):Int).m=i from ae,l];simp only[ne_eq,xy,mq];rw[g,c,a];rfl
theorem xR.block(G:Good x)(w:xR x d){s:dw}(a:s∈x.b.cU)(i:Nat):qm d.nw s.cO i=qm x.s.dv.nw s.cO i:=by have p:=w.pt G a;grind[qm,Ea]
theorem Oo{x:GT}{E:Nat->cV}(G:Good x)(same:∀a,4<=a->x.s.mp a≠1->E a=x.s.dv.nw a){s:dw}(b:s∈x.b.cU)(i:Nat):qm E s.cO i=qm x.s.dv.nw s.cO i:=by
 have k:∀k,pt x.s.dv.nw s.cO k≠cX->E (pt x.s.dv.nw s.cO k).1=x.s.dv.nw (pt x.s.dv.nw s.cO k).1:=λk c=>by have:=G.tk _ ⟨s,k,b,c,ae⟩;exact same _ ((G.map _).2.1 cN).1 cN
 have p:=((G.rd s b).congr k).2;grind[qm,Ea]
theorem Wg(G:Good x)(F:Fit x)(e:x.s.dv.di=cy){s:dw}(a:s∈x.b.cU)(j:i<s.blocks):(ny (l7 x.b.cU s.id) (i:Nat) x).2=(qm x.s.dv.nw s.cO i,0):=by
 obtain⟨k,p,b,f,c,_⟩:=G.cT F a;have l:=(oB G.inc c b).2.2;have h:s.blocks<=64:=by have:=(lV s).1 (F.right s a);omega
 have d:r8 x.b (l7 x.b.cU s.id) (i:Nat)=(s,0):=by simp_all[Mu,r8]
 unfold ny EP;rw[cZ jv,d];simp only[ne_eq,xy,mq];have g:=acF e (G.rd s a) (i:=i) cN;simp_all[Ix]
theorem xH.cT(G:Good x)(F:Fit x)(h:xH x.b.cU ir sn cO n):∃s∈x.b.cU,s.cO=cO/\s.blocks=n/\l7 x.b.cU s.id=ir++yh++sn:=by
 obtain⟨s,a,v,d,f,c,b,q,r⟩:=h;refine⟨s,a,q,r,?_⟩;have e:=λs a=>((lV s).1 (F.right s a)).2.2.2.2.1;obtain⟨k,l,m⟩:=G.inc.xP a;obtain⟨u,o,p⟩:=G.inc.xP d;have t:=Wd c (G.owned d);unfold dG at c b;rw[t] at c;rw[f] at b;simp only[oR,I0] at c b;have g:s.cY=v.id:=b.1;have i:s.name=sn:=b.2;have j:v.name=ir:=by grind
 unfold l7 kX;rw[l];simp only[m,f];rw[cZ eQ,g,o];simp only[p,e v d,e s a];rw[cZ eQ,cZ (NJ (e s a)),cZ eQ,i,j]
theorem ahB{a c:List UInt8}:∀{b d:List UInt8},(64:UInt8)∉c->(64:UInt8)∉d->a++64::b=c++64::d->a=c/\b=d:=by induction a generalizing c with|nil=>intro b d hc e h;cases c<;>grind|cons x a ih=>intro b d hc e h;cases c<;>grind
theorem QR{s:fF}(h:eo s=cx):(64:UInt8)∉s.data.t:=λb=>by
 obtain⟨k,a,e⟩:=zF b;have a:k<s.s:=by simpa using a
 refine NH h a ?_;rw[getElem!_pos s k a];have e:s.data[k]=64:=by grind
 exact e
def ahC{a b c d:fF}(hc:eo c=cx)(f:eo d=cx)(h:a++yh++b=c++yh++d):a=c/\b=d:=by have e:=gD (λs=>s.data.t) h;simp only[ByteArray.data_append,Array.toList_append,wP] at e;have:=ahB (QR hc) (QR f) e;exact⟨ByteArray.ext (Array.ext' this.1),ByteArray.ext (Array.ext' this.2)⟩
theorem afO(G:Good x)(F:Fit x)(g:s0∈x.b.cU)(h:(dX x (qA (l7 x.b.cU s0.id++yh++zz))).2=0):xH (dX x (qA (l7 x.b.cU s0.id++yh++zz))).1.b.cU (l7 x.b.cU s0.id) zz s0.cO s0.blocks:=by
 obtain⟨k,p,j,f,l,_⟩:=G.cT F g;generalize l7 x.b.cU s0.id=nm at*;unfold dX td at*;split at h;simp at h
 next hd=>
 rw[cZ hd];split at h;omega
 next h1=>
 rw[cZ h1];unfold qA at h1|-;split at h1;simp at h1
 next h2=>
 rw[cZ h2];split at h1;omega
 next h3=>
 rw[cZ h3];clear h h1;show xH (im x.b (nm++yh++zz) x.s.cR).1.cU _ _ _ _;unfold im at h3|-;split at h3
 simp at h3
 next ir dz hfs=>
 split at h3;simp at h3
 next i hi=>
 split at h3;simp at h3
 next hl=>
 split at h3;simp at h3
 next hn=>
 split at h3;simp at h3
 next hst=>
 simp only[hfs,hi,hl,hn,hst,mq];have a:=qB hfs;have d:=On a.1 a.2;obtain⟨rfl,rfl⟩:=ahC d.2.1 d.2.2 d.1;have e:i=k:=by grind
 rw[<-e] at f;have b:=oB G.inc (Bw d.2.1) hi;have c:dG (dH x.b.cU i)=(0,nm):=by have:=b.2.1;unfold uC at this;grind
 rw[f] at c|-;rw[set_append_left _ _ b.1];refine⟨_,Dj _ nC,{s0 with dB:=x.b.next,di:=[]},I3 _ ?_,ae,c,ae,ae,ae⟩;exact vJ.2 ⟨_,by simpa using b.1,by simp⟩
def acG(h:64<=n/\n<=400):Oj (iY (kh n)).1 2/\(iY (kh n)).1.s.dv.al/\(iY (kh n)).1.s.dv.n=n:=by
 obtain⟨d,a,b,_⟩:=N9 h;have e:iY (kh n)=ju (gF (kh n)):=by unfold iY;rw[cZ amj]
 have c:=KK (N8 (n:=n) cN) (show(kh n).set from ae) jv;rw[<-e] at c;exact⟨a.okB c.1.set,a.inv.al,b.n⟩
def Oj.ajj(h:Oj x k)(d:x.s.dv.al)(c:k<=281474976710600)(b:lX x.s.dv.nw)(g:gy x.s.cR)(o:YF)(f:∀y∈o.data,y<256):Oj (rM x o).1 (k+1)/\(rM x o).1.s.dv.al/\(rM x o).1.s.dv.n=x.s.dv.n:=by have a:=ahm (h.ok d) c b g o f;refine⟨a.1.okB ?_,a.1.inv.al,a.2⟩;by_cases e:o.kind=9;rw[Oa x e];exact(h.sync c b (El (h.ok d) c b).1).1.calm.set;exact(N' h.oC h.fit b g o f e).1.2.set h.set
structure Pt(ir zz:fF)(cO:cQ)(n:Nat)(B:Nat->cV)(z x:GT)(k:Nat):Prop where
 com:Com z k
 tz:fG z.b
 ok:Oj x k
 al:x.s.dv.al
 since:QQ z x
 hx:xH x.b.cU ir zz cO n
 hz:xH z.b.cU ir zz cO n
 bx:∀i,qm x.s.dv.nw cO i=B i
 bz:∀i,qm z.s.dv.nw cO i=B i
theorem xH.block(G:Good x)(h:xH x.b.cU ir zz cO n)(same:∀a,4<=a->x.s.mp a≠1->E a=x.s.dv.nw a)(i:Nat):qm E cO i=qm x.s.dv.nw cO i:=by obtain⟨s,f,v,g,b,c,d,rfl,e⟩:=h;grind[Oo]
def Pt.synced(ok:Oj x k)(e:x.s.dv.al)(b:k<=281474976710600)(a:lX x.s.dv.nw)(h:xH x.b.cU ir zz cO n)(f:∀i,qm x.s.dv.nw cO i=B i)(ty:fG (dX x iC).1.b):
 Pt ir zz cO n B (dX x iC).1 (dX x iC).1 (k+1):=by
 have s:=El (ok.ok e) b a;obtain⟨c,D,same⟩:=ok.sync b a s.1;have d:xH (dX x iC).1.b.cU ir zz cO n:=by rw[D.b];exact h
 have by':=λi=>(h.block ok.oC same i).trans (f i);exact⟨c,ty,c.ok,s.2.1.inv.al,c.since,d,d,by',by'⟩
def Wr.same(w:Wr (λa=>x.s.mp a=1) x.s.dv d):∀a,4<=a->x.s.mp a≠1->d.nw a=x.s.dv.nw a:=λ_ _ h=>w.nw h
def Pt.ask(h:Pt ir zz cO n B z x k)(l:k<=281474976710600)(b:lX x.s.dv.nw)(d:gy x.s.cR)(o:YF)(c:∀y∈o.data,y<256)(ty:fG (rM x o).1.b)(h6:o.kind≠6)(j:o.kind=8->o.name≠ir++yh++zz):
 ∃m,Pt ir zz cO n B m (rM x o).1 (k+1):=by by_cases a:o.kind=9;rw[Oa x a] at ty|-;exact⟨_,.synced h.ok h.al l b h.hx h.bx ty⟩;obtain⟨e,p,f⟩:=h.ok.ask b d o c a;have g:=(N' h.ok.oC h.ok.fit b d o c a).1;exact⟨z,h.com.le (le_succ _),h.tz,e,g.2.al h.al,f z h.since,ahA h.ok.oC h.ok.fit b d o c a h6 j h.hx,h.hz,λi=>(h.hx.block h.ok.oC g.2.same i).trans (h.bx i),h.bz⟩
def Pt.afN(h:Pt ir zz cO n B z x k)(m:k<=281474976710600)(fI:List Bool):
 ∃y,mM (qI x.s.dv fI)=(y,0)/\Pt ir zz cO n B y y k/\y.s.dv.n=x.s.dv.n:=by have w:=Wb h.com.calm h.since.wr fI;obtain⟨g,d⟩:=YU x.s.dv fI;obtain⟨e,j,b,o,c⟩:=h.com.afN m h.tz.parts w g d.1;have f:xH (asked z e).b.cU ir zz cO n:=h.hz;have by':∀i,qm e.nw cO i=B i:=λi=>(h.hz.block h.com.ok.oC (λa _ l=>(b.nw id).trans (w.nw a l)) i).trans (h.bz i);exact⟨asked z e,j,⟨c,h.tz,c.ok,b.al d,c.since,f,f,by',by'⟩,b.n⟩
def Pt.read(h:Pt ir zz cO n B z x k)(e:i<n):(ny (ir++yh++zz) (i:Nat) x).2=(B i,0):=by obtain⟨s,c,a,d,b⟩:=h.hx.cT h.ok.oC h.ok.fit;rw[<-b,Wg h.ok.oC h.ok.fit h.al.1 c cN,a,h.bx]
def Pt.dev(h:Pt ir zz cO n B z x k)(w:∀A,Wr A x.s.dv d):Pt ir zz cO n B z (asked x d) k:=by have a:xR x d:=(w _).agree;exact⟨h.com,h.tz,h.ok.agree a ((w λ_=>True).set h.ok.set),(w λ_=>True).al h.al,⟨h.since.wr.trans (w _),h.since.keeps.agree h.ok.oC a⟩,h.hx,h.hz,λi=>(h.hx.block h.ok.oC (λa _ _=>(w λ_=>False).nw id) i).trans (h.bx i),h.bz⟩
def YZ(ok:Oj x k)(e:x.s.dv.al)(l:k<=281474976710500)(c:s0∈x.b.cU)(h:(dX x (qA (l7 x.b.cU s0.id++yh++zz))).2=0){y:GT}(j:(dX x (qA (l7 x.b.cU s0.id++yh++zz))).1=y)(b:lX y.s.dv.nw)(ty:fG (dX y iC).1.b):
 Pt (l7 x.b.cU s0.id) zz s0.cO s0.blocks (qm x.s.dv.nw s0.cO) (dX y iC).1 (dX y iC).1 (k+2)/\(dX y iC).2=0:=by have H:=afO ok.oC ok.fit c h;have g:=GF ok.oC (l7 x.b.cU s0.id++yh++zz);have f:=QK ok.fit (l7 x.b.cU s0.id++yh++zz);have s:=QM x (l7 x.b.cU s0.id++yh++zz);rw[j] at H g f s;have d:=ok.far g.1 f (g.2.set ok.set) (YD ok.oC g s);have a:=g.2.al e;exact⟨.synced d a cN b H (λi=>Oo ok.oC g.2.same c i) ty,(El (d.ok a) cN b).1⟩
def afP(W:Nat->cV):∀i,(uF W i).oneCell'=cx:=λ_=>ae
theorem ajk:zeroCells53=cL 8192 (uF λ_=>ff):=by rw[show(uF λ_=>ff)=(λ_=>Value.int .u8 0) from funext λj=>by grind[uF,ff],<-Dn];kernel_rfl
def ahD:prog.built 53 []=cu zeroCells53:=dC
def akI:kg prog 53 8192:=⟨⟨_,underlying53,ae⟩,dC⟩
instance in985e6 :sE 53 8192:=⟨akI⟩
def zzS:fF:=⟨#[122,122]⟩
def aaj(v:fF):v++ ⟨#[64,122,122]⟩=v++yh++zzS:=by rw[ByteArray.append_assoc];rfl
theorem wx{z g c:Nat}(h:w.ownsRow base e z (bX (cu ⟨g,0,cw⟩) n c) n xs)(b:0<n){u:c7}(a:xs[j]?=cu u):w.cell? ⟨g,j,cw⟩=cu u:=by have:=c8.cellAt (c8.jR h) b a;grind
structure JO(x:GT)(k N:Nat):Prop where
 ok:Oj x k
 al:x.s.dv.al
 b:tG x N
def JO.ask(h:JO x k N)(e:k<=281474976710600)(b:pD x.s.dv)(c:gy x.s.cR)(o:YF)(d:∀y∈o.data,y<256):JO (rM x o).1 (k+1) (N+20004):=
 have a:=h.ok.ajj h.al e b.nw c o d
 ⟨a.1,a.2.1,(N7 h.b b c o).le cN⟩
def JO.read(h:JO x k N)(c:fF)(i:Int):JO (ny c i x).1 k (N+20000)/\(ny c i x).1.b=x.b/\∀a,(ny c i x).1.s.dv.nw a=x.s.dv.nw a:=by obtain⟨d,e,w⟩:=BB c i x;have b:=(Nx h.b c i).le (M:=N+20000) cN;rw[e] at b|-;exact⟨⟨h.ok.agree (w _).agree ((w λ_=>True).set h.ok.set),(w λ_=>True).al h.al,b⟩,ae,λa=>(w λ_=>False).nw id⟩
theorem acH(B:Nat->cV)(k i:Nat):uF (λj=>if j<k+1 then B j else ff) i=if k*128<=i/\i<k*128+128 then dg (B k) (i-k*128) else uF (λj=>if j<k then B j else ff) i:=by unfold uF dg;grind
def ahE{b:Nat}(B:Nat->cV)(k:Nat)(h:cM w b 53 8192 (uF λj=>if j<k then B j else ff)):cM (w.setCells b (k*128) (cL 128 (dg (B k))).t) b 53 8192 (uF λj=>if j<k+1 then B j else ff):=ai4 h λi _=>acH B k i
section
attribute[local irreducible]wpList Code.wp Calls Oper.wp wpAnyH
theorem acI(n:Int)(I:fh n)(l:List IQ)(ao:Option Addr)(cap:Nat)(m:List IQ)(G:Option Addr)(F:Nat)(w:World)(R:YO w (bX ao l.n cap) l)(K:YO w (bX G m.n F) m):
 CP_ 4 #[bU cq n,bX ao l.n cap,bX G m.n F] w λe w'=>e=cj (bZ cx)/\Below w.h.s w w':=by
 have L:=cz acy;have Z:=cz (V3 n I);have S:=St.start w cw [] xh iG;by_cases h1:64<=n/\n<=400;case neg=>simp only[cZ h1] at Z;clear h1 R K;go_enter func4,ntmps4;go_wp2_with (first|(go_at_call 9;refine je S (L.o _) ?_;clear S;intro W S)|(go_at_call 10;refine je S (Z.o _) ?_;clear S;intro W S));go_ret;exact⟨ae,S.fr.cP⟩
 simp only[df h1] at Z;have V:=acG (n:=n.m) (by omega);have G:=Nv (kh n.m);obtain⟨Y,U⟩:∃x,(iY (kh n.m)).1=x:=⟨_,ae⟩;rw[U] at Z G V;have HI:=cz (show JO Y 2 20000 from⟨V.1,V.2.1,G.le anV⟩);have HL:=cz R.op;have g1:=cz R.dat;have g4:=cz K.op;have d3:=cz K.dat;have d4:=cz K.kep;obtain⟨F,J⟩:=R.row;have j5:=cz J;obtain⟨F,F,O,F,I⟩:=dP J;simp only[ly] at O;obtain⟨rfl,-,rfl⟩:=O;have I:=cz I;obtain⟨F,F⟩:=K.row;have a4:=cz F;obtain⟨O,O,O,X,f3⟩:=dP F;simp only[ly] at O;obtain⟨rfl,-,rfl⟩:=O;have f3:=cz f3;clear h1 V G U R K J F;by_cases h2:l.n<=40/\m.n<=40
 case neg=>
  by_cases J:40<l.n
  . have G:decide ((40:Int)<(l.n:Int))=cx:=gM (by omega);clear h2 J;go_enter func4,ntmps4;go_wp2_with (first|(go_at_call 9;refine je S (L.o _) ?_;clear S;intro W S)|(go_at_call 10;refine(Z.o _).mono ?_;rintro e W ⟨K,D,rfl,F⟩;replace S:=S.YL F (by simp) (by simp);clear F));go_ret;exact⟨ae,S.fr.cP⟩
  . have G:decide ((40:Int)<(l.n:Int))=cy:=jG (by omega);have O:decide ((40:Int)<(m.n:Int))=cx:=gM (by omega);clear h2 J;go_enter func4,ntmps4;go_wp2_with (first|(go_at_call 9;refine je S (L.o _) ?_;clear S;intro W S)|(go_at_call 10;refine(Z.o _).mono ?_;rintro e W ⟨K,D,rfl,F⟩;replace S:=S.YL F (by simp) (by simp);clear F));go_ret;exact⟨ae,S.fr.cP⟩
 have G:decide ((40:Int)<(l.n:Int))=cy:=jG (by omega);have O:decide ((40:Int)<(m.n:Int))=cy:=jG (by omega);have G:=h2.1;have G:=h2.2;clear h2;go_enter func4,ntmps4;go_upto_region 7 with(first|(go_at_call 9;refine je S (L.o _) ?_;clear S;intro W S)|(go_at_call 10;refine(Z.o _).mono ?_;rintro e W ⟨K,D,rfl,F⟩;have HK:=cz (iE S.fr.size F.new);replace S:=S.YL F (by simp) (by simp);clear F));have F:∀k∈ [K],k∈([]:List Nat)∨w.h.s<=k:=λk V=>.inr (fM.1 V▸HK.o);have c4:=cz F;clear F L Z;go_loopw [43] (λi wr=>∃(k:Nat)(x:GT),k<=l.n/\i=bU cq (k:Nat)/\Hid (JO x (2+k) (20000+k*20004)/\St w cw [] [] [] (KY w.h.s D (JJ K D x)) wr)) (λi _=>l.n-(intOf i).m);exact⟨0,Y,by omega,ae,cz ⟨by simpa using HI.o,S⟩⟩;clear S HI;obtain⟨k,x,V,rfl,hS⟩:=hrel;have J:=cz hS.o.1;have S:=hS.o.2;clear hS;by_cases R:k<l.n
 . obtain⟨b,lo,rfl⟩:=I.o (by omega);obtain⟨o,hx⟩:∃o,l[k]?=cu o:=⟨_,jE R⟩;have E:=HL.o o (kA hx);obtain⟨TD,b6⟩:=g1.o o (kA hx);obtain⟨A,hA⟩:∃A,A=cL 6 (opF o):=⟨_,ae⟩
   have I:=cz (show A.s=6/\∀i,i<6->(opC l)[k*6+i]?=A[i]? from⟨by rw[hA,cW],λi hi=>by
    unfold opC;rw[flat_get Ll l (nB.1 hx).1 hi,(nB.1 hx).2];unfold opE;rw[mR,hA]⟩)
   have HA:=cz hA;have F:=S.x.1.at.facts
   have C:=cz (show JO (rM x o.toYF).1 (2+(k+1)) (20000+(k+1)*20004) from by
    have a:=J.o.ask (by omega) F.1 F.2 o.toYF E.byte
    exact⟨a.ok,a.al,a.b.le (by omega)⟩)
   have G:=cz λW(X:fA W K D x)(hb:Below w.h.s w W)(hd:∀k∈oK W D,w.h.s<=k)=>afG K D x (J.o.b.ok (by omega)) o A hA E.name E.toN E.data W X TD (λW' f=>b6.iP hb f hd (λk V=>(fM.1 V▸HK.o:w.h.s<=k))) E.byte;obtain⟨⟨y,s9,c⟩,Y⟩:∃T,rM x o.toYF=T:=⟨_,ae⟩;rw[Y] at C G;simp only at C G;clear hx E hA F Y b6;go_wp2_with (first|(with_reducible refine jr 48 41 10 S 0 HA.o ?_)|((with_reducible first|refine jb 10 41 S zeroValue41 adV ?_|refine js 41 10 46 S 0 HA.o (ahj _) ?_);clear S;intro W S)|((with_reducible refine xz 46 41 45 ?_);refine ajJ (j5.o.cP S.fr.cP) (j:=k) (by omega) ae I.o.1 I.o.2 alh ?_)|(go_at_call 11;refine(G.o _ S.x.1.at S.fr.cP (λk V=>(S.x.2 k V).1)).mono ?_;rintro e W ⟨⟨B,rfl⟩,H,p⟩;replace S:=S.qP H p c4.o (by simp) (by simp);clear H p));go_roundw;exact⟨k+1,y,by omega,by go_num,cz ⟨C.o,S.pop⟩⟩;simp[intOf];omega
 . have HI:=cz (show JO x 50 1000000 from⟨⟨J.o.ok.oC,J.o.ok.fit,J.o.ok.ring,J.o.ok.set,by have:=J.o.ok.st;omega,by have:=J.o.ok.nx;omega,by have:=J.o.ok.tx;omega⟩,J.o.al,J.o.b.le (by omega)⟩);have O:=cz λW(X:fA W K D x)=>KG K D x HI.o.b.text W X;have e8:=cz λ(i:Af)(h:i∈pL x)=>V4 h;have Z:(pL x).n<=32:=by rw[GK];exact HI.o.ok.oC.q6
   cases F:x.b.cU with
   |nil=>(have hz:(pL x).n=0:=by rw[GK,F];rfl);obtain⟨L,U⟩:∃L,pL x=L:=⟨_,ae⟩;rw[U] at O Z e8 hz;clear U F J HL g1 g4 d3 d4;(have k2:((L.n:Int)==0)=cx:=by rw[hz];rfl);clear hz;go_wp2_with (first|(go_at_call 12;refine(O.o _ S.x.1.at).mono ?_;rintro e W ⟨r,rfl,ho,hb⟩;obtain⟨a9,z9,rfl⟩:=dx ho;replace S:=S.cP hb;clear hb ho));go_ret;exact⟨ae,S.fr.cP⟩
   |cons s0 rest=>
    have i3:s0∈x.b.cU:=by rw[F];exact nC
    obtain⟨d,d2⟩:∃i,xG x.b.cU s0=i:=⟨_,ae⟩
    have d1:(pL x)[0]?=cu d:=by unfold pL;rw[F] at d2|-;simp[d2]
    have a7:=cz (show l7 x.b.cU s0.id=d.1/\s0.blocks=d.2.1 from by rw[<-d2];exact aE)
    have t:0<(pL x).n:=by rw[GK,F];simp
    have e4:=cz (e8.o d (kA d1))
    obtain⟨L,U⟩:∃L,pL x=L:=⟨_,ae⟩
    rw[U] at O Z d1 t
    have Z:=cz (show∀q,q<4->(zB L)[q]?=cu (Ej d q) from λq hq=>by
     have:=flat_get acz L (i:=0) t hq
     rw[xx,oQ] at this
     unfold zB;rw[this,(nB.1 d1).2];unfold Z8;rw[mR,dy,df hq])
    have j2:=cz (show(zB L)[0]?=cu (.string d.1) from Z.o 0 bA)
    have b3:=cz (show(zB L)[1]?=cu (.int cq (d.2.1:Nat)) from Z.o 1 bA)
    have j3:=cz (show(zB L)[3]?=cu (.string d.2.2.2) from Z.o 3 bA)
    have k2:((L.n:Int)==0)=cy:=by rw[lR];omega
    have e6:=cz i3
    clear U F d1 d2 e8 J i3
    clear Z
    go_upto_region 12 with(first|(go_at_call 12;refine(O.o _ S.x.1.at).mono ?_;rintro e W ⟨r,rfl,ho,hb⟩;obtain⟨a9,z9,rfl⟩:=dx ho;replace S:=S.iv hb ho ae ae;clear hb ho))
    obtain⟨g9,rfl⟩:∃g,a9=cu ⟨g,0,cw⟩:=by
     rcases(S.uS (k:=0) ae).2 with⟨e,J⟩|⟨g,cap,F,e,_⟩
     . exact absurd J (by simp only;omega)
     . simp only[ly] at e;exact⟨g,e.1⟩
    go_upto_region 14 with(first|(with_reducible refine jg 60 9 59 (wx (S.uS (k:=0) ae) t j3.o) ?_))
    all_goals first|(go_ret;exact⟨ae,S.fr.cP⟩)|skip
    all_goals(
     have F:d.2.1<=64:=by rw[<-a7.o.2];have:=(lV s0).1 (HI.o.ok.fit.right s0 e6.o);omega
     obtain⟨J,e9⟩:∃B,qm x.s.dv.nw s0.cO=B:=⟨_,ae⟩
     have F:=cz e9
     have Z:=cz (show JO x 50 (1000000+0*20000)/\∀a,qm x.s.dv.nw s0.cO a=J a from⟨by simpa using HI.o,λa=>by rw[e9]⟩)
     obtain⟨AZ,F⟩:∃A,A=zeroCells53:=⟨_,ae⟩
     have f8:=cz (show prog.built 53 []=cu AZ by rw[F];exact ahD)
     have h4:=cz λw=>(show Sem.run prog (zeroValue 53) w=Result.ok (Value.agg AZ) w by rw[F];exact zeroValue53 w)
     have U:=cz (show AZ=cL 8192 (uF λ_=>ff) by rw[F];exact ajk)
     clear e9 O F
     go_upto_region 17 with(first|(with_reducible refine jo 71 9 70 (wx (S.uS (k:=0) ae) t j2.o) ?_)|((with_reducible refine G7 13 53 ?_);refine uU S h4.o U.o ae ?_;clear S;intro W S)|((with_reducible refine tM 53 13 72 ?_);refine Qc S 0 ae ae ae U.o akI (afP _) ?_;clear S;intro W S)|((with_reducible refine zZ 72 53 ?_);refine A7 f8.o ?_))
     obtain⟨TW,F⟩:=S.nm
     rw[F] at S|-
     clear F
     go_loopw [14] (λi wr=>∃(k:Nat)(z:GT),k<=d.2.1/\i=bU cq (k:Nat)/\Hid ((JO z 50 (1000000+k*20000)/\z.b=x.b/\∀a,qm z.s.dv.nw s0.cO a=J a)/\St w cw [] [⟨TW,53,8192,uF λj=>if j<k then J j else ff⟩] [⟨52,4,bX (cu ⟨g9,0,cw⟩) L.n z9,L.n,zB L⟩] (KY w.h.s D (JJ K D z)) wr)) (λi _=>d.2.1-(intOf i).m)
     case atStart=>exact⟨0,x,gw _,ae,cz ⟨⟨Z.o.1,ae,Z.o.2⟩,by simpa using S⟩⟩
     case round=>
      clear S Z
      obtain⟨k,z,V,rfl,hS⟩:=hrel
      have U:=cz hS.o.1
      have S:=hS.o.2
      clear hS
      by_cases R:k<d.2.1
      . have rl:=Wg U.o.1.ok.oC U.o.1.ok.fit U.o.1.al.1 (s:=s0) (by rw[U.o.2.1];exact e6.o) (i:=k) (by rw[a7.o.2];exact R)
        rw[U.o.2.1,a7.o.1,U.o.2.2] at rl
        have F:=U.o.1.read d.1 (k:Nat)
        have O:=cz λW(X:fA W K D z)=>yd K D z (U.o.1.b.ok (by omega)) d.1 (iE e4.o bA) (k:Nat) W X
        have C:=cz (show JO (ny d.1 (k:Nat) z).1 50 (1000000+(k+1)*20000)/\(ny d.1 (k:Nat) z).1.b=x.b/\∀a,qm (ny d.1 (k:Nat) z).1.s.dv.nw s0.cO a=J a from⟨⟨F.1.ok,F.1.al,F.1.b.le (by omega)⟩,F.2.1.trans U.o.2.1,by rw[show(ny d.1 (k:Nat) z).1.s.dv.nw=z.s.dv.nw from funext F.2.2];exact U.o.2.2⟩)
        obtain⟨⟨y,q⟩,Y⟩:∃T,ny d.1 (k:Nat) z=T:=⟨_,ae⟩
        rw[Y] at rl O C
        simp only at rl C
        subst rl
        have O:=cz λW X=>(O.o W X:CP_ 13 #[bW (cu ⟨K,0,cw⟩),bY d.1,bU cq (k:Nat)] W λe w'=>∃B,e=cj (cg #[bV B,bU cq 0])/\B=cL 128 (dg (J k))/\fA w' K D y/\Fr (cu D) [] W w')
        have k1:(k:Int)<(d.2.1:Int):=by omega
        clear F Y
        go_wp2_with first|(with_reducible refine jo 77 3 76 (wx (S.uS (k:=0) ae) t b3.o) ?_)|(go_at_call 13;refine(O.o _ S.x.1.at).mono ?_;rintro e W ⟨B,rfl,hB,H,p⟩;have HB:=cz hB;replace S:=S.qP H p (by simp) (by simp) (by simp);clear hB H p)|((with_reducible refine tM 36 89 87 ?_);refine G8 S 0 ae (o:=k*128) (m:=128) anW ae ae HB.o Cd (jC _) (f':=uF λj=>if j<k+1 then J j else ff) (g:=dg (J k)) (λw' F e=>by rw[e];exact ahE J k F) ?_;clear S;intro W S)
        go_roundw
        case rel=>exact⟨k+1,y,by omega,by go_num,cz ⟨C.o,S⟩⟩
        case measure=>simp[intOf];omega
      . obtain rfl:k=d.2.1:=by omega
        obtain⟨Z,F⟩:∃s,d.1++(⟨#[64,122,122]⟩:fF)=s:=⟨_,ae⟩
        have b7:l7 z.b.cU s0.id++yh++zzS=Z:=by rw[U.o.2.1,a7.o.1,<-F];exact(aaj _).symm
        have f5:Z.s<=140737488355328:=by rw[<-F,Lx];have h1:=e4.o;have h2:(⟨#[64,122,122]⟩:fF).s=3:=rfl;omega
        have m1:¬(9223372036854775807<d.1.s+3):=by have:=e4.o;omega
        have d9:=cz (And.intro f5 (show Z=d.1++yh++zzS from by rw[<-F];exact aaj _))
        have a5:=cz λW(X:fA W K D z)=>IA K D z (U.o.1.b.ok (by omega)) Z f5 W X
        have N:=Cw U.o.1.b (k:=qA Z) ((ZL U.o.1.b Z).le (by omega))
        have F:=λh hd ty=>YZ U.o.1.ok U.o.1.al (by omega) (s0:=s0) (by rw[U.o.2.1];exact e6.o) (zz:=zzS) h ae hd ty
        rw[b7] at F
        obtain⟨⟨y,c⟩,Y⟩:∃T,dX z (qA Z)=T:=⟨_,ae⟩
        rw[Y] at a5 N F
        simp only at N F
        rw[U.o.2.1,a7.o.1,a7.o.2,show qm z.s.dv.nw s0.cO=J from funext U.o.2.2] at F
        have a5:=cz λW X=>(a5.o W X:CP_ 14 #[bW (cu ⟨K,0,cw⟩),bY Z] W λe w'=>e=cj (bU cq c)/\fA w' K D y/\Fr (cu D) [K] W w')
        have b5:=Cw N (Nu N)
        have U:=cz λW(X:fA W K D y)=>Cv K D y (N.ok (by omega)) W X
        obtain⟨⟨y2,c2⟩,i6⟩:∃T,dX y iC=T:=⟨_,ae⟩
        rw[i6] at F b5 U
        simp only at F b5
        have c6:=cz λh hd=>F h hd b5.text
        have f9:=cz (b5.le (M:=4000000) (by omega))
        have U:=cz λW X=>(U.o W X:CP_ 15 #[bW (cu ⟨K,0,cw⟩)] W λe w'=>e=cj (bU cq c2)/\fA w' K D y2/\Fr (cu D) [K] W w')
        clear b7 f5 F Y i6 N b5
        by_cases hc:c=0
        case neg=>
         have g9:(c !=0)=cx:=by rw[fJ];exact hc
         clear hc
         go_wp2_with first|(with_reducible refine jo 77 3 76 (wx (S.uS (k:=0) ae) t b3.o) ?_)|(go_at_call 14;refine(a5.o _ S.x.1.at).mono ?_;rintro e W ⟨rfl,H,p⟩;replace S:=S.qP H p c4.o (by simp) (by simp);clear H p)
         go_ret
         exact⟨ae,S.fr.cP⟩
        subst hc
        replace c6:=cz (c6.o ae)
        go_upto_region 23 with(first|(with_reducible refine jo 77 3 76 (wx (S.uS (k:=0) ae) t b3.o) ?_)|(go_at_call 14;refine(a5.o _ S.x.1.at).mono ?_;rintro e W ⟨rfl,H,p⟩;have F:=cz H.facts.1.nw;replace S:=S.qP H p c4.o (by simp) (by simp);clear H p)|(go_at_call 15;refine(U.o _ S.x.1.at).mono ?_;rintro e W ⟨rfl,H,p⟩;obtain⟨i4,rfl⟩:=c6.o F.o;have F:=cz i4;replace S:=S.qP H p c4.o (by simp) (by simp);clear H p i4))
        have g7:=cz (show Pt d.1 zzS s0.cO d.2.1 J y2 y2 (52+0)/\tG y2 (4000000+0*50000) from⟨F.o,f9.o⟩)
        clear F f9 c6
        clear a5 U
        go_loopw [7,102] (λpv i wr=>∃(k j K':Nat)(z2 y:GT),k<=m.n/\j<=k/\pv=bW (cu ⟨K',0,cw⟩)/\i=bU cq (k:Nat)/\Hid ((Pt d.1 zzS s0.cO d.2.1 J z2 y (52+j)/\tG y (4000000+j*50000))/\w.h.s<=K'/\St w cw [] [⟨TW,53,8192,uF λj=>if j<d.2.1 then J j else ff⟩] [⟨52,4,bX (cu ⟨g9,0,cw⟩) L.n z9,L.n,zB L⟩] (KY w.h.s D (JJ K' D y)) wr)) (λ_ i _=>m.n-(intOf i).m)
        case atStart=>exact⟨0,0,K,y2,y2,gw _,eN _,ae,ae,cz ⟨g7.o,HK.o,S⟩⟩
        case round=>
         clear S g7
         obtain⟨k,j,K',z2,y,V,F,rfl,rfl,hS⟩:=hrel
         have Q:=cz hS.o.1
         have K:=cz hS.o.2.1
         have S:=hS.o.2.2
         clear hS
         by_cases R:k<m.n
         . obtain⟨b,lo,rfl⟩:=f3.o (by omega)
           obtain⟨o,hx⟩:∃o,m[k]?=cu o:=⟨_,jE R⟩
           have E:=g4.o o (kA hx)
           obtain⟨TD,b6⟩:=d3.o o (kA hx)
           obtain⟨F,U⟩:=d4.o o (kA hx)
           obtain⟨A,hA⟩:∃A,A=cL 6 (opF o):=⟨_,ae⟩
           have I:=cz (show A.s=6/\∀i,i<6->(opC m)[k*6+i]?=A[i]? from⟨by rw[hA,cW],λi hi=>by
            unfold opC;rw[flat_get Ll m (nB.1 hx).1 hi,(nB.1 hx).2];unfold opE;rw[mR,hA]⟩)
           have HA:=cz hA
           have e2:=cz E
           have j4:=cz U
           have G:=cz λK2(y:GT)(Y:E0 y)W(X:fA W K2 D y)(hb:Below w.h.s w W)(hd:∀k∈oK W D,w.h.s<=k)(hK:w.h.s<=K2)=>afG K2 D y Y o A hA E.name E.toN E.data W X TD (λW' f=>b6.iP hb f hd (λk V=>(fM.1 V▸hK:w.h.s<=k))) E.byte
           have F:=cz S.x.1.at.facts
           clear hx E hA b6 U
           by_cases h6:o.kind=6
           . have U:(o.kind==6)=cx:=xL.2 h6
             clear h6
             go_wp2_with first|(with_reducible refine jl 107 3 106 S 0 0 (bU cq o.kind) ?_)|((with_reducible first|refine jb 16 41 S zeroValue41 adV ?_|refine js 41 16 105 S 0 HA.o (ahj _) ?_);clear S;intro W S)|((with_reducible refine xz 105 41 104 ?_);refine ajJ (a4.o.cP S.fr.cP) (j:=k) (by omega) ae I.o.1 I.o.2 alh ?_)
             go_roundw
             case rel=>exact⟨k+1,j,K',z2,y,by omega,by omega,ae,by go_num,cz ⟨Q.o,K.o,S.pop⟩⟩
             case measure=>simp[intOf];omega
           have U:(o.kind==6)=cy:=lR.2 h6
           by_cases U:o.kind=8/\o.name=Z
           . have g8:(o.kind==8)=cx:=xL.2 U.1
             have gn:(o.name.t==Z.t)=cx:=by rw[U.2];exact beq_self_eq_true _
             clear h6 U
             go_wp2_with first|(with_reducible first|refine jl 107 3 106 S 0 0 (bU cq o.kind) ?_|refine jm 111 3 110 S 0 0 (bU cq o.kind) ?_|refine jm 115 9 114 S 0 1 (bY o.name) ?_)|((with_reducible first|refine jb 16 41 S zeroValue41 adV ?_|refine js 41 16 105 S 0 HA.o (ahj _) ?_);clear S;intro W S)|((with_reducible refine xz 105 41 104 ?_);refine ajJ (a4.o.cP S.fr.cP) (j:=k) (by omega) ae I.o.1 I.o.2 alh ?_)
             go_roundw
             case rel=>exact⟨k+1,j,K',z2,y,by omega,by omega,ae,by go_num,cz ⟨Q.o,K.o,S.pop⟩⟩
             case measure=>simp[intOf];omega
           have c5:=cz (show o.toYF.kind≠6/\(o.toYF.kind=8->o.toYF.name≠d.1++yh++zzS) from⟨h6,λe f=>U ⟨e,f.trans d9.o.2.symm⟩⟩)
           have g8:(o.kind==8&& (o.name.t==Z.t))=cy:=by rw[XT];simpa using U
           clear h6 U
           obtain⟨b8,U⟩:∃b,(o.kind==8)=b:=⟨_,ae⟩
           rw[U] at g8
           cases b8
           all_goals simp only[Lt,Bool.false_and] at g8
           all_goals(
            by_cases c7:o.kind=11
            case neg=>
             have j7:(o.kind==11)=cy:=lR.2 c7
             have C:=Q.o.1.ask (by omega) F.o.1.nw F.o.2 o.toYF e2.o.byte (N7 Q.o.2 F.o.1 F.o.2 o.toYF).text c5.o.1 c5.o.2
             have U:=N7 Q.o.2 F.o.1 F.o.2 o.toYF
             have G:=cz λW X hb hd=>G.o K' y (Q.o.2.ok (by omega)) W X hb hd K.o
             obtain⟨⟨y9,s9,c⟩,Y⟩:∃T,rM y o.toYF=T:=⟨_,ae⟩
             rw[Y] at C U G
             obtain⟨a8,C⟩:=C
             have C:=cz (show Pt d.1 zzS s0.cO d.2.1 J a8 y9 (52+(j+1))/\tG y9 (4000000+(j+1)*50000) from⟨C,U.le (by omega)⟩)
             clear Y c7 U
             go_wp2_with first|(with_reducible first|refine jl 107 3 106 S 0 0 (bU cq o.kind) ?_|refine jm 111 3 110 S 0 0 (bU cq o.kind) ?_|refine jm 115 9 114 S 0 1 (bY o.name) ?_|refine jl 122 3 121 S 0 0 (bU cq o.kind) ?_|refine jr 143 41 16 S 0 HA.o ?_)|((with_reducible first|refine jb 16 41 S zeroValue41 adV ?_|refine js 41 16 105 S 0 HA.o (ahj _) ?_);clear S;intro W S)|((with_reducible refine xz 105 41 104 ?_);refine ajJ (a4.o.cP S.fr.cP) (j:=k) (by omega) ae I.o.1 I.o.2 alh ?_)|(go_at_call 11;refine(G.o _ S.x.1.at S.fr.cP (λk V=>(S.x.2 k V).1)).mono ?_;rintro e W ⟨⟨B,rfl⟩,H,p⟩;replace S:=S.qP H p (λk V=>.inr (fM.1 V▸K.o)) (by simp) (by simp);clear H p)
             go_roundw
             case rel=>exact⟨k+1,j+1,K',a8,y9,by omega,by omega,ae,by go_num,cz ⟨C.o,K.o,S.pop⟩⟩
             case measure=>simp[intOf];omega
            have j7:(o.kind==11)=cx:=xL.2 c7
            obtain⟨y7,f7,e7,-⟩:=Q.o.1.afN (by omega) o.fI
            have K:=Nw (qI y.s.dv o.fI) (VY F.o.1 o.fI)
            rw[f7] at K
            have K:=cz (K.le (M:=4000000+j*50000+20004) (by have:=Q.o.2.ops;show y.s.dv.ops+20004<=_;omega))
            have e7:=cz e7
            have F:=cz λW v(X:jN W D y.s.dv)hv=>KE D y.s.dv (by have:=Q.o.2.ops;omega) v o.fI [] W X hv
            have i8:=cz λW(X:jN W D (qI y.s.dv o.fI))=>(by have:=IB D _ W X;rw[f7] at this;exact this:CP_ 17 #[bW (cu ⟨D,0,cw⟩)] W λe w'=>∃v,e=cj (cg #[v,bU cq 0])/\Lg w' W.h.s D y7 0 v/\Fr (cu D) [] W w')
            have G:=cz λK2 W X hb hd hK=>G.o K2 y7 (K.o.ok (by omega)) W X hb hd hK
            have C:=λ(h:pD y7.s.dv/\gy y7.s.cR)=>e7.o.ask (by omega) h.1.nw h.2 o.toYF e2.o.byte (N7 K.o h.1 h.2 o.toYF).text c5.o.1 c5.o.2
            have U:=λ(h:pD y7.s.dv/\gy y7.s.cR)=>N7 K.o h.1 h.2 o.toYF
            obtain⟨⟨y9,s9,c⟩,Y⟩:∃T,rM y7 o.toYF=T:=⟨_,ae⟩
            rw[Y] at C U G
            have C:=cz (show(pD y7.s.dv/\gy y7.s.cR)->∃a8,Pt d.1 zzS s0.cO d.2.1 J a8 y9 (52+(j+1))/\tG y9 (4000000+(j+1)*50000) from λh=>(C h).imp λ_ q=>⟨q,(U h).le (by omega)⟩)
            have K:=e2.o.fI
            clear Y c7 U f7
            go_wp2_with first|(with_reducible first|refine jl 107 3 106 S 0 0 (bU cq o.kind) ?_|refine jm 111 3 110 S 0 0 (bU cq o.kind) ?_|refine jm 115 9 114 S 0 1 (bY o.name) ?_|refine jl 122 3 121 S 0 0 (bU cq o.kind) ?_|refine jl 127 39 126 S 0 5 (bX o.ka o.fI.n o.kc) ?_|refine jr 143 41 16 S 0 HA.o ?_)|((with_reducible first|refine jb 16 41 S zeroValue41 adV ?_|refine js 41 16 105 S 0 HA.o (ahj _) ?_);clear S;intro W S)|((with_reducible refine xz 105 41 104 ?_);refine ajJ (a4.o.cP S.fr.cP) (j:=k) (by omega) ae I.o.1 I.o.2 alh ?_)|((with_reducible refine XA 125 39 0 ?_);refine bl0 S afr ae ae ?_;clear S;intro g W S)|((with_reducible refine Uf 128 125 127 ?_);refine apQ S 0 ae ae ae (j4.o.cP S.fr.cP) afr (by intro u I;unfold An at I;obtain⟨_,_,rfl⟩:=gI.1 I;rfl) (by simp only;omega) anR ?_;clear S;intro ao c W S;rw[show(0+o.fI.n)=o.fI.n from oQ _] at S|-;rw[show([]++An o.fI)=An o.fI from ae] at S)|(go_at_call 16;refine(F.o _ _ S.x.1.at.dev (c8.jR (S.uS (k:=0) ae))).mono ?_;rintro e W ⟨rfl,hd,p⟩;replace S:=S.aae p (by simp) (gU D _) hd;clear hd p)|(go_at_call 17;refine(i8.o _ S.x.1).mono ?_;rintro e W ⟨u,rfl,hg,p⟩;obtain⟨K9,rfl,hK,K⟩:=hg.1 ae;have F:=cz (iE S.fr.size hK);have I:=cz K.facts;replace S:=S.qP K p (by simp) (by simp) (by simp);clear hg p hK K)|(go_at_call 11;refine(G.o K9 _ S.x.1.at S.fr.cP (λk V=>(S.x.2 k V).1) F.o).mono ?_;rintro e W ⟨⟨B,rfl⟩,H,p⟩;replace S:=S.qP H p (λk V=>.inr (fM.1 V▸F.o)) (by simp) (by simp);clear H p)
            go_roundw
            case rel=>obtain⟨a8,q⟩:=C.o I.o;exact⟨k+1,j+1,K9,a8,y9,by omega,by omega,ae,by go_num,cz ⟨q,F.o,S.pop.OJ⟩⟩
            case measure=>simp[intOf];omega
           )
         . obtain rfl:k=m.n:=by omega
           have Q:=cz (show Pt d.1 zzS s0.cO d.2.1 J z2 y (52+j)/\tG y (7000000+0*20000) from⟨Q.o.1,Q.o.2.le (by omega)⟩)
           go_upto_region 35 with(fail)
           go_loopw [19] (λi wr=>∃(k:Nat)(y:GT),k<=d.2.1/\i=bU cq (k:Nat)/\Hid ((Pt d.1 zzS s0.cO d.2.1 J z2 y (52+j)/\tG y (7000000+k*20000))/\St w cw [] [⟨TW,53,8192,uF λj=>if j<d.2.1 then J j else ff⟩] [⟨52,4,bX (cu ⟨g9,0,cw⟩) L.n z9,L.n,zB L⟩] (KY w.h.s D (JJ K' D y)) wr)) (λi _=>d.2.1-(intOf i).m)
           case atStart=>exact⟨0,y,gw _,ae,cz ⟨Q.o,S⟩⟩
           case round=>
            clear S Q
            obtain⟨k,y,V,rfl,hS⟩:=hrel
            have Q:=cz hS.o.1
            have S:=hS.o.2
            clear hS
            by_cases R:k<d.2.1
            . have rl:=Q.o.1.read R
              obtain⟨F,G,I⟩:=BB (d.1++yh++zzS) (k:Nat) y
              have C:=Q.o.1.dev I
              have U:=Nx Q.o.2 (d.1++yh++zzS) (k:Nat)
              have O:=cz λW(X:fA W K' D y)=>yd K' D y (Q.o.2.ok (by omega)) Z d9.o.1 (k:Nat) W X
              rw[<-G] at C
              rw[<-d9.o.2] at rl C U
              obtain⟨⟨F,q⟩,Y⟩:∃T,ny Z (k:Nat) y=T:=⟨_,ae⟩
              rw[Y] at rl O C U
              simp only at rl C U
              subst rl
              have O:=cz λW X=>(O.o W X:CP_ 13 #[bW (cu ⟨K',0,cw⟩),bY Z,bU cq (k:Nat)] W λe w'=>∃B,e=cj (cg #[bV B,bU cq 0])/\B=cL 128 (dg (J k))/\fA w' K' D F/\Fr (cu D) [] W w')
              have C:=cz (show Pt d.1 zzS s0.cO d.2.1 J z2 F (52+j)/\tG F (7000000+(k+1)*20000) from⟨C,U.le (by omega)⟩)
              have k1:(k:Int)<(d.2.1:Int):=by omega
              clear Y G I U
              go_upto_region 38 with(first|(with_reducible refine jo 150 3 149 (wx (S.uS (k:=0) ae) t b3.o) ?_)|((with_reducible first|refine jb 20 36 S zeroValue36 vU ?_|refine js 36 20 160 S 0 HB.o (jC _) ?_);clear S;intro W S)|(go_at_call 13;refine(O.o _ S.x.1.at).mono ?_;rintro e W ⟨B,rfl,hB,H,p⟩;have G:=(show∀w:World,(binOp .neq 36 (bV B) (bV B)).run prog w=.ok (bZ cy) w by rw[hB];exact λw=>ahH _ _ cx (by unfold Mb;simp) w);have HB:=cz hB;replace S:=S.qP H p (by simp) (by simp) (by simp);clear hB H p))
              have G:(k:Int)<64:=by omega
              have G:k<64:=by omega
              refine eu S (by kernel_rfl) ?_;clear S;intro W S
              refine dh 0 _ ?_
              refine dh 1 (bZ cy) ?_
              refine dh 2 _ ?_
              refine gZ 3 (bV B) ae (ajO S 0 (λ_ h=>h) ae ae HB.o Cd) ?_
              refine dh 4 _ ?_
              refine dh 5 (bW (cu ⟨TW,k*128,cw⟩)) ?_
              refine gZ 6 (bV B) ae (ak0 S 1 (λ_ h=>h) ae (o:=k*128) (m:=128) ae (dg (J k)) anW (λi hi=>(Y7 (λj=>if j<d.2.1 then J j else ff) k i hi).trans (gD (λs=>dg s i) (df R))) HB.o Cd) ?_
              refine dh 7 (bZ cy) ?_
              refine dh 8 (bZ cy) ?_
              refine wpAnyH_done (by kernel_rfl) ?_ _
              go_wp2
              go_roundw
              case rel=>exact⟨k+1,F,by omega,by go_num,cz ⟨C.o,S.pop⟩⟩
              case measure=>simp[intOf];omega
            . obtain rfl:k=d.2.1:=by omega
              go_wp2_with first|(with_reducible refine jo 150 3 149 (wx (S.uS (k:=0) ae) t b3.o) ?_)
              go_ret
              exact⟨ae,S.fr.cP⟩
    )
end
section
open Go.Deep Go.ChangeShapes Go.WideShapes Go.ChangeAt
theorem akJ{x:Int}(h:(Lit.int cq x).wf=cx):fh x:=by have a:IntKind.i64.min= -9223372036854775808:=rfl;have b:IntKind.i64.max=9223372036854775807:=rfl;grind[Lit.wf,fh]
theorem IT(os:Os)(c:os.Started)(H:Type)(enc:dU×c7->H):
 ReturnsInHanded {} checked os 4 .any (Rows.wholeSnapsSpec.pre6 enc prog f4 Rows.wholeSnapsRow.domain cy) (Rows.wholeSnapsSpec.post enc prog f4 cy cx cy cy):=by
 refine returnsInHanded_of_change_sized (C:=checked) own c amK func4
  (ChangeSpec.witness6 (enc:=enc) (C:=checked) cy ⟨#[],#[bU cq 0,bX cw 0 0,bX cw 0 0],[]⟩ 8 nz nz amK nz) ?_
 intro W base args D gs i b I J d _;have f:(DataW.weightsEach prog (f4.params.t++Rows.wholeSnapsSpec.plain.varTypes prog) (D++gs)).all (·<=reachBytes)=cx:=d;clear d;have a:∀(j:Nat)t v,f4.params[j]?=cu t->args[j]?=cu v->Value.okWide prog W .any base t v:=b;have o:=I;obtain⟨p,q,g,hV,rfl,a5,a6⟩:=I;have G:DataW.TrodAll enc prog W 0 (λ_=>cx) cx f4.params.t args.t D p:=g;rw[params4] at G a f;obtain⟨Q,a7,d0,a2,p0,q0,r,rfl,rfl,h0,r0⟩:=trodAll_cons G;obtain⟨R,a8,d1,a3,p1,q1,rfl,rfl,rfl,E,r1⟩:=trodAll_cons r0;obtain⟨T,a9,d2,a4,p2,q2,rfl,rfl,rfl,F,r2⟩:=trodAll_cons r1;obtain⟨rfl,rfl,rfl⟩:=trodAll_nil r2;obtain rfl:args=#[Q,R,T]:=by grind
 obtain⟨rfl,rfl⟩:=trodVars_none hV;obtain⟨Y,rfl,rfl,rfl,U⟩:=open_int vP (a 0 3 Q ae ae) h0;obtain⟨b1,N,c1,rfl⟩:=okWide_slice underlying30 (a 1 30 R ae ae);have L:=E;have y:∀x∈p1,x.block<W.h.s:=by obtain⟨m,K⟩:=L;exact DataW.trod_lt m _ _ _ K
 obtain⟨k,s⟩:=E;obtain⟨l1,Z,A,e1,V⟩:=aah s (λn w=>by simpa using rz.1 f n (DataW.weights_mem_each (j:=1) ae ae n w));cases e1;obtain⟨b2,O,c2,rfl⟩:=okWide_slice underlying30 (a 2 30 T ae ae);have M:=F;have z:∀x∈p2,x.block<W.h.s:=by obtain⟨m,K⟩:=M;grind[DataW.trod_lt]
 obtain⟨l,u⟩:=F;obtain⟨l2,a1,B,e2,X⟩:=aah u (λn w=>by simpa using rz.1 f n (DataW.weights_mem_each (j:=2) ae ae n w));cases e2;clear g b;refine(acI Y (akJ U) l1 _ _ l2 _ _ W V X).mono λe W' ⟨he,bel⟩=>?_;subst he;exact⟨_,ae,_,_,_,[],_,[],o,trodAll_mk1 (shut_bool underlying4 _),(trodAll_cons_mk (shut_int vP U) (trodAll_cons_mk (Below.trod laidOut nz (l6 nz) L bel y) (trodAll_cons_mk (Below.trod laidOut nz (l6 nz) M bel z) trodAll_mk0))),ae,bel.frame _,λh=>by cases h⟩
def IU:joinedFacts prog 4 f4 Rows.wholeSnapsSpec Rows.wholeSnapsRow=true:=(kO (kO (kO (kO (kO (kO (kO (kO (kO (kO (kO (kO (kO (kO (kO (kO (kO (kO (kO (kO (kO (kO (kO (kO (kO (kO (kO (kO (kO (kO (kO dC laidOut) ahs) dC) dC) dC) aht) dC) ahu) dC) dC) dC) dC) dC) dC) dC) dC) dC) dC) dC) dC) dC) dC) dC) ahv) ahw) (by show(false==prog.liftsFinal)=true;rw[ahx];rfl)) ajg) dC) dC) dC) dC)
theorem wholeSnaps_holds:Rows.WholeSnapsSaid:=
 OpenClaim.holds_of_wide 4 f4 ae ae ae ae ae ae ae ⟨ae,ae,ae,ae,ae⟩ ae ae ae ae ae amK func4 IU
  (l6 dC) (by unfold Func.isWrapper;first|(rw[cZ dk_];exact aE))
  (λos a H enc _=>IT os a H enc)
end
end Go.Proofs.YtklligbjoplbgaaGreat