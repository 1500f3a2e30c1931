/- Part 2 of the proof of WholeAudit. No conditions. -/
import Derived.Test.YtklligbjoplbgaaGreatRaa
import Derived.Test.YtklligbjoplbgaaGreatProg
import Derived.Handy
import Derived.WalkSpells
import Derived.WalkLawsBesides
import Derived.RangeFuncNested
import Derived.RangeFuncBound
import Derived.Shelf.RegionOpen
import Derived.OwnWalkIn
import Derived.LoopNIn
import Derived.LoopIn
import Derived.Laws.AppendOwnNone
import Derived.Laws.CopyOwn
import Derived.Deep.DeepCutAuto
import Derived.Deep.RegionHeld3
import Derived.StillTailTactics
import Derived.Great.BuildSlice
import Derived.Deep.AppendLies
set_option linter.all false
open List renaming length->List.n
open String renaming length->String.n
open Array renaming size->Array.s,toList->Array.t
open ByteArray renaming size->ByteArray.s
open Go.TypeInfo renaming size->Go.TypeInfo.s
open Go.RowKit.Below renaming size->Go.RowKit.Below.s
open Option renaming toList->Option.t,some->cu,none->cw
open Go.World renaming heap->Go.World.h
open Int renaming toNat->Int.m
open Go.Value renaming int->bU,agg->bV,pointer->bW,slice->bX,bool->bZ,tuple->cg
open Go.Ending renaming returned->cj
open Go.IntKind renaming i64->cq,u64->ct
open Bool renaming true->cx,false->cy
namespace Go.Proofs.YtklligbjoplbgaaGreat
set_option maxRecDepth 100000
set_option maxHeartbeats 64000000
open Go.RowKit Lib List Nat _root_.Go.Proofs.Tryz Go.Shelf
variable {tmps:gJ}{a:Act}{K:Act->cS->Prop}{ad:Addr}{listed:Array Bool}{ops:Array Oper}{Q:Exit->Act->cS->Prop}{fn:Func}{l2 ns q r s ws:cV}{p:List (Fin 4096)}{J:List (Fin 4096)->cS->Prop}{C l:List (Int×Int)}{ps:List (Nat×cV)}{bs:List Int}{ts:List cV}{rest:List Oper}{cs vs xs:List c7}{B D E b base base' c cap fuel g i j k m n n0 n1 size sz:Nat}{nw:Nat->cV}{st:Nat->Nat}{f:Nat->c7}{o sM op:Oper}{ao:Option Addr}{d row:Option Nat}{P:oN}{Q':Prop}{T e t:dW}{α β:Type}{v v' x y z:c7}{W w w' w1 w2 w4 w5 w6 wr:cS}{S:cS->Prop}
def kt(s l:Int):Bool:=decide (0<=s/\s<4096/\1<=l/\l<=4096-s)
def iY(e:Int):List (Int×Int)->Bool
 | []=>cx
 |x::r=>kt x.1 x.2&&decide (e<x.1)&&iY (x.1+x.2) r
def gY(l:List (Int×Int)):Bool:=iY (-1) l
def rL(l:List (Int×Int))(n:Int):Bool:=l.any λx=>decide (x.1<=n/\n<x.1+x.2)
def qx(l:List (Int×Int)):Nat->Bool:=λn=>rL l (n:Int)
def LG(l:List (Int×Int))(k:Nat):List (Int×Int):=
 match l.getLast? with
 |some x=>if x.1+x.2=(k:Int) then l.dropLast++[(x.1,x.2+1)] else l++[((k:Int),1)]
 |none=> [((k:Int),1)]
def gE(f:Nat->Bool):Nat->List (Int×Int)
 |0=> []
 |k+1=>if f k then LG (gE f k) k else gE f k
def iE(f:Nat->Bool):List (Int×Int):=gE f 4096
def oR(e:Int):List (Int×Int)->Int
 | []=>e
 |x::r=>oR (x.1+x.2) r
theorem gl(s l:Int):kt s l=cx↔(0<=s/\s<4096/\1<=l/\l<=4096-s):=by simp[kt]
theorem il(e:Int)(x:Int×Int)(r:List (Int×Int)):
 iY e (x::r)=cx↔kt x.1 x.2=cx/\e<x.1/\iY (x.1+x.2) r=cx:=by simp[iY,and_assoc]
theorem nQ(e:Int)(l m:List (Int×Int)):iY e (l++m)=(iY e l&&iY (oR e l) m):=by induction l generalizing e<;>grind[iY,oR]
theorem uJ(e:Int)(l m:List (Int×Int)):oR e (l++m)=oR (oR e l) m:=by induction l generalizing e<;>grind[oR]
theorem kU(x:Int×Int)(r:List (Int×Int))(n:Int):rL (x::r) n=cx↔(x.1<=n/\n<x.1+x.2)∨rL r n=cx:=by simp[rL]
theorem Dg(l m:List (Int×Int))(n:Int):rL (l++m) n=(rL l n||rL m n):=by simp[rL]
theorem acH(n:Int):rL [] n=cy:=rfl
theorem sk{e:Int}(h:iY e l=cx){n:Int}(a:rL l n=cx):e<n/\0<=n/\n<4096:=by induction l generalizing e<;>grind[rL,il,gl]
theorem QV{e i:Int}{m:List (Int×Int)}(b:iY e l=cx)(c:iY i m=cx)(h:∀n,rL l n=rL m n):l=m:=by induction l generalizing e i m with|nil=>(cases m with|nil=>rfl|cons y s=>rw[il,gl] at c;have:=h y.1;grind[rL])|cons x r ih=>cases m with|nil=>grind[il,rL]|cons y s=>(rw[il,gl] at b c;have d:rL (y::s) x.1=cx:=by grind[kU]);(have a:rL (x::r) y.1=cx:=by grind[kU]);(have j:x.1=y.1:=by rw[kU] at d a;rcases d with d|d;rcases a with a|a;omega;have:=sk b.2.2 a;omega;have:=sk c.2.2 d;rcases a with a|a;omega;have:=sk b.2.2 a;omega);(have p:rL (x::r) (x.1+x.2)≠cx:=by rw[ne_eq,kU];rintro(hh|hh);omega;have:=sk b.2.2 hh;omega);(have q:rL (y::s) (y.1+y.2)≠cx:=by rw[ne_eq,kU];rintro(hh|hh);omega;have:=sk c.2.2 hh;omega);(have k:x.2=y.2:=by grind[kU]);have g:x=y:=xI j k;subst g;congr 1;refine ih b.2.2 c.2.2 (λn=>?_);have o:=h n;rw[wR,kU,kU] at o;rw[wR];constructor;intro f;have:=sk b.2.2 f;grind;intro f;have:=sk c.2.2 f;grind
/-! ### The set of some numbers -/
theorem Eh(k:Nat):LG [] k=[((k:Int),1)]:=rfl
theorem vN(l:List (Int×Int))(x:Int×Int)(k:Nat):
 LG (l++[x]) k=if x.1+x.2=(k:Int) then l++[(x.1,x.2+1)] else(l++[x])++[((k:Int),1)]:=by simp[LG]
theorem yv(l:List α):l=[]∨∃m x,l=m++[x]:=by rcases eq_nil_or_concat l with h|⟨m,x,h⟩<;>grind
theorem BD(f:Nat->Bool)(k:Nat)(d:k<=4096):
 iY (-1) (gE f k)=cx/\oR (-1) (gE f k)<=k/\(∀n,rL (gE f k) n=cx↔(0<=n/\n<k/\f n.m=cx)):=by induction k with|zero=>exact⟨ae,by simp[gE,oR],λn=>by grind[gE,rL]⟩|succ k ih=>have⟨h1,h2,h3⟩:=ih cN;unfold gE;by_cases c:f k=cx;(rw[c8 c];have a:∀n:Int,(0<=n/\n<((k+1:Nat):Int)/\f n.m=cx)↔((0<=n/\n<(k:Int)/\f n.m=cx)∨n=(k:Int)):=by grind);rcases yv (gE f k) with he|⟨m,x,he⟩;grind[Eh,iY,kt,oR,rL];rw[he,vN];rw[he] at h1 h2 h3;rw[nQ] at h1;rw[uJ] at h2;simp only[wT,il,gl] at h1;simp only[oR] at h2;by_cases b:x.1+x.2=(k:Int);rw[c8 b];refine⟨?_,?_,λn=>?_⟩;rw[nQ];simp only[wT,il,gl];exact⟨h1.1,cN,by omega,ae⟩;grind[uJ,oR];rw[a,<-h3,Dg,Dg,Bool.or_eq_true,Bool.or_eq_true,kU,kU];grind;rw[cX b];refine⟨?_,?_,λn=>?_⟩;rw[nQ,nQ,uJ];simp only[wT,il,gl,oR];exact⟨⟨h1.1,h1.2.1,h1.2.2.1,ae⟩,cN,by omega,ae⟩;grind[uJ,oR];rw[a,<-h3,Dg,Bool.or_eq_true,kU];grind[acH];grind
theorem qV(f:Nat->Bool):gY (iE f)=cx:=(BD f 4096 (eN _)).1
theorem zE(f:Nat->Bool)(n:Int):rL (iE f) n=cx↔(0<=n/\n<4096/\f n.m=cx):=(BD f 4096 (eN _)).2.2 n
theorem LH(f:Nat->Bool){n:Nat}(a:n<4096):qx (iE f) n=f n:=by rw[wR];grind[qx,zE]
theorem Om{f g:Nat->Bool}(h:∀n,n<k->f n=g n):gE f k=gE g k:=by induction k with|zero=>rfl|succ k ih=>simp_all[gE,lt_succ_of_lt]
theorem tq{f g:Nat->Bool}(h:∀n,n<4096->f n=g n):iE f=iE g:=Om h
theorem Dh(h:gY l=cx):iE (qx l)=l:=by refine QV (qV _) h (λn=>?_);rw[wR,zE];constructor;grind[qx];intro a;have:=sk h a;grind[qx]
theorem QW(f:Nat->Bool)(k:Nat):(∃m x,gE f k=m++[x]/\x.1+x.2=(k:Int))↔(0<k/\f (k-1)=cx):=by
 cases k with
 |zero=>simp[gE]
 |succ k=>
  have b:∀(j:Nat),∀x∈gE f j,x.1+x.2<=(j:Int):=by intro j;induction j with|zero=>simp[gE]|succ j ih=>unfold gE;split;rcases yv (gE f j) with a|⟨m,x,a⟩;grind[Eh];rw[a,vN];rw[a] at ih;split;intro y e;grind;grind;grind
  unfold gE;by_cases c:f k=cx;rw[c8 c];simp only[QP,c,and_true];refine⟨λ_=>by omega,λ_=>?_⟩;rcases yv (gE f k) with a|⟨m,x,a⟩;rw[a,Eh];exact⟨[],_,ae,by simp⟩;rw[a,vN];grind;rw[cX c];constructor;rintro⟨m,x,a,d⟩;have:=b k x jH;omega;grind
theorem uK(f:Nat->Bool)(k:Nat):(gE f k).n<=k:=by induction k with|zero=>simp[gE]|succ k ih=>unfold gE;split;rcases yv (gE f k) with he|⟨m,x,he⟩;grind[Eh];grind[vN];omega
/-! ### The numbers of a set,rising -/
def nu(l:List (Int×Int)):List Int:=l.flatMap λx=>(range x.2.m).map λ(k:Nat)=>x.1+(k:Int)
theorem vO(l:List (Int×Int))(n:Int):n∈nu l↔rL l n=cx:=by induction l with|nil=>simp[nu,rL]|cons x r ih=>rw[kU,<-ih];simp only[nu,Bu,gH,gT,zA];constructor;grind;rintro(⟨h1,h2⟩|h);exact .inl ⟨(n-x.1).m,cN,cN⟩;grind
theorem JR{e:Int}(h:iY e l=cx):(nu l).Pairwise (· < ·):=by induction l generalizing e with|nil=>simp_all[nu]|cons x r ih=>rw[il] at h;simp only[nu,Bu];rw[pairwise_append];refine⟨?_,ih h.2.2,?_⟩;rw[pairwise_map];exact List.pairwise_lt_range.imp cN;intro a f b d;have c:rL r b=cx:=(vO r b).1 d;have:=sk h.2.2 c;grind
theorem Tk{l m:List Int}(a:l.Pairwise (· < ·))(b:m.Pairwise (· < ·))(h:∀n,n∈l↔n∈m):l=m:=by induction l generalizing m with|nil=>(cases m with|nil=>rfl|cons y s=>exact absurd ((h y).2 eQ) eQ)|cons x r ih=>cases m with|nil=>grind|cons y s=>(rw[Da] at a b;have c:x=y:=by rcases iX.1 ((h x).1 eQ) with h1|h1;exact h1;rcases iX.1 ((h y).2 eQ) with h2|h2<;>grind);grind
def l7(f:Nat->Bool)(k:Nat):List Int:=((range k).filter f).map λ(n:Nat)=>(n:Int)
def LI(f:Nat->Bool):List Int:=l7 f 4096
theorem zF(f:Nat->Bool)(k:Nat):l7 f (k+1)=if f k then l7 f k++[(k:Int)] else l7 f k:=by grind[l7,range_succ]
theorem sq(f:Nat->Bool)(k:Nat):(l7 f k).n<=k:=by grind[l7]
theorem vP(f:Nat->Bool)(k:Nat)(n:Int):n∈l7 f k↔(0<=n/\n<(k:Int)/\f n.m=cx):=by simp only[l7,gT,Ax,zA];grind
def Tl(f:Nat->Bool)(k:Nat):(l7 f k).Pairwise (· < ·):=by rw[l7,pairwise_map];exact(List.pairwise_lt_range.filter _).imp cN
theorem aag{l:List (Int×Int)}(h:gY l=cx):nu l=LI (qx l):=by refine Tk (JR h) (Tl _ _) (λn=>?_);rw[vO,LI,vP];constructor;intro a;have:=sk h a;grind[qx];grind[qx]
def qy(l:List (Int×Int)):Int:=(l.map (·.2)).sum
theorem Ws:qy []=0:=rfl
theorem Tm(x:Int×Int)(r:List (Int×Int)):qy (x::r)=x.2+qy r:=by rfl
theorem On(l m:List (Int×Int)):qy (l++m)=qy l+qy m:=by simp[qy]
theorem aah{e:Int}(h:iY e l=cx):qy l=((nu l).n:Int):=by induction l generalizing e<;>grind[il,gl,nu,qy]
theorem QX{e:Int}(h:iY e l=cx)(a: -1<=e):0<=qy l/\qy l+e<=oR e l/\(l≠ []->oR e l<=4096):=by induction l generalizing e<;>grind[qy,oR,il,gl]
/-! ### The first so many -/
/-! ### The numbers of a set as an iterator hands them out -/
def Tn(x:Int):Fin 4096:=Fin.ofNat 4096 x.m
theorem Po{x:Int}(a:0<=x)(b:x<4096):((Tn x).val:Int)=x:=by have:(Tn x).val=x.m%4096:=rfl;omega
def kN(l:List (Int×Int)):List (Fin 4096):=if gY l=cx then(nu l).map Tn else []
theorem zG{l:List (Int×Int)}(h:gY l=cx):kN l=(nu l).map Tn:=by simp_all[kN]
theorem wY{l:List (Int×Int)}(h:gY l=cy):kN l=[]:=by simp_all[kN]
theorem BE{l:List (Int×Int)}(h:gY l=cx):(kN l).map (λx=>(x.val:Int))=nu l:=by
 rw[zG h,wU];conv=>rhs;rw[<-map_id (nu l)]
 apply map_congr_left;intro x a;have:=sk h ((vO l x).1 a);grind[Po]
def qz(l:List (Int×Int))(i:Nat):Nat:=(nu (l.take i)).n
theorem Oo(l m:List (Int×Int)):nu (l++m)=nu l++nu m:=by simp[nu]
theorem To(x:Int×Int)(r:List (Int×Int)):nu (x::r)=((range x.2.m).map λ(k:Nat)=>x.1+(k:Int))++nu r:=by rfl
theorem Tp(h:i<l.n):qz l (i+1)=qz l i+l[i].2.m:=by grind[qz,take_succ_eq_append_getElem,nu]
theorem Wt(l:List (Int×Int))(h:l.n<=i):qz l i=(nu l).n:=by grind[qz,take_of_length_le]
theorem Tq(l:List (Int×Int)):qz l 0=0:=by rfl
theorem aai(h:i<l.n)(b:j<l[i].2.m):(nu l)[qz l i+j]?=cu (l[i].1+(j:Int)):=by
 have a:l=l.take i++l[i]::l.drop (i+1):=by simp_all
 grind[Oo,To,qz]
theorem acI(e:gY l=cx)(h:i<l.n)(d:j<l[i].2.m):
 ∃x:Fin 4096,(x.val:Int)=l[i].1+(j:Int)/\qz l i+j<(kN l).n/\(kN l).take (qz l i+j)++[x]=(kN l).take (qz l i+(j+1)):=by
 have a:=aai h d;have⟨hlt,h2⟩:=oF.1 a;have b:qz l i+j<(kN l).n:=by grind[zG]
 refine⟨(kN l)[qz l i+j],?_,b,?_⟩;(have c:(kN l)[qz l i+j]=Tn (nu l)[qz l i+j]:=by grind[kN]);rw[c,h2];have f:=sk e ((vO l _).1 (h2▸mP hlt));grind[Po];grind[take_succ_eq_append_getElem]
theorem Pp{l:List (Int×Int)}(a:gY l=cx)(n:Fin 4096):n∈kN l↔qx l n.val=cx:=by unfold qx;rw[<-vO,<-BE a,gT];grind
def ru(l:List (Int×Int)):Nat->Bool:=λn=>gY l&&qx l n
theorem Tr(l:List (Int×Int))(a:n<4096):(⟨n,a⟩:Fin 4096)∈kN l↔ru l n=cx:=by grind[Pp,wY,ru]
theorem GQ{e:Int}(h:iY e l=cx)(a:i<l.n):kt l[i].1 l[i].2=cx:=by induction l generalizing e i<;>grind[il]
abbrev cz:=@Go.Lib.hid
abbrev gK:=@Go.RowKit.Below.refl
abbrev iD:=@Go.World.ownsRow_nil
abbrev iI:=@Go.bodyPost_ret
abbrev kX:=@Go.IntWalk.i64_in
abbrev lx:=@Go.Sem.run_bind
abbrev lX:=@Go.Value.slice.injEq
abbrev mz:=@Go.wpList_plain
abbrev nX:=@Go.Result.andThen_ok
abbrev oH:=@Go.info_parts
abbrev oS:=@Go.Proofs.Tryz.underlying22
abbrev qq:=@Go.Proofs.Tryz.underlying81
abbrev rM:=@Go.block_lt_of_cell
abbrev rN:=@Go.Sem.run_pure
abbrev sR:=@Go.Proofs.Tryz.zeroValue99
abbrev uh:=@Go.callsIn_wide
abbrev xP:=@Go.Proofs.Tryz.zeroValue109
abbrev yx:=@Go.World.cell?_of_block
abbrev yy:=@Go.wpList_append_own
abbrev yI:=@Go.run_underlying
abbrev zH:=@Go.World.cell?_alloc_at
abbrev AA:=@Go.heap_alloc_new
abbrev vQ:=@Go.results_none
abbrev vR:=@Go.Proofs.Tryz.underlying3
abbrev vU:=@Go.Proofs.Tryz.underlying78
abbrev vX:=@Go.Proofs.Tryz.underlying36
abbrev xE:=@Go.Proofs.Tryz.zeroValue106
abbrev yN:=@Go.Proofs.Tryz.underlying5
abbrev yV:=@Go.Proofs.Tryz.underlying9
abbrev Af:=@Go.Proofs.Tryz.underlying106
abbrev Ap:=@Go.Exit.noGoto_exit
abbrev Aq:=@Go.Exit.noGoto_normal
abbrev BN:=@Go.IntWalk.u64_in
abbrev DF:=@Go.ByteArray.toList_eq
abbrev FW:=@Go.bodyPost_end
abbrev Gd:=@Go.Proofs.Tryz.underlying191
abbrev Gj:=@Go.run_newObj_alloc
abbrev I9:=@Go.heap_setCell_other
abbrev I':=@Go.run_equalIn_int
abbrev Jc:=@Go.World.ownsRow.cellAt
abbrev Jd:=@Go.run_loadVar_row
abbrev LO:=@Go.wpList_make_own
abbrev Ma:=@wpList_store_row
abbrev Mo:=@Go.run_storeCells_cells
abbrev Q0:=@Go.World.ownsRow.alloc
abbrev SZ:=@Go.MapKept.heap_alloc
abbrev s_(b o : Nat) : Option Addr := cu ⟨b, o, cw⟩
abbrev dF(b o : Nat) : c7 := bW (cu ⟨b, o, cw⟩)
def sV{α : Sort _}(v : α) :∃x, Hid (v = x) := ⟨v, rfl⟩
def yw{α : Sort _}(v : α) :∃x, Hid (x = v) := ⟨v, rfl⟩
def qN{P : Prop}(h : P := by simp [intOf]; omega) : P := h
abbrev sW(n : Fi_)(args : Array c7)(w : World)(v : c7) : Prop := CP_ n args w λe w' => e = cj v /\ Below w.h.s w w'
abbrev dS(w w' : World) : Prop := Below w.h.s w w'
def ahK(a:dS W w1):(∀b o,b<W.h.s->w1.cell? ⟨b,o,cw⟩=W.cell? ⟨b,o,cw⟩)/\(∀b o,b<W.h.s->w1.frozen? ⟨b,o,cw⟩=W.frozen? ⟨b,o,cw⟩):=
 ⟨λb o h=>a.cell (p:=⟨b,o,cw⟩) h,λb o h=>a.frozen (p:=⟨b,o,cw⟩) h⟩
def Below.step(h:Below B w wr)(b:B<=wr.h.s)(a:dS wr w1):Below B w w1:=h.trans (a.mono b)
def eT(x:Int):Prop:=-9223372036854775808<=x/\x<=9223372036854775807
theorem JS{e:Int}(h:iY e l=cx):∀x∈l,eT x.1/\eT x.2:=by induction l generalizing e with|nil=>simp|cons x r ih=>rw[il,gl] at h;intro y a;rcases iX.1 a with rfl|a;grind[eT];grind
def fj(w:cS)(v:c7)(l:List (Int×Int)):Prop:=
 ∃ao cap,v=bX ao l.n cap/\l.n<=9223372036854775807/\(∀x∈l,eT x.1/\eT x.2)/\
  (l≠ []->∃b o,ao=cu ⟨b,o,cw⟩/\b<w.h.s/\
   ∀k(h:k<l.n),w.cell? ⟨b,o+k*2,cw⟩=cu (.int cq l[k].1)/\w.cell? ⟨b,o+k*2+1,cw⟩=cu (.int cq l[k].2))
theorem fj.cP(h:fj w v l)(a:dS w w'):fj w' v l:=by have⟨ao,cap,h1,h2,h3,h4⟩:=h;refine⟨ao,cap,h1,h2,h3,λd=>?_⟩;have⟨b,o,h5,h6,h7⟩:=h4 d;refine⟨b,o,h5,pK h6 a.s,λk c=>?_⟩;have⟨h8,h9⟩:=h7 k c;exact⟨(a.cell (p:=⟨b,_,cw⟩) h6).trans h8,(a.cell (p:=⟨b,_,cw⟩) h6).trans h9⟩
theorem tR(w:cS):fj w (bX cw 0 0) []:=⟨cw,0,ae,by simp,by simp,λh=>absurd ae h⟩
def eU(k:IntKind)(w:cS)(v:c7)(l:List Int):Prop:=
 ∃ao cap,v=bX ao l.n cap/\l.n<=9223372036854775807/\(∀x∈l,(Lit.int k x).wf=cx)/\
  (l≠ []->∃b o,ao=cu ⟨b,o,cw⟩/\b<w.h.s/\∀j(h:j<l.n),w.cell? ⟨b,o+j,cw⟩=cu (.int k l[j]))
theorem eU.cP{k:IntKind}{l:List Int}(h:eU k w v l)(a:dS w w'):eU k w' v l:=by have⟨ao,cap,h1,h2,h3,h4⟩:=h;refine⟨ao,cap,h1,h2,h3,λd=>?_⟩;have⟨b,o,h5,h6,h7⟩:=h4 d;exact⟨b,o,h5,pK h6 a.s,λk c=>(a.cell (p:=⟨b,_,cw⟩) h6).trans (h7 k c)⟩
theorem I7(k:IntKind)(w:cS):eU k w (bX cw 0 0) []:=⟨cw,0,ae,by simp,by simp,λh=>absurd ae h⟩
def cM(n:Nat)(f:Nat->c7):gJ:=Array.ofFn (n:=n) λi=>f i.val
theorem cW(n:Nat)(f:Nat->c7):(cM n f).s=n:=by simp[cM]
theorem dy(n:Nat)(f:Nat->c7)(i:Nat):(cM n f)[i]?=if i<n then cu (f i) else cw:=by grind[cM,Array.getElem?_ofFn]
theorem aaj(n:Nat)(f:Nat->c7)(i:Nat)(v:c7):(cM n f).setIfInBounds i v=cM n (λj=>if j=i then v else f j):=by apply yg;intro j;rw[Array.getElem?_setIfInBounds,dy,dy,cW];grind
theorem JT{n:Nat}{f g:Nat->c7}(h:∀i,i<n->f i=g i):cM n f=cM n g:=by simp_all[cM]
theorem JU(n:Nat)(v:c7):Array.replicate n v=cM n (λ_=>v):=by apply yg;grind[dy]
def cL(w:cS)(b:Nat)(t:dW)(n:Nat)(f:Nat->c7):Prop:=w.h[b]?=cu (.cells (cM n f) t (0,0))
theorem cL.cell{w:cS}{b:Nat}{t:dW}{n:Nat}{f:Nat->c7}(h:cL w b t n f){i:Nat}(a:i<n):w.cell? ⟨b,i,cw⟩=cu (f i):=by rw[cell_of_row w b i _ t _ h,dy,c8 a]
def cL.frozen(h:cL w b t n f)(i:Nat):w.frozen? ⟨b,i,cw⟩=cy:=frozen_of_row w b i _ t h
theorem cL.lt{w:cS}{b:Nat}{t:dW}{n:Nat}{f:Nat->c7}(h:cL w b t n f):b<w.h.s:=(rI.1 h).1
theorem cL.set(h:cL w b t n f)(i:Nat)(v:c7):cL (w.setCell ⟨b,i,cw⟩ v) b t n (λj=>if j=i then v else f j):=by unfold cL;rw[heap_setCell_same w b i _ t v h,aaj]
theorem cL.cP(h:cL w b t n f)(a:dS w w'):cL w' b t n f:=by unfold cL;rw[a.block b h.lt];exact h
def cL.FV(h:cL w b t n f)(c:Below B w w')(a:b<B):cL w' b t n f:=by unfold cL;rw[c.block b a];exact h
theorem cL.congr{g:Nat->c7}(h:cL w b t n f)(a:∀i,i<n->f i=g i):cL w b t n g:=by grind[cL,JT]
theorem cL.alloc(w:cS)(t:dW)(n:Nat)(f:Nat->c7):cL (w.alloc (.cells (cM n f) t)) w.h.s t n f:=AA w _
theorem cL.alloc_old{w:cS}{b:Nat}{t:dW}{n:Nat}{f:Nat->c7}(h:cL w b t n f)(o:Obj):cL (w.alloc o) b t n f:=by grind[cL,Below.heap_alloc]
theorem cL.AB(h:cL w b t n f)(a:Addr)(c:b≠a.block)(v:c7):cL (w.setCell a v) b t n f:=by grind[cL,heap_setCell_other]
theorem cL.grown{w w':cS}{b:Nat}{t:dW}{n:Nat}{f:Nat->c7}{row:Option Nat}(h:cL w b t n f)(a:w.grownBy w' row)(c:row≠cu b):cL w' b t n f:=by unfold cL;rw[a.block b h.lt (λe=>c e.symm)];exact h
def iL(f:Nat->Bool):Nat->c7:=λi=>bZ (f i)
theorem Y1:zeroCells249=cM 4096 (iL λ_=>cy):=by rw[show(iL λ_=>cy)=(λ_=>Value.bool cy) from ae,<-JU];kernel_rfl
theorem afZ:zeroCells248=cM 4096 (iL λ_=>cy):=by rw[show(iL λ_=>cy)=(λ_=>Value.bool cy) from ae,<-JU];kernel_rfl
/-! ### Cells of spans,one behind the other -/
def iP:List (Int×Int)->List c7
 | []=> []
 |x::r=>bU cq x.1::bU cq x.2::iP r
theorem pV(l:List (Int×Int)):(iP l).n=l.n*2:=by induction l<;>grind[iP]
theorem sw(l m:List (Int×Int)):iP (l++m)=iP l++iP m:=by induction l<;>grind[iP]
theorem wB(l:List (Int×Int))(k:Nat)(h:k<l.n):(iP l)[k*2]?=cu (.int cq l[k].1)/\(iP l)[k*2+1]?=cu (.int cq l[k].2):=by induction l generalizing k with|nil=>simp at h|cons x r ih=>cases k with|zero=>exact aE|succ k=>grind[iP]
theorem uL(h:w.ownsRow base e 2 v l.n (iP l))(d:∀x∈l,eT x.1/\eT x.2)(c:l.n<=9223372036854775807):fj w v l:=by rcases h.2 with⟨rfl,f⟩|⟨g,cap,a,rfl,m,b,o,hc,p,q⟩;grind[tR];refine⟨_,cap,ae,c,d,λ_=>⟨g,0,ae,(rI.1 b).1,λk n=>?_⟩⟩;have i:=h.cellAt (k*2) cN;have j:=h.cellAt (k*2+1) cN;grind[wB]
theorem qW{k:IntKind}{l:List Int}(h:w.ownsRow base e 1 v l.n (l.map (Value.int k)))(d:∀x∈l,(Lit.int k x).wf=cx)(c:l.n<=9223372036854775807):eU k w v l:=by rcases h.2 with⟨rfl,f⟩|⟨g,cap,a,rfl,m,b,o,hc,p,q⟩;grind[I7];refine⟨_,cap,ae,c,d,λ_=>⟨g,0,ae,(rI.1 b).1,λj n=>?_⟩⟩;have i:=h.cellAt j cN;grind
def aak:(prog.info? 141).map (λi=>(i.zero,i.s,i.bytes))=cu (cu (bV #[bU cq 0,bU cq 0]),2,16):=dC
def Ld:(prog.info? 3).map (λi=>(i.zero,i.s,i.bytes))=cu (cu (.int cq 0),1,8):=dC
def uM{a b:Bool}(h:a=b):Ending.returned (bZ a)=cj (bZ b):=by rw[h]
def Y2{k:IntKind}{a b:Int}(h:a=b):Ending.returned (bU k a)=cj (bU k b):=by rw[h]
def tS{o:Nat}(c:b<w.h.s)(a:∀k(h:k<l.n),w.cell? ⟨b,o+k*2,cw⟩=cu (.int cq l[k].1)/\w.cell? ⟨b,o+k*2+1,cw⟩=cu (.int cq l[k].2))(hbel:dS w wr)(h:k<l.n):
 wr.cell? ⟨b,o+k*2,cw⟩=cu (.int cq l[k].1)/\wr.cell? ⟨b,o+k*2+1,cw⟩=cu (.int cq l[k].2):=
 ⟨(hbel.cell (p:=⟨b,o+k*2,cw⟩) c).trans (a k h).1,(hbel.cell (p:=⟨b,o+k*2+1,cw⟩) c).trans (a k h).2⟩
def aal{k:IntKind}{o:Nat}{l:List Int}(c:b<w.h.s)(a:∀j(h:j<l.n),w.cell? ⟨b,o+j,cw⟩=cu (.int k l[j]))(hbel:dS w wr)(h:j<l.n):
 wr.cell? ⟨b,o+j,cw⟩=cu (.int k l[j]):=(hbel.cell (p:=⟨b,o+j,cw⟩) c).trans (a j h)
theorem Ol:(∀(a:Act)(d:Tmp)(v:c7),a.put (cu d) v= {a with tmps:=a.tmps.setIfInBounds d v})/\(∀(a:Act)(v:c7),a.put cw v=a)/\
 (∀(a:Act)(t:Tmp),a.eval (.tmp t)=a.tmps.getD t undef)/\(∀(a:Act)(v:c7),a.eval (.const v)=v)/\(∀(a:Act)(g:Nat),a.eval (.global g)=bW (cu ⟨g,0,cw⟩))/\(∀(a:Act)(f:Fi_),a.eval (.func f)=.func (.func f) #[] #[])/\
 (∀(l:List c7)(i:Nat)(x:c7),l.toArray.setIfInBounds i x=(l.set i x).toArray)/\(∀(x y:c7)(l:List c7)(n:Nat),(x::l).set (n+1) y=x::l.set n y)/\(∀(x y:c7)(l:List c7),(x::l).set 0 y=y::l)/\
 (∀(A:gJ)(i:Nat)(d:c7),A.getD i d=A[i]?.getD d)/\(∀(l:List c7)(i:Nat),l.toArray[i]?=l[i]?)/\(∀(x:c7)(l:List c7)(i:Nat),(x::l)[i+1]?=l[i]?)/\(∀(x:c7)(l:List c7),(x::l)[0]?=cu x)/\(∀(x d:c7),(cu x).getD d=x):=
 ⟨λ_ _ _=>ae,λ_ _=>ae,λ_ _=>ae,λ_ _=>ae,λ_ _=>ae,λ_ _=>ae,λl i x=>setIfInBounds_toArray l i x,λ_ _ _ _=>ae,λ_ _ _=>ae,λA i d=>Array.getD_eq_getD_getElem? ..,λl i=>by simp,λ_ _ _=>ae,λ_ _=>ae,λ_ _=>ae⟩
def Wu(s l:Int)(w:cS):
 sW 276 #[bV #[bU cq s,bU cq l]] w (bZ (kt s l)):=by
 by_cases a:0<=s;by_cases b:s<4096;by_cases c:1<=l
 . by_cases d:l<=4096-s
   all_goals
    go_enter func276,ntmps276;go_wp2;go_ret;refine⟨?_,(gK _ _).alloc (eN _) _⟩;simp[kt]<;>omega
 rotate_left;rotate_left
 all_goals
  go_enter func276,ntmps276;go_wp2;go_ret;refine⟨?_,(gK _ _).alloc (eN _) _⟩;simp[kt]<;>omega
def I8(b:Bool)(s l:Int)(a:kt s l=b)(w:cS):
 sW 276 #[bV #[bU cq s,bU cq l]] w (bZ b):=by subst a;exact Wu s l w
def aam(v:c7)(l:List (Int×Int))(w:cS)(C:fj w v l):
 sW 247 #[v] w (bZ (gY l)):=by
 obtain⟨ao,cap,rfl,t,y,hc⟩:=C;have D:=cz y;have u:=cz hc;clear hc;unfold gY;go_enter func247,ntmps247;go_wp2_with (fail)
 go_loopw [3,8] (λx i wr=>∃(k:Nat)(e:Int),k<=l.n/\i=bU cq k/\x=bU cq e/\-1<=e/\e<=4096/\iY (-1) l=iY e (l.drop k)/\dS w wr)
  (λ_ i _=>l.n-(intOf i).m)
 exact⟨0,-1,gG _,ae,ae,cN,by omega,ae,gK _ _⟩;obtain⟨k,e,E,rfl,rfl,z,A,m,hbel⟩:=hrel;by_cases g:k<l.n
 . rw[Db g,iY] at m;have j:=cz m;clear m;obtain⟨b,o,rfl,p,c⟩:=u.o (by intro h;simp[h] at g);have⟨h1,h2⟩:=tS p c hbel g;clear c;have r:=hbel.size;have a:=hbel.alloc r (.cells #[bU cq l[k].1,bU cq l[k].2] 141);by_cases n:kt l[k].1 l[k].2=cx
   . have f:=cz n;have B:=(gl _ _).1 n;clear n;by_cases q:e<l[k].1
     . go_wp2_with ((go_at_call 276;refine aj (I8 cx _ _ f.o _) λw1 d=>?_;have⟨hq1,hq2⟩:=ahK d));go_roundw;exact⟨k+1,_,cN,by go_num,ae,cN,by omega,by rw[j.o,f.o];simp[q],Below.step a aF aO⟩;exact qN
     . go_wp2_with ((go_at_call 276;refine aj (I8 cx _ _ f.o _) λw1 d=>?_;have⟨hq1,hq2⟩:=ahK d));go_ret;exact⟨uM (by rw[j.o,f.o];simp;intro F;omega),Below.step a aF aO⟩
   . have f:=cz (show kt l[k].1 l[k].2=cy by simpa using n);clear n;go_wp2_with ((go_at_call 276;refine(I8 cy _ _ f.o _).mono ?_;rintro s w1 ⟨rfl,d⟩));go_ret;exact⟨uM (by rw[j.o,f.o];simp),Below.step a aF aO⟩
 . have j:=cz m;clear m;go_wp2;go_ret;exact⟨uM (by rw[j.o,Dc cN];rfl),hbel⟩
def uN(b:Bool)(v:c7)(l:List (Int×Int))(h:gY l=b)(w:cS)(a:fj w v l):
 sW 247 #[v] w (bZ b):=by subst h;exact aam v l w a
attribute [local go_sem] Oper.semAt_some
structure Kept(n0 n1:Nat)(W W':cS):Prop where
 cP:Below n0 W W'
 rows:∀(k:Nat)(o:Obj),n1<=k->W.h[k]?=cu o->o.isCells=cx->W'.h[k]?=cu o
theorem Kept.trans{n0 n1:Nat}{A B C:cS}(h:Kept n0 n1 A B)(k:Kept n0 n1 B C):Kept n0 n1 A C:=
 ⟨h.cP.trans k.cP,λi o a ho hc=>k.rows i o a (h.rows i o a ho hc) hc⟩
theorem Kept.wZ(b:n0<=w.h.s)(W:cS)(l:Nat)(o o':Obj)(a:w.h.s<=l)(ho:W.h[l]?=cu o)(hc:o.isCells=cy)(f:o.isWalk=cy):Kept n0 n1 W (W.putObj l o'):=
 ⟨belowK_b b W l o o' a ho hc f,λk p _ c d=>(World.putObj_heap_other (λe=>by grind)).trans c⟩
theorem Kept.cell{n0 n1:Nat}{W b:cS}(h:Kept n0 n1 W b){a:Addr}{v:c7}(c:n1<=a.block)(hc:W.cell? a=cu v):b.cell? a=cu v:=by have⟨o,ho,hoc⟩:=cells_of_cell hc;exact(yx ((h.rows _ o c ho hoc).trans ho.symm)).trans hc
def Kept.setCell{a:Addr}(v:c7)(b:n0<=a.block)(c:a.block<n1):Kept n0 n1 W (W.setCell a v):=
 ⟨(gK n0 W).setCell b v,λk o d ho _=>(I9 W a k v cN).trans ho⟩
theorem Kept.refl(n0 n1:Nat)(W:cS):Kept n0 n1 W W:=⟨gK _ _,λ_ _ _ h _=>h⟩
def BF(c:AbidesFrom B J){s:List (Fin 4096)}{b:cS}(h:J s W)(a:dS W b):J s b:=
 c s W b cw h ⟨a.os,a.tape,a.output,a.s,λk d _=>a.block k d⟩ (λr e=>by cases e)
def Ei:Fence.wide.depth.isSome=cx->1<=n:=λh=>by cases h
theorem acJ(n:Nat)(lp G n0 n1:Nat)(v:c7)(l:List (Int×Int))(w:cS)(hv:fj w v l)(V:n0=w.h.s)(J Z:List (Fin 4096)->cS->Prop)(W:cS)(b2:n1<=W.h.s)(hJ:AbidesFrom W.h.s J)(hY:∀d x M,J d M->d.n<(kN l).n->YieldAt Fence.wide (n-1) prog lp #[bU cq ((x:Fin 4096).val:Int)] M λe t=>
  (e=cj (bZ cx)/\J (d++[x]) t/\Kept n0 n1 M t)∨(e=cj (bZ cy)/\Z (d++[x]) t))(c:Below n0 w W)(z:W.cell? ⟨G,0,cw⟩=cu v)(h0:J [] W):
 CallsIn Fence.wide n prog 262 #[.func (.yield lp) #[] #[],bW (cu ⟨G,0,cw⟩)] W λe t=>(∃u,e=cj u)/\
  ((∃ys,ys=kN l/\J ys t)∨(∃d,d<+:kN l/\Z d t)):=by
 subst V;have D:fj W v l:=hv.cP c;obtain⟨ao,cap,rfl,a5,hb,hc⟩:=hv;have HC:=cz hc;clear hc;have HB:=cz hb;have HY:=cz hY;clear hY;have L:=cz hJ;clear hJ;have N:G<W.h.s:=rM z;refine callsIn_of_wp func262 rfl iC ?_ rfl;simp only[ntmps262,Ay,lq,ue,reduceAdd,reduceSub,Az,vH,vI,vJ,pL,uG];by_cases I:gY l=cx
 . have r:=cz I;clear I;gi_wp2_with ((refine⟨iC,Ei,?_⟩;gi_at_call 247;refine(uh.2 (uN cx _ _ r.o _ D)).mono ?_;rintro e w1 ⟨rfl,f⟩;have a2:=(f.cell (p:=⟨G,0,cw⟩) N).trans z))
   gi_loopw [11] (λi wr=>∃k:Nat,k<=l.n/\i=bU cq k/\J ((kN l).take (qz l k)) wr/\dS w wr/\w1.h.s<=wr.h.s)
    (λi _=>l.n-(intOf i).m)
   exact⟨0,gG _,rfl,by rw[Tq];exact BF L.o h0 f,Below.step c c.s f,eN _⟩;obtain⟨k,hk,rfl,B,s,b6⟩:=hrel;by_cases q:k<l.n
   . obtain⟨b,o,rfl,R,m⟩:=HC.o (by intro h;simp[h] at q);obtain⟨h1,h2⟩:=tS R m s q;clear m;have Q:=HB.o l[k] (mP _);unfold eT at Q;have b4:=(gl _ _).1 (GQ r.o q);have K:=cz (Tp q);have C:=s.s;have a3:=f.s;gi_wp2;(obtain⟨y,g⟩:=fU (wr.alloc (.cells #[bU cq l[k].1,bU cq l[k].2] 141));have a8:y.cell? ⟨wr.h.s,0,cw⟩=cu (.int cq l[k].1):=by simp_all);(have a9:wr.h.s<y.h.s:=by rw[g];simp);(have a6:J ((kN l).take (qz l k)) y:=by rw[g];exact BF L.o B ((gK _ _).alloc (eN _) _));(have b3:dS w y:=by rw[g];exact s.alloc C _);rw[<-g];clear g;obtain⟨F,rfl⟩:∃F:cS,F=wr:=⟨_,rfl⟩
     gi_loopw [17] (λi w2=>∃j:Nat,(j:Int)<=l[k].2/\i=bU cq j/\J ((kN l).take (qz l k+j)) w2/\dS w w2/\y.h.s<=w2.h.s/\w2.cell? ⟨F.h.s,0,cw⟩=cu (.int cq l[k].1))
      (λi _=>l[k].2.m-(intOf i).m)
     grind;obtain⟨j,hj,rfl,A,X,b5,T⟩:=hrel;by_cases b1:(j:Int)<l[k].2
     . obtain⟨x,hx,b7,E⟩:=acI r.o q (j:=j) cN;obtain⟨fn,tmps,H,a1,hy,O⟩:=HY.o _ x _ A (by rw[lO];omega);rw[hx] at hy;clear hx;have Y:=cz E;clear E;gi_wp2;refine⟨Ei,O.mono ?_⟩;rintro e W3 (⟨rfl,hJ3,hk3⟩|⟨rfl,hJx3⟩)
       . have U:=hk3.cell (a:=⟨F.h.s,0,cw⟩) (by show n1<=F.h.s;omega) T;have a4:=hk3.cP.s;gi_wp2;go_roundw;exact⟨j+1,cN,by go_num,by rw[<-Y.o];exact hJ3,X.trans hk3.cP,cN,U⟩;exact qN
       . gi_wp2;refine iI (vQ rfl _ _ _) rfl ?_;exact⟨⟨_,rfl⟩,.inr ⟨_,by rw[Y.o];exact take_prefix _ _,hJx3⟩⟩
     . (have a7:J ((kN l).take (qz l (k+1))) wr:=by rw[K.o,show l[k].2.m=j from by omega];exact A);gi_wp2;go_roundw;grind;exact qN
   . gi_wp2
     refine FW (vQ rfl _ _ _) rfl ?_;exact⟨⟨_,rfl⟩,.inl ⟨_,rfl,by
      have h:=B;rw[Wt l cN,nV (by rw[zG r.o,mQ];exact eN _)] at h;exact h⟩⟩
 . have r:=cz (show gY l=cy by simpa using I);clear I;gi_wp2_with ((refine⟨iC,Ei,?_⟩;gi_at_call 247;refine(uh.2 (uN cy _ _ r.o _ D)).mono ?_;rintro e w1 ⟨rfl,f⟩));refine iI (vQ rfl _ _ _) rfl ?_;exact⟨⟨_,rfl⟩,.inl ⟨_,rfl,by rw[wY r.o];exact BF L.o h0 f⟩⟩
def BG(n:Nat)(c:Nat)(v:c7)(l:List (Int×Int))(b w:cS)(k:fj b v l)(f:dS b w)(a:w.cell? ⟨c,0,cw⟩=cu v):
 SeqStopsK Fence.wide n prog 262 #[bW (cu ⟨c,0,cw⟩)] (λx:Fin 4096=>#[Value.int cq (x.val:Int)]) (Kept b.h.s w.h.s) (λo=>o=kN l) (λe=>e<+:kN l) (kN l).n w:=by intro m J g W d i _ j h;exact acJ n m c b.h.s w.h.s v l b k ae J g W d.s i j (f.trans (d.mono f.s)) ((d.cell (p:=⟨c,0,cw⟩) (rM a)).trans a) h
def GR(a:Option Addr)(b cap:Nat)(w:cS):
 CP_ 230 #[bX a b cap] w λe w'=>e=cj (.func (.func 262) #[] #[bW (cu ⟨w.h.s,0,cw⟩)])/\w'=w.alloc (.cells #[bX a b cap] 66):=by go_enter func230,ntmps230;go_wp2;go_ret;exact aE
theorem FX(h:w.ownsRow base e size v n xs):
 (v=bX cw 0 0/\n=0)∨∃g cap,v=bX (cu ⟨g,0,cw⟩) n cap/\base<=g/\g<w.h.s:=by rcases h.2 with⟨b,c⟩|⟨g,cap,a,b,c,d,_⟩<;>grind
theorem Oq(m:List (Int×Int))(x:Int×Int)(c:Int):(iP (m++[x])).set (m.n*2+1) (bU cq c)=iP (m++[(x.1,c)]):=by simp_all[sw,pV,iP]
theorem Pq{a b:c7}:∀j u,[a,b][j]?=cu u->(w.alloc (.cells #[a,b] t)).cell? ((⟨w.h.s,0,cw⟩:Addr).add j)=cu u:=by
 intro j u c
 match j,c with
 |0,c=>simp_all[Addr.add]
 |1,c=>simp_all[Addr.add]
 |j+2,c=>simp at c
def JV(a b:Int)(k l:IntKind):∀u∈ [Value.int k a,Value.int l b],u.oneCell'=cx:=by intro u c;simp at c;rcases c with rfl|rfl<;>rfl
def FY(h:w.ownsRow base e size v n xs)(d:Nat):(w.drewN d).ownsRow base e size v n xs:=h
theorem EY{d:Nat}{o:Obj}(hbel:dS w wr)(b:∀j,row=cu j->w.h.s<=j)(a:((wr.drewN d).alloc o).grownBy w1 row):dS w w1:=
 ((below_drewN hbel d).alloc (by have:=hbel.size;exact this) o).grown a (by have:=hbel.size;simp_all[le_succ_of_le]) b
def oG(l:List Int):Nat->Bool:=λn=>decide ((n:Int)∈l)
theorem FZ{l:List Int}(h:k<l.n)(n:Nat):oG (l.take (k+1)) n=(oG (l.take k) n||decide ((n:Int)=l[k])):=by unfold oG;rw[wR,yl h];grind
theorem cL.GS{f g:Nat->Bool}(h:cL w b t n (iL f))(i:Nat)(v:Bool)(a:∀j,j<n->g j=if j=i then v else f j):cL (w.setCell ⟨b,i,cw⟩ (bZ v)) b t n (iL g):=by refine(h.set i (bZ v)).congr (λj c=>?_);grind[iL]
attribute [local go_sem] Oper.semAt_some
def Pr(b:Nat)(t:dW)(n:Nat)(f:β->Nat->c7):Own (λs W=>cL W b t n (f s)):=by intro s W g row a c d;refine a.grown c (λe=>?_);have⟨o,ho,hc⟩:=d b e;rw[show W.h[b]?=_ from a] at ho;cases ho;cases hc
def BH(a:List (Fin 4096)):Nat->Bool:=λn=>a.any λx=>x.val==n
theorem JW(a:List (Fin 4096))(x:Fin 4096)(n:Nat):BH (a++[x]) n=if n=x.val then cx else BH a n:=by grind[BH]
theorem GU(l:List (Int×Int))(a:n<4096):BH (kN l) n=ru l n:=by rw[wR,<-Tr l a];grind[BH]
theorem af0(v:c7)(l:List (Int×Int))(w:cS)(s:fj w v l):
 CallsIn Fence.wide 5 prog 291 #[v] w λe w'=>e=cj (bW (cu ⟨w.h.s,0,cw⟩))/\cL w' w.h.s 249 4096 (iL (ru l))/\dS w w':=by
 have f:=s;obtain⟨ao,cap,rfl,r,F,hc⟩:=s;clear hc;have t:=cz f;clear f;refine callsIn_of_wp_marks func291 ae iC ?_ ae;simp only[ntmps291,Ay,lq,ue,reduceAdd,reduceSub,Az,vH,vI,vJ,pL,uG];gi_wp2_with ((refine⟨iC,?_⟩;gi_at_call 230;refine(uh.2 (GR _ _ _ _)).mono ?_;rintro e w' ⟨rfl,rfl⟩));have⟨W0,hW0⟩:=fU (w.alloc (.cells zeroCells249 249));have n:cL W0 w.h.s 249 4096 (iL λ_=>cy):=by rw[hW0,Y1];exact br
 have q:W0.h.s=w.h.s+1:=by rw[hW0];simp
 have k:dS w W0:=by rw[hW0];exact aQ
 rw[<-hW0];have⟨W1,hW1⟩:=fU (W0.alloc (.cells #[bX ao l.n cap] 66));have c:W1.cell? ⟨W0.h.s,0,cw⟩=cu (.slice ao l.n cap):=by simp_all
 have A:W1.h.s=w.h.s+2:=by rw[hW1];simp;omega
 have b:dS w W1:=by rw[hW1];exact k.alloc cN _
 have o:cL W1 w.h.s 249 4096 (iL λ_=>cy):=by rw[hW1];exact n.alloc_old _
 rw[<-hW1];rw[q] at c;clear hW0 hW1;refine wpIn_rangeFunc_ownF ae cN (gf:=262) (lb:=#[dF (w.h.s+1) 0]) ae iC (enters_of func262 dC ae)
  (BG 4 (w.h.s+1) _ l w W1 t.o b c) Kept.trans (Kept.wZ cN) (gK _ _) (λ_=>ae)
  (λa W=>cL W w.h.s 249 4096 (iL (BH a))/\dS w W)
  (λ_ _ _=>False)
  (OwnFrom.and (Own.from (Pr _ _ _ _) _) (ownFrom_below (eN _) cN))
  (λ_ _ _ _ _ z _ _=>z)
  ⟨o.congr (λi _=>ae),b⟩
  (λx=>{tmps:=#[bX ao l.n cap,undef,bW cw,dF w.h.s 0,bU cq (x.val:Int),bX ao l.n cap,.func (.func 262) #[] #[dF (w.h.s+1) 0],bU cq (x.val:Int),undef,undef],defers:=[]}) ?assign ?body ?done ?stop
 case assign=>intro C x W K g;gi_wp2;exact g
 case body=>
  rintro C a x W ⟨d,h⟩ _;have m:=d.cell x.isLt;have u:=d.frozen x.val;simp only[iL] at m;have B:(x.val:Int)<(4096:Int):=by have:=x.isLt;omega
  gi_wp2;exact⟨KeepsOthers.setCell _ _ _,Kept.setCell _ (eN _) jH,d.GS _ cx (λj _=>JW a x j),h.setCell (p:=⟨w.h.s,x.val,cw⟩) (eN _) _⟩
 case done=>rintro D G W E rfl ⟨d,h⟩ g;gi_wp2;refine⟨by simp,.inl ⟨_,_,ae,run_takeDeferred g,?_⟩⟩;refine⟨_,results_tmp ae _ _ _,ae,?_,h.trans (belowK_b (w:=w) (eN _) W D _ _ cN g ae ae)⟩;exact(d.grown (grownBy_putObj' W D _) (λe=>by cases e;omega)).congr (λi y=>by simp only[iL];rw[GU l y])
 case stop=>grind
def acK(v:c7)(l:List (Int×Int))(w:cS)(a:fj w v l):
 CP_ 291 #[v] w λe w'=>e=cj (bW (cu ⟨w.h.s,0,cw⟩))/\cL w' w.h.s 249 4096 (iL (ru l))/\dS w w':=
 uh.1 (af0 v l w a)
attribute [local go_sem] Oper.semAt_some
def F1(l:List (Int×Int)):Int:=if gY l=cx then qy l else 0
def Ts(h:k<l.n):qy (l.take (k+1))=qy (l.take k)+l[k].2:=by rw[yl h,On,Tm,Ws];omega
def Wv(h:gY l=cx)(k:Nat):gY (l.take k)=cx:=by have a:=h;unfold gY at a|-;rw[<-Ac k l,nQ,wT] at a;exact a.1
theorem Ps(h:gY l=cx):0<=qy l/\qy l<=4097:=by have:=QX h cN;grind[qy]
def aan(v:c7)(l:List (Int×Int))(w:cS)(p:fj w v l):
 sW 229 #[v] w (bU cq (F1 l)):=by
 have m:=cz p;obtain⟨ao,cap,rfl,n,u,hc⟩:=p;have q:=cz hc;clear hc;have A:=cz u;by_cases g:gY l=cx
 . have f:=cz g;clear g;go_enter func229,ntmps229;go_wp2_with ((go_at_call 247;refine(uN cx _ _ f.o _ m.o).mono ?_;rintro e w1 ⟨rfl,d⟩))
   go_loopw [3,11] (λt i wr=>∃k:Nat,k<=l.n/\i=bU cq k/\t=bU cq (qy (l.take k))/\dS w wr)
    (λ_ i _=>l.n-(intOf i).m)
   exact⟨0,gG _,ae,ae,d⟩;obtain⟨k,B,rfl,rfl,hbel⟩:=hrel;by_cases c:k<l.n
   . obtain⟨b,o,rfl,j,a⟩:=q.o (by intro h;simp[h] at c);have⟨h1,h2⟩:=tS j a hbel c;clear a;have s:=cz (Ts c);have y:=(gl _ _).1 (GQ f.o c);have x:=Ps (Wv f.o k);have z:=hbel.size;go_wp2;go_roundw;(case rel=>exact⟨k+1,cN,by go_num,by rw[s.o],by go_grown⟩);case measure=>exact qN
   . go_wp2;go_ret;exact⟨Y2 (by unfold F1;rw[c8 f.o,nV cN]),hbel⟩
 . have f:=cz (show gY l=cy by simpa using g);have r:=cz g;clear g;go_enter func229,ntmps229;go_wp2_with ((go_at_call 247;refine(uN cy _ _ f.o _ m.o).mono ?_;rintro e w1 ⟨rfl,d⟩));go_ret;exact⟨Y2 (by unfold F1;rw[cX r.o]),d⟩
attribute [local go_sem] Oper.semAt_some
theorem LJ(l:List (Int×Int)):F1 l=((kN l).n:Int):=by unfold F1;by_cases h:gY l=cx;rw[c8 h,zG h,mQ];exact aah h;simp_all[wY]
def acL(m:Int)(v:c7)(l:List (Int×Int))(w:cS)(a:F1 l=m)(b:fj w v l):
 sW 229 #[v] w (bU cq m):=by subst a;exact aan v l w b
theorem KU(l:List (Int×Int)):(kN l).n<=4097:=by have h:=LJ l;by_cases a:gY l=cx;have:=Ps a;unfold F1 at h;omega;grind[wY]
def AD(l:List (Fin 4096)):List c7:=l.map λx=>bU cq (x.val:Int)
theorem aao{k:IntKind}{l:List Int}{o:Obj}(h:eU k W v l)(g:W.heap[D]?=some o)(hc:o.isCells=false)(o':Obj):eU k (W.putObj D o') v l:=by
 have⟨ao,cap,h1,h2,h3,h4⟩:=h;refine⟨ao,cap,h1,h2,h3,λd=>?_⟩;have⟨b,o2,h5,h6,h7⟩:=h4 d;have a:=grownBy_putObj' W D o';have f:∀r,some D=some r->∃o:Obj,W.heap[r]?=some o/\o.isCells=false:=λr e=>by grind
 exact⟨b,o2,h5,pK h6 a.size,λj c=>cell_kept (h7 j c) a f⟩
theorem Kept.grown{n0 n1:Nat}{A W a:cS}{row:Option Nat}(h:Kept n0 n1 A W)(b:W.grownBy a row)(d:n0<=W.h.s)(f:∀k,row=cu k->n0<=k/\k<n1):Kept n0 n1 A a:=
 ⟨h.cP.grown b d (λk e=>(f k e).1),λk o c ho hc=>(b.block k (rI.1 (h.rows k o c ho hc)).1 (λe=>by grind)).trans (h.rows k o c ho hc)⟩
def nW(l:List (Int×Int)):List Int:=(kN l).map λx=>(x.val:Int)
theorem Ot(l:List (Fin 4096))(x:Fin 4096):AD (l++[x])=AD l++[bU cq (x.val:Int)]:=by simp[AD]
theorem ah6(x:Fin 4096):(Lit.int cq (x.val:Int)).wf=cx:=by grind[WalkArith.wf_i64]
theorem Y3(v:c7)(l:List (Int×Int))(w:cS)(j:fj w v l):
 CallsIn Fence.wide 5 prog 172 #[v] w λe w'=>∃r,e=.returned r/\eU .i64 w' r (nW l)/\(∃b n c,r=.slice (some ⟨b,0,none⟩) n c/\w.heap.size<=b)/\dS w w':=by
 have C:=j;obtain⟨ao,g,rfl,_,_,_⟩:=j;have L:=cz C;clear C;have⟨i0,hi,hz0,hz1,hz2⟩:=oH Ld;have N:=KU l;refine callsIn_of_wp_marks func172 ae iC ?_ ae;simp only[ntmps172,Ay,lq,ue,reduceAdd,reduceSub,Az,vH,vI,vJ,pL,uG];gi_wp2_with (first|(refine⟨iC,?_⟩;gi_at_call 229;refine(uh.2 (acL _ _ _ _ (LJ l) L.o)).mono ?_;rintro e w1 ⟨rfl,t⟩)|(refine⟨iC,?_⟩;gi_at_call 230;refine(uh.2 (GR _ _ _ _)).mono ?_;rintro e w' ⟨rfl,rfl⟩)|(gi_at_make;refine wpListIn_make_own _ ae _ _ 81 ae w1.heap.size 3 i0 (.int .i64 0) 1 qq hi hz0 hz1 .i64 .i64 _ (kN l).length ae ae ae amh aK (eN _) ?_;intro w2 d h));have M:=t.size;have U:=h.size;have G:dS w w2:=t.grown h cN (λk e=>by cases e);have z:=(d.lt w1.heap.size ae).2;have⟨W0,hW0⟩:=fU (w2.alloc (.cells #[.slice (s_ w1.heap.size 0) 0 (kN l).length] 81));have Y:W0.heap.size=w2.heap.size+1:=by rw[hW0];simp
 have m:Boxed W0 w2.heap.size 81 (.slice (s_ w1.heap.size 0) 0 (kN l).length):=by rw[hW0];exact Boxed.new _ _ _
 have B:W0.ownsRow w1.heap.size 3 1 (.slice (s_ w1.heap.size 0) 0 (kN l).length) 0 []:=by rw[hW0];exact d.alloc _
 have q:dS w W0:=by rw[hW0];exact G.alloc cN _
 rw[<-hW0];have⟨W1,hW1⟩:=fU (W0.alloc (.cells #[.slice ao l.length g] 66));have H:W1.cell? ⟨w2.heap.size+1,0,none⟩=some (.slice ao l.length g):=by simp_all
 have Z:W1.heap.size=w2.heap.size+2:=by rw[hW1];simp;omega
 have u:Boxed W1 w2.heap.size 81 (.slice (s_ w1.heap.size 0) 0 (kN l).length):=by rw[hW1];exact m.alloc _
 have I:W1.ownsRow w1.heap.size 3 1 (.slice (s_ w1.heap.size 0) 0 (kN l).length) 0 []:=by rw[hW1];exact B.alloc _
 have s:dS w W1:=by rw[hW1];exact q.alloc cN _
 rw[<-hW1];clear hW0 hW1 m B q d h;refine wpIn_rangeFunc_ownF ae cN (gf:=262) (lb:=#[dF (w2.heap.size+1) 0]) ae iC (enters_of func262 dC ae)
  (BG 4 (w2.heap.size+1) _ l w W1 L.o s H) Kept.trans (Kept.wZ cN) (gK _ _) (λ_=>ae)
  (λf W=>(∃v,Boxed W w2.heap.size 81 v/\W.ownsRow w1.heap.size 3 1 v f.length (AD f)/\v=.slice (s_ w1.heap.size 0) f.length (kN l).length)/\dS w W)
  (λ_ _ _=>False)
  (OwnFrom.and (Own.from (holdsRow_own w1.heap.size w2.heap.size 81 3 1 (λf=>f.length) (λf=>AD f) (λf v=>v=.slice (s_ w1.heap.size 0) f.length (kN l).length)) _) (ownFrom_below (eN _) cN))
  (λ_ _ _ _ _ X _ _=>X)
  ⟨⟨_,u,I,ae⟩,s⟩
  (λx=>{tmps:=#[.slice ao l.length g,undef,.slice none 0 0,dF w2.heap.size 0,.int .i64 (x.val:Int),.slice ao l.length g,.int .i64 ((kN l).length:Int),.slice (s_ w1.heap.size 0) 0 (kN l).length,.slice ao l.length g,.func (.func 262) #[] #[dF (w2.heap.size+1) 0],.int .i64 (x.val:Int),undef,undef,undef,undef,undef],defers:=[]}) ?assign ?body ?done ?stop
 case assign=>intro F x W K p;gi_wp2;exact p
 case body=>rintro F f x W ⟨⟨v,j,d,rfl⟩,E⟩ A;have F:=E.size;have J:=j.cell;have G:=j.frozen;have V:=j.not_row kM d;have z:=d.lt w1.heap.size ae;gi_wp2_with (first|(gi_at_builtin;refine wpListIn_append_fits _ ae _ _ 81 ae w1.heap.size 3 i0 1 qq hi hz1 w1.heap.size f.length (kN l).length (AD f) ae (d.alloc _) ⟨W.heap.size,0,none⟩ 1 1 [.int .i64 (x.val:Int)] ae ae (cell_one_new _ _ _) bh A ?_;intro G o i;have⟨q1,q2,q3,q4,q5⟩:=j.appended kM d (ik cN (Nat.le_of_lt z.2)) cN o i;have R:=q1.cell;have T:=q1.frozen));refine⟨q4,?_,⟨⟨_,q2,?_,?_⟩,Below.trans E (q5.mono cN)⟩⟩;exact((((Kept.refl w.heap.size W1.heap.size W).grown (World.grownBy_alloc W _ none) F (λk e=>by cases e)).grown i aF (λk e=>by cases e;omega)).trans (Kept.setCell (a:=⟨w2.heap.size,0,none⟩) _ jH jH));rw[jv,Ot];exact q3;rw[jv];rfl
 case done=>rintro D F W F rfl ⟨⟨v,j,d,rfl⟩,E⟩ p;have J:=j.cell;have Q:D<W.heap.size:=(rI.1 p).1;gi_wp2;refine⟨by simp,.inl ⟨_,_,ae,run_takeDeferred p,?_⟩⟩;refine⟨_,results_tmp ae _ _ _,_,ae,?_,⟨_,_,_,ae,cN⟩,E.trans (belowK_b (w:=w) (eN _) W D _ _ cN p ae ae)⟩;refine aao (qW (l:=nW l) (e:=3) (base:=w1.heap.size) ?_ ?_ ?_) p ae _;unfold nW;rw[mQ,wU];exact d;intro x O;unfold nW at O;obtain⟨y,_,rfl⟩:=gT.1 O;exact ah6 y;unfold nW;rw[mQ];omega
 grind
def acM(v:c7)(l:List (Int×Int))(w:cS)(a:fj w v l):
 CP_ 172 #[v] w λe w'=>∃r,e=cj r/\eU cq w' r (nW l)/\dS w w':=(uh.1 (Y3 v l w a)).mono λ_ _ ⟨r,h1,h2,_,h4⟩=>⟨r,h1,h2,h4⟩
def acN(v:c7)(l:List (Int×Int))(w:cS)(a:fj w v l):
 CP_ 172 #[v] w λe w'=>∃r,e=cj r/\eU cq w' r (nW l)/\(∃b n c,r=bX (cu ⟨b,0,cw⟩) n c/\w.h.s<=b)/\dS w w':=uh.1 (Y3 v l w a)
def QY(l:List (Int×Int))(n:Int):Bool:=decide (n∈nW l)
theorem Ww(l:List (Int×Int)):(nW l).Pairwise (· < ·):=by unfold nW;by_cases h:gY l=cx;rw[BE h];exact JR h;simp_all[wY]
theorem aap{x:Fin 4096}{n:Int}(h:p++[x]<+:kN l)(c:∀y∈p,(y.val:Int)<n)(d:n<=(x.val:Int)):QY l n=((x.val:Int)==n):=by
 have⟨r,hr⟩:=h;have a:nW l=p.map (λx=>(x.val:Int))++(x.val:Int)::r.map (λx=>(x.val:Int)):=by grind[nW]
 have b:=Ww l;rw[a,pairwise_append,Da] at b;unfold QY;grind
theorem aaq{n:Int}(a:∀y∈kN l,(y.val:Int)<n):QY l n=cy:=by unfold QY;grind[nW]
def ah7(v:c7)(l:List (Int×Int))(n:Int)(w:cS)(Q:fj w v l):
 CallsIn Fence.wide 5 prog 281 #[v,bU cq n] w λe w'=>e=cj (bZ (QY l n))/\dS w w':=by
 have u:=Q;obtain⟨ao,b,rfl,_,_,_⟩:=Q;have R:=cz u;clear u;refine callsIn_of_wp_marks func281 ae iC ?_ ae;simp only[ntmps281,Ay,lq,ue,reduceAdd,reduceSub,Az,vH,vI,vJ,pL,uG];gi_wp2_with (first|(refine⟨iC,?_⟩;gi_at_call 230;refine(uh.2 (GR _ _ _ _)).mono ?_;rintro e w' ⟨rfl,rfl⟩));have⟨Wa,hWa⟩:=fU (w.alloc (.cells #[bU cq n] 3));have L:Wa.h.s=w.h.s+1:=by rw[hWa];simp
 have q:Boxed Wa w.h.s 3 (bU cq n):=by rw[hWa];exact Boxed.new _ _ _
 have m:dS w Wa:=by rw[hWa];exact aQ
 rw[<-hWa];have⟨W0,hW0⟩:=fU (Wa.alloc (.cells #[bZ cy] 4));have J:W0.h.s=w.h.s+2:=by rw[hW0];simp;omega
 have o:Boxed W0 w.h.s 3 (bU cq n):=by rw[hW0];exact q.alloc _
 have t:Boxed W0 (w.h.s+1) 4 (bZ cy):=by rw[hW0,<-L];exact Boxed.new _ _ _
 have j:dS w W0:=by rw[hW0];exact m.alloc cN _
 rw[<-hW0];have⟨W1,hW1⟩:=fU (W0.alloc (.cells #[bX ao l.n b] 66));have A:W1.cell? ⟨w.h.s+2,0,cw⟩=cu (.slice ao l.n b):=by rw[hW1,<-J];simp
 have V:W1.h.s=w.h.s+3:=by rw[hW1];simp;omega
 have z:Boxed W1 w.h.s 3 (bU cq n):=by rw[hW1];exact o.alloc _
 have G:Boxed W1 (w.h.s+1) 4 (bZ cy):=by rw[hW1];exact t.alloc _
 have k:dS w W1:=by rw[hW1];exact j.alloc cN _
 rw[<-hW1];clear hWa hW0 hW1 q m o t j;refine wpIn_rangeFunc_ownF ae cN (gf:=262) (lb:=#[dF (w.h.s+1+1) 0]) ae iC (enters_of func262 dC ae)
  (BG 4 (w.h.s+2) _ l w W1 R.o k A) Kept.trans (Kept.wZ cN) (gK _ _) (λ_=>ae)
  (λa W=>(Hid (∀y∈a,(y.val:Int)<n)/\Boxed W w.h.s 3 (bU cq n)/\Boxed W (w.h.s+1) 4 (bZ cy))/\dS w W)
  (λc a W=>(Hid (c=.ret/\∃p x,a=p++[x]/\(∀y∈p,(y.val:Int)<n)/\n<=(x.val:Int))/\Boxed W (w.h.s+1) 4 (bZ (match a.getLast? with|some x=>(x.val:Int)==n|none=>cy)))/\dS w W)
  (OwnFrom.and (OwnFrom.and (ownFrom_pure _ _) (OwnFrom.and (Own.from (boxed_own _ _ λ_=>bU cq n) _) (Own.from (boxed_own _ _ λ_=>bZ cy) _))) (ownFrom_below (eN _) cN))
  (λc=>OwnFrom.and (OwnFrom.and (ownFrom_pure _ _) (Own.from (boxed_own _ _ λa:List (Fin 4096)=>bZ (match a.getLast? with|some x=>(x.val:Int)==n|none=>cy)) _)) (ownFrom_below (eN _) cN))
  ⟨⟨λy M=>by simp at M,z,G⟩,k⟩
  (λx=>{tmps:=#[bX ao l.n b,bU cq n,undef,dF w.h.s 0,dF (w.h.s+1) 0,bU cq (x.val:Int),bX ao l.n b,.func (.func 262) #[] #[dF (w.h.s+1+1) 0],bU cq (x.val:Int),undef,undef,undef,undef,undef,undef],defers:=[]}) ?assign ?body ?done ?stop
 case assign=>intro Y x W K f;gi_wp2;exact f
 case body=>
  rintro Y a x W ⟨⟨O,N,d⟩,i⟩ _;have U:=N.cell;have H:=d.cell;have I:=d.frozen;by_cases X:n<=(x.val:Int)
  . gi_wp2;refine⟨KeepsOthers.setCell _ _ _,⟨⟨ae,a,x,ae,O.o,X⟩,?_⟩,i.setCell (p:=⟨w.h.s+1,0,cw⟩) jH _⟩;have:=d.set (bZ ((x.val:Int)==n));simpa using this
  . gi_wp2;exact⟨KeepsOthers.refl _,Kept.refl _ _ _,⟨λy M=>(gH.1 M).elim (O.o y) (λe=>by simp at e;subst e;omega),N,d⟩,i⟩
 case done=>rintro D Z W T rfl ⟨⟨E,_,d⟩,i⟩ f;have H:=d.cell;have I:=d.frozen;gi_wp2;have g:=(KeepsOthers.setCell W ⟨w.h.s+1,0,cw⟩ (bZ cy)).same D _ f ae;refine⟨by simp,.inl ⟨_,_,ae,run_takeDeferred g,?_⟩⟩;have h:=cell_kept (d.set (bZ cy)).cell (grownBy_putObj' _ D (.deferred cw)) (λr e=>by cases e;exact⟨_,g,ae⟩);refine⟨bZ cy,?_,by rw[aaq E.o],(i.setCell (p:=⟨w.h.s+1,0,cw⟩) eQ _).trans (belowK_b (w:=w) (eN _) _ D _ _ cN g ae ae)⟩;simp[results,f281,go_sem,h]
 case stop=>rintro D c a W T s ⟨⟨F,d⟩,i⟩ f;obtain⟨rfl,p,x,rfl,C,B⟩:=F.o;rw[getLast?_append] at d;simp only[getLast?_singleton,Option.some_or] at d;gi_wp2;refine⟨by simp,.inl ⟨_,_,ae,run_takeDeferred f,?_⟩⟩;have h:=cell_kept d.cell (grownBy_putObj' _ D (.deferred cw)) (λr e=>by cases e;exact⟨_,f,ae⟩);refine⟨bZ ((x.val:Int)==n),?_,by rw[aap s C B],i.trans (belowK_b (w:=w) (eN _) W D _ _ cN f ae ae)⟩;simp[results,f281,go_sem,h]
def af1(v:c7)(l:List (Int×Int))(n:Int)(w:cS)(a:fj w v l):
 sW 281 #[v,bU cq n] w (bZ (QY l n)):=uh.1 (ah7 v l n w a)
def cL.setRow(h:cL w g t n f)(a:Nat->c7):cL (w.setRow g (cM n a)) g t n a:=
 setRow_heap w g _ _ t _ h
theorem cL.setRow_other{w:cS}{g b:Nat}{t:dW}{n:Nat}{f:Nat->c7}(h:cL w b t n f)(a:b≠g)(cs:gJ):cL (w.setRow g cs) b t n f:=by grind[cL,setRow_other]
def Below.setRow{a:cS}(h:Below B a w)(b:B<=g)(cs:gJ):Below B a (w.setRow g cs):=
 h.trans ⟨ae,ae,ae,by simp,λk c=>setRow_other w g k cs cN⟩
theorem setRow_size(w:cS)(g:Nat)(cs:gJ):(w.setRow g cs).h.s=w.h.s:=by simp
theorem run_storeVar_row(w:cS)(ty:dW)(g:Nat)(t:dW)(n:Nat)(f a:Nat->c7)(h:cL w g t n f)(d:(P.info? ty).map (·.size)=cu n)(c:∀i,(a i).oneCell'=cx):
 (storeVar ty ⟨g,0,cw⟩ (bV (cM n a))).run P w=.ok () (w.setRow g (cM n a)):=by
 cases e:P.info? ty with
 |none=>grind
 |some i=>
  have j:i.s=n:=by grind
  have b:=run_storeCells_at P g 0 t (cM n a).t 0 (cM n f) w h (by simp[cM]) (by
   grind[Array.mem_iff_getElem?,dy])
  simp_all[Dc,cW,storeVar,Value.cells,sizeOf,typeInfo]
def wpList_store_row(d:o.guard=cw)(ty:dW)(x y:Operand)(ho:o.op=.store ty x y)(g:Nat)(m:a.eval x=bW (cu ⟨g,0,cw⟩))(n:Nat)(b:Nat->c7)(cs:gJ)(p:a.eval y=bV cs)(c:cs=cM n b)(t:dW)(f:Nat->c7)(h:cL w g t n f)(k:(P.info? ty).map (·.size)=cu n)(e:∀i,(b i).oneCell'=cx)(l:wpList P ops Q rest (a.put o.dst undef) (w.setRow g (cM n b))):wpList P ops Q (o::rest) a w:=
 mz d λK j=>by
  subst c;unfold Oper.wp execOp;simp only[ho,m,p,Instr.storeAt,Instr.sureAddr,lx,rN,nX,run_storeVar_row w ty g t n f b h k e];exact j _ _ l
def tO(b:o.guard=cw)(ty:dW)(x:Operand)(ho:o.op=.load ty x)(g:Nat)(j:a.eval x=bW (cu ⟨g,0,cw⟩))(n:Nat)(t:dW)(f:Nat->c7)(h:cL w g t n f)(d:TypeDesc)(i:P.underlying ty=cu d)(c:(match d with| .struct _| .array _ _=>cx|_=>cy)=cx)(k:(P.info? ty).map (·.size)=cu n)(e:wpList P ops Q rest (a.put o.dst (bV (cM n f))) w):wpList P ops Q (o::rest) a w:=
 wpList_load_row b ty x ho g j t (cM n f) (0,0) d h i c aG e
def af2:(prog.info? 248).map (·.size)=cu 4096:=dC
theorem QZ(a b c d:Int)(r:Bool)(h:(!((a==c)&& (b==d)))=r)(w:cS):
 (binOp .neq 141 (bV #[bU cq a,bU cq b]) (bV #[bU cq c,bU cq d])).run prog w=.ok (bZ r) w:=by
 subst h;have f:(Op.equal 141 (bV #[bU cq a,bU cq b]) (bV #[bU cq c,bU cq d])).run prog w=.ok ((a==c)&& (b==d)) w:=by unfold Op.equal Op.maxDepth;rw[run_equalIn_struct (P:=prog) w 9999 141 _ _ dC dC];have e:(prog.fieldsOf 141).t=[{name:= "Start",type:=3,offset:=0,embedded:=cy,tag:= "",pkgPath:= "",byteOffset:=0},{name:= "Len",type:=3,offset:=1,embedded:=cy,tag:= "",pkgPath:= "",byteOffset:=8}]:=dC;rw[e];simp[Op.eqFields,part,isAgg3,Result.andThen,I' w 9998 3 cq cq _ _ vR];grind
 simp_all[binOp]
theorem JX{l m:List α}(a:k<l.n)(b:k<m.n)(h:l[k]≠m[k]):l≠m:=by grind
theorem Pt{l m:List α}(a:l.n=m.n)(h:∀j(b:j<l.n)(c:j<m.n),l[j]=m[j]):l=m:=
 ext_getElem a h
def Pu(w:cS)(l:List Int)(cs:gJ)(t:dW)(a:cs.t=l.map (Value.int cq))(e:∀x∈l,(Lit.int cq x).wf=cx)(c:l.n<=9223372036854775807)(n cap:Nat)(d:n=l.n):
 eU cq (w.alloc (.cells cs t)) (bX (cu ⟨w.h.s,0,cw⟩) n cap) l:=by subst d;refine⟨_,cap,ae,c,e,λ_=>⟨w.h.s,0,ae,by simp,λj b=>?_⟩⟩;rw[pM,zH _ _ _ _ ae,<-nL,a];simp[b]
theorem Wx(w:cS)(l:List (Int×Int))(cs:gJ)(t:dW)(a:cs.t=iP l)(e:∀x∈l,eT x.1/\eT x.2)(c:l.n<=9223372036854775807)(n cap:Nat)(d:n=l.n):
 fj (w.alloc (.cells cs t)) (bX (cu ⟨w.h.s,0,cw⟩) n cap) l:=by subst d;refine⟨_,cap,ae,c,e,λ_=>⟨w.h.s,0,ae,by simp,λj b=>?_⟩⟩;have⟨h1,h2⟩:=wB l j b;rw[pM,zH _ _ _ _ ae,zH _ _ _ _ ae,<-nL,<-nL,a];grind
theorem Pv(f:Nat->Bool)(k:Nat)(a:k<=4096):∀x∈l7 f k,(Lit.int cq x).wf=cx:=by grind[vP,WalkArith.wf_i64]
theorem JY{l:List (Int×Int)}(h:gY l=cx):nW l=LI (qx l):=by grind[nW,BE,aag]
abbrev kV:=Bool×Int×Int
def tT(w:cS)(v:c7)(l:List kV):Prop:=
 ∃ao cap,v=bX ao l.n cap/\l.n<=9223372036854775807/\(∀x∈l,eT x.2.1/\eT x.2.2)/\
  (l≠ []->∃b o,ao=cu ⟨b,o,cw⟩/\b<w.h.s/\
   ∀k(h:k<l.n),w.cell? ⟨b,o+k*3,cw⟩=cu (.bool l[k].1)/\w.cell? ⟨b,o+k*3+1,cw⟩=cu (.int cq l[k].2.1)/\w.cell? ⟨b,o+k*3+2,cw⟩=cu (.int cq l[k].2.2))
theorem tU(w:cS):tT w (bX cw 0 0) []:=⟨cw,0,ae,by simp,by simp,λh=>absurd ae h⟩
def kW:List kV->List c7
 | []=> []
 |x::r=>bZ x.1::bU cq x.2.1::bU cq x.2.2::kW r
theorem vS(l m:List kV):kW (l++m)=kW l++kW m:=by induction l<;>grind[kW]
theorem Ou(l:List kV)(k:Nat)(h:k<l.n):(kW l)[k*3]?=cu (.bool l[k].1)/\(kW l)[k*3+1]?=cu (.int cq l[k].2.1)/\(kW l)[k*3+2]?=cu (.int cq l[k].2.2):=by induction l generalizing k with|nil=>simp at h|cons x r ih=>cases k with|zero=>exact⟨ae,ae,ae⟩|succ k=>have:=ih k jH;rw[show(k+1)*3=k*3+1+1+1 from by omega,show k*3+1+1+1+1=k*3+1+1+1+1 from ae,show k*3+1+1+1+2=k*3+2+1+1+1 from by omega];grind[kW]
theorem Di{l:List kV}(h:w.ownsRow base e 3 v l.n (kW l))(f:∀x∈l,eT x.2.1/\eT x.2.2)(d:l.n<=9223372036854775807):tT w v l:=by rcases h.2 with⟨rfl,i⟩|⟨g,cap,a,rfl,n,c,p,hc,q,r⟩;grind[tU];refine⟨_,cap,ae,d,f,λ_=>⟨g,0,ae,(rI.1 c).1,λk o=>?_⟩⟩;have j:=h.cellAt (k*3) cN;have m:=h.cellAt (k*3+1) cN;have b:=h.cellAt (k*3+2) cN;grind[Ou]
def LK{o:Nat}{l:List kV}(c:b<w.h.s)(a:∀k(h:k<l.n),w.cell? ⟨b,o+k*3,cw⟩=cu (.bool l[k].1)/\w.cell? ⟨b,o+k*3+1,cw⟩=cu (.int cq l[k].2.1)/\w.cell? ⟨b,o+k*3+2,cw⟩=cu (.int cq l[k].2.2))(hbel:dS w wr)(h:k<l.n):
 wr.cell? ⟨b,o+k*3,cw⟩=cu (.bool l[k].1)/\wr.cell? ⟨b,o+k*3+1,cw⟩=cu (.int cq l[k].2.1)/\wr.cell? ⟨b,o+k*3+2,cw⟩=cu (.int cq l[k].2.2):=
 ⟨(hbel.cell (p:=⟨b,o+k*3,cw⟩) c).trans (a k h).1,(hbel.cell (p:=⟨b,o+k*3+1,cw⟩) c).trans (a k h).2.1,(hbel.cell (p:=⟨b,o+k*3+2,cw⟩) c).trans (a k h).2.2⟩
def Pw:(prog.info? 334).map (λi=>(i.zero,i.s,i.bytes))=cu (cu (bV #[bZ cy,bU cq 0,bU cq 0]),3,24):=dC
attribute [local go_sem] Oper.semAt_some
def mT(w:cS)(base:Nat)(v:c7)(l:List (Int×Int)):Prop:=w.ownsRow base 141 2 v l.n (iP l)
def mT.mono(h:mT w base v l)(a:base'<=base):mT w base' v l:=
 ⟨h.1,h.2.imp id λ⟨g,cap,cur,h1,h2,r⟩=>⟨g,cap,cur,h1,ik a h2,r⟩⟩
theorem mT.sl{f:Nat->Bool}(h:mT w base v (iE f)):fj w v (iE f):=
 uL h (JS (qV f)) (ik (uK f 4096) cN)
def Px(b:Nat)(f:Nat->Bool)(w:cS)(A:cL w b 249 4096 (iL f)):
 CP_ 158 #[bW (cu ⟨b,0,cw⟩)] w λe w'=>∃v',e=cj v'/\mT w' w.h.s v' (iE f)/\dS w w':=by
 have⟨i0,hi,hz0,hz1,hz2⟩:=oH aak;go_enter func158,ntmps158;go_wp2_with (fail)
 go_loopw [3,8] (λv i wr=>∃(k:Nat),k<=4096/\i=bU cq k/\wr.ownsRow w.h.s 141 2 v (gE f k).n (iP (gE f k))/\dS w wr)
  (λ_ i _=>4096-(intOf i).m)
 exact⟨0,gG _,ae,iD _ _ _ _,gK _ _⟩;obtain⟨k,J,rfl,a,hbel⟩:=hrel;have N:=hbel.size;by_cases E:k<4096
 . have s:cL wr b 249 4096 (iL f):=A.cP hbel;have r:=s.cell E;simp only[iL] at r;have I:(k:Int)<(4096:Int):=cN;by_cases t:f k=cx
   . (rw[t] at r;have u:Hid (gE f (k+1)=LG (gE f k) k):=by unfold Hid;rw[gE,c8 t]);clear t;rcases yv (gE f k) with he|⟨m,x,he⟩
     . rw[he] at a;have B:=cz he;clear he;have d:=a.lt;rcases FX a with⟨rfl,_⟩|⟨g,cap,rfl,z,D⟩;rotate_left
       all_goals
        have q:=cz d;clear d
        go_wp2_with (first|(go_quiet (fail))|(at_builtin;refine yy _ ae _ _ 66 ae w.h.s 141 i0 (bV #[bU cq 0,bU cq 0]) 2 16 underlying66 hi hz0 hz1 hz2 ae kM _ _ _ ae ((FY a _).alloc _) ⟨wr.h.s,0,cw⟩ 1 1 [bU cq k,bU cq 1] ae ae Pq (JV _ _ _ _) (by simp[maxLen]) eQ aF ?_;intro v' w1 n l _))
        go_roundw
        case rel=>exact⟨k+1,cN,by go_num,by rw[u.o,B.o];exact n,EY hbel (λj h=>(q.o j h).1) l⟩
        case measure=>exact qN
     . have p:=uK f k;have c:=BD f k J;rw[he] at a p c;rw[nQ,wT,il,gl] at c;have Q:=c.1.2.1;have B:=cz he;clear he c;rw[jv] at a p;have⟨M,HM⟩:=yw m.n;rw[<-HM.o] at a p;simp only[lq,ue,pM] at a p;have d:=a.lt;rcases FX a with⟨rfl,O⟩|⟨g,cap,rfl,z,D⟩;omega
       . (have q:=cz d;clear d;have G:wr.cell? ⟨g,M*2,cw⟩=cu (.int cq x.1):=by rw[a.cellAt _ cN,sw,IZ (by rw[pV,HM.o];omega),pV,HM.o];simp[iP]);(have F:wr.cell? ⟨g,M*2+1,cw⟩=cu (.int cq x.2):=by rw[a.cellAt _ cN,sw,IZ (by rw[pV,HM.o];omega),pV,HM.o];simp[iP]);have H:wr.frozen? ⟨g,M*2+1,cw⟩=cy:=a.frozenAt _;have K:(M:Int)<(M:Int)+1:=cN;have w1:IntKind.i64.wrap (M:Int)=(M:Int):=kX _ cN;have w2:IntKind.i64.wrap (x.1+x.2)=x.1+x.2:=kX _ cN;by_cases o:x.1+x.2=(k:Int)
         . (have L:(x.1+x.2==(k:Int))=cx:=by simpa using o);have C:=cz o;clear o;go_wp2_with (go_quiet (fail));go_roundw;refine⟨k+1,cN,by go_num,?_,(below_drewN hbel _).setCell z _⟩;rw[u.o,B.o,vN,c8 C.o,jv,<-HM.o,<-Oq,<-HM.o];exact((FY a _).stored _ _).1;exact qN
         . (have L:(x.1+x.2==(k:Int))=cy:=by simpa using o);have C:=cz o;clear o;go_wp2_with (first|(go_quiet (fail))|(at_builtin;refine yy _ ae _ _ 66 ae w.h.s 141 i0 (bV #[bU cq 0,bU cq 0]) 2 16 underlying66 hi hz0 hz1 hz2 ae kM _ _ _ ae ((FY a _).alloc _) ⟨wr.h.s,0,cw⟩ 1 1 [bU cq k,bU cq 1] ae ae Pq (JV _ _ _ _) am0 cN aF ?_;intro v' w1 n l _));go_roundw;refine⟨k+1,cN,by go_num,?_,EY hbel (λj h=>(q.o j h).1) l⟩;rw[u.o,B.o,vN,cX C.o,sw,jv,jv,<-HM.o];exact n;exact qN
   . (have y:f k=cy:=by simpa using t);(rw[y] at r;have u:Hid (gE f (k+1)=gE f k):=by unfold Hid;rw[gE,cX t]);clear t y;go_wp2_with (go_quiet (fail));go_roundw;exact⟨k+1,cN,by go_num,by rw[u.o];exact a,by refine below_drewN ?_ _;exact hbel⟩;exact qN
 . obtain rfl:k=4096:=cN;go_wp2;go_ret;exact⟨_,ae,a,hbel⟩
theorem Wy(v u:c7)(l m:List (Int×Int))(w:cS)(Q:fj w v l)(O:fj w u m):
 CallsIn Fence.wide 5 prog 287 #[v,u] w λe w'=>∃r,e=cj r/\mT w' w.h.s r (iE (λn=>ru l n&& !ru m n))/\dS w w':=by
 have t:=O;obtain⟨z,a,rfl,_,_,_⟩:=O;have T:=cz Q;clear Q;have R:=cz t;clear t;refine callsIn_of_wp_marks func287 ae iC ?_ ae;simp only[ntmps287,Ay,lq,ue,reduceAdd,reduceSub,Az,vH,vI,vJ,pL,uG];gi_wp2_with (first|(refine⟨iC,?_⟩;gi_at_call 291;refine(uh.2 (acK _ _ _ T.o)).mono ?_;rintro e w1 ⟨rfl,f,E⟩)|(refine⟨iC,?_⟩;gi_at_call 230;refine(uh.2 (GR _ _ _ _)).mono ?_;rintro e w' ⟨rfl,rfl⟩));have F:=f.lt;have⟨W0,hW0⟩:=fU (w1.alloc (.cells #[dF w.h.s 0] 312));have Y:W0.h.s=w1.h.s+1:=by rw[hW0];simp
 have F:W0.cell? ⟨w1.h.s,0,cw⟩=cu (dF w.h.s 0):=by simp_all
 have q:cL W0 w.h.s 249 4096 (iL (ru l)):=by rw[hW0];exact f.alloc_old _
 have h:dS w W0:=by rw[hW0];exact E.alloc cN _
 rw[<-hW0];have⟨W1,hW1⟩:=fU (W0.alloc (.cells #[bX z m.n a] 66));have H:W1.cell? ⟨w1.h.s+1,0,cw⟩=cu (.slice z m.n a):=by simp_all
 have Z:W1.h.s=w1.h.s+2:=by rw[hW1];simp;omega
 have G:W1.cell? ⟨w1.h.s,0,cw⟩=cu (dF w.h.s 0):=by simp_all
 have L:cL W1 w.h.s 249 4096 (iL (ru l)):=by rw[hW1];exact q.alloc_old _
 have k:dS w W1:=by rw[hW1];exact h.alloc cN _
 rw[<-hW1];clear hW0 hW1 q F h f;refine wpIn_rangeFunc_ownF ae cN (gf:=262) (lb:=#[dF (w1.h.s+1) 0]) ae iC (enters_of func262 dC ae)
  (BG 4 (w1.h.s+1) _ m w W1 R.o k H) Kept.trans (Kept.wZ cN) (gK _ _) (λ_=>ae)
  (λb W=>(cL W w.h.s 249 4096 (iL λn=>ru l n&& !BH b n)/\W.cell? ⟨w1.h.s,0,cw⟩=cu (dF w.h.s 0))/\dS w W)
  (λ_ _ _=>False)
  (OwnFrom.and (OwnFrom.and (Own.from (Pr _ _ _ λb=>iL λn=>ru l n&& !BH b n) _) (Own.from (λs A B row M V d=>cell_kept M V d) _)) (ownFrom_below (eN _) cN))
  (λ_ _ _ _ _ M _ _=>M)
  ⟨⟨L.congr (λi _=>by simp[iL,BH]),G⟩,k⟩
  (λx=>{tmps:=#[v,bX z m.n a,undef,undef,bX cw 0 0,dF w1.h.s 0,bU cq (x.val:Int),v,dF w.h.s 0,bX z m.n a,.func (.func 262) #[] #[dF (w1.h.s+1) 0],bU cq (x.val:Int),undef,undef,undef,undef,undef,undef],defers:=[]}) ?assign ?body ?done ?stop
 case assign=>intro F x W K y;gi_wp2;exact y
 case body=>
  rintro F b x W ⟨⟨d,hc⟩,g⟩ _;have F:(x.val:Int)<(4096:Int):=by have:=x.isLt;omega
  have I:=d.cell x.isLt;have U:=d.frozen x.val;simp only[iL] at I;gi_wp2;refine⟨KeepsOthers.setCell _ _ _,Kept.setCell _ (eN _) jH,⟨d.GS _ cy (λj _=>by rw[JW];grind),?_⟩,g.setCell (p:=⟨w.h.s,x.val,cw⟩) (eN _) _⟩;rw[yx (I9 W _ _ _ jH)];exact hc
 case done=>rintro D F W F rfl ⟨⟨d,hc⟩,g⟩ y;have J:cL W w.h.s 249 4096 (iL (λn=>ru l n&& !ru m n)):=d.congr (λi X=>by simp only[iL];rw[GU m X]);have C:D<W.h.s:=(rI.1 y).1;gi_wp2_with ((refine⟨iC,?_⟩;gi_at_call 158;refine(uh.2 (Px _ _ _ J)).mono ?_;rintro e F ⟨r,rfl,N,o⟩));have c:=(o.block D C).trans y;refine⟨by simp,.inl ⟨_,_,ae,run_takeDeferred c,?_⟩⟩;exact⟨_,results_tmp ae _ _ _,r,ae,mT.mono (ownsRow_putObj N _ c ae) g.s,(Below.step g g.s o).trans (belowK_b (w:=w) (eN _) F D _ _ cN c ae ae)⟩
 case stop=>grind
def Y4(v u:c7)(l m:List (Int×Int))(w:cS)(b:fj w v l)(a:fj w u m):
 CP_ 287 #[v,u] w λe w'=>∃r,e=cj r/\mT w' w.h.s r (iE (λn=>ru l n&& !ru m n))/\dS w w':=uh.1 (Wy v u l m w b a)
def jS(a b:List (Int×Int)):List (Int×Int):=iE λn=>ru a n&& !ru b n
def pN(a b:List (Int×Int)):List kV:=if(gY a&&gY b)=cx then(jS a b).map (Prod.mk cy)++(jS b a).map (Prod.mk cx) else []
def Tt(a b:List (Int×Int)):(jS a b).n<=4096:=uK _ _
theorem LL(a b:List (Int×Int)):∀x∈jS a b,eT x.1/\eT x.2:=JS (qV _)
theorem F2{f:dW}{a:Nat}{t:Nat}{b:List c7}(q:e≠f)(h:w.ownsRow base e size v n xs)(j:w.ownsRow base' f a v' t b):v.ownBlock=cw∨v.ownBlock≠v'.ownBlock:=by rcases h.2 with⟨rfl,x⟩|⟨g,cap,i,rfl,y,z,A,hc,B,C⟩;exact .inl ae;rcases j.2 with⟨rfl,k⟩|⟨u,c,d,rfl,l,o,p,m,r,s⟩;grind[Value.ownBlock];grind[Value.ownBlock]
theorem l9{w w':cS}{base:Nat}{e:dW}{size:Nat}{v:c7}{n:Nat}{xs:List c7}(h:w.ownsRow base e size v n xs)(a:dS w w'):w'.ownsRow base e size v n xs:=
 h.kept (row:=cw) ⟨a.os,a.tape,a.output,a.s,λk b _=>a.block k b⟩ (Bv _)
theorem Py(h:mT w base (bX ao n cap) l)(i:k<l.n):
 ∃b,ao=cu ⟨b,0,cw⟩/\b<w.h.s/\w.cell? ⟨b,k*2,cw⟩=cu (.int cq l[k].1)/\w.cell? ⟨b,k*2+1,cw⟩=cu (.int cq l[k].2):=by rcases h.2 with⟨_,j⟩|⟨g,c,e,f,p,q,r,hc,s,t⟩;omega;have a:=f;simp only[lX] at a;obtain⟨rfl,rfl,rfl⟩:=a;have d:w.ownsRow base 141 2 (bX (s_ g 0) l.n cap) l.n (iP l):=h;have m:=d.cellAt (k*2) cN;have o:=d.cellAt (k*2+1) cN;have⟨h3,h4⟩:=wB l k i;grind
theorem Tu(h:mT w base v l):∃ao cap,v=bX ao l.n cap:=by rcases h.2 with⟨rfl,c⟩|⟨g,a,b,rfl,_⟩<;>grind
theorem Dj{a b c:c7}(e:n=w.h.s):∀j u,[a,b,c][j]?=cu u->(w.alloc (.cells #[a,b,c] t)).cell? ((⟨n,0,cw⟩:Addr).add j)=cu u:=by
 intro j u d;subst e
 match j,d with
 |0,d=>simp_all[Addr.add]
 |1,d=>simp_all[Addr.add]
 |2,d=>simp_all[Addr.add]
 |j+3,d=>simp at d
def BI(t:Bool)(a b:Int):∀u∈ [Value.bool t,Value.int cq a,Value.int cq b],u.oneCell'=cx:=by intro u c;simp at c;rcases c with rfl|rfl|rfl<;>rfl
theorem LM(t:Bool)(h:k<C.n):kW ((C.take (k+1)).map (Prod.mk t))=kW ((C.take k).map (Prod.mk t))++[bZ t,bU cq C[k].1,bU cq C[k].2]:=by rw[yl h,nM,vS];rfl
theorem Tv{a b:List (Int×Int)}:∀x∈pN a b,eT x.2.1/\eT x.2.2:=by intro x c;unfold pN at c;split at c;rcases gH.1 c with h|h;obtain⟨y,d,rfl⟩:=gT.1 h;grind[LL];obtain⟨y,d,rfl⟩:=gT.1 h;grind[LL];grind
theorem JZ{a b:List (Int×Int)}(h:(gY a&&gY b)=cy):pN a b=[]:=by grind[pN]
theorem Tw{a b D:List (Int×Int)}(e:gY a=cx)(f:gY b=cx)(c:C=jS a b)(d:D=jS b a):pN a b=C.map (Prod.mk cy)++D.map (Prod.mk cx):=by grind[pN]
def acO(v u:c7)(a b:List (Int×Int))(w:cS)(U:fj w v a)(T:fj w u b):
 CP_ 277 #[v,u] w λe w'=>∃r,e=cj r/\tT w' r (pN a b)/\dS w w':=by
 have⟨i0,hi,hz0,hz1,hz2⟩:=oH Pw;have N:=cz U;clear U;have M:=cz T;clear T;have⟨r,HR⟩:=sV (gY a);have⟨s,HS⟩:=sV (gY b);have⟨C,HC⟩:=yw (jS a b);have⟨D,HD⟩:=yw (jS b a);have Z:C.n<=4096:=by rw[HC.o];exact Tt a b
 have F:D.n<=4096:=by rw[HD.o];exact Tt b a
 have L:Hid (∀x∈pN a b,eT x.2.1/\eT x.2.2):=Tv;have A:=gK w.h.s w;go_enter func277,ntmps277;go_wp2_with fail;refine aj (uN r _ a HR.o _ (N.o.cP A)) λw1 G=>?_;have q:=Below.step A A.s G;cases r with|false=>go_wp2;go_ret;refine⟨_,ae,?_,q⟩;rw[JZ (by rw[HR.o,HS.o];rfl)];exact tU _|true=>
 go_wp2_with fail;refine aj (uN s _ b HS.o _ (M.o.cP q)) λw2 H=>?_;have l:=Below.step q q.s H;cases s with|false=>go_wp2;go_ret;refine⟨_,ae,?_,l⟩;rw[JZ (by rw[HR.o,HS.o];rfl)];exact tU _|true=>
 go_wp2_with fail;refine(Y4 _ _ a b _ (N.o.cP l) (M.o.cP l)).mono ?_;rw[show(iE λn=>ru a n&& !ru b n)=C from HC.o.symm];rintro e F ⟨z,rfl,g,I⟩;replace g:=mT.mono g l.s;obtain⟨ao,cap,rfl⟩:=Tu g;go_wp2_with fail
 go_loopw [5,22] (λx i wr=>∃k:Nat,k<=C.n/\i=bU cq k/\wr.ownsRow w.h.s 334 3 x k (kW ((C.take k).map (Prod.mk cy)))/\mT wr w.h.s (bX ao C.n cap) C/\dS w wr)
  (λ_ i _=>C.n-(intOf i).m)
 exact⟨0,gG _,ae,l9 (l9 (l9 (iD w w.h.s 334 3) G) H) I,g,Below.step l l.s I⟩;clear g;obtain⟨k,G,rfl,c,g,hbel⟩:=hrel;have p:=hbel.size;by_cases m:k<C.n
 . obtain⟨V,rfl,Q,X,Y⟩:=Py g m;have t:=cz c.lt;go_wp2_with (first|(at_builtin;refine yy _ ae _ _ 294 ae w.h.s 334 i0 (bV #[bZ cy,bU cq 0,bU cq 0]) 3 24 underlying294 hi hz0 hz1 hz2 ae kM _ _ _ ae ((c.alloc _).alloc _) ⟨wr.h.s+1,0,cw⟩ 1 1 [bZ cy,bU cq C[k].1,bU cq C[k].2] ae ae (Dj eQ) (BI _ _ _) am0 cN aF ?_;intro v' w1 f d _));go_roundw;refine⟨k+1,cN,by go_num,?_,World.ownsRow.kept (Q0 (Q0 g _) _) d (F2 kM g c),((hbel.alloc p _).alloc aF _).grown d aF (λj h=>(t.o j h).1)⟩;rw[LM cy m];exact f;exact qN
 . have B:k=C.n:=cN;subst B;rw[qp] at c;go_wp2_with fail;refine(Y4 _ _ b a _ (M.o.cP hbel) (N.o.cP hbel)).mono ?_;rw[show(iE λn=>ru b n&& !ru a n)=D from HD.o.symm];rintro e w4 ⟨y,rfl,K,J⟩;have F:=Below.step hbel p J;have o:=l9 c J;replace K:=mT.mono K p;obtain⟨O,E,rfl⟩:=Tu K;clear c g hbel;go_wp2_with fail
   go_loopw [5,36] (λx i wr=>∃k:Nat,k<=D.n/\i=bU cq k/\wr.ownsRow w.h.s 334 3 x (C.n+k) (kW (C.map (Prod.mk cy))++kW ((D.take k).map (Prod.mk cx)))/\mT wr w.h.s (bX O D.n E) D/\dS w wr)
    (λ_ i _=>D.n-(intOf i).m)
   exact⟨0,gG _,ae,by simpa[kW] using o,K,F⟩;clear o K F;obtain⟨k,G,rfl,c,g,hbel⟩:=hrel;have p:=hbel.size;by_cases m:k<D.n
   . obtain⟨V,rfl,Q,X,Y⟩:=Py g m;have t:=cz c.lt;go_wp2_with (first|(at_builtin;refine yy _ ae _ _ 294 ae w.h.s 334 i0 (bV #[bZ cy,bU cq 0,bU cq 0]) 3 24 underlying294 hi hz0 hz1 hz2 ae kM _ _ _ ae ((c.alloc _).alloc _) ⟨wr.h.s+1,0,cw⟩ 1 1 [bZ cx,bU cq D[k].1,bU cq D[k].2] ae ae (Dj eQ) (BI _ _ _) am0 cN aF ?_;intro v' w1 f d _));go_roundw;refine⟨k+1,cN,by go_num,?_,World.ownsRow.kept (Q0 (Q0 g _) _) d (F2 kM g c),((hbel.alloc p _).alloc aF _).grown d aF (λj h=>(t.o j h).1)⟩;rw[LM cx m,<-xJ];exact f;exact qN
   . have B:k=D.n:=cN;subst B;rw[qp,<-vS] at c;have R:Hid (pN a b=C.map (Prod.mk cy)++D.map (Prod.mk cx)):=Tw HR.o HS.o HC.o HD.o;go_wp2;go_ret;refine⟨_,ae,Di (base:=w.h.s) (e:=334) ?_ L.o ?_,hbel⟩;rw[R.o,jv,mQ,mQ];exact c;rw[R.o,jv,mQ,mQ];omega
def Q1(u:c7)(b:List (Int×Int))(w:cS)(c:fj w u b):
 CP_ 248 #[u] w λe w'=>∃r,e=cj r/\tT w' r (pN [] b)/\dS w w':=by have d:=cz c;clear c;go_enter func248,ntmps248;go_wp2_with fail;refine ah (acO _ _ [] b _ (tR _) d.o) λr w1⟨f,a⟩=>?_;go_wp2;go_ret;exact⟨_,ae,f,a⟩
def qA(f:Nat->Bool)(s:Nat)(t:Bool)(k:Nat):Bool:=(range k).any λj=>f (s+j)==t
def yz(f:Nat->Bool)(s:Nat)(t:Bool)(k:Nat):Nat->Bool:=λn=>if s<=n/\n<s+k then t else f n
def ry:(Nat->Bool)->List kV->Option (Nat->Bool)
 |f,[]=>cu f
 |f,x::r=>if(kt x.2.1 x.2.2&& !qA f x.2.1.m x.1 x.2.2.m)=cx then ry (yz f x.2.1.m x.1 x.2.2.m) r else cw
def uO(l:List (Int×Int))(a:List kV):Option (List (Int×Int)):=
 if gY l=cx then(ry (qx l) a).map iE else cw
theorem Q2(f:Nat->Bool)(s:Nat)(t:Bool)(k:Nat):qA f s t (k+1)=(qA f s t k||(f (s+k)==t)):=by grind[qA]
theorem Q3{f:Nat->Bool}{s:Nat}{t:Bool}(h:qA f s t k=cx)(a:k<=m):qA f s t m=cx:=by grind[qA]
theorem acP(f:Nat->Bool)(s:Nat)(t:Bool)(k:Nat):yz f s t k (s+k)=f (s+k):=by simp_all[yz]
theorem Wz(f:Nat->Bool)(s:Nat)(t:Bool)(n:Nat):yz f s t 0 n=f n:=by simp_all[yz,cX]
theorem WD(f:Nat->Bool)(s:Nat)(t:Bool)(k n:Nat):yz f s t (k+1) n=if n=s+k then t else yz f s t k n:=by unfold yz;grind
theorem aar(s l:Int):gY [(s,l)]=kt s l:=by rw[wR];unfold gY;rw[il];constructor;grind;intro h;have a:=(gl _ _).1 h;exact⟨h,cN,ae⟩
theorem Tx{f:Nat->Bool}{x:kV}{r:List kV}(h:kt x.2.1 x.2.2=cy):ry f (x::r)=cw:=by grind[ry]
theorem Ov{f:Nat->Bool}{x:kV}{r:List kV}(h:qA f x.2.1.m x.1 x.2.2.m=cx):ry f (x::r)=cw:=by grind[ry]
theorem GV{f:Nat->Bool}{x:kV}{r:List kV}(a:kt x.2.1 x.2.2=cx)(h:qA f x.2.1.m x.1 x.2.2.m=cy):ry f (x::r)=ry (yz f x.2.1.m x.1 x.2.2.m) r:=by grind[ry]
def F3(t:Bool)(s l:Int)(i:eT s/\eT l)(w:cS):
 sW 246 #[bV #[bZ t,bU cq s,bU cq l]] w (bZ (kt s l)):=by
 have m:=cz i;clear i;have⟨b,hb⟩:=dG (kt s l);rw[hb];have j:Hid (gY [(s,l)]=b):=(aar s l).trans hb;clear hb;have⟨W0,hW0⟩:=fU (w.alloc (.cells #[bZ t,bU cq s,bU cq l] 334));have g:W0.h.s=w.h.s+1:=by rw[hW0];simp
 have a:dS w W0:=by rw[hW0];exact aQ
 have h:fj (W0.alloc (.cells #[bU cq s,bU cq l] 141)) (bX (s_ W0.h.s 0) 1 1) [(s,l)]:=
  Wx W0 [(s,l)] _ _ ae (by simpa using m.o) eQ _ _ ae
 have k:=cz h;clear h;go_enter func246,ntmps246;go_wp2_with fail;rw[<-hW0];try rw[<-g]
 have c:=a.alloc a.s (.cells #[bU cq s,bU cq l] 141);refine aj (uN b _ _ j.o _ k.o) λw2 f=>?_;have d:=Below.step c c.s f;go_wp2;go_ret;exact⟨ae,d⟩
def WJ(o:Option (List (Int×Int))):Int:=if o.isSome=cx then 0 else 81
theorem af3{a:List kV}(h:k<a.n):a.drop k=a[k]::a.drop (k+1):=by simp_all
theorem Ty(A:gJ)(k:Nat)(b:Bool)(a:k<4096)(h:A[k]?=cu (.bool b))(w:cS):
 (Instr.index 248 (bV A) (bU cq k)).run prog w=.ok (bZ b) w:=by simp_all[Instr.index,asIntOf,part]
theorem WL(h:gY l=cx)(a:n<4096):oG (nW l) n=qx l n:=by rw[JY h];unfold oG;rw[wR,qQ,LI,vP];grind
theorem acQ(h:gY l=cx)(a:k<(nW l).n):0<=(nW l)[k]/\(nW l)[k]<4096:=by grind[LI,JY,getElem_mem,vP]
def Le:(prog.info? 5).map (λi=>(i.zero,i.s,i.bytes))=cu (cu (.int .u8 0),1,1):=dC
def acR:(prog.info? 82).map (λi=>(i.zero,i.s,i.bytes))=cu (cu (.int ct 0),1,8):=dC
def LN(w:cS):CP_ 245 #[] w λe w'=>∃b,e=cj (bX (cu ⟨b,0,cw⟩) 3 3)/\eU cq w' (bX (cu ⟨b,0,cw⟩) 3 3) [1,2,2]/\b=w.h.s/\dS w w':=by go_enter func245,ntmps245;go_wp2;go_ret;exact⟨_,ae,Pu w [1,2,2] _ _ ae kM kM _ _ ae,ae,(gK _ _).alloc (eN _) _⟩
def dN(l:cV):List Int:=l.map λ(n:Nat)=>(n:Int)
theorem dA(l:cV):(dN l).n=l.n:=by grind[dN]
theorem tt(l:cV)(k:Nat)(h:k<(dN l).n):(dN l)[k]=((l[k]'(by grind[dA]):Nat):Int):=getElem_map _
def okW(ws:cV):Bool:=ws.all λw=>decide (1<=w/\w<=8)
def qO(w n:Nat):cV:=(range w).map λk=>n/256^k%256
def kY:cV->cV->cV
 |w::ws,n::ns=>qO w n++kY ws ns
 |_,_=> []
def fitAll:cV->cV->Bool
 |w::ws,n::ns=>decide (n<256^w)&&fitAll ws ns
 |_,_=>cx
def vT(ws ns:cV):Option cV:=if okW ws=cx/\ns.n=ws.n/\fitAll ws ns=cx then cu (kY ws ns) else cw
theorem Lg(k:Nat):(2:Int)^(8*k)=((256^k:Nat):Int):=by
 have h:(2:Nat)^(8*k)=256^k:=by rw[Nat.pow_mul]
 grind
theorem gm(w n:Nat):(qO w n).n=w:=by grind[qO]
theorem yA(w n:Nat):∀x∈qO w n,x<256:=by intro x a;unfold qO at a;grind
theorem acS(w n k:Nat)(h:k<w):(qO w n).take (k+1)=(qO w n).take k++[n/256^k%256]:=by grind[take_succ_eq_append_getElem,qO]
theorem WM(ws ns:cV)(k:Nat)(h:k<ws.n)(b:k<ns.n):
 kY (ws.take (k+1)) (ns.take (k+1))=kY (ws.take k) (ns.take k)++qO ws[k] ns[k]:=by induction ws generalizing ns k with|nil=>grind|cons a ws ih=>cases ns with|nil=>grind|cons n ns=>cases k<;>grind[kY]
theorem Tz(ws ns:cV)(k:Nat)(h:k<ws.n)(b:k<ns.n):
 fitAll (ws.take (k+1)) (ns.take (k+1))=(fitAll (ws.take k) (ns.take k)&&decide (ns[k]<256^ws[k])):=by induction ws generalizing ns k with|nil=>grind|cons a ws ih=>cases ns with|nil=>grind|cons n ns=>cases k<;>grind[fitAll]
theorem aas(h:k<ws.n)(b:k<ns.n)(c:¬ns[k]<256^ws[k]):fitAll ws ns=cy:=by induction ws generalizing ns k with|nil=>grind|cons a ws ih=>cases ns with|nil=>grind|cons n ns=>unfold fitAll;grind
theorem acT(ws:cV)(k:Nat)(h:k<ws.n):okW (ws.take (k+1))=(okW (ws.take k)&&decide (1<=ws[k]/\ws[k]<=8)):=by grind[okW,take_succ_eq_append_getElem]
theorem ah8(h:k<ws.n)(a:¬(1<=ws[k]/\ws[k]<=8)):okW ws=cy:=by grind[okW,getElem_mem]
theorem Q4(h:okW ws=cx)(a:k<ws.n):1<=ws[k]/\ws[k]<=8:=by simp_all[okW]
def sX(ws:cV):Nat:=ws.sum
theorem Ja(ws:cV)(k:Nat)(h:k<ws.n):sX (ws.take (k+1))=sX (ws.take k)+ws[k]:=by grind[sX,take_succ_eq_append_getElem]
theorem Q5(ws:cV)(h:okW ws=cx):sX ws<=8*ws.n:=by
 induction ws with
 |nil=>simp_all[sX]
 |cons a ws ih=>
  have b:=Q4 h (k:=0) eQ;have c:okW ws=cx:=by simp_all[okW]
  grind[sX]
theorem sy(h:ns.n=ws.n):(kY ws ns).n=sX ws:=by induction ws generalizing ns with|nil=>rfl|cons a ws ih=>cases ns<;>grind[kY,sX,gm]
theorem xb(ws ns:cV):∀x∈kY ws ns,x<256:=by induction ws generalizing ns with|nil=>grind[kY]|cons a ws ih=>cases ns<;>grind[kY,yA]
def yB(ws:cV):Int:=if okW ws=cx then(sX ws:Nat) else 0
theorem Jb(v:c7)(ws:cV)(M:ws.n<=4096)(w:cS)(K:eU cq w v (dN ws)):
 CP_ 72 #[v] w λe w'=>e=cj (cg #[bU cq (yB ws),bZ (okW ws)])/\w=w':=by
 obtain⟨ao,cap,rfl,p,_,n⟩:=K;have E:=cz n;clear n;rw[dA] at p|-;go_enter func72,ntmps72;go_wp2_with fail
 go_loop [4,6,9] (λs _ i=>∃(k q:Nat),k<=ws.n/\i=bU cq k/\s=bU cq q/\Hid (q=sX (ws.take k))/\Hid (okW (ws.take k)=cx)/\q<=8*k)
  (λ_ _ i=>ws.n-(intOf i).m)
 exact⟨0,0,gG _,ae,ae,by simp[Hid,sX],by simp[Hid,okW],cN⟩;obtain⟨k,q,L,rfl,rfl,C,F,N⟩:=hrel;by_cases d:k<ws.n
 . obtain⟨b,o,rfl,I,a⟩:=E.o amc;have hc:=a k (by rw[dA];exact d);rw[tt] at hc;clear a;have z:=cz (Ja ws k d);have u:=cz (acT ws k d);by_cases c:1<=ws[k]/\ws[k]<=8
   . (have f:Hid (okW (ws.take (k+1))=cx):=by unfold Hid;rw[u.o,F.o,gI c];rfl);(have⟨x,hx⟩:=dG (ws[k]);rw[hx] at hc c;have G:=cz hx;clear hx;have j:Hid (q+x=sX (ws.take (k+1))):=by unfold Hid;rw[z.o,C.o,G.o]);have l:¬(x:Int)<1:=cN;have A:¬(8:Int)<(x:Int):=cN;have m:decide ((x:Int)<1)=cy:=jC l;have B:decide ((8:Int)<(x:Int))=cy:=jC A;have r:(k:Int)<(ws.n:Int):=cN;go_wp2;go_round;grind;exact qN
   . (have g:=ah8 d c;have D:yB ws=0:=by unfold yB;rw[g];rfl);have t:=cz g;clear g;have y:=cz D;clear D;have⟨x,hx⟩:=dG (ws[k]);rw[hx] at hc c;clear hx;have r:(k:Int)<(ws.n:Int):=cN;by_cases H:x<1;have l:(x:Int)<1:=cN;have m:decide ((x:Int)<1)=cx:=gI l;rotate_left;have l:¬(x:Int)<1:=cN;have A:(8:Int)<(x:Int):=cN;have m:decide ((x:Int)<1)=cy:=jC l;have B:decide ((8:Int)<(x:Int))=cx:=gI A
     all_goals
      clear c H;go_wp2;refine iI (v:=cg #[bU cq 0,bZ cy]) (by simp[results,results72,go_sem]) ae ⟨by rw[y.o,t.o],ae⟩
 . (obtain rfl:k=ws.n:=cN;have f:Hid (okW ws=cx):=by grind);(have j:Hid (yB ws=(q:Nat)):=by unfold Hid yB;rw[f.o,c8 ae,C.o,qp]);have J:¬(ws.n:Int)<(ws.n:Int):=cN;go_wp2;refine iI (v:=cg #[bU cq q,bZ cx]) (by simp[results,results72,go_sem]) ae ⟨by rw[j.o,f.o],ae⟩
def mN(w:cS)(base:Nat)(v:c7)(l:cV):Prop:=w.ownsRow base 5 1 v l.n (l.map λ(n:Nat)=>Value.int .u8 (n:Int))
def gq{α:Type}(c:Int)(o:Option α):Int:=if o.isSome=cx then 0 else c
theorem af4(x q:Nat):(x:Int)/2^(8*q)=((x/256^q:Nat):Int):=by grind[Lg]
theorem acU{x y:Nat}(d:1<=y/\y<=8)(b:Bool)(a:decide (x<256^y)=b):((x:Int)/2^(8*y) !=0)= !b:=by rw[Lg,show(x:Int)/((256^y:Nat):Int)=((x/256^y:Nat):Int) from(Int.natCast_ediv x (256^y)).symm,<-a];have c:0<256^y:=Nat.pow_pos kM;by_cases h:x<256^y;grind[div_eq_of_lt];rw[jC h];have:0<x/256^y:=div_pos cN c;grind
theorem GX(v u:c7)(ws ns:cV)(N:ws.n<=4096)(w:cS)(H:eU cq w v (dN ws))(I:eU ct w u (dN ns)):
 CP_ 73 #[v,u] w λe w'=>∃r,e=cj (cg #[r,bU cq (gq 21 (vT ws ns))])/\mN w' w.h.s r ((vT ws ns).getD [])/\dS w w':=by
 have⟨i0,hi,hz0,hz1',hz2⟩:=oH Le;have L:=cz H;obtain⟨ao,cap,rfl,G,_,F⟩:=H;obtain⟨H,H,rfl,U,O,H⟩:=I;have Y:=cz F;clear F;have I:=cz H;clear H;clear O;rw[dA] at G U;have G:=iD w w.h.s 5 1;have A:Hid (mN w w.h.s (bX cw 0 0) []):=G;clear G;rw[dA,dA];rw[dA] at L;by_cases l:okW ws=cx
 case neg=>
  have F:okW ws=cy:=by simpa using l
  have R:vT ws ns=cw:=by unfold vT;grind
  have O:yB ws=0:=by unfold yB;rw[F];rfl
  rw[R];have g:=cz F;clear l F R;have F:=cz O;clear O;go_enter func73,ntmps73;go_wp2_with fail;refine(Jb _ ws N _ L.o).mono ?_;rw[g.o,F.o];rintro e w1 ⟨rfl,rfl⟩;go_wp2;refine iI (v:=cg #[bX cw 0 0,bU cq 21]) (by simp[results,results73,go_sem]) ae ⟨_,ae,A.o,gK _ _⟩
 by_cases j:ns.n=ws.n
 case neg=>
  have R:vT ws ns=cw:=by unfold vT;grind
  rw[R];have O:yB ws=(sX ws:Nat):=by unfold yB;rw[l];rfl
  have G:((ns.n:Int)!=(ws.n:Int))=cx:=by rw[fK];omega
  have g:=cz l;clear l R j;have F:=cz O;clear O;go_enter func73,ntmps73;go_wp2_with fail;refine(Jb _ ws N _ L.o).mono ?_;rw[g.o,F.o];rintro e w1 ⟨rfl,rfl⟩;go_wp2;refine iI (v:=cg #[bX cw 0 0,bU cq 21]) (by simp[results,results73,go_sem]) ae ⟨_,ae,A.o,gK _ _⟩
 have O:yB ws=(sX ws:Nat):=by unfold yB;rw[l];rfl
 have H:=Q5 ws l;have⟨Z,HZ⟩:=sV (sX ws);rw[HZ.o] at O H;have G:((ns.n:Int)!=(ws.n:Int))=cy:=by grind
 have g:=cz l;clear l;have F:=cz O;clear O;have f:=cz j;have⟨PS,HPS⟩:=sV (vT ws ns);rw[HPS.o];have H:ws.n<=4096:=N;rw[j] at G|-;clear j U;go_enter func73,ntmps73;go_wp2_with fail;refine(Jb _ ws N _ L.o).mono ?_;rw[g.o,F.o];rintro e w1 ⟨rfl,rfl⟩;go_wp2_with fail
 go_loop [8,9,30] (λ_ _ i=>∃k:Nat,k<=ws.n/\i=bU cq k/\Hid (fitAll (ws.take k) (ns.take k)=cx))
  (λ_ _ i=>ws.n-(intOf i).m)
 exact⟨0,gG _,ae,by simp[Hid,fitAll]⟩;obtain⟨k,hk,rfl,H⟩:=hrel;by_cases n:k<ws.n
 . (obtain⟨b,o,rfl,L,c⟩:=Y.o amc;obtain⟨ub,U,rfl,T,a⟩:=I.o anD;have hc:=c k (by rw[dA];exact n);have E:=a k (by rw[dA];have:=f.o;omega);rw[tt] at hc E;clear c a;have K:k<ns.n:=by have:=f.o;omega);have D:=Q4 g.o n;have V:=cz (Tz ws ns k n K);have N:=λh=>aas (ws:=ws) (ns:=ns) (k:=k) n K h;have⟨x,hx⟩:=dG (ns[k]);have⟨y,hy⟩:=dG (ws[k]);rw[hy] at hc D V N;rw[hx] at E V N;have G:=cz N;clear N;have O:(k:Int)<(ws.n:Int):=cN;have⟨bb,hbb⟩:=dG (decide (x<256^y));have F:=acU D bb hbb;have F:=cz hbb;clear hbb;clear hx hy;have N:(8:Int)*(y:Int)<=64:=cN;have N:(0:Int)<=8*(y:Int):=cN;cases bb with|true=>(have N:Hid (fitAll (ws.take (k+1)) (ns.take (k+1))=cx):=by unfold Hid;rw[V.o,H.o,F.o];rfl);go_wp2;go_round;grind;exact qN|false=>(have R:PS=cw:=by rw[<-HPS.o];unfold vT;rw[cX (by intro h;rw[G.o (ym F.o)] at h;grind)]);have G:=cz R;clear R;go_wp2;refine iI (v:=cg #[bX cw 0 0,bU cq 21]) (by simp[results,results73,go_sem]) ae ⟨_,by rw[G.o];rfl,by rw[G.o];exact A.o,gK _ _⟩
 . (obtain rfl:k=ws.n:=cN;have N:¬(ws.n:Int)<(ws.n:Int):=cN;have F:Hid (fitAll ws ns=cx):=by have:=H.o;rw[qp,<-f.o,qp] at this;exact this);(have H:PS=cu (kY ws ns):=by rw[<-HPS.o];unfold vT;rw[c8 ⟨g.o,f.o,F.o⟩]);have G:=cz H;clear H;go_wp2_with (refine LO (o:=⟨cu 45,_,_,_,_,_⟩) _ ae _ _ 22 ae w.h.s 5 i0 (bU .u8 0) 1 oS hi hz0 hz1' cq cq _ Z ae ae ae amh aK (eN _) ?_;intro w2 H B);have F:dS w w2:=(gK _ _).grown B (eN _) (λk e=>by cases e);have X:Hid (mN w2 w.h.s (bX (s_ w.h.s 0) 0 Z) (kY (ws.take 0) (ns.take 0))):=H;clear B H
   go_loopw [10,48] (λv i wr=>∃k:Nat,k<=ws.n/\i=bU cq k/\Hid (mN wr w.h.s v (kY (ws.take k) (ns.take k)))/\dS w wr)
    (λ_ i _=>ws.n-(intOf i).m)
   grind;clear X F;obtain⟨k,hk,rfl,t,hbel⟩:=hrel;by_cases n:k<ws.n
   . (obtain⟨b,o,rfl,L,c⟩:=Y.o amc;obtain⟨ub,U,rfl,T,a⟩:=I.o anD;have hc:=(hbel.cell (p:=⟨b,o+k,cw⟩) L).trans (c k (by rw[dA];exact n));have E:=(hbel.cell (p:=⟨ub,U+k,cw⟩) T).trans (a k (by rw[dA];have:=f.o;omega));rw[tt] at hc E;clear c a;have K:k<ns.n:=by have:=f.o;omega);(have D:=Q4 g.o n;have J:=cz (WM ws ns k n K);have⟨x,hx⟩:=dG (ns[k]);have⟨y,hy⟩:=dG (ws[k]);rw[hy] at hc D J;rw[hx] at E J;clear hx hy;have Y:(kY (ws.take k) (ns.take k)).n<=32768:=by rw[sy jH];have F:=Q5 (ws.take k) (by unfold okW;rw[rJ];intro z F;have:=g.o;unfold okW at this;rw[rJ] at this;exact this z (lP F));grind);(have⟨L,hL⟩:=dG (kY (ws.take k) (ns.take k));rw[hL] at t J Y;clear hL;have Q:Hid (mN wr w.h.s u10 (L++(qO y x).take 0)):=by grind);clear t;have O:(k:Int)<(ws.n:Int):=cN;go_wp2_with fail
     go_loopw [10,57] (λv i F=>∃q:Nat,q<=y/\i=bU cq q/\Hid (mN F w.h.s v (L++(qO y x).take q))/\dS w F)
      (λ_ i _=>y-(intOf i).m)
     exact⟨0,gG _,ae,Q,hbel⟩;clear Q hbel hc E;obtain⟨q,F,rfl,t,hbel⟩:=hrel;have F:=hbel.size;by_cases F:q<y
     . (have H:(q:Int)<(y:Int):=cN;have I:=af4 x q;have H:=cz (acS y x q F);have⟨d,hd⟩:=dG (x/256^q);rw[hd] at I H;clear hd;have F:(L++(qO y x).take q).n<=32776:=by rw[jv,lO,gm];omega);have s:=t.o;unfold mN at s;have⟨M,HM⟩:=sV (L++(qO y x).take q);rw[HM.o] at s F;clear t;have F:=cz s.lt;have I:(8:Int)*(q:Int)<=64:=cN;have I:(0:Int)<=8*(q:Int):=cN;go_wp2_with (at_builtin;refine yy _ ae (.tmp 60) (.tmp 66) 22 ae w.h.s 5 i0 (bU .u8 0) 1 1 oS hi hz0 hz1' hz2 ae kM _ _ _ ae (s.alloc _) ⟨wr.h.s,0,cw⟩ 1 1 [bU .u8 ((d:Int)%256)] ae ae (cell_one_new _ _ _) bh aK cN aF ?_;intro v' R I C _);(have O:=(hbel.alloc cN (.cells #[bU .u8 ((d:Int)%256)] 5)).grown C aF (λk h=>(F.o k h).1);have m:Hid (mN R w.h.s v' (L++(qO y x).take (q+1))):=by unfold Hid mN;rw[H.o,<-xJ,HM.o,jv,nM];exact I);clear I C s;go_roundw;exact⟨q+1,cN,by go_num,m,O⟩;exact qN
     . (obtain rfl:q=y:=cN;have N:¬(q:Int)<(q:Int):=cN;have m:Hid (mN wr w.h.s u10 (kY (ws.take (k+1)) (ns.take (k+1)))):=by unfold Hid;rw[J.o];have:=t.o;rw[nV (by rw[gm];exact eN _)] at this;exact this);go_wp2;go_roundw;exact⟨k+1,cN,by go_num,m,hbel⟩;exact qN
   . (obtain rfl:k=ws.n:=cN;have N:¬(ws.n:Int)<(ws.n:Int):=cN;have m:Hid (mN wr w.h.s u10 ((PS).getD [])):=by unfold Hid;rw[G.o];have:=t.o;rw[qp,<-f.o,qp] at this;exact this);(have F:Hid (gq 21 PS=0):=by unfold Hid;rw[G.o];rfl);go_wp2;refine iI (v:=cg #[u10,bU cq 0]) (by simp[results,results73,go_sem]) ae ⟨_,by rw[F.o],m.o,hbel⟩
def yC(v:c7):Prop:=∃a n c,v=bX a n c/\n<=c
def Ej:yC (bX cw 0 0):=⟨_,_,_,ae,eN _⟩
def WO(h:w.ownsRow base e size v n xs):yC v:=by rcases h.2 with⟨rfl,b⟩|⟨g,cap,a,rfl,c,d,f,hc,i,j⟩;exact Ej;exact⟨_,_,_,ae,cN⟩
theorem acV:prog.underlying 22=cu (.slice (prog.elem 22)):=dC
theorem ah9(W:cS):(sizeOf (prog.elem 22)).run prog W=.ok 1 W:=by rfl
def lz(a:Option Addr)(c y s:Nat):Option Addr:=if c=y then a else a.map (·.add (y*s))
theorem aia(a:Option Addr)(n c y:Nat)(b:y<=n)(W:cS):(Instr.slice 22 (bX a n c) (cu (.int cq y)) cw cw).run prog W=.ok (bX (lz a c y 1) (n-y) (c-y)) W:=by grind[run_slice_l,acV,ah9,Result.andThen,sliced,lz]
theorem J0(b o c y s:Nat)(h:y<c):lz (cu ⟨b,o,cw⟩) c y s=cu ⟨b,o+y*s,cw⟩:=by unfold lz;rw[cX cN,Lw];grind[Addr.add]
theorem Q6(b o c q:Nat):lz (cu ⟨b,o,cw⟩) c q 1=if c=q then cu ⟨b,o,cw⟩ else cu ⟨b,o+q,cw⟩:=by by_cases h:c=q;simp_all[lz];simp_all[lz,Addr.add]
theorem BJ{k:IntKind}{a:Option Addr}{y:Nat}{l:List Int}(h:eU k w (bX a n c) l)(m:y<=n)(hc:n<=c):eU k w (bX (lz a c y 1) (n-y) (c-y)) (l.drop y):=by
 have⟨ao,cap,h1,h2,h3,h4⟩:=h;simp only[lX] at h1;obtain⟨rfl,rfl,rfl⟩:=h1;refine⟨_,_,by rw[uf],by grind,λx f=>h3 x (mR f),λe=>?_⟩;have g:y<l.n:=by grind
 obtain⟨b,o,rfl,d,h6⟩:=h4 jH;refine⟨b,o+y,by rw[J0 b o c y 1 cN,sL],d,λj i=>?_⟩;grind
theorem WQ{k:IntKind}{a:Option Addr}{y:Nat}{l:List Int}(h:eU k w (bX a n c) l)(f:y<=n):eU k w (bX a y c) (l.take y):=by have⟨ao,cap,h1,h2,h3,h4⟩:=h;simp only[lX] at h1;obtain⟨rfl,rfl,rfl⟩:=h1;refine⟨_,_,by rw[lO,vK f],by grind,λx e=>h3 x (lP e),λd=>?_⟩;obtain⟨b,o,rfl,g,h6⟩:=h4 jH;grind
def jM:cV->Nat
 | []=>0
 |b::bs=>b+256*jM bs
def py:cV->cV->cV
 |w::ws,bs=>jM (bs.take w)::py ws (bs.drop w)
 | [],_=> []
def sC(ws bs:cV):Option cV:=if okW ws=cx/\bs.n=sX ws then cu (py ws bs) else cw
theorem WS(l:cV)(b:Nat):jM (l++[b])=jM l+b*256^l.n:=by induction l<;>grind[jM]
theorem LP(l:cV)(h:∀x∈l,x<256):jM l<256^l.n:=by induction l with|nil=>simp[jM]|cons a l ih=>have b:=h a eQ;grind[jM]
theorem ajC(n b q:Nat)(f:n<256^q)(e:b<256)(h:q<8):bits .or ct (n:Int) ((b:Int)*2^(8*q))=((n+b*256^q:Nat):Int):=by
 have g:256^q*256<=256^8:=by rw[<-Nat.pow_succ];exact QQ kM cN
 have a:b*256^q<=255*256^q:=I0 _ cN;have d:(256:Nat)^8=18446744073709551616:=by decide
 rw[Lg,<-Int.natCast_mul,u64_or_nat n (b*256^q) cN cN];have c:=shiftLeft_add_eq_or_of_lt (b:=n) (i:=8*q) (by grind[Nat.pow_mul]) b;grind[shiftLeft_eq,Nat.pow_mul]
theorem af5(n b q:Nat)(e:n<256^q)(d:b<256)(g:q<8):bits .or ct (n:Int) (IntKind.u64.wrap ((b:Int)*2^(8*q)))=((n+b*256^q:Nat):Int):=by
 have f:256^q*256<=256^8:=by rw[<-Nat.pow_succ];exact QQ kM cN
 have a:b*256^q<=255*256^q:=I0 _ cN;have c:(256:Nat)^8=18446744073709551616:=by decide
 have h:IntKind.u64.wrap ((b:Int)*2^(8*q))=(b:Int)*2^(8*q):=by rw[Lg,<-Int.natCast_mul];show(((b*256^q:Nat):Int))%18446744073709551616=_;omega
 grind[ajC]
def KV(w:cS)(base:Nat)(v:c7)(l:cV):Prop:=w.ownsRow base 82 1 v l.n (l.map λ(n:Nat)=>Value.int ct (n:Int))
theorem BK(l:cV)(k:Nat):(dN l).drop k=dN (l.drop k):=by grind[dN,map_drop]
theorem BL{l:cV}(h:∀x∈dN l,(Lit.int .u8 x).wf=cx):∀x∈l,x<256:=by intro x a;have:=h (x:Int) (gT.2 ⟨x,a,ae⟩);grind[Lit.wf,IntKind.max,IntKind.bits]
theorem TE(ws bs:cV)(k:Nat)(h:k<ws.n):py (ws.take (k+1)) bs=py (ws.take k) bs++[jM ((bs.drop (sX (ws.take k))).take ws[k])]:=by induction ws generalizing bs k with|nil=>grind|cons a ws ih=>cases k<;>grind[py,sX,drop_drop]
theorem Ow(ws bs:cV):(py ws bs).n=ws.n:=by induction ws generalizing bs<;>grind[py]
theorem TF(ws:cV)(k:Nat)(h:k<ws.n):sX (ws.take k)+ws[k]<=sX ws:=by rw[<-Ja ws k h];grind[sX,take_append_drop]
def J1(v u:c7)(ws bs:cV)(hl:ws.n<=4096)(w:cS)(hv:eU cq w v (dN ws))(hu:eU .u8 w u (dN bs))(m:yC u):
 CP_ 29 #[v,u] w λe w'=>∃r,e=cj (cg #[r,bU cq (gq 21 (sC ws bs))])/\KV w' w.h.s r ((sC ws bs).getD [])/\dS w w':=by
 have⟨i0,hi,hz0,hz1',hz2⟩:=oH acR;have HV:=cz hv;have HU:=cz hu;obtain⟨ao,cap,rfl,b5,_,b2⟩:=hv;obtain⟨uo,T,rfl,b9,b8,_⟩:=hu;have⟨a',n',c',he,m⟩:=m;simp only[lX] at he;obtain⟨rfl,rfl,rfl⟩:=he;have b1:=BL b8;have c2:=cz b1;clear b1 b8;have HC:=cz b2;clear b2;rw[dA] at b5 b9 HV HU m;have I:Hid (KV w w.h.s (bX cw 0 0) []):=iD w w.h.s 82 1;rw[dA,dA];by_cases g:okW ws=cx
 case neg=>
  have C:okW ws=cy:=by simpa using g
  have hp:sC ws bs=cw:=by unfold sC;rw[cX (by rw[C];simp)]
  have R:yB ws=0:=by unfold yB;rw[C];rfl
  rw[hp];have E:=cz C;clear g C hp;have HR:=cz R;clear R;go_enter func29,ntmps29;go_wp2_with fail;refine(Jb _ ws hl _ HV.o).mono ?_;rw[E.o,HR.o];rintro e w1 ⟨rfl,rfl⟩;go_wp2;refine iI (v:=cg #[bX cw 0 0,bU cq 21]) (by simp[results,results29,go_sem]) ae ⟨_,ae,I.o,gK _ _⟩
 have R:yB ws=(sX ws:Nat):=by unfold yB;rw[g];rfl
 have b7:=Q5 ws g;have⟨Z,hZ⟩:=dG (sX ws);rw[hZ] at R b7;by_cases f:bs.n=Z
 case neg=>
  have hp:sC ws bs=cw:=by unfold sC;rw[cX (λh=>f (h.2.trans hZ))]
  rw[hp];have d9:((bs.n:Int)!=(Z:Int))=cx:=by rw[fK];omega
  have E:=cz g;clear g hp f hZ;have HR:=cz R;clear R;go_enter func29,ntmps29;go_wp2_with fail;refine(Jb _ ws hl _ HV.o).mono ?_;rw[E.o,HR.o];rintro e w1 ⟨rfl,rfl⟩;go_wp2;refine iI (v:=cg #[bX cw 0 0,bU cq 21]) (by simp[results,results29,go_sem]) ae ⟨_,ae,I.o,gK _ _⟩
 have d9:((bs.n:Int)!=(Z:Int))=cy:=by rw[vL];omega
 have⟨PS,hPS⟩:=dG (sC ws bs);rw[hPS];have hP:PS=cu (py ws bs):=by rw[<-hPS];unfold sC;rw[c8 ⟨g,f.trans hZ.symm⟩]
 have HP:=cz hP;clear hP hPS;have HZ:=cz hZ;clear hZ;have E:=cz g;clear g;have HR:=cz R;clear R;have c5:=cz f;clear f;go_enter func29,ntmps29;go_wp2_with fail;refine(Jb _ ws hl _ HV.o).mono ?_;rw[E.o,HR.o];rintro e w1 ⟨rfl,rfl⟩;go_wp2_with (refine LO (o:=⟨cu 28,_,_,_,_,_⟩) _ ae _ _ 78 ae w.h.s 82 i0 (bU ct 0) 1 vU hi hz0 hz1' cq cq _ ws.n ae ae ae amh aK (eN _) ?_;intro w2 N t);have a8:dS w w2:=(gK _ _).grown t (eN _) (λk e=>by cases e);have J:Hid (KV w2 w.h.s (bX (s_ w.h.s 0) 0 ws.n) (py (ws.take 0) bs)):=N;have a5:Hid (eU .u8 w (bX uo bs.n T) (dN (bs.drop (sX (ws.take 0))))):=HU.o;clear t N
 go_loopw [1,8,31] (λu v i wr=>∃(k s n c:Nat)(a:Option Addr),k<=ws.n/\i=bU cq k/\u=bX a n c/\n<=c/\n+s=bs.n/\Hid (s=sX (ws.take k))/\Hid (eU .u8 w (bX a n c) (dN (bs.drop s)))/\Hid (KV wr w.h.s v (py (ws.take k) bs))/\dS w wr)
  (λ_ _ i _=>ws.n-(intOf i).m)
 exact⟨0,0,bs.n,T,uo,gG _,ae,ae,m,cN,by simp[Hid,sX],a5,J,a8⟩;clear J a8 a5;obtain⟨k,s,n,c,a,hk,rfl,rfl,d8,f2,HS,X,U,hbel⟩:=hrel;by_cases L:k<ws.n
 . (obtain⟨b,o,rfl,d4,K⟩:=HC.o amc;have hc:=(hbel.cell (p:=⟨b,o+k,cw⟩) d4).trans (K k (by rw[dA];exact L));rw[tt] at hc;clear K;have b6:=Q4 E.o L;have e1:=TF ws k L;have G:=cz (TE ws bs k L);have V:=cz (Ja ws k L);have⟨y,hy⟩:=dG (ws[k]);rw[hy,<-HS.o,HZ.o,<-c5.o] at e1;rw[hy] at hc b6 G V;clear hy;rw[<-HS.o] at G V;have e2:y<=n:=cN;have⟨B,HBB⟩:=sV (bs.drop s);have a7:B.n=n:=by rw[<-HBB.o,uf];omega);(have F:Hid (∀x∈B,x<256):=by unfold Hid;rw[<-HBB.o];exact λx hx=>c2.o x (mR hx));rw[HBB.o] at X G;have a4:=cz a7;clear a7;obtain⟨e9,e4,b4,-,-,d3⟩:=X.o.cP hbel;simp only[lX] at b4;obtain⟨d5,-,-⟩:=b4;subst d5;obtain⟨ub,c1,rfl,e8,D⟩:=d3 (by intro h;rw[<-Dd,dA,a4.o] at h;omega);have c4:=cz D;clear D;have e5:(k:Int)<(ws.n:Int):=cN;go_wp2_with fail;go_loop [11,36] (λv j=>∃(q z:Nat),q<=y/\j=bU cq q/\v=bU ct z/\Hid (z=jM (B.take q))) (λ_ j=>y-(intOf j).m);exact⟨0,0,gG _,ae,ae,by simp[Hid,jM]⟩;obtain⟨q,z,hq,rfl,rfl,Y⟩:=hrel;by_cases f4:q<y
   . (have a2:q<B.n:=by have:=a4.o;omega);(have b3:=c4.o q (by rw[dA];exact a2);rw[tt] at b3;have hd:=F.o _ (mP a2);have e3:z<256^q:=by have h1:=LP (B.take q) (λx hx=>F.o x (lP hx));rw[lO,vK cN,<-Y.o] at h1;exact h1);(have a1:=af5 z B[q] q e3 hd cN;have a3:jM (B.take (q+1))=z+B[q]*256^q:=by rw[yl a2,WS,<-Y.o,lO,vK cN]);have⟨d,hdd⟩:=dG (B[q]);rw[hdd] at b3 hd a1 a3;have d2:=cz a3;clear a3 hdd;have c9:=cz a1;clear a1;have e6:(q:Int)<(y:Int):=cN;have h8:(8:Int)*(q:Int)<=64:=cN;have f1:(0:Int)<=8*(q:Int):=cN;go_wp2;go_round;exact⟨q+1,z+d*256^q,cN,by go_num,by rw[c9.o],d2.o.symm⟩;exact qN
   . (obtain rfl:q=y:=cN;have d6:¬(q:Int)<(q:Int):=cN;have l:=U.o;unfold KV at l;have d7:(py (ws.take k) bs).n=k:=by rw[Ow,lO,vK cN]);have⟨M,HM⟩:=sV (py (ws.take k) bs);rw[HM.o] at l d7 G;clear U;have c6:=cz l.lt;have f6:=hbel.size;have Q:=cz (BJ X.o e2 d8);rw[Q6] at Q;have f5:(q:Int)<=(n:Int):=cN;have f3:(0:Int)<=(q:Int):=cN;go_wp2_with (at_builtin;refine yy _ ae (.tmp 50) (.tmp 52) 78 ae w.h.s 82 i0 (bU ct 0) 1 8 vU hi hz0 hz1' hz2 ae kM _ _ _ ae (l.alloc _) ⟨wr.h.s,0,cw⟩ 1 1 [bU ct (z:Int)] ae ae (cell_one_new _ _ _) bh aK cN aF ?_;intro v' w3 O A _);(have a9:=(hbel.alloc cN (.cells #[bU ct (z:Int)] 82)).grown A aF (λk h=>(c6.o k h).1);have e7:=a9.s;have H:Hid (KV w3 w.h.s v' (py (ws.take (k+1)) bs)):=by unfold Hid KV;rw[G.o,<-Y.o,jv,nM];exact O);(have a6:Hid (eU .u8 w (bX (if c=q then cu ⟨ub,c1,cw⟩ else cu ⟨ub,c1+q,cw⟩) (n-q) (c-q)) (dN (bs.drop (s+q)))):=by have h:=Q.o;rw[BK,<-HBB.o,drop_drop] at h;exact h);(have d1:Hid (s+q=sX (ws.take (k+1))):=by unfold Hid;rw[V.o]);clear O A l;go_roundw;exact⟨k+1,s+q,n-q,c-q,_,cN,by go_num,ae,cN,by omega,d1,a6,H,a9⟩;exact qN
 . (obtain rfl:k=ws.n:=cN;have d6:¬(ws.n:Int)<(ws.n:Int):=cN;have H:Hid (KV wr w.h.s u8 (PS.getD [])):=by unfold Hid;rw[HP.o];have:=U.o;rw[qp] at this;exact this);(have c3:Hid (gq 21 PS=0):=by unfold Hid;rw[HP.o];rfl);go_wp2;refine iI (v:=cg #[u8,bU cq 0]) (by simp[results,results29,go_sem]) ae ⟨_,by rw[c3.o],H.o,hbel⟩
theorem WT(a b:Nat)(c:a<4611686018427387904)(d:b<4611686018427387904):bits .or .i64 (a:Int) (b:Int)=((a|||b:Nat):Int):=by
 have e:a|||b<2^62:=or_lt_two_pow cN cN;show IntKind.i64.wrap ((BitVec.ofInt 64 (a:Int)|||BitVec.ofInt 64 (b:Int)).toNat:Int)=_
 grind[IntWalk.i64_in]
theorem aib(a b:Nat)(d:a<256)(e:b<256):bits .or cq (a:Int) ((b:Int)*256)=((a+256*b:Nat):Int):=by have h:=WT a (b*256) cN cN;rw[show((b*256:Nat):Int)=(b:Int)*256 from by omega] at h;rw[h];have c:=shiftLeft_add_eq_or_of_lt (b:=a) (i:=8) cN b;rw[shiftLeft_eq,show(2:Nat)^8=256 from ae] at c;grind
def Pz(u:c7)(bs:cV)(d:bs.n<2)(w:cS)(b:eU .u8 w u (dN bs)):
 CP_ 71 #[u] w λe w'=>e=cj (cg #[bU cq 0,bX cw 0 0,bZ cy])/\w=w':=by obtain⟨f,a,rfl,-,-,-⟩:=b;rw[dA];have c:(bs.n:Int)<2:=cN;go_enter func71,ntmps71;go_wp2;refine iI (v:=cg #[bU cq 0,bX cw 0 0,bZ cy]) (by simp[results,results71,go_sem]) ae ⟨ae,ae⟩
def LQ(u:c7)(a b:Nat)(bs:cV)(q w:cS)(A:dS q w)(j:eU .u8 q u (dN (a::b::bs)))(c:yC u):
 CP_ 71 #[u] w λe w'=>∃v,e=cj (cg #[bU cq ((a+256*b:Nat):Int),v,bZ cx])/\eU .u8 q v (dN bs)/\yC v/\dS w w':=by
 have p:=cz j;have E:=j.cP A;clear j A;obtain⟨J,g,rfl,-,x,hc⟩:=E;obtain⟨F,I,G,t,c⟩:=c;simp only[lX] at t;obtain⟨rfl,rfl,rfl⟩:=t;have i:=BL x;have C:=i a eQ;have D:=i b eQ;clear i x;obtain⟨ub,m,rfl,z,d⟩:=hc (by simp[dN]);have r:=d 0 (by rw[dA];simp);have s:=d 1 (by rw[dA];simp);rw[tt] at r s;simp only[getElem_cons_zero,getElem_cons_succ,xK] at r s;clear d hc;rw[dA] at p c|-;have f:(a::b::bs).n=bs.n+2:=rfl;rw[f] at p c|-;clear f;have n:=cz (BJ p.o (y:=2) cN c);rw[Q6] at n;have H:¬((bs.n:Int)+2<2):=cN;have l:=aib a b C D;have o:=cz l;clear l;go_enter func71,ntmps71
 go_wp2_with fail
 go_quiet (fail)
 rw[o.o];obtain⟨B,k⟩:=dG ((if g=2 then cu ⟨ub,m,cw⟩ else cu ⟨ub,m+2,cw⟩:Option Addr));rw[k] at n|-;clear k;go_wp2;refine iI (v:=cg #[bU cq ((a+256*b:Nat):Int),bX B bs.n (g-2),bZ cx]) (by simp[results,results71,go_sem]) ae ⟨_,ae,?_,⟨_,_,_,ae,cN⟩,?_⟩
 . have h:=n.o;rw[BK] at h;exact h
 . exact below_drewN (gK _ _) _
def acW:(prog.info? 22).map (λi=>(i.zero,i.s,i.bytes))=cu (cu (.slice cw 0 0),1,24):=dC
def KW(w:cS)(base:Nat)(v:c7)(ts:List cV):Prop:=
 ∃vs:List c7,vs.n=ts.n/\w.ownsRow base 22 1 v ts.n vs/\∀k(h:k<vs.n)(a:k<ts.n),mN w base vs[k] ts[k]/\ts[k].n<=65535
def Dk(w:cS)(base:Nat):KW w base (bX cw 0 0) []:=⟨[],ae,iD w base 22 1,λk h=>absurd h (vz _)⟩
theorem LR{w w':cS}{base:Nat}{v:c7}{l:cV}(h:mN w base v l)(a:dS w w'):mN w' base v l:=l9 h a
def aat{l:cV}(h:mN w base v l)(a:base'<=base):mN w base' v l:=
 ⟨h.1,h.2.imp id λ⟨g,cap,cur,h1,h2,r⟩=>⟨g,cap,cur,h1,ik a h2,r⟩⟩
theorem F4(h:KW w base v ts)(a:dS w w'):KW w' base v ts:=by grind[l9,LR,KW]
theorem aau{t:cV}(c:vs.n=ts.n)(d:w.ownsRow base 22 1 v ts.n vs)(g:∀k(h:k<vs.n)(f:k<ts.n),mN w base vs[k] ts[k]/\ts[k].n<=65535)(n:mN w base x t)(m:t.n<=65535)(e:w.grownBy w' v.ownBlock)(j:w'.ownsRow base 22 1 v' (ts.n+1) (vs++[x])):KW w' base v' (ts++[t]):=by have i:∀{y:c7}{l:cV},mN w base y l->mN w' base y l:=fun {y l} hy=>World.ownsRow.kept hy e (F2 kM hy d);refine⟨vs++[x],by simp[c],by grind,λk a b=>?_⟩;grind
def EZ:cV->Option (cV×cV)
 |a::b::r=>if a+256*b<=r.n then cu (r.take (a+256*b),r.drop (a+256*b)) else cw
 |_=>cw
def qB:Nat->cV->Option (List cV×cV)
 |0,r=>cu ([],r)
 |k+1,r=>match qB k r with
  |some (ts,q)=>match EZ q with
   |some (t,q')=>cu (ts++[t],q')
   |none=>cw
  |none=>cw
def vV:cV->Option (List cV)
 |a::b::r=>match qB (a+256*b) r with
  |some (ts,[])=>cu ts
  |_=>cw
 |_=>cw
theorem TG(h:qB k r=cw)(a:k<=m):qB m r=cw:=by induction m with|zero=>grind|succ m ih=>grind[qB]
theorem WU(h:qB k r=cu (ts,q)):ts.n=k/\q.n<=r.n:=by
 induction k generalizing ts q with
 |zero=>unfold qB at h;grind
 |succ k ih=>
  unfold qB at h;split at h;next ts' q' h'=>split at h;(next t q2 ht=>cases h;have:=ih h';refine⟨by grind,?_⟩;unfold EZ at ht;grind);cases h
  cases h
theorem WX(n:Nat):madeCells (Value.int .u8 0).cells n=(replicate n (bU .u8 0:c7)).toArray:=by apply yg;intro j;by_cases h:j<n<;>simp[madeCells,Value.cells,mod_one,h]
theorem WY(n:Nat)(a:n<=281474976710656)(W:cS):(Instr.makeSlice 22 (bU cq n) (bU cq n)).run prog W=.ok (bX (cu ⟨W.h.s,0,cw⟩) n n) (W.alloc (.cells (replicate n (bU .u8 0:c7)).toArray 5)):=by have⟨i0,hi,hz0,hz1,hz2⟩:=oH Le;rw[run_make W 22 5 i0 (bU .u8 0) oS hi hz0 cq cq (n:Nat) (n:Nat) cN cN jH cN,hz1];simp_all[WX]
theorem TH{l:cV}(b:w.h[g]?=cu (.cells cs.toArray 5 (0,0)))(a:base<=g)(hc:cs=l.map λ(x:Nat)=>Value.int .u8 (x:Int))(c:l.n=n)(d:n<=9223372036854775807):mN w base (bX (cu ⟨g,0,cw⟩) n n) l:=by subst c hc;refine⟨by simp,.inr ⟨g,_,_,ae,a,b,eN _,by grind[maxLen],by simp,by simp_all[nV]⟩⟩
def Y5(o:Oper)(h:wpList P ops Q (o::rest) a w):wpList P ops Q (o::rest) a w:=h
def Cw:(prog.info? 5).map (·.size)=cu 1:=dC
def eo(l:cV):List c7:=l.map λ(x:Nat)=>Value.int .u8 (x:Int)
def F5(l:cV):∀v∈eo l,v.oneCell'=cx:=by intro v a;obtain⟨x,_,rfl⟩:=gT.1 a;rfl
theorem PD{a:Option Addr}(i:dS w w')(h:dN r≠ []->∃b o,a=cu ⟨b,o,cw⟩/\b<w.h.s/\∀k(h:k<(dN r).n),w.cell? ⟨b,o+k,cw⟩=cu (.int .u8 (dN r)[k]))(d:0<(eo (r.take n)).n):∃ad,a=cu ad/\∀j v,(eo (r.take n))[j]?=cu v->w'.cell? (ad.add j)=cu v:=by
 unfold eo at d;rw[mQ,lO] at d;obtain⟨b,o,rfl,f,g⟩:=h (by grind[dA]);refine⟨_,ae,λj v c=>?_⟩;unfold eo at c;rw[rK] at c;obtain⟨x,l,rfl⟩:=Ad.1 c;have⟨hjl,hxe⟩:=oF.1 l;rw[lO] at hjl;have hc:=g j (by grind[dA]);rw[tt] at hc;rw[getElem_take] at hxe;rw[hxe] at hc;have e:(⟨b,o,cw⟩:Addr).add j=⟨b,o+j,cw⟩:=by grind[Addr.add]
 rw[e];exact(i.cell (p:=⟨b,o+j,cw⟩) f).trans hc
theorem TJ(h:q.n<2):EZ q=cw:=by unfold EZ;grind
theorem PF(u:c7)(bs:cV)(L:bs.n<=140737488355328)(w:cS)(I:eU .u8 w u (dN bs))(G:yC u):
 CP_ 28 #[u] w λe w'=>∃r,e=cj (cg #[r,bU cq (gq 21 (vV bs))])/\KW w' w.h.s r ((vV bs).getD [])/\dS w w':=by
 have⟨i0,hi,hz0,hz1',hz2⟩:=oH acW;have N:=cz I;have F:Hid (KW w w.h.s (bX cw 0 0) []):=Dk w w.h.s;by_cases c:bs.n<2
 . (have H:vV bs=cw:=by unfold vV;split;simp at c;omega;rfl);rw[H];have hc:gq 21 (cw:Option (List cV))=21:=rfl;rw[hc];obtain⟨O,H,rfl,-,-,-⟩:=I;go_enter func28,ntmps28;go_wp2_with fail;refine(Pz _ bs c _ N.o).mono ?_;rintro e w1 ⟨rfl,rfl⟩;go_wp2;refine iI (v:=cg #[bX cw 0 0,bU cq 21]) (by simp[results,results28,go_sem]) ae ⟨_,ae,F.o,gK _ _⟩
 obtain⟨a,b,R,rfl⟩:∃a b R,bs=a::b::R:=by
  match bs,c with
  | [],h=>simp at h
  | [_],h=>simp at h
  |a::b::R,_=>exact⟨a,b,R,ae⟩
 have F:=BL (l:=a::b::R) (by obtain⟨_,_,_,_,h,_⟩:=I;exact h);have U:=F a eQ;have U:=F b eQ;have F:R.n<=140737488355328:=by simp at L;omega
 have⟨M,hM⟩:=dG (a+256*b);have F:M<=65535:=cN;have⟨PS,hPS⟩:=dG (vV (a::b::R));have F:PS=(match qB M R with|some (ts,[])=>cu ts|_=>cw):=by rw[<-hPS,<-hM];rfl
 rw[hPS];have L:=cz F;clear F;have F:=cz hM;clear hM;obtain⟨O,H,rfl,-,-,-⟩:=I;go_enter func28,ntmps28;go_wp2_with fail;refine(LQ _ a b R w _ (gK _ _) N.o G).mono ?_;rw[F.o];rintro e w1 ⟨F,rfl,G,F,I⟩;have H:=cz G;clear G;have G:=cz F;clear F;have F:Hid (KW w1 w.h.s (bX cw 0 0) []):=Dk w1 w.h.s;go_wp2_with fail
 go_loopw [0,6,20] (λs v i wr=>∃(k:Nat)(ts:List cV)(q:cV),k<=M/\i=bU cq k/\Hid (qB k R=cu (ts,q))/\Hid (eU .u8 w s (dN q))/\Hid (yC s)/\Hid (KW wr w.h.s v ts)/\dS w wr)
  (λ_ _ i _=>M-(intOf i).m)
 exact⟨0,[],R,gG _,ae,ae,H,G,F,I⟩;obtain⟨k,ts,q,F,rfl,t,HQ,H,HT,hbel⟩:=hrel;have⟨htl,hql⟩:=WU t.o;have I:=hbel.size;by_cases F:k<M
 . (have F:(k:Int)<(M:Int):=cN;have o:Hid (EZ q=cw->PS=cw):=by intro h;rw[L.o,TG (k:=k+1) (by unfold qB;rw[t.o];simp only;rw[h]) cN]);by_cases U:q.n<2
   . have A:PS=cw:=o.o (TJ U);have p:=cz A;clear A;go_wp2_with fail;refine(Pz _ q U _ (HQ.o.cP hbel)).mono ?_;rintro e m ⟨rfl,rfl⟩;go_wp2;refine iI (v:=cg #[bX cw 0 0,bU cq 21]) (by simp[results,results28,go_sem]) ae ⟨_,by rw[p.o];rfl,by rw[p.o];exact Dk _ _,hbel⟩
   obtain⟨x,y,r,rfl⟩:∃x y r,q=x::y::r:=by
    match q,U with
    | [],h=>simp at h
    | [_],h=>simp at h
    |x::y::r,_=>exact⟨x,y,r,ae⟩
   (have F:=BL (l:=x::y::r) (by obtain⟨_,_,_,_,h,_⟩:=HQ.o;exact h);have G:=F x eQ;have G:=F y eQ;have F:r.n<=R.n:=by simp at hql;omega);(have⟨n,hn⟩:=dG (x+256*y);have F:n<=65535:=cN;have G:EZ (x::y::r)=if n<=r.n then cu (r.take n,r.drop n) else cw:=by rw[<-hn];rfl);have N:=cz hn;clear hn;have F:=cz G;clear G;go_wp2_with fail;refine(LQ _ x y r w _ hbel HQ.o H.o).mono ?_;rw[N.o];rintro e m ⟨G,rfl,V,H,G⟩;have g:=Below.step hbel I G;have U:=cz (F4 HT.o G);have G:=V;obtain⟨vo,vc,rfl,-,-,I⟩:=G;have G:=cz I;clear I;have a6:=cz V;clear V;obtain⟨_,_,_,I,z⟩:=H;simp only[lX] at I;obtain⟨rfl,rfl,rfl⟩:=I;rw[dA r] at a6 z|-;by_cases H:r.n<n
   . have A:PS=cw:=o.o (by rw[F.o,cX cN]);have p:=cz A;clear A;have d:(r.n:Int)<(n:Int):=cN;have D:decide ((r.n:Int)<(n:Int))=cx:=gI d;go_wp2;refine iI (v:=cg #[bX cw 0 0,bU cq 21]) (by simp[results,results28,go_sem]) ae ⟨_,by rw[p.o];rfl,by rw[p.o];exact Dk _ _,g⟩
   (have d:¬(r.n:Int)<(n:Int):=cN;have D:decide ((r.n:Int)<(n:Int))=cy:=jC d;have H:Hid (qB (k+1) R=cu (ts++[r.take n],r.drop n)):=by unfold Hid qB;rw[t.o];simp only;rw[F.o,c8 cN]);(have F:=WY n cN;have⟨Zs,hZs⟩:=fU (replicate n (bU .u8 0:c7));have V:Zs.n=n:=by rw[hZs];simp);(rw[<-hZs] at F;have F:=cz hZs;clear hZs;have⟨W1,hW1⟩:=fU (m.alloc (.cells Zs.toArray 5));have X:W1.h[m.h.s]?=cu (.cells Zs.toArray 5 (0,0)):=by rw[hW1];exact AA _ _);(have b4:dS m W1:=by rw[hW1];exact aQ);(have E:=hW1.symm;have R:=cz E;clear E;have⟨cs,hcs⟩:=fU (eo (r.take n));have O:cs.n=n:=by rw[hcs];unfold eo;rw[mQ,lO,vK cN]);(have K:0<cs.n->∃ad,vo=cu ad/\∀j v,cs[j]?=cu v->W1.cell? (ad.add j)=cu v:=by intro h;rw[hcs] at h|-;exact PD (g.trans (b4.mono g.s)) G.o h);(have I:∀v∈cs,v.oneCell'=cx:=by rw[hcs];exact F5 _);(have G:cs.n=Nat.min r.n n:=by rw[O];exact(Nat.min_eq_right cN).symm);have N:=cz K;clear K;have H:=cz I;clear I;have F:=cz G;clear G;have Z:=cz X;clear X;have d5:=cz hcs;clear hcs;have Y:=cz O;clear O;have G:=cz V;clear V;have X:=aia vo r.n vc n cN;have C:=BJ a6.o (y:=n) cN z;have⟨DA,hDA⟩:=dG (lz vo vc n 1);rw[hDA] at X C;rw[BK] at C;have e6:=cz X;clear X;have I:=cz C;clear C;have e9:r.n-n<=vc-n:=cN;go_upto_region 12 with((with_reducible refine Y5 ⟨cu 40,.call {callee:=.builtin .copy,args:=#[.tmp 38,.tmp 39],argTypes:=#[22,22]},_,_,_,cw⟩ ?_);rw[R.o];refine wpList_copy_splice ae (.tmp 38) (.tmp 39) 22 22 ae 5 oS Cw (cu ⟨m.h.s,0,cw⟩) vo n n r.n vc ae ae m.h.s 0 Zs 5 Z.o cs F.o (λh=>⟨ae,N.o h⟩) (by rw[Y.o,G.o];omega) H.o m.h.s m b4 (eN _) ?_;intro w4 I N);(have J:splice Zs 0 cs=cs:=by unfold splice;rw[take_zero,pL,pM,Y.o,<-G.o,drop_length,wV]);(have O:w4.h[m.h.s]?=cu (.cells cs.toArray 5 (0,0)):=by have:=I.o;rw[J] at this;exact this);have V:mN w4 w.h.s (bX (cu ⟨m.h.s,0,cw⟩) n n) (r.take n):=TH O g.s d5.o (by rw[lO,vK cN]) cN;have F:=Below.step g g.s N;have B:dS w4 (w4.alloc (.cells #[bX (cu ⟨m.h.s,0,cw⟩) n n] 22)):=(gK _ _).alloc (eN _) _;have H:=LR V B;have⟨vs,hvl,hvo2,hvk⟩:=F4 (F4 U.o N) B;have G:=Below.step F F.s B;have F:=G.s;have X:=cz hvo2.lt;have e4:=cz hvk;clear hvk;have e5:=cz hvl;clear hvl;have Y:=cz H;clear H;clear O V I J B N U Z R;have H:ts.n<=65535:=cN;have H:=e6.o;go_wp2_with (at_builtin;refine yy _ ae (.tmp 41) (.tmp 43) 75 ae w.h.s 22 i0 (bX cw 0 0) 1 24 underlying75 hi hz0 hz1' hz2 ae bB _ _ _ ae hvo2 ⟨w4.h.s,0,cw⟩ 1 1 [bX (cu ⟨m.h.s,0,cw⟩) n n] ae ae (cell_one_new _ _ _) bh aK cN F ?_;intro v' w5 Q f _);have H:=G.grown f F (λk h=>(X.o k h).1);have F:Hid (KW w5 w.h.s v' (ts++[r.take n])):=aau e5.o hvo2 e4.o Y.o bp f Q;have F:Hid (yC (bX DA (r.n-n) (vc-n))):=⟨_,_,_,ae,e9⟩;go_roundw;grind;simp[intOf];omega
 . obtain rfl:k=M:=cN;have F:¬(k:Int)<(k:Int):=cN;obtain⟨F,F,rfl,-,-,-⟩:=HQ.o;rw[dA q];by_cases T:q=[]
   . (have A:PS=cu ts:=by rw[L.o,t.o,T]);(have p:=cz A;clear A;have F:(q.n:Int)=0:=by rw[T];rfl);have F:¬(0:Int)<(q.n:Int):=cN;go_wp2;refine iI (v:=cg #[u6,bU cq 0]) (by simp[results,results28,go_sem]) ae ⟨_,by rw[p.o];rfl,by rw[p.o];exact HT.o,hbel⟩
   . (have A:PS=cw:=by rw[L.o,t.o];grind);(have p:=cz A;clear A;have F:(0:Int)<(q.n:Int):=by have:=Bw.2 T;omega);go_wp2;refine iI (v:=cg #[bX cw 0 0,bU cq 21]) (by simp[results,results28,go_sem]) ae ⟨_,by rw[p.o];rfl,by rw[p.o];exact Dk _ _,hbel⟩
def xR(v:c7):Prop:=v=bX cw 0 0∨∃a n c,v=bX (cu a) n c/\n<=c
def uP(h:w.ownsRow base e size v n xs):xR v:=by rcases h.2 with⟨rfl,b⟩|⟨g,cap,a,rfl,c,d,f,hc,i,j⟩;exact .inl ae;exact .inr ⟨_,_,_,ae,cN⟩
def Ek(w:cS)(v:c7)(ts:List cV):Prop:=
 ∃(ao:Option Addr)(cap:Nat)(vs:List c7),v=bX ao ts.n cap/\vs.n=ts.n/\ts.n<=cap/\(∀k(h:k<vs.n)(a:k<ts.n),eU .u8 w vs[k] (dN ts[k])/\xR vs[k])/\
  (ts≠ []->∃b o,ao=cu ⟨b,o,cw⟩/\b<w.h.s/\∀k(h:k<vs.n),w.cell? ⟨b,o+k,cw⟩=cu vs[k])
theorem WZ{l:cV}(h:mN w base v l)(c:l.n<=9223372036854775807)(b:∀x∈l,x<256):eU .u8 w v (dN l):=by unfold mN at h;refine qW (e:=5) (base:=base) (l:=dN l) ?_ ?_ ?_;rw[dA];unfold dN;rw[wU];exact h;intro x a;obtain⟨y,d,rfl⟩:=gT.1 a;grind[WalkArith.wf_u8];grind[dA]
def cell_two_new(w:cS)(x y:c7)(t:dW):∀j u,[x,y][j]?=cu u->(w.alloc (.cells #[x,y] t)).cell? ((⟨w.h.s,0,cw⟩:Addr).add j)=cu u:=by
 intro j u a
 match j,a with
 |0,a=>rw[<-a];exact aY
 |1,a=>rw[<-a];exact aY
def vw(n:Nat):cV:=[n%256,n/256]
def uQ(t:cV):cV:=vw t.n++t
def ui(ts:List cV):Option cV:=if ts.n<=65535/\ts.all (λt=>decide (t.n<=65535))=cx then cu (vw ts.n++ts.flatMap uQ) else cw
def szT(ts:List cV):Nat:=(ts.map λt=>2+t.n).sum
theorem acX(ts:List cV)(k:Nat)(h:k<ts.n):szT (ts.take (k+1))=szT (ts.take k)+(2+ts[k].n):=by grind[szT,take_succ_eq_append_getElem]
theorem aav(ts:List cV)(k:Nat)(h:k<ts.n):(ts.take (k+1)).flatMap uQ=(ts.take k).flatMap uQ++uQ ts[k]:=by grind[take_succ_eq_append_getElem]
theorem TL(ts:List cV):(ts.flatMap uQ).n=szT ts:=by induction ts<;>grind[szT,uQ,vw]
theorem acY(ts:List cV)(k:Nat):szT (ts.take k)<=szT ts:=by grind[szT,take_append_drop]
def Xa(h:¬ts.n<=65535):ui ts=cw:=cX λx=>h x.1
theorem aaw(a:k<ts.n)(h:¬ts[k].n<=65535):ui ts=cw:=by refine cX λx=>h ?_;grind
theorem acZ(h:ts.n<=65535)(b:∀k(a:k<ts.n),ts[k].n<=65535):ui ts=cu (vw ts.n++ts.flatMap uQ):=by refine c8 ⟨h,?_⟩;rw[rJ];intro t c;obtain⟨k,a,rfl⟩:=xz.1 c;grind
theorem Xb{T:cV}(h:eU .u8 w (bX (cu ad) n c) (dN T))(f:dS w w'):∀j v,(eo T)[j]?=cu v->w'.cell? (ad.add j)=cu v:=by
 obtain⟨ao,cap,d,_,_,hc⟩:=h;simp only[lX] at d;obtain⟨g,_,_⟩:=d;intro j v m;have i:(eo (T.take T.n))[j]?=cu v:=by grind
 have b:0<(eo (T.take T.n)).n:=by grind
 obtain⟨e,k,l⟩:=PD (a:=cu ad) f jH b;grind
def TM(v:c7)(ts:List cV)(F:ts.n<=9223372036854775807)(F:∀k(h:k<ts.n),ts[k].n<=9223372036854775807)(w:cS)(L:Ek w v ts):
 CP_ 75 #[v] w λe w'=>∃r,e=cj (cg #[r,bU cq (gq 21 (ui ts))])/\mN w' w.h.s r ((ui ts).getD [])/\dS w w':=by
 have⟨i0,hi,hz0,hz1',hz2⟩:=oH Le;obtain⟨ao,cap,vs,rfl,I,_,H,G⟩:=L;have X:=cz I;clear I;have V:=cz H;clear H;have H:=cz G;clear G;have N:=cz F;clear F;have F:Hid (mN w w.h.s (bX cw 0 0) []):=iD w w.h.s 5 1;by_cases q:¬ts.n<=65535
 . have R:=Xa q;rw[R];have M:(65535:Int)<(ts.n:Int):=cN;clear R q;go_enter func75,ntmps75;go_wp2;refine iI (v:=cg #[bX cw 0 0,bU cq 21]) (by simp[results,results75,go_sem]) ae ⟨_,ae,F.o,gK _ _⟩
 have U:ts.n<=65535:=cN;have M:¬(65535:Int)<(ts.n:Int):=cN;clear q;have⟨PS,HPS⟩:=sV (ui ts);rw[HPS.o];go_enter func75,ntmps75;go_wp2_with fail
 go_loop [4,6,15] (λs _ i=>∃(k z:Nat),k<=ts.n/\i=bU cq k/\s=bU cq z/\z<=2+65537*k/\Hid (z=2+szT (ts.take k))/\Hid (∀j(h:j<ts.n),j<k->ts[j].n<=65535))
  (λ_ _ i=>ts.n-(intOf i).m)
 exact⟨0,2,gG _,ae,ae,cN,by simp[Hid,szT],λj _ h=>absurd h (vz _)⟩;obtain⟨k,z,hk,rfl,rfl,G,HZ,Z⟩:=hrel;by_cases c:k<ts.n
 . (have I:k<vs.n:=by have:=X.o;omega);obtain⟨b,o,rfl,Y,f⟩:=H.o an2;have hc:=f k I;obtain⟨D,_⟩:=V.o k I c;obtain⟨ta,tc,E,-,-,-⟩:=D;rw[E,dA] at hc;clear f E;have G:=cz (acX ts k c);have L:=N.o k c;have Q:=λh=>aaw (ts:=ts) (k:=k) c h;have O:=cz Q;clear Q;have⟨n,HN⟩:=sV (ts[k].n);rw[HN.o] at hc G L O;have b4:(k:Int)<(ts.n:Int):=cN;by_cases N:n<=65535
   . (have d3:¬(65535:Int)<(n:Int):=cN;have c6:Hid (z+(2+n)=2+szT (ts.take (k+1))):=by unfold Hid;rw[G.o,HZ.o];omega);(have L:Hid (∀j(h:j<ts.n),j<k+1->ts[j].n<=65535):=by intro j h hj;by_cases d1:j=k;subst d1;rw[HN.o];exact N;exact Z.o j h cN);go_wp2;go_round;exact⟨k+1,z+(2+n),cN,by go_num,by go_num,cN,c6,L⟩;exact qN
   . have d3:(65535:Int)<(n:Int):=cN;have R:PS=cw:=HPS.o.symm.trans (O.o cN);have O:=cz R;clear R;go_wp2;refine iI (v:=cg #[bX cw 0 0,bU cq 21]) (by simp[results,results75,go_sem]) ae ⟨_,by rw[O.o];rfl,by rw[O.o];exact F.o,gK _ _⟩
 . (obtain rfl:k=ts.n:=cN;have c9:¬(ts.n:Int)<(ts.n:Int):=cN;have R:PS=cu (vw ts.n++ts.flatMap uQ):=HPS.o.symm.trans (acZ U (λj hj=>Z.o j hj hj));have O:=cz R;clear R;have L:Hid (z=2+szT ts):=by have:=HZ.o;rw[qp] at this;exact this);clear HZ;have F:z<=4294967298:=cN;go_upto_region 12 with(refine LO (o:=⟨cu 29,_,_,_,_,_⟩) _ ae _ _ 22 ae w.h.s 5 i0 (bU .u8 0) 1 oS hi hz0 hz1' cq cq _ z ae ae ae amh aK (eN _) ?_;intro w2 t x);have F:dS w w2:=(gK _ _).grown x (eN _) (λk e=>by cases e);clear x;have U:=F.s;have K:=cz t.lt;have C:=t.alloc (.cells #[bU .u8 ((ts.n:Int)%256),bU .u8 ((ts.n:Int)/256)] 5);go_upto_region 13 with(at_builtin;refine yy _ ae (.tmp 30) (.tmp 38) 22 ae w.h.s 5 i0 (bU .u8 0) 1 1 oS hi hz0 hz1' hz2 ae kM _ _ _ ae C ⟨w2.h.s,0,cw⟩ 2 2 [bU .u8 ((ts.n:Int)%256),bU .u8 ((ts.n:Int)/256)] ae ae (cell_two_new _ _ _ _) bh aK cN aF ?_;intro v' R g a _);(have m:=(F.alloc U (.cells #[bU .u8 ((ts.n:Int)%256),bU .u8 ((ts.n:Int)/256)] 5)).grown a aF (λk h=>(K.o k h).1);have d:Hid (mN R w.h.s v' (vw ts.n++(ts.take 0).flatMap uQ)):=by unfold Hid mN;simp only[take_zero,flatMap_nil,wV,vw,yh,map_nil,lq,ue,Int.natCast_emod,Int.natCast_ediv];exact g);(clear g a t C F U K;have G:Hid (∀k,(vw ts.n++(ts.take k).flatMap uQ).n<=4294967298):=by intro k;rw[jv,TL];have F:=acY ts k;have F:=L.o;show 2+_<=_;omega);go_wp2_with fail
   go_loopw [7,9,42] (λv _ i wr=>∃k:Nat,k<=ts.n/\i=bU cq k/\Hid (mN wr w.h.s v (vw ts.n++(ts.take k).flatMap uQ))/\dS w wr)
    (λ_ _ i _=>ts.n-(intOf i).m)
   exact⟨0,gG _,ae,d,m⟩;clear d m;obtain⟨k,hk,rfl,L,hbel⟩:=hrel;have F:=hbel.size;by_cases c:k<ts.n
   . (have I:k<vs.n:=by have:=X.o;omega);(obtain⟨b,o,rfl,Y,f⟩:=H.o an2;have hc:=(hbel.cell (p:=⟨b,o+k,cw⟩) Y).trans (f k I);have⟨D,hshape⟩:=V.o k I c;have H:=cz D;obtain⟨ta,tc,E,-,-,-⟩:=D;rw[E,dA] at hc;rw[E] at hshape H;rw[dA] at hshape H;clear f E;have V:=cz (aav ts k c);have N:=Z.o k c c;have⟨T,hT⟩:=dG (ts[k]);rw[hT] at hc V N hshape H;have I:=G.o k;have Z:=G.o (k+1);have⟨A,hAA⟩:=dG (vw ts.n++(ts.take k).flatMap uQ);have X:Hid (vw ts.n++(ts.take (k+1)).flatMap uQ=(A++vw T.n)++T):=by unfold Hid;rw[V.o,<-hAA];unfold uQ;simp only[xJ]);rw[X.o,jv,jv] at Z;rw[hAA] at L I;clear hT hAA V;have B:=L.o;unfold mN at B;have⟨n,HN⟩:=sV T.n;rw[HN.o] at hc N hshape H Z;have b4:(k:Int)<(ts.n:Int):=cN;have J:=B.alloc (.cells #[bU .u8 ((n:Int)%256),bU .u8 ((n:Int)/256)] 5);have K:=cz B.lt;have N:=cz hshape;clear hshape;go_upto_region 17 with(at_builtin;refine yy _ ae (.tmp 46) (.tmp 54) 22 ae w.h.s 5 i0 (bU .u8 0) 1 1 oS hi hz0 hz1' hz2 ae kM _ _ _ ae J ⟨wr.h.s,0,cw⟩ 2 2 [bU .u8 ((n:Int)%256),bU .u8 ((n:Int)/256)] ae ae (cell_two_new _ _ _ _) bh aK cN aF ?_;intro v' R g a _);(have m:=(hbel.alloc F (.cells #[bU .u8 ((n:Int)%256),bU .u8 ((n:Int)/256)] 5)).grown a aF (λk h=>(K.o k h).1);have d:Hid (mN R w.h.s v' (A++vw T.n)):=by unfold Hid mN;rw[HN.o,jv,nM];simp only[vw,yh,map_nil,lq,ue,Int.natCast_emod,Int.natCast_ediv];exact g);(clear g a B J L;have l:=d.o;unfold mN at l;have I:=m.s;have F:=cz l.lt;have U:(A++vw T.n).n=A.n+2:=by rw[jv];rfl);have G:(vw n).n=2:=rfl;rw[G] at Z;have V:(A++vw T.n).n+n<=4294967298:=cN;clear G U;rcases N.o with hsh|⟨ad,n',c',hsh,hcap⟩
     . (simp only[lX] at hsh;obtain⟨rfl,rfl,rfl⟩:=hsh;have Y:Hid (mN R w.h.s v' (vw ts.n++(ts.take (k+1)).flatMap uQ)):=by unfold Hid;rw[X.o,yj HN.o,wV];have:=d.o;rw[yj HN.o] at this;exact this);go_wp2_with (at_builtin;refine wpList_append_own_none ae (.tmp 56) (.tmp 57) 22 ae w.h.s 5 i0 1 oS hi _ _ _ ae l ae ?_);go_roundw;exact⟨k+1,cN,by go_num,Y,m⟩;exact qN
     . (simp only[lX] at hsh;obtain⟨rfl,-,-⟩:=hsh;have G:=cz (Xb H.o m);have H:(eo T).n=n*1:=by unfold eo;rw[mQ,HN.o,sL]);have N:=cz H;clear H;go_wp2_with (at_builtin;refine yy _ ae (.tmp 56) (.tmp 57) 22 ae w.h.s 5 i0 (bU .u8 0) 1 1 oS hi hz0 hz1' hz2 ae kM _ _ _ ae l ad n tc (eo T) ae N.o G.o (F5 T) aK cN I ?_;intro H w4 u y _);(have G:=m.grown y I (λk h=>(F.o k h).1);have Y:Hid (mN w4 w.h.s H (vw ts.n++(ts.take (k+1)).flatMap uQ)):=by unfold Hid mN;rw[X.o,jv,nM,HN.o];have:=HN.o;rw[this] at u;exact u);clear u y l;go_roundw;exact⟨k+1,cN,by go_num,Y,G⟩;exact qN
   . (obtain rfl:k=ts.n:=cN;have c9:¬(ts.n:Int)<(ts.n:Int):=cN;have d:Hid (mN wr w.h.s u7 (PS.getD [])):=by unfold Hid;rw[O.o];have:=L.o;rw[qp] at this;exact this);(have F:Hid (gq 21 PS=0):=by unfold Hid;rw[O.o];rfl);go_wp2;refine iI (v:=cg #[u7,bU cq 0]) (by simp[results,results75,go_sem]) ae ⟨_,by rw[F.o],d.o,hbel⟩
theorem ajD(ao:Option Addr)(l h cap:Nat)(W:cS):((sizeOf (prog.elem 22)).run prog W).andThen (λs w=>.ok (sliced ao l h cap s) w)=.ok (sliced ao l h cap 1) W:=by rfl
theorem af6(n:Nat)(h:n<256):qO 1 n=[n]:=by grind[qO]
theorem af7(n:Nat)(h:n<65536):qO 2 n=[n%256,n/256]:=by grind[qO,range_succ]
theorem ac0(t s n:Nat)(c:t<=1)(b:s<4096)(a:n<=4096):vT [1,2,2] [t,s,n]=cu [t,s%256,s/256,n%256,n/256]:=by unfold vT;rw[c8 ⟨by decide,ae,by grind[fitAll]⟩];grind[kY,af6,af7]
theorem af8(b c:Nat)(t s n:Nat)(k:t<=1)(j:s<4096)(h:n<=4096)(w:cS)(g:eU cq w (bX (cu ⟨b,0,cw⟩) 3 3) [1,2,2])(hc:w.cell? ⟨c,0,cw⟩=cu (.int ct t)/\w.cell? ⟨c,1,cw⟩=cu (.int ct s)/\w.cell? ⟨c,2,cw⟩=cu (.int ct n))(d:c<w.h.s):
 CP_ 73 #[bX (cu ⟨b,0,cw⟩) 3 3,bX (cu ⟨c,0,cw⟩) 3 3] w λe w'=>∃r,e=cj (cg #[r,bU cq 0])/\eU .u8 w' r [(t:Int),(s:Int)%256,(s:Int)/256,(n:Int)%256,(n:Int)/256]/\dS w w':=by
 have m:eU cq w (bX (s_ b 0) 3 3) (dN [1,2,2]):=g;have l:eU ct w (bX (s_ c 0) 3 3) (dN [t,s,n]):=by refine⟨cu ⟨c,0,cw⟩,3,ae,by simp[dN],?_,λ_=>⟨c,0,ae,d,?_⟩⟩;intro x f;simp[dN] at f;rcases f with rfl|rfl|rfl<;>(grind[Lit.wf,IntKind.min,IntKind.max,IntKind.bits]);grind[dN]
 refine(GX _ _ [1,2,2] [t,s,n] kM w m l).mono ?_;rw[ac0 t s n k j h];rintro e w' ⟨r,rfl,i,a⟩;refine⟨r,ae,?_,a⟩;have:=WZ i eQ jH;grind[dN]
theorem ac1(a b c d e:Nat):sC [1,2,2] [a,b,c,d,e]=cu [a,b+256*c,d+256*e]:=by rfl
theorem af9(b c o cap:Nat)(h i j k l:Nat)(C:h<256/\i<256/\j<256/\k<256/\l<256)(a:5<=cap)(w:cS)(u:eU cq w (bX (cu ⟨b,0,cw⟩) 3 3) [1,2,2])(hc:w.cell? ⟨c,o,cw⟩=cu (.int .u8 h)/\w.cell? ⟨c,o+1,cw⟩=cu (.int .u8 i)/\w.cell? ⟨c,o+2,cw⟩=cu (.int .u8 j)/\w.cell? ⟨c,o+3,cw⟩=cu (.int .u8 k)/\w.cell? ⟨c,o+4,cw⟩=cu (.int .u8 l))(s:c<w.h.s):
 CP_ 29 #[bX (cu ⟨b,0,cw⟩) 3 3,bX (cu ⟨c,o,cw⟩) 5 cap] w λe w'=>∃g d,e=cj (cg #[bX (cu ⟨g,0,cw⟩) 3 d,bU cq 0])/\
  (w'.cell? ⟨g,0,cw⟩=cu (.int ct h)/\w'.cell? ⟨g,1,cw⟩=cu (.int ct ((i:Int)+256*(j:Int)))/\w'.cell? ⟨g,2,cw⟩=cu (.int ct ((k:Int)+256*(l:Int))))/\g<w'.h.s/\w.h.s<=g/\dS w w':=by
 have z:eU cq w (bX (s_ b 0) 3 3) (dN [1,2,2]):=u;have y:eU .u8 w (bX (s_ c o) 5 cap) (dN [h,i,j,k,l]):=by refine⟨cu ⟨c,o,cw⟩,cap,ae,by simp[dN],?_,λ_=>⟨c,o,ae,s,?_⟩⟩;intro x f;simp[dN] at f;rcases f with rfl|rfl|rfl|rfl|rfl<;>exact WalkArith.wf_u8 cN;grind[dN]
 refine(J1 _ _ [1,2,2] [h,i,j,k,l] kM w z y ⟨_,_,_,ae,a⟩).mono ?_;rw[ac1];rintro e w' ⟨r,rfl,m,p⟩;rcases m.2 with⟨_,n⟩|⟨g,d,t,rfl,q,v,_⟩;simp at n;have n:=Jc m 0 eQ;have A:=Jc m 1 eQ;have B:=Jc m 2 eQ;refine⟨g,d,ae,⟨n,?_,?_⟩,(rI.1 v).1,q,p⟩;grind;grind
def El(s:Nat):Nat:=if s%2=1 then s/2 ^^^ 2197175160 else s/2
def yD:Nat->Nat->Nat
 |0,s=>s
 |k+1,s=>El (yD k s)
def xS(s c:Nat):Nat:=yD 8 (s ^^^ c)
def GY(s:Nat)(bs:cV):Nat:=4294967295 ^^^ bs.foldl xS (4294967295 ^^^ s)
def kZ(bs:cV):Nat:=GY 0 bs
theorem LS{s:Nat}(h:s<4294967296):El s<4294967296:=by unfold El;split;exact xor_lt_two_pow (n:=32) cN cN;omega
theorem TN{s:Nat}(h:s<4294967296):yD k s<4294967296:=by induction k<;>grind[LS,yD]
theorem Xc{s c:Nat}(h:s<4294967296)(hc:c<256):xS s c<4294967296:=
 TN (xor_lt_two_pow (n:=32) cN cN)
theorem aax(s:Nat)(bs:cV)(k:Nat)(h:k<bs.n):(bs.take (k+1)).foldl xS s=xS ((bs.take k).foldl xS s) bs[k]:=by grind[take_succ_eq_append_getElem]
theorem aga(s:Nat)(bs:cV)(a:s<4294967296)(h:∀x∈bs,x<256):bs.foldl xS s<4294967296:=by induction bs generalizing s<;>grind[Xc]
def Q7{a:Nat}(c:a<4294967296)(d:b<4294967296):a ^^^ b<4294967296:=xor_lt_two_pow (n:=32) cN cN
def LU(s:Nat)(bs:cV)(a:s<4294967296)(h:∀x∈bs,x<256):GY s bs<4294967296:=Q7 kM (aga _ _ (Q7 kM a) h)
def Y6(s:Nat)(a:s<4294967296):bits .xor .u32 IntKind.u32.max (s:Int)=((4294967295 ^^^ s:Nat):Int):=u32_xor_nat 4294967295 s kM a
theorem ac3(s:Nat)(U:s<4294967296)(u:c7)(bs:cV)(w:cS)(hu:eU .u8 w u (dN bs)):
 CP_ 220 #[bU .u32 s,u] w λe w'=>e=cj (bU .u32 (GY s bs:Nat))/\w=w':=by
 obtain⟨uo,V,rfl,B,T,hc⟩:=hu;have F:=cz (BL T);clear T;have X:=cz hc;clear hc;rw[dA] at B|-;have K:=Y6 s U;have⟨s0,hs0⟩:=dG (4294967295 ^^^ s);have D:s0<4294967296:=by rw[<-hs0];exact Q7 bB U
 rw[hs0] at K;have H:=cz hs0;clear hs0;have Z:=cz K;clear K;go_enter func220,ntmps220;go_wp2_with fail;rw[Z.o]
 go_loop [0,6,7,12] (λv _ _ i=>∃(k z:Nat),k<=bs.n/\i=bU cq k/\v=bU .u32 z/\z<4294967296/\Hid (z=(bs.take k).foldl xS s0))
  (λ_ _ _ i=>bs.n-(intOf i).m)
 exact⟨0,s0,gG _,ae,ae,D,ae⟩;obtain⟨k,z,hk,rfl,rfl,N,Q⟩:=hrel;by_cases m:k<bs.n
 . (obtain⟨b,o,rfl,a1,l⟩:=X.o amc;have hc:=l k (by rw[dA];exact m);rw[tt] at hc;clear l;have J:=F.o _ (mP m);have r:=cz (aax s0 bs k m);have⟨c,hcc⟩:=dG (bs[k]);rw[hcc] at hc J r;clear hcc;have L:=u32_xor_nat z c N cN;have E:z ^^^ c<4294967296:=Q7 N cN;have t:Hid (yD 8 (z ^^^ c)=(bs.take (k+1)).foldl xS s0):=by unfold Hid;rw[r.o,<-Q.o];rfl);have⟨x,hxx⟩:=dG (z ^^^ c);rw[hxx] at L E t;clear hxx;have HX:=cz L;clear L;have R:(k:Int)<(bs.n:Int):=cN;go_wp2_with fail;rw[HX.o]
   go_loop [0,7,20] (λv _ i=>∃(j y:Nat),j<=8/\i=bU cq j/\v=bU .u32 y/\y<4294967296/\Hid (y=yD j x))
    (λ_ _ i=>8-(intOf i).m)
   exact⟨0,x,cN,ae,ae,E,ae⟩;obtain⟨j,y,hj,rfl,rfl,M,O⟩:=hrel;by_cases a4:j<8
   . (have a3:(j:Int)<8:=cN;have g:=u32_and_nat y 1 M bB;rw[and_one_is_mod] at g;have a:bits .and .u32 (y:Int) 1=((y%2:Nat):Int):=g;clear g;have f:yD (j+1) x=El y:=by rw[O.o];rfl);(have p:=LS M;by_cases d:y%2=1;have n:=u32_xor_nat (y/2) 2197175160 cN bB;have A:El y=y/2 ^^^ 2197175160:=c8 d;rw[A] at f p;have⟨q,hq⟩:=dG (y/2 ^^^ 2197175160);rw[hq] at n f p;have I:=cz f;clear f;have ht:(bits .and .u32 (y:Int) 1==1)=cx:=by rw[a,d];rfl);have a5:bits .xor .u32 ((y:Int)/2) 2197175160=(q:Int):=n;clear A hq d a n;rotate_left;(have A:El y=y/2:=cX d;rw[A] at f p;have I:=cz f;clear f;have ht:(bits .and .u32 (y:Int) 1==1)=cy:=by rw[a,show y%2=0 from by omega];rfl);clear A d a
     all_goals
      go_wp2
      go_round
      case rel=>grind
      case measure=>simp[intOf];omega
   . (obtain rfl:j=8:=cN;have Y:Hid (y=(bs.take (k+1)).foldl xS s0):=by unfold Hid;rw[<-t.o];exact O.o);go_wp2;go_round;exact⟨k+1,y,cN,by go_num,ae,M,Y⟩;simp[intOf];omega
 . (obtain rfl:k=bs.n:=cN;have a2:¬(bs.n:Int)<(bs.n:Int):=cN;have HR:Hid ((4294967295 ^^^ z:Nat)=GY s bs):=by unfold Hid GY;rw[H.o,Q.o,qp]);have C:=Y6 z N;have G:=cz C;clear C;go_wp2;go_ret;exact⟨by rw[G.o,HR.o];rfl,ae⟩
def Xd(u:c7)(bs:cV)(w:cS)(a:eU .u8 w u (dN bs)):
 CP_ 166 #[u] w λe w'=>e=cj (bU .u32 (kZ bs:Nat))/\w=w':=by have b:=cz a;clear a;go_enter func166,ntmps166;go_wp2_with fail;refine(ac3 0 kM _ bs _ b.o).mono ?_;rintro e w' ⟨rfl,rfl⟩;go_wp2;go_ret;exact aE
abbrev cQ:=Nat×Nat×Nat
def mO(p:cQ):c7:=bV #[bU cq p.1,bU ct p.2.1,bU .u32 p.2.2]
def cY:cQ:=(0,0,0)
theorem LV(a b c d e f:Int)(w:cS)(n:Nat):
 (Op.equalIn (n+2) 106 (bV #[bU cq a,bU ct b,bU .u32 c]) (bV #[bU cq d,bU ct e,bU .u32 f])).run prog w=.ok ((a==d)&& ((b==e)&& (c==f))) w:=by rw[run_equalIn_struct (P:=prog) w (n+1) 106 _ _ dC dC];have g:(prog.fieldsOf 106).t=[{name:= "At",type:=3,offset:=0,embedded:=cy,tag:= "",pkgPath:= "",byteOffset:=0},{name:= "Birth",type:=82,offset:=1,embedded:=cy,tag:= "",pkgPath:= "",byteOffset:=8},{name:= "Sum",type:=104,offset:=2,embedded:=cy,tag:= "",pkgPath:= "",byteOffset:=16}]:=dC;rw[g];simp[Op.eqFields,part,isAgg3,isAgg82,isAgg104,Result.andThen,I' w n 3 cq cq _ _ vR,I' w n 82 ct ct _ _ underlying82,I' w n 104 .u32 .u32 _ _ underlying104];grind
theorem Xe(p q:cQ):(((p.1:Int)==(q.1:Int))&& (((p.2.1:Int)==(q.2.1:Int))&& ((p.2.2:Int)==(q.2.2:Int))))=decide (p=q):=by grind
theorem F6(p q:cQ)(r:Bool)(h:decide (p=q)=r)(w:cS):(binOp .eql 106 (mO p) (mO q)).run prog w=.ok (bZ r) w:=by
 have a:(Op.equal 106 (mO p) (mO q)).run prog w=.ok r w:=by grind[Op.equal,Op.maxDepth,mO,LV,Xe]
 simp_all[mO,binOp]
theorem F7(p q:cQ)(r:Bool)(h:decide (p=q)=r)(w:cS):(binOp .neq 106 (mO p) (mO q)).run prog w=.ok (bZ !r) w:=by
 have a:(Op.equal 106 (mO p) (mO q)).run prog w=.ok r w:=by grind[Op.equal,Op.maxDepth,mO,LV,Xe]
 simp_all[mO,binOp]
def im(p:cQ):Bool:=decide (p=cY∨(4<=p.1/\p.1<1024/\1<=p.2.1/\p.2.1<=281474976710655))
def nY(p q:cQ):Bool:=if p.2.1≠q.2.1 then decide (p.2.1<q.2.1) else if p.1≠q.1 then decide (p.1<q.1) else decide (p.2.2<q.2.2)
def jY(p:cQ)(s:Nat):Bool:=decide (p≠cY/\s<p.2.1)
theorem yE(p:cQ)(w:cS):sW 241 #[mO p] w (bZ (im p)):=by
 have q:dS w (w.alloc (.cells #[bU cq p.1,bU ct p.2.1,bU .u32 p.2.2] 106)):=(gK _ _).alloc (eN _) _;have g:=cz q;clear q;by_cases d:p=cY;have e:im p=cx:=gI (.inl d);rw[e];have j:∀w,(binOp .eql 106 (bV #[bU cq p.1,bU ct p.2.1,bU .u32 p.2.2]) (bV #[bU cq 0,bU ct 0,bU .u32 0])).run prog w=.ok (bZ cx) w:=λw=>F6 p cY cx (gI d) w;have⟨a,b,c⟩:=p;simp only at j g;unfold mO;simp only;clear e d;rotate_left;have j:∀w,(binOp .eql 106 (bV #[bU cq p.1,bU ct p.2.1,bU .u32 p.2.2]) (bV #[bU cq 0,bU ct 0,bU .u32 0])).run prog w=.ok (bZ cy) w:=λw=>F6 p cY cy (jC d) w;have e:im p=decide (4<=p.1/\p.1<1024/\1<=p.2.1/\p.2.1<=281474976710655):=by unfold im;grind
 rw[e];clear e d;have⟨a,b,c⟩:=p;simp only at j g|-;unfold mO;simp only;by_cases l:4<=a;by_cases m:a<1024;by_cases n:1<=b;by_cases o:b<=281474976710655;rw[gI ⟨l,m,n,o⟩];have f:decide ((4:Int)<=(a:Int))=cx:=gI cN;have i:decide ((a:Int)<1024)=cx:=gI cN;have k:decide ((1:Int)<=(b:Int))=cx:=gI cN;have r:decide ((b:Int)<=281474976710655)=cx:=gI cN;rotate_left;rw[jC (λh=>o h.2.2.2)];have f:decide ((4:Int)<=(a:Int))=cx:=gI cN;have i:decide ((a:Int)<1024)=cx:=gI cN;have k:decide ((1:Int)<=(b:Int))=cx:=gI cN;have r:decide ((b:Int)<=281474976710655)=cy:=jC cN;rotate_left;rw[jC (λh=>n h.2.2.1)];have f:decide ((4:Int)<=(a:Int))=cx:=gI cN;have i:decide ((a:Int)<1024)=cx:=gI cN;have k:decide ((1:Int)<=(b:Int))=cy:=jC cN;rotate_left;rw[jC (λh=>m h.2.1)];have f:decide ((4:Int)<=(a:Int))=cx:=gI cN;have i:decide ((a:Int)<1024)=cy:=jC cN;rotate_left;rw[jC (λh=>l h.1)];have f:decide ((4:Int)<=(a:Int))=cy:=jC cN
 all_goals
  go_enter func241,ntmps241;go_wp2;go_ret;exact⟨ae,g.o⟩
def aay(w:cS)(x y:Obj):dS w ((w.alloc x).alloc y):=((gK _ _).alloc (eN _) _).alloc eQ _
theorem PG(p q:cQ)(w:cS):sW 178 #[mO p,mO q] w (bZ (nY p q)):=by
 have⟨a,b,c⟩:=p;have⟨d,e,f⟩:=q;have k:=aay w (.cells #[bU cq a,bU ct b,bU .u32 c] 106) (.cells #[bU cq d,bU ct e,bU .u32 f] 106);have l:=cz k;clear k;unfold mO;simp only;by_cases h:b=e;by_cases j:a=d;have g:nY (a,b,c) (d,e,f)=decide (c<f):=by unfold nY;grind
 rw[g];have i:((b:Int)!=(e:Int))=cy:=by rw[vL];omega
 have m:((a:Int)!=(d:Int))=cy:=by rw[vL];omega
 clear g h j;have⟨r,g⟩:=dG (decide (c<f));rotate_left;have g:nY (a,b,c) (d,e,f)=decide (a<d):=by unfold nY;grind
 rw[g];have i:((b:Int)!=(e:Int))=cy:=by rw[vL];omega
 have m:((a:Int)!=(d:Int))=cx:=by rw[fK];omega
 clear g h j;have⟨r,g⟩:=dG (decide (a<d));rotate_left;have g:nY (a,b,c) (d,e,f)=decide (b<e):=by unfold nY;simp only;rw[c8 h]
 rw[g];have i:((b:Int)!=(e:Int))=cx:=by rw[fK];omega
 clear g h;have⟨r,g⟩:=dG (decide (b<e))
 all_goals
  rw[g];go_enter func178,ntmps178;go_wp2;go_ret;exact⟨ae,l.o⟩
theorem BM(p:cQ)(s:Nat)(w:cS):sW 154 #[mO p,bU ct s] w (bZ (jY p s)):=by
 have i:dS w (w.alloc (.cells #[bU cq p.1,bU ct p.2.1,bU .u32 p.2.2] 106)):=(gK _ _).alloc (eN _) _;have f:=cz i;clear i;by_cases e:p=cY;have d:jY p s=cy:=jC (λh=>h.1 e);rw[d];have g:∀w,(binOp .neq 106 (bV #[bU cq p.1,bU ct p.2.1,bU .u32 p.2.2]) (bV #[bU cq 0,bU ct 0,bU .u32 0])).run prog w=.ok (bZ cy) w:=λw=>F7 p cY cx (gI e) w;have⟨a,b,c⟩:=p;simp only at g f;unfold mO;simp only;clear d e;rotate_left;have g:∀w,(binOp .neq 106 (bV #[bU cq p.1,bU ct p.2.1,bU .u32 p.2.2]) (bV #[bU cq 0,bU ct 0,bU .u32 0])).run prog w=.ok (bZ cx) w:=λw=>F7 p cY cy (jC e) w;have d:jY p s=decide (s<p.2.1):=by unfold jY;grind
 rw[d];clear d e;have⟨a,b,c⟩:=p;simp only at g f|-;unfold mO;simp only;have⟨r,d⟩:=dG (decide (s<b));rw[d]
 all_goals
  go_enter func154,ntmps154;go_wp2;go_ret;exact⟨ae,f.o⟩
theorem Xf{k:IntKind}{a:Addr}{l:List Int}(h:eU k w (bX (cu a) n c) l)(g:dS w W):
 n=l.n/\∀j u,(l.map (Value.int k))[j]?=cu u->W.cell? (a.add j)=cu u:=by obtain⟨ao,cap,d,_,_,hc⟩:=h;simp only[lX] at d;obtain⟨rfl,rfl,rfl⟩:=d;refine⟨ae,λj u f=>?_⟩;by_cases m:l=[];grind;have⟨b,o,e,hbs,hcell⟩:=hc m;obtain rfl:=wW e;simp only[rK,Ad] at f;obtain⟨x,q,rfl⟩:=f;obtain⟨i,rfl⟩:=oF.1 q;rw[Addr.add_lit];exact(g.cell (p:=⟨b,o+j,cw⟩) hbs).trans (hcell j i)
def tu(x:kV):List Int:=[if x.1=cx then 1 else 0,x.2.1%256,x.2.1/256,x.2.2%256,x.2.2/256]
def Wn(x:kV):Bool:=kt x.2.1 x.2.2
def pz(a:List kV):Option (List Int):=if a.n<=4096/\a.all Wn=cx then cu (a.flatMap tu) else cw
def AE(bs:List Int)(k:Nat):kV:=(bs.getD (5*k) 0==1,bs.getD (5*k+1) 0+256*bs.getD (5*k+2) 0,bs.getD (5*k+3) 0+256*bs.getD (5*k+4) 0)
def okB(bs:List Int)(k:Nat):Bool:=decide (bs.getD (5*k) 0<=1)&&Wn (AE bs k)
def AG(bs:List Int):Option (List kV):=
 if bs.n%5=0/\bs.n<=20480/\(range (bs.n/5)).all (okB bs)=cx then cu ((range (bs.n/5)).map (AE bs)) else cw
theorem Dl(x:kV):(tu x).n=5:=rfl
theorem yF(a:List kV):(a.flatMap tu).n=5*a.n:=by induction a<;>grind[Dl]
theorem ac4(a:List kV){k:Nat}(h:k<a.n)(j:Nat)(b:j<5):(a.flatMap tu).getD (5*k+j) 0=(tu a[k]).getD j 0:=by induction a generalizing k with|nil=>simp at h|cons x r ih=>rw[Bu];cases k with|zero=>rw[Nat.mul_zero,pM,zB,I1 (by grind[Dl]),<-zB];rfl|succ k=>grind[Dl]
theorem Y7(a:List kV){k:Nat}(h:k<a.n)(b:Wn a[k]=cx):AE (a.flatMap tu) k=a[k]/\okB (a.flatMap tu) k=cx:=by
 have g:=(gl _ _).1 b;have c:=ac4 a h 0 cN;rw[xK] at c;have d:AE (a.flatMap tu) k=a[k]:=by grind[AE,ac4,tu,Prod.ext]
 refine⟨d,?_⟩;unfold okB;rw[d,b,c];generalize a[k]=x;grind[tu]
theorem TP{a:List kV}(h:pz a=cu bs):AG bs=cu a/\bs.n=5*a.n:=by
 unfold pz at h;split at h;next hc=>cases h;have c:∀k(b:k<a.n),Wn a[k]=cx:=λk b=>rJ.1 hc.2 _ (mP b);refine⟨?_,yF a⟩;unfold AG;rw[yF,show 5*a.n/5=a.n from by omega,c8];congr 1;refine ext_getElem eQ λk d e=>?_;grind[Y7];refine⟨cN,cN,?_⟩;simp_all[Y7]
 cases h
def PH{α:Type}(o:Option α):Int:=if o.isSome=cx then 0 else 81
theorem TQ{a:List kV}(h:¬a.n<=4096):pz a=cw:=by unfold pz;grind
theorem Xg{a:List kV}(b:k<a.n)(h:Wn a[k]=cy):pz a=cw:=by unfold pz;grind
theorem LW{a:List kV}(h:a.n<=4096)(c:∀k(b:k<a.n),Wn a[k]=cx):pz a=cu (a.flatMap tu):=by
 unfold pz;rw[c8 ⟨h,rJ.2 λx d=>by
  obtain⟨k,b,rfl⟩:=yk d
  grind⟩]
theorem ac5{a:List kV}(h:k<a.n):(a.take (k+1)).flatMap tu=(a.take k).flatMap tu++tu a[k]:=by grind[take_succ_eq_append_getElem]
theorem aic{c:List kV}(b:∀x∈c,Wn x=cx):∀y∈c.flatMap tu,(Lit.int .u8 y).wf=cx:=by intro y a;have⟨x,hx,a⟩:=De.1 a;have g:=(gl _ _).1 (b x hx);simp only[tu,iX,jL,uH] at a;rcases a with rfl|rfl|rfl|rfl|rfl;grind[WalkArith.wf_u8];all_goals grind[WalkArith.wf_u8]
def Xh{k:IntKind}{l:List Int}(h:eU k w v l)(d:l≠ []):
 ∃b o c,v=bX (cu ⟨b,o,cw⟩) l.n c/\∀j u,(l.map (Value.int k))[j]?=cu u->w.cell? ((⟨b,o,cw⟩:Addr).add j)=cu u:=by have a:=h;obtain⟨ao,cap,rfl,_,_,hc⟩:=h;obtain⟨b,o,rfl,_,_⟩:=hc d;exact⟨b,o,cap,ae,(Xf a (gK _ _)).2⟩
def TR(b:dS w w')(h:w.cell? ⟨E,1,cw⟩=cu x)(a:w.cell? ⟨E,2,cw⟩=cu y):
 w'.cell? ⟨E,1,cw⟩=cu x/\w'.cell? ⟨E,2,cw⟩=cu y:=
 ⟨(b.cell (p:=⟨E,1,cw⟩) (rM h)).trans h,(b.cell (p:=⟨E,2,cw⟩) (rM a)).trans a⟩
theorem Em(w:cS)(x y z:c7)(t:dW):((w.alloc (.cells #[x,y,z] t)).cell? ⟨w.h.s,0,cw⟩=cu x/\(w.alloc (.cells #[x,y,z] t)).cell? ⟨w.h.s,1,cw⟩=cu y/\(w.alloc (.cells #[x,y,z] t)).cell? ⟨w.h.s,2,cw⟩=cu z)/\w.h.s<(w.alloc (.cells #[x,y,z] t)).h.s:=
 by simp_all
def aaz(a:Below (w.alloc (.cells #[x,y,z] t)).h.s (w.alloc (.cells #[x,y,z] t)) w'):(w'.cell? ⟨w.h.s,0,cw⟩=cu x/\w'.cell? ⟨w.h.s,1,cw⟩=cu y/\w'.cell? ⟨w.h.s,2,cw⟩=cu z)/\w.h.s<w'.h.s:=
 have h:=Em w x y z t
 ⟨⟨(a.cell (p:=⟨_,0,cw⟩) h.2).trans h.1.1,(a.cell (p:=⟨_,1,cw⟩) h.2).trans h.1.2.1,(a.cell (p:=⟨_,2,cw⟩) h.2).trans h.1.2.2⟩,pK h.2 a.s⟩
def F8(a:Below (w.alloc (.cells #[x,y,z] t)).drew.h.s (w.alloc (.cells #[x,y,z] t)).drew w'):(w'.cell? ⟨w.h.s,0,cw⟩=cu x/\w'.cell? ⟨w.h.s,1,cw⟩=cu y/\w'.cell? ⟨w.h.s,2,cw⟩=cu z)/\w.h.s<w'.h.s:=
 aaz ((gK _ _).drew.trans a)
def ac6{o:Obj}(a:Below w4.drew.h.s w4.drew w5)(b:Below (w5.alloc o).h.s (w5.alloc o) w6):dS w4 w6:=by have c:dS w4 w5:=(gK _ _).drew.trans a;have d:=c.alloc c.s o;exact Below.step d d.s b
def ac7{o:Obj}(a:Below (w4.alloc o).drew.h.s (w4.alloc o).drew w5)(b:dS w5 w6):dS w4 w6:=by have c:dS w4 (w4.alloc o):=(gK _ _).alloc (eN _) o;have d:dS w4 w5:=Below.step c c.s ((gK _ _).drew.trans a);exact Below.step d d.s b
def ac8(t s n b c:Nat)(g:t<=1)(f:s<4096)(d:n<=4096)(w:cS)(a:eU cq w (bX (cu ⟨b,0,cw⟩) 3 3) [1,2,2])(hc:(w.cell? ⟨c,0,cw⟩=cu (.int ct t)/\w.cell? ⟨c,1,cw⟩=cu (.int ct s)/\w.cell? ⟨c,2,cw⟩=cu (.int ct n))/\c<w.h.s):
 CP_ 73 #[bX (cu ⟨b,0,cw⟩) 3 3,bX (cu ⟨c,0,cw⟩) 3 3] w λe w'=>∃r,e=cj (cg #[r,bU cq 0])/\eU .u8 w' r [(t:Int),(s:Int)%256,(s:Int)/256,(n:Int)%256,(n:Int)/256]/\dS w w':=
 af8 b c t s n g f d w a hc.1 hc.2
section
attribute[local irreducible]wpList Code.wp Calls Oper.wp wpAnyH
def aaA(u:c7)(d:List kV)(w:cS)(hu:tT w u d):
 CP_ 249 #[u] w λe w'=>∃r,e=cj (cg #[r,bU cq (PH (pz d))])/\eU .u8 w' r ((pz d).getD [])/\yC r/\dS w w':=by
 obtain⟨i0,hi,c6,a2,c8⟩:=oH Le;obtain⟨uo,e6,rfl,e3,c5,c4⟩:=hu;have HU:=cz c4;clear c4;have HW:=cz c5;clear c5;obtain⟨S,HS⟩:=yw (pz d);rw[<-HS.o];have d7:=gK w.h.s w;by_cases F:¬d.n<=4096
 . have HN:Hid (S=cw):=by unfold Hid;rw[HS.o,TQ F]
   have hl:(4096:Int)<(d.n:Int):=cN;go_enter func249,ntmps249;go_wp2;refine iI (v:=cg #[bX cw 0 0,bU cq 81]) (by simp[results,results249,go_sem]) ae ⟨_,by rw[HN.o];rfl,by rw[HN.o];exact I7 _ _,Ej,d7⟩
 have e1:d.n<=4096:=cN;have hl:¬(4096:Int)<(d.n:Int):=cN;clear F;go_enter func249,ntmps249
 go_wp2_with (refine LO (o:=⟨cu 16,_,_,_,_,_⟩) _ ae _ _ 22 ae w.h.s 5 i0 (bU .u8 0) 1 oS hi c6 a2 cq cq _ (5*d.n) ae ae cN (by rw[c8];omega) aK (eN _) ?_;intro w2 J q)
 have b4:dS w w2:=(gK _ _).grown q (eN _) (λk e=>by cases e);clear q
 go_loopw [4,19] (λv i wr=>∃(k:Nat),k<=d.n/\i=bU cq k/\wr.ownsRow w.h.s 5 1 v ((d.take k).flatMap tu).n (((d.take k).flatMap tu).map (Value.int .u8))/\Hid (∀j(O:j<d.n),j<k->Wn d[j]=cx)/\dS w wr)
  (λ_ i _=>d.n-(intOf i).m)
 case atStart=>exact⟨0,gG _,ae,J,λj O h=>absurd h (vz _),b4⟩
 case round=>
  clear J b4;obtain⟨k,hk,rfl,f,a4,hbel⟩:=hrel;have c3:=hbel.size;by_cases G:k<d.n
  . obtain⟨b,o,rfl,d9,D⟩:=HU.o (by intro h;simp[h] at G);obtain⟨h1,h2,h3⟩:=LK d9 D hbel G;clear D;have hw:=HW.o _ (mP G);have HT:Hid ((d.take (k+1)).flatMap tu=(d.take k).flatMap tu++tu d[k]):=ac5 G;have U:Hid (Wn d[k]=cy->S=cw):=λh=>by rw[HS.o,Xg G h]
    have A:Hid (Wn d[k]=cx->∀j(O:j<d.n),j<k+1->Wn d[j]=cx):=by
     intro h j O e8;by_cases b9:j=k
     . subst b9;exact h
     . exact a4.o j O cN
    obtain⟨⟨t,s,n⟩,hx⟩:∃x,x=d[k]:=⟨_,ae⟩;rw[<-hx] at h1 h2 h3 hw HT U A;clear hx;simp only at h1 h2 h3 hw;have d4:=cz hw;clear hw;obtain⟨c,HC⟩:=sV (kt s n);obtain⟨L,hL⟩:=fU ((d.take k).flatMap tu);rw[<-hL] at f HT;have B:L.n=5*k:=by rw[hL,yF,lO];omega
    clear hL;have b2:=cz B;clear B
    go_wp2_with fail
    obtain⟨V,g⟩:=fU (wr.alloc (.cells #[bZ t,bU cq s,bU cq n] 334));have p0:V.cell? ⟨wr.h.s,0,cw⟩=cu (.bool t):=by rw[g];exact aY
    have p1:V.cell? ⟨wr.h.s,1,cw⟩=cu (.int cq s):=by rw[g];exact aY
    have p2:V.cell? ⟨wr.h.s,2,cw⟩=cu (.int cq n):=by rw[g];exact aY
    have e2:V.h.s=wr.h.s+1:=by rw[g];simp
    have a7:dS w V:=by rw[g];exact hbel.alloc c3 _
    have I:=f.alloc (.cells #[bZ t,bU cq s,bU cq n] 334);rw[<-g] at I;rw[<-g];clear g hbel f h1 h2 h3;obtain⟨E,hE⟩:=fU wr.h.s;rw[<-hE] at p0 p1 p2 e2 c3|-;clear hE;refine(F3 t s n d4.o _).mono ?_;rw[HC.o];rintro e w4 ⟨rfl,l⟩;have a6:=Below.step a7 a7.s l;have c2:=l9 I l;have q0:=(l.cell (p:=⟨E,0,cw⟩) amJ).trans p0;have q1:=(l.cell (p:=⟨E,1,cw⟩) amJ).trans p1;have q2:=(l.cell (p:=⟨E,2,cw⟩) amJ).trans p2;have e9:=l.s;clear p0 p1 p2 a7 I l;cases c with
    |false=>
     have HN:Hid (S=cw):=U.o HC.o;go_wp2;refine iI (v:=cg #[bX cw 0 0,bU cq 81]) (by simp[results,results249,go_sem]) ae ⟨_,by rw[HN.o];rfl,by rw[HN.o];exact I7 _ _,Ej,a6⟩
    |true=>
     obtain⟨g1,g2,g3,g4⟩:=(gl s n).1 HC.o;obtain⟨a,rfl⟩:∃a:Nat,s=(a:Int):=⟨s.m,cN⟩;obtain⟨m,rfl⟩:∃a:Nat,n=(a:Int):=⟨n.m,cN⟩;have e7:E<w4.h.s:=cN;have f1:IntKind.u64.wrap (a:Int)=(a:Int):=BN _ cN;have f2:IntKind.u64.wrap (m:Int)=(m:Int):=BN _ cN;have hA:a<4096:=cN;have hM:m<=4096:=cN;have d5:(0:Nat)<=1:=by decide
     have d6:(1:Nat)<=1:=by decide
     have e4:=World.new_ne w4 ⟨E,1,cw⟩ q1;have e5:=World.new_ne w4 ⟨E,2,cw⟩ q2;have d3:=cz (A.o HC.o);cases t
     all_goals
      go_wp2_with fail
      go_region_held3 (λW=>W.cell? ⟨E,1,cw⟩=cu (.int cq (a:Int))/\W.cell? ⟨E,2,cw⟩=cu (.int cq (m:Int)))
       (first|go_keep|(go_split_ands;exact TR C aO aO)|(go_split_ands;exact TR z aO aO))
       (first|(go_at_call 245;refine(LN _).mono ?_;rintro e w5 ⟨b5,rfl,M,-,z⟩)|(go_at_call 73;refine(ac8 0 a m _ _ d5 hA hM _ ?_ ?_).mono ?_;(first|exact M|exact M.cP ((gK _ _).alloc (eN _) _));(first|exact Em _ _ _ _ _|exact F8 z);rintro e w6 ⟨r6,rfl,R,C⟩)|(go_at_call 73;refine(ac8 1 a m _ _ d6 hA hM _ ?_ ?_).mono ?_;(first|exact M|exact M.cP ((gK _ _).alloc (eN _) _));(first|exact Em _ _ _ _ _|exact F8 z);rintro e w6 ⟨r6,rfl,R,C⟩))
      all_goals
       have a5:dS w4 w6:=by first|exact ac6 z C|exact ac7 z C
       have b6:=Below.step a6 a6.s a5;have a1:=l9 c2 a5;clear z C M a5
       first
        |(have K:eU .u8 w6 r6 (tu (cy,(a:Int),(m:Int))):=R
          generalize hN:tu (cy,(a:Int),(m:Int))=N at K HT;have Q:Hid (N.n=5):=by rw[<-hN];rfl)
        |(have K:eU .u8 w6 r6 (tu (cx,(a:Int),(m:Int))):=R
          generalize hN:tu (cx,(a:Int),(m:Int))=N at K HT;have Q:Hid (N.n=5):=by rw[<-hN];rfl)
       clear R hN;obtain⟨rb,ro,rc,rfl,H⟩:=Xh K (by intro h;have:=Q.o;simp[h] at this);clear K;have a3:=cz H;clear H;have Z:∀u∈N.map (Value.int .u8),u.oneCell'=cx:=by simp[Value.oneCell']
       have b3:=cz Z;clear Z;have b7:L.n+N.n<=maxLen:=by have:=b2.o;have:=Q.o;unfold maxLen;omega
       have b8:(L.n+N.n)*1<=140737488355328:=by have:=b2.o;have:=Q.o;omega
       have d1:=cz b7;clear b7;have d2:=cz b8;clear b8;have c9:=b6.s
       go_wp2_with (first|(at_builtin;refine yy _ ae (.tmp 45) (.tmp 46) 22 ae w.h.s 5 i0 (bU .u8 0) 1 1 oS hi c6 a2 c8 ae kM _ _ _ ae a1 ⟨rb,ro,cw⟩ N.n rc (N.map (Value.int .u8)) ae eQ a3.o b3.o d1.o d2.o c9 ?_;intro v7 w7 a8 y _))
       have d8:=b6.grown y c9 (λj h=>(a1.lt j h).1);clear y;go_roundw
       case rel=>
        refine⟨k+1,cN,by go_num,?_,d3.o,d8⟩;rw[HT.o,jv,nM];exact a8
       case measure=>exact qN
  . obtain rfl:k=d.n:=cN;have T:Hid (S=cu (d.flatMap tu)):=by unfold Hid;rw[HS.o,LW e1 (λj O=>a4.o j O O)]
    rw[qp] at f;have c1:∀x∈d,Wn x=cx:=by
     intro x hx;obtain⟨j,O,rfl⟩:=yk hx;exact a4.o j O O
    have Y:=qW f (aic c1) (by rw[yF];omega);have X:=WO f;have b1:=cz Y;clear Y f c1;have a9:=cz X;clear X;go_wp2;refine iI (v:=cg #[u4,bU cq 0]) (by simp[results,results249,go_sem]) ae ⟨_,by rw[T.o];rfl,by rw[T.o];exact b1.o,a9.o,hbel⟩
end
section
def wx_(i dst:Nat)(v:c7)(f:ops[i]?=cu sM)(k:YieldsIf prog ops S sM v a)(hS:S w)(q:Q')(b:sM.dst=cu dst:=by rfl)(h:Q'->wpAnyH prog .any ops Q S fuel (listed.setIfInBounds i cx) (a.put (cu dst) v) w:=by intro q;simp only[Ol];exact q)(j:Region.noSelect ops=cx:=by kernel_rfl)(e:Region.free .any ops listed i=cx:=by kernel_rfl)(g:(Region.ready .any ops listed).contains i=cx:=by kernel_rfl)(d:∀c a w,Q (.panic c) (a.put (cu dst) v) w->Q (.panic c) a w:=by exact λ_ _ _ h=>h):wpAnyH prog .any ops Q S (fuel+1) listed a w:=
 wpAnyH_take f j e g (by rw[b];exact d) k hS (by rw[b];exact h q)
def GM(i dst:Nat)(v:c7)(hS:S w)(q:Q')(f:ops[i]?=cu sM:=by rfl)(k:YieldsIf prog ops S sM v a:=by exact Or.inl ⟨dC,λw l=>by go_simp⟩)(d:sM.dst=cu dst:=by rfl)(h:Q'->wpAnyH prog .any ops Q S fuel (listed.setIfInBounds i cx) (a.put (cu dst) v) w:=by intro q;simp only[Ol];exact q)(j:Region.noSelect ops=cx:=by kernel_rfl)(e:Region.free .any ops listed i=cx:=by kernel_rfl)(g:(Region.ready .any ops listed).contains i=cx:=by kernel_rfl)(b:∀c a w,Q (.panic c) (a.put (cu dst) v) w->Q (.panic c) a w:=by exact λ_ _ _ h=>h):wpAnyH prog .any ops Q S (fuel+1) listed a w:=
 wx_ i dst v f k hS q d h j e g b
end
def iT(p:cQ):cV:=qO 4 p.1++(qO 8 p.2.1++qO 4 p.2.2)
theorem gh(p:cQ):(iT p).n=16:=by rfl
theorem pW(p:cQ):∀x∈iT p,x<256:=by intro x a;unfold iT at a;rcases gH.1 a with h|h;exact yA _ _ x h;rcases gH.1 h with h|h<;>exact yA _ _ x h
section
attribute[local irreducible]wpList Code.wp Calls Oper.wp wpAnyH
def J2(w:cS):CP_ 240 #[] w λe w'=>∃b,e=cj (bX (cu ⟨b,0,cw⟩) 3 3)/\eU cq w' (bX (cu ⟨b,0,cw⟩) 3 3) [4,8,4]/\b=w.h.s/\dS w w':=by go_enter func240,ntmps240;go_wp2;go_ret;exact⟨_,ae,Pu w [4,8,4] _ _ ae kM kM _ _ ae,ae,(gK _ _).alloc (eN _) _⟩
theorem ac9(p:cQ)(a:p.1<4294967296)(b:p.2.1<18446744073709551616)(c:p.2.2<4294967296):vT [4,8,4] [p.1,p.2.1,p.2.2]=cu (iT p):=by unfold vT;rw[c8 ⟨by decide,ae,by grind[fitAll]⟩];rfl
theorem wf_u64{x:Nat}(h:x<18446744073709551616):(Lit.int ct (x:Int)).wf=cx:=by grind[Lit.wf,IntKind.min,IntKind.max,IntKind.signed,IntKind.bits]
theorem agb(p:cQ)(f:p.1<4294967296)(g:p.2.1<18446744073709551616)(h:p.2.2<4294967296)(b c:Nat)(w:cS)(i:eU cq w (bX (cu ⟨b,0,cw⟩) 3 3) [4,8,4])(hc:(w.cell? ⟨c,0,cw⟩=cu (.int ct p.1)/\w.cell? ⟨c,1,cw⟩=cu (.int ct p.2.1)/\w.cell? ⟨c,2,cw⟩=cu (.int ct p.2.2))/\c<w.h.s):
 CP_ 73 #[bX (cu ⟨b,0,cw⟩) 3 3,bX (cu ⟨c,0,cw⟩) 3 3] w λe w'=>∃r,e=cj (cg #[r,bU cq 0])/\mN w' w.h.s r (iT p)/\dS w w':=by
 have l:eU cq w (bX (s_ b 0) 3 3) (dN [4,8,4]):=i;have k:eU ct w (bX (s_ c 0) 3 3) (dN [p.1,p.2.1,p.2.2]):=by refine⟨cu ⟨c,0,cw⟩,3,ae,by simp[dN],?_,λ_=>⟨c,0,ae,hc.2,?_⟩⟩;intro x d;simp[dN] at d;rcases d with rfl|rfl|rfl<;>exact wf_u64 cN;grind[dN]
 refine(GX _ _ [4,8,4] [p.1,p.2.1,p.2.2] kM w l k).mono ?_;rw[ac9 p f g h];rintro e w' ⟨r,rfl,j,a⟩;exact⟨r,ae,j,a⟩
def F9(b:dS w w')(h:w.cell? ⟨E,0,cw⟩=cu x)(c:w.cell? ⟨E,1,cw⟩=cu y)(a:w.cell? ⟨E,2,cw⟩=cu z):
 w'.cell? ⟨E,0,cw⟩=cu x/\w'.cell? ⟨E,1,cw⟩=cu y/\w'.cell? ⟨E,2,cw⟩=cu z:=
 ⟨(b.cell (p:=⟨E,0,cw⟩) (rM h)).trans h,(b.cell (p:=⟨E,1,cw⟩) (rM c)).trans c,(b.cell (p:=⟨E,2,cw⟩) (rM a)).trans a⟩
def dD(p:cQ):Prop:=p.1<4294967296/\p.2.1<18446744073709551616/\p.2.2<4294967296
def xT(p:cQ)(H:dD p)(w:cS):
 CP_ 233 #[mO p] w λe w'=>∃r,e=cj (cg #[r,bU cq (if im p=cx then 0 else 51)])/\mN w' w.h.s r (if im p=cx then iT p else [])/\dS w w':=by
 have⟨hp1,hp2,hp3⟩:=H;have⟨W0,HW0⟩:=yw (w.alloc (.cells #[bU cq p.1,bU ct p.2.1,bU .u32 p.2.2] 106));have h:dS w W0:=by rw[HW0.o];exact aQ
 have q:W0.cell? ⟨w.h.s,0,cw⟩=cu (.int cq p.1):=by rw[HW0.o];exact aY
 have s:W0.cell? ⟨w.h.s,1,cw⟩=cu (.int ct p.2.1):=by rw[HW0.o];exact aY
 have t:W0.cell? ⟨w.h.s,2,cw⟩=cu (.int .u32 p.2.2):=by rw[HW0.o];exact aY
 have x:W0.h.s=w.h.s+1:=by rw[HW0.o];simp
 have⟨E,HE⟩:=yw w.h.s;rw[<-HE.o] at q s t x;have y:=cz q;clear q;have z:=cz s;clear s;have A:=cz t;clear t;have⟨r,HR⟩:=sV (im p);rw[HR.o];have B:=cz (yE p);have k:=cz (agb p hp1 hp2 hp3);have⟨a,b,c⟩:=p;simp only at hp1 hp2 hp3;unfold mO;simp only;go_enter func233,ntmps233;go_wp2_with fail
 rw[<-HW0.o,<-HE.o];refine(B.o _).mono ?_;rw[HR.o];rintro e w1 ⟨rfl,i⟩;have f:=Below.step h h.s i;have⟨q0,q1,q2⟩:=F9 i y.o z.o A.o;clear y z A i h HW0 B;have I:=f.s;have n:Hid (mN w1 w.h.s (bX cw 0 0) []):=iD w1 w.h.s 5 1;cases r with
 |false=>go_wp2;refine iI (v:=cg #[bX cw 0 0,bU cq 51]) (by simp[results,results233,go_sem]) ae ⟨_,ae,n.o,f⟩
 |true=>
  have K:IntKind.u64.wrap (a:Int)=(a:Int):=BN _ cN;have L:IntKind.u64.wrap (c:Int)=(c:Int):=BN _ cN;have C:=World.new_ne w1 ⟨E,0,cw⟩ q0;have D:=World.new_ne w1 ⟨E,1,cw⟩ q1;have F:=World.new_ne w1 ⟨E,2,cw⟩ q2;go_wp2_with fail
  go_region_held3 (λW=>W.cell? ⟨E,0,cw⟩=cu (.int cq (a:Int))/\W.cell? ⟨E,1,cw⟩=cu (.int ct (b:Int))/\W.cell? ⟨E,2,cw⟩=cu (.int .u32 (c:Int)))
   (first|go_keep|(go_split_ands;exact F9 g aO aO aO)|(go_split_ands;exact F9 d aO aO aO))
   (first|(go_at_call 240;refine(J2 _).mono ?_;rintro e w5 ⟨M,rfl,j,-,d⟩)|(go_at_call 73;refine(k.o _ _ _ ?_ ?_).mono ?_;(first|exact j|exact j.cP ((gK _ _).alloc (eN _) _));(first|exact Em _ _ _ _ _|exact F8 d);rintro e w6 ⟨J,rfl,m,g⟩))
  all_goals
   have l:dS w1 w6:=by first|exact ac6 d g|exact ac7 d g
   have u:=Below.step f f.s l;have o:=cz (aat m (base':=w.h.s) (by have G:=d.s;simp at G|-;omega));clear d g j l m;go_wp2;refine iI (v:=cg #[J,bU cq 0]) (by simp[results,results233,go_sem]) ae ⟨_,ae,o.o,u⟩
theorem TS{p:Tmp}{ty:dW}{d:TypeDesc}(h:fn.results=#[.cell p ty])(j:tmps.getD p undef=bW (cu ⟨g,0,cw⟩))(c:cL w g t n f)(e:P.underlying ty=cu d)(b:(match d with| .struct _| .array _ _=>cx|_=>cy)=cx)(i:(P.info? ty).map (·.size)=cu n):
 (results fn tmps).run P w=.ok (bV (cM n f)) w:=by
 have a:tmps[p]?.getD undef=dF g 0:=by simp_all
 simp[results,h,a,asAddr,Jd w g t ty (cM n f) (0,0) d c e b aG]
theorem mA{p q:Tmp}{ty:dW}{d:TypeDesc}(h:fn.results=#[.cell p ty,.tmp q])(j:tmps.getD p undef=bW (cu ⟨g,0,cw⟩))(c:cL w g t n f)(e:P.underlying ty=cu d)(b:(match d with| .struct _| .array _ _=>cx|_=>cy)=cx)(i:(P.info? ty).map (·.size)=cu n):
 (results fn tmps).run P w=.ok (cg #[bV (cM n f),tmps.getD q undef]) w:=by
 have a:tmps[p]?.getD undef=dF g 0:=by simp_all
 simp[results,h,a,asAddr,Jd w g t ty (cM n f) (0,0) d c e b aG,Result.andThen]
theorem Ox{p q r:Tmp}{ty:dW}{d:TypeDesc}(h:fn.results=#[.cell p ty,.tmp q,.tmp r])(j:tmps.getD p undef=bW (cu ⟨g,0,cw⟩))(c:cL w g t n f)(e:P.underlying ty=cu d)(b:(match d with| .struct _| .array _ _=>cx|_=>cy)=cx)(i:(P.info? ty).map (·.size)=cu n):
 (results fn tmps).run P w=.ok (cg #[bV (cM n f),tmps.getD q undef,tmps.getD r undef]) w:=by
 have a:tmps[p]?.getD undef=dF g 0:=by simp_all
 simp[results,h,a,asAddr,Jd w g t ty (cM n f) (0,0) d c e b aG,Result.andThen]
def dE(p:cQ):Nat->c7:=λi=>if i=0 then bU cq p.1 else if i=1 then bU ct p.2.1 else bU .u32 p.2.2
theorem dJ(p:cQ):∀i,(dE p i).oneCell'=cx:=by intro i;unfold dE;split;rfl;split<;>rfl
theorem zI(p:cQ):cM 3 (dE p)=#[bU cq p.1,bU ct p.2.1,bU .u32 p.2.2]:=rfl
theorem GZ(p:cQ):Value.agg (cM 3 (dE p))=mO p:=rfl
def ku:(prog.info? 106).map (·.size)=cu 3:=dC
def E0(w:cS)(b:Nat)(p:cQ):Prop:=cL w b 106 3 (dE p)
theorem E0.new(w:cS)(p:cQ):E0 (w.alloc (.cells #[bU cq p.1,bU ct p.2.1,bU .u32 p.2.2] 106)) w.h.s p:=AA _ _
def AH(bs:cV):cQ:=(jM (bs.take 4),jM ((bs.drop 4).take 8),jM ((bs.drop 12).take 4))
def nZ(bs:cV):Option cQ:=if bs.n=16/\im (AH bs)=cx then cu (AH bs) else cw
theorem Dm{l:cV}(h:∀x∈l,x<256)(a:l.n<=n):jM l<256^n:=
 by grind[Nat.lt_of_lt_of_le,LP,Nat.pow_le_pow_right]
theorem F'{bs:cV}(h:∀x∈bs,x<256):dD (AH bs):=by refine⟨?_,?_,?_⟩;exact Dm (n:=4) (λx a=>h x (lP a)) (length_take_le _ _);exact Dm (n:=8) (λx a=>h x (mR (lP a))) (length_take_le _ _);exact Dm (n:=4) (λx a=>h x (mR (lP a))) (length_take_le _ _)
theorem ada(bs:cV):sC [4,8,4] bs=if bs.n=16 then cu [(AH bs).1,(AH bs).2.1,(AH bs).2.2] else cw:=by unfold sC;simp_all[py,AH,okW,sX]
theorem xd(u:c7)(bs:cV)(w:cS)(F:eU .u8 w u (dN bs))(A:yC u):
 sW 195 #[u] w (cg #[mO ((nZ bs).getD cY),bU cq (gq 51 (nZ bs))]):=by
 have U:∀x∈bs,x<256:=BL (by obtain⟨_,_,_,_,h,_⟩:=F;exact h);have O:=cz F;clear F;have I:=cz A;clear A;obtain⟨H,i⟩:=fU (w.alloc (.cells #[bU cq 0,bU ct 0,bU .u32 0] 106));have B:dS w H:=by rw[i];exact aQ
 have F:E0 H w.h.s cY:=by rw[i];exact E0.new w cY
 have L:H.h.s=w.h.s+1:=by rw[i];simp
 have G:eU .u8 H u (dN bs):=O.o.cP (by rw[i];exact aQ);have R:=cz i;clear i;have N:=cz G;clear G;have K:=cz F;clear F;obtain⟨E,F⟩:=fU w.h.s;rw[<-F] at L;have G:w.h.s<=E:=cN;have X:=cz F;clear F;have V:∃a n c,u=bX a n c:=by obtain⟨a,c,h,_⟩:=O.o;exact⟨_,_,_,h⟩
 go_enter func195,ntmps195;go_wp2_with fail;rw[<-R.o,<-X.o];refine(J2 _).mono ?_;rintro e w1 ⟨F,rfl,H,-,y⟩;have C:=Below.step B B.s y;have F:=cL.cP K.o y;have O:=cz (N.o.cP y);have L:=cz F;have Q:=cz H;clear F H K N y B R;obtain⟨a,n,c,rfl⟩:=V;go_wp2_with fail;refine(J1 _ _ [4,8,4] bs bB _ Q.o O.o I.o).mono ?_;rw[ada];rintro e w2 ⟨F,rfl,b,D⟩;have t:=Below.step C C.s D;have k:=cL.cP L.o D;rw[<-X.o] at k;have s:=cz k;clear k L O Q D C;by_cases H:bs.n=16;case neg=>rw[cX H];have F:nZ bs=cw:=cX (λh=>H h.1);have J:=cz F;clear F b;have hc:gq 21 (cw:Option cV)=21:=rfl;rw[hc];clear hc;go_wp2_with (refine wpList_store_row (o:=⟨cw,.store 106 (.tmp 2) (.tmp 15),_,_,_,cw⟩) ae 106 (.tmp 2) (.tmp 15) ae E ae 3 (dE cY) _ ae (zI cY).symm 106 (dE cY) s.o ku (dJ _) ?_);refine iI (mA (p:=2) (q:=3) (ty:=106) ae ae (cL.setRow s.o (dE cY)) Af ae ku) ae ⟨by rw[J.o];rfl,Below.setRow t G _⟩
 rw[c8 H] at b|-;have hc:gq 21 (cu [(AH bs).1,(AH bs).2.1,(AH bs).2.2])=0:=rfl;rw[hc];clear hc;have F:=F' U;obtain⟨I,L,N⟩:=F;have F:nZ bs=if im (AH bs)=cx then cu (AH bs) else cw:=by unfold nZ;grind
 have m:=cz F;clear F U H;obtain⟨r,F⟩:=dG (im (AH bs));rw[F] at m;have M:=cz F;clear F;obtain⟨p,Z⟩:=dG (AH bs);rw[Z] at m M b I L N;clear Z;rcases b.2 with⟨_,I⟩|⟨g,d,F,rfl,F,H,_⟩;simp at I;have N:=Jc b 0 eQ;have O:=Jc b 1 eQ;have R:=Jc b 2 eQ;simp at N O R;have I:g<w2.h.s:=(rI.1 H).1;clear b H F;have U:IntKind.i64.wrap (p.1:Int)=(p.1:Int):=kX _ cN;have Z:IntKind.u32.wrap (p.2.2:Int)=(p.2.2:Int):=IntWalk.u32_in _ cN;have V:=World.new_ne w2 ⟨g,0,cw⟩ N;have X:=World.new_ne w2 ⟨g,1,cw⟩ O;have Y:=World.new_ne w2 ⟨g,2,cw⟩ R;go_wp2_with fail;go_region_held3 (λW=>W.cell? ⟨g,0,cw⟩=cu (.int ct (p.1:Int))/\W.cell? ⟨g,1,cw⟩=cu (.int ct (p.2.1:Int))/\W.cell? ⟨g,2,cw⟩=cu (.int ct (p.2.2:Int))) (go_keep) (fail);have f:E0 (w2.alloc (.cells #[bU cq p.1,bU ct p.2.1,bU .u32 p.2.2] 106)).drew w2.h.s p:=E0.new w2 p;have j:E0 (w2.alloc (.cells #[bU cq p.1,bU ct p.2.1,bU .u32 p.2.2] 106)).drew E cY:=cL.alloc_old s.o _;have v:dS w (w2.alloc (.cells #[bU cq p.1,bU ct p.2.1,bU .u32 p.2.2] 106)).drew:=(t.alloc t.s _).drew;obtain⟨F,I⟩:=fU ((w2.alloc (.cells #[bU cq p.1,bU ct p.2.1,bU .u32 p.2.2] 106)).drew);rw[<-I] at f j v|-;obtain⟨F,hF⟩:=fU w2.h.s;rw[<-hF] at f|-;have L:=cz f;clear f;have H:=cz j;clear j I hF s t N O R V X Y U Z;go_wp2_with (refine tO (o:=⟨cu 28,.load 106 (.tmp 6),_,_,_,cw⟩) ae 106 (.tmp 6) ae F ae 3 106 _ L.o _ Af ae ku ?_;rw[zI]);refine(yE p _).mono ?_;rw[M.o];rintro e w4 ⟨rfl,z⟩;have T:=Below.step v v.s z;have I:=cz (show E0 w4 F p from cL.cP L.o z);have l:=cz (show E0 w4 E cY from cL.cP H.o z);clear z L H v;cases r with|false=>have J:Hid (nZ bs=cw):=m.o;go_wp2_with (refine wpList_store_row (o:=⟨cw,.store 106 (.tmp 2) (.tmp 31),_,_,_,cw⟩) ae 106 (.tmp 2) (.tmp 31) ae E ae 3 (dE cY) _ ae (zI cY).symm 106 (dE cY) l.o ku (dJ _) ?_);refine iI (mA (p:=2) (q:=3) (ty:=106) ae ae (cL.setRow l.o (dE cY)) Af ae ku) ae ⟨by rw[J.o];rfl,Below.setRow T G _⟩|true=>have J:Hid (nZ bs=cu p):=m.o;go_wp2_with (first|(refine tO (o:=⟨cu 32,.load 106 (.tmp 6),_,_,_,cw⟩) ae 106 (.tmp 6) ae F ae 3 106 _ I.o _ Af ae ku ?_;rw[zI])|refine wpList_store_row (o:=⟨cw,.store 106 (.tmp 2) (.tmp 32),_,_,_,cw⟩) ae 106 (.tmp 2) (.tmp 32) ae E ae 3 (dE p) _ ae (zI p).symm 106 (dE cY) l.o ku (dJ _) ?_);refine iI (mA (p:=2) (q:=3) (ty:=106) ae ae (cL.setRow l.o (dE p)) Af ae ku) ae ⟨by rw[J.o];rfl,Below.setRow T G _⟩
def qt(st:Nat->Nat)(s:Nat):Nat->Nat
 |0=>0
 |k+1=>qt st s k+if st (s+k)=1 then 1 else 0
def kj(st:Nat->Nat)(k:Nat):Nat:=qt st (64*k) 64
def kE(st:Nat->Nat)(i v:Nat):Nat->Nat:=λj=>if j=i then v else st j
def G0(st:Nat->Nat):Nat->Nat
 |0=>0
 |k+1=>G0 st k+kj st k
def fI(st:Nat->Nat):Nat:=G0 st 16
def sY(st:Nat->Nat):Nat->Nat
 |0=>0
 |k+1=>if kj st (sY st k)<kj st k then k else sY st k
def LX(st:Nat->Nat):Nat:=sY st 16
def mU(st:Nat->Nat)(s:Nat):Nat->Option Nat
 |0=>cw
 |k+1=>match mU st s k with
  |some i=>cu i
  |none=>if st (s+k)=1 then cu (s+k) else cw
def nG(st:Nat->Nat):Option Nat:=mU st (64*LX st) 64
def iJ(st:Nat->Nat):Nat->cV×(Nat->Nat)
 |0=>([],st)
 |k+1=>match nG (iJ st k).2 with
  |some i=>((iJ st k).1++[i],kE (iJ st k).2 i 2)
  |none=>iJ st k
def pR(T:Int):Nat->Nat:=λi=>if 4<=i/\(i:Int)<T/\i<1024 then 1 else 0
def mV(st:Nat->Nat):Nat->Nat:=λi=>if st i=3 then 1 else st i
theorem BO(st:Nat->Nat)(s k:Nat):qt st s (k+1)=qt st s k+if st (s+k)=1 then 1 else 0:=rfl
theorem LY(st:Nat->Nat)(s k:Nat):qt st s k<=k:=by induction k with|zero=>simp[qt]|succ k ih=>grind[qt]
def TT(st:Nat->Nat)(k:Nat):kj st k<=64:=LY _ _ _
theorem J3{st a:Nat->Nat}{s k:Nat}(h:∀i,s<=i->i<s+k->st i=a i):qt st s k=qt a s k:=by induction k<;>grind[qt]
theorem aaC(st:Nat->Nat)(s k m:Nat):qt st s (k+m)=qt st s k+qt st (s+k) m:=by induction m with|zero=>rfl|succ m ih=>rw[show k+(m+1)=(k+m)+1 from ae,BO,BO,ih,FP s k m];omega
theorem Je(st:Nat->Nat)(i v:Nat):kE st i v i=v:=by simp[kE]
theorem Ga(st:Nat->Nat){i j:Nat}(v:Nat)(h:j≠i):kE st i v j=st j:=by simp[kE,h]
theorem aaD{st:Nat->Nat}{i v:Nat}(h:st i=v):kE st i v=st:=by grind[kE]
theorem aaE(st:Nat->Nat)(i v u:Nat):kE (kE st i v) i u=kE st i u:=by grind[kE]
theorem E'(st:Nat->Nat){i s k:Nat}(v:Nat)(h:¬(s<=i/\i<s+k)):qt (kE st i v) s k=qt st s k:=
 by grind[J3,Ga]
theorem PI(st:Nat->Nat){i s k:Nat}(v:Nat)(a:s<=i)(b:i<s+k):
 qt (kE st i v) s k+(if st i=1 then 1 else 0)=qt st s k+(if v=1 then 1 else 0):=by induction k<;>grind[qt,E',Je,Ga]
theorem Oy(st:Nat->Nat){i k:Nat}(v:Nat)(h:i/64≠k):kj (kE st i v) k=kj st k:=
 E' st v cN
def aaF(st:Nat->Nat)(v:Nat)(h:i/64=k):
 kj (kE st i v) k+(if st i=1 then 1 else 0)=kj st k+(if v=1 then 1 else 0):=
 PI st v cN cN
theorem TU(st:Nat->Nat)(k:Nat):G0 st k=qt st 0 (64*k):=by induction k with|zero=>rfl|succ k ih=>unfold G0;rw[ih,show 64*(k+1)=64*k+64 from by omega,aaC,pM];rfl
theorem En(st:Nat->Nat):fI st=qt st 0 1024:=TU st 16
theorem TV(st:Nat->Nat)(k:Nat):G0 st k<=64*k:=by grind[TU,LY]
theorem Xi(st:Nat->Nat)(v:Nat)(h:i<1024):
 fI (kE st i v)+(if st i=1 then 1 else 0)=fI st+(if v=1 then 1 else 0):=by grind[En,PI]
theorem PJ(st:Nat->Nat)(a:0<k):sY st k<k:=by induction k with|zero=>omega|succ k ih=>unfold sY;split;omega;rcases vM k with rfl|h;simp_all[sY];omega
theorem adb(st:Nat->Nat):LX st<16:=PJ st cN
theorem Xj(st:Nat->Nat)(k:Nat):∀j,j<k->kj st j<=kj st (sY st k)/\(j<sY st k->kj st j<kj st (sY st k)):=by induction k with|zero=>omega|succ k ih=>intro j c;unfold sY;by_cases b:kj st (sY st k)<kj st k;grind;rw[cX b];by_cases a:j=k;subst a;refine⟨cN,λh=>?_⟩;rcases vM j with rfl|h0;grind[sY];have:=PJ st h0;omega;grind
theorem aaG(st:Nat->Nat){j:Nat}(h:j<16):kj st j<=kj st (LX st):=(Xj st 16 j h).1
theorem yG{s:Nat}(h:mU st s k=cu i):s<=i/\i<s+k/\st i=1/\∀j,s<=j->j<i->st j≠1:=by
 have a:∀m,mU st s m=cw->∀j,s<=j->j<s+m->st j≠1:=by intro m;induction m<;>grind[mU]
 induction k<;>grind[mU]
theorem LZ{s:Nat}(h:mU st s k=cw):qt st s k=0:=by induction k with|zero=>rfl|succ k ih=>unfold mU at h;split at h;cases h;simp_all[qt]
theorem Jf{s:Nat}(a:s<=i)(b:i<s+k)(h:st i=1):0<qt st s k:=by induction k with|zero=>omega|succ k ih=>unfold qt;grind
theorem Q8{s:Nat}(b:∀j,j<k->st (s+j)≠1)(h:st (s+k)=1)(m:Nat)(e:k<m):mU st s m=cu (s+k):=by
 have c:mU st s k=cw:=by cases a:mU st s k with|none=>rfl|some i=>have:=yG a;have d:=b (i-s) cN;grind
 induction m<;>grind[mU]
theorem Q9{s:Nat}(b:∀j,j<k->st (s+j)≠1):mU st s k=cw:=by cases a:mU st s k with|none=>rfl|some i=>have:=yG a;have c:=b (i-s) cN;grind
theorem qu(h:nG st=cu i):i<1024/\st i=1/\i/64=LX st/\∀j,64*LX st<=j->j<i->st j≠1:=by have:=yG h;grind[adb]
theorem Cx(st:Nat->Nat):nG st=cw↔fI st=0:=by constructor;(intro h;have b:kj st (LX st)=0:=LZ h;have c:∀k,k<=16->G0 st k=0:=by intro k;induction k<;>grind[G0,aaG]);simp_all[fI];intro h;cases a:nG st with|none=>rfl|some i=>have:=qu a;rw[En] at h;have:=Jf (st:=st) (s:=0) (k:=1024) (i:=i) cN cN this.2.1;omega
theorem Gb(h:0<fI st):∃i,nG st=cu i:=by cases a:nG st with|none=>grind[Cx]|some i=>grind
theorem Ra(h:nG st=cu i):fI (kE st i 2)+1=fI st:=by have:=qu h;have a:=Xi st 2 this.1;grind
theorem BP(st:Nat->Nat)(h:nG (iJ st k).2=cu i):iJ st (k+1)=((iJ st k).1++[i],kE (iJ st k).2 i 2):=by rw[show iJ st (k+1)=(match nG (iJ st k).2 with|some i=>((iJ st k).1++[i],kE (iJ st k).2 i 2)|none=>iJ st k) from ae,h]
theorem zJ(st:Nat->Nat)(h:k<=fI st):fI (iJ st k).2+k=fI st/\(iJ st k).1.n=k:=by induction k with|zero=>exact aE|succ k ih=>have⟨h1,h2⟩:=ih cN;obtain⟨i,a⟩:=Gb (st:=(iJ st k).2) cN;have:=Ra a;rw[BP st a];grind
structure jZ(b:Nat)(w w':cS):Prop where
 os:w'.os=w.os
 tape:w'.tape=w.tape
 output:w'.output=w.output
 size:w.h.s<=w'.h.s
 block:∀k,k<w.h.s->k≠b->w'.h[k]?=w.h[k]?
theorem jZ.refl(b:Nat)(w:cS):jZ b w w:=⟨ae,ae,ae,eN _,λ_ _ _=>ae⟩
theorem jZ.trans{b:Nat}{w w1 w2:cS}(h:jZ b w w1)(k:jZ b w1 w2):jZ b w w2:=
 ⟨k.os.trans h.os,k.tape.trans h.tape,k.output.trans h.output,ik h.size k.size,λi c a=>(k.block i (pK c h.size) a).trans (h.block i c a)⟩
theorem jZ.tA{b:Nat}{w w':cS}(h:dS w w'):jZ b w w':=⟨h.os,h.tape,h.output,h.s,λk a _=>h.block k a⟩
theorem jZ.drew(h:jZ b w w'):jZ b w w'.drew:=⟨h.os,h.tape,h.output,h.size,h.block⟩
def jZ.setCell(h:jZ b w w')(o:Nat)(v:c7):jZ b w (w'.setCell ⟨b,o,cw⟩ v):=
 h.trans ⟨ae,ae,ae,by simp,λk _ a=>I9 w' ⟨b,o,cw⟩ k v a⟩
theorem jZ.cP(h:jZ b w w')(a:B<=b)(d:B<=w.heap.size):Below B w w':=
 ⟨h.os,h.tape,h.output,h.size,λk c=>h.block k cN cN⟩
def tV(st a:Nat->Nat):Nat->c7:=λi=>if i<1024 then bU .u8 (st i:Nat) else bU cq (a (i-1024):Nat)
theorem L0(st a:Nat->Nat){i:Nat}(h:i<1024):tV st a i=bU .u8 (st i:Nat):=c8 h
theorem PK(st a:Nat->Nat)(k:Nat):tV st a (1024+k)=bU cq (a k:Nat):=by simp_all[tV]
def fD(w:cS)(b:Nat)(st:Nat->Nat):Prop:=cL w b 206 1040 (tV st (kj st))
def fD.rO(h:fD w c st)(a:jZ b w w')(hc:c≠b):fD w' c st:=by unfold fD cL;rw[a.block c (cL.lt h) hc];exact h
theorem fD.cP(h:fD w b st)(a:dS w w'):fD w' b st:=cL.cP h a
theorem fD.state(h:fD w b st)(a:i<1024):w.cell? ⟨b,i,cw⟩=cu (.int .u8 (st i:Nat)):=by have:=cL.cell h (i:=i) cN;grind[L0]
theorem fD.room(h:fD w b st)(a:k<16):w.cell? ⟨b,1024+k,cw⟩=cu (.int cq (kj st k:Nat)):=by have:=cL.cell h (i:=1024+k) cN;grind[PK]
theorem aaH(st a:Nat->Nat)(q r:Nat):∀j,(if j=1024+q then(bU cq r:c7) else tV st a j)=tV st (λk=>if k=q then r else a k) j:=by intro j;unfold tV;grind
theorem Dn(b:Nat)(st:Nat->Nat)(i:Int)(s:Nat)(w:cS)(h:fD w b st)(f:eT i):
 CP_ 136 #[bW (cu ⟨b,0,cw⟩),bU cq i,bU .u8 s] w λe w'=>e=cj (bZ (decide (0<=i/\i<1024/\st i.m=s)))/\w=w':=by
 unfold eT at f;by_cases o:i<0;have a:decide (0<=i/\i<1024/\st i.m=s)=cy:=jC cN;rw[a];have c:decide (0<=i)=cy:=jC cN;clear a;rotate_left;by_cases p:¬i<1024;have a:decide (0<=i/\i<1024/\st i.m=s)=cy:=jC cN;rw[a];have c:decide (0<=i)=cx:=gI cN;have d:decide (i<1024)=cy:=jC cN;clear a;rotate_left;obtain⟨k,rfl⟩:∃k:Nat,i=(k:Int):=⟨i.m,cN⟩;have g:k<1024:=cN;have hc:=h.state g;have a:decide (0<=(k:Int)/\(k:Int)<1024/\st (k:Int).m=s)=((st k:Int)==(s:Int)):=by grind
 rw[a];have⟨x,hx⟩:=dG (st k);rw[hx] at hc|-;have⟨r,hr⟩:=dG (((x:Int)==(s:Int)));rw[hr];clear a hx;have j:decide ((0:Int)<=(k:Int))=cx:=gI cN;have l:decide ((k:Int)<1024)=cx:=gI cN;have m:(0:Int)<=(k:Int):=cN;have n:(k:Int)<1024:=cN
 all_goals
  go_enter func136,ntmps136;go_wp2;go_ret;exact aE
structure Head where
 n:Nat
 sb:Nat
 nb:Nat
 pv:c7
 ops:Nat
 left:Int
 df:Bool
def pO(h:Head):Nat->c7:=λi=>
 if i=0 then bX (cu ⟨h.sb,0,cw⟩) h.n h.n else if i=1 then bX (cu ⟨h.nb,0,cw⟩) h.n h.n else if i=2 then h.pv
 else if i=3 then bU cq h.ops else if i=4 then bU cq h.left else bZ h.df
def kh(w:cS)(D:Nat)(h:Head):Prop:=cL w D 127 6 (pO h)
theorem kh.cells{h:Head}(a:kh w D h):
 w.cell? ⟨D,0,cw⟩=cu (.slice (cu ⟨h.sb,0,cw⟩) h.n h.n)/\w.cell? ⟨D,1,cw⟩=cu (.slice (cu ⟨h.nb,0,cw⟩) h.n h.n)/\w.cell? ⟨D,2,cw⟩=cu h.pv/\
 w.cell? ⟨D,3,cw⟩=cu (.int cq h.ops)/\w.cell? ⟨D,4,cw⟩=cu (.int cq h.left)/\w.cell? ⟨D,5,cw⟩=cu (.bool h.df):=
 ⟨cL.cell a (i:=0) cN,cL.cell a (i:=1) cN,cL.cell a (i:=2) cN,cL.cell a (i:=3) cN,cL.cell a (i:=4) cN,cL.cell a (i:=5) cN⟩
theorem kh.set{h b:Head}(a:kh w D h)(i:Nat)(v:c7)(c:∀j,j<6->(if j=i then v else pO h j)=pO b j):kh (w.setCell ⟨D,i,cw⟩ v) D b:=
 (cL.set a i v).congr c
theorem qC(D:Nat)(w:cS)(i:Nat)(v:c7):jZ D w (w.setCell ⟨D,i,cw⟩ v):=(jZ.refl D w).setCell i v
def agc(D:Nat)(h:Head)(w:cS)(a:kh w D h):CP_ 84 #[bW (cu ⟨D,0,cw⟩)] w λe w'=>e=cj (bU cq h.n)/\w=w':=by obtain⟨b,-,-,-,-,-⟩:=a.cells;clear a;go_enter func84,ntmps84;go_wp2;go_ret;exact aE
def ade(D:Nat)(h:Head)(w:cS)(a:kh w D h):CP_ 82 #[bW (cu ⟨D,0,cw⟩)] w λe w'=>e=cj (bZ h.df)/\w=w':=by obtain⟨-,-,-,-,-,b⟩:=a.cells;clear a;go_enter func82,ntmps82;go_wp2;go_ret;exact aE
def AI(h:Head)(i:Int):Bool:=decide (0<=i/\i<(h.n:Int))
theorem Rb(D:Nat)(h:Head)(i:Int)(w:cS)(a:kh w D h):CP_ 182 #[bW (cu ⟨D,0,cw⟩),bU cq i] w λe w'=>e=cj (bZ (AI h i))/\w=w':=by
 obtain⟨f,-,-,-,-,-⟩:=a.cells;clear a;by_cases c:0<=i;have b:AI h i=decide (i<(h.n:Int)):=by unfold AI;grind
 rw[b];have d:decide (0<=i)=cx:=gI c;clear b;have⟨r,b⟩:=dG (decide (i<(h.n:Int)));rw[b];rotate_left;have b:AI h i=cy:=jC (λx=>c x.1);rw[b];have d:decide (0<=i)=cy:=jC c;clear b
 all_goals
  go_enter func182,ntmps182;go_wp2;go_ret;exact aE
def jD(h:Head):Head:=if h.ops<4611686018427387903 then {h with ops:=h.ops+1} else h
def AJ(D:Nat)(h:Head)(w:cS)(a:kh w D h):CP_ 219 #[bW (cu ⟨D,0,cw⟩)] w λe w'=>e=cj (cg #[])/\kh w' D (jD h)/\jZ D w w':=by
 obtain⟨-,-,-,k,-,-⟩:=a.cells;have m:=cL.frozen a 3;have f:=cz a;clear a;by_cases c:h.ops<4611686018427387903
 . (have hc:jD h= {h with ops:=h.ops+1}:=c8 c;rw[hc];have b:(h.ops:Int)<4611686018427387903:=cN;have l:∀j,j<6->(if j=3 then(bU cq ((h.ops:Int)+1):c7) else pO h j)=pO {h with ops:=h.ops+1} j:=by intro j n;by_cases d:j=3;subst d;rw[c8 ae];unfold pO;simp;rw[cX d];unfold pO;simp[d]);have i:=cz (f.o.set 3 (bU cq ((h.ops:Int)+1)) l);have g:=cz (qC D w 3 (bU cq ((h.ops:Int)+1)));clear hc c l;have⟨o,HO⟩:=sV h.ops;rw[HO.o] at k b i g;go_enter func219,ntmps219;go_wp2;go_end0;exact⟨ae,by rw[HO.o];exact i.o,g.o⟩
 . have hc:jD h=h:=cX c;rw[hc];have b:¬(h.ops:Int)<4611686018427387903:=cN;clear hc c;have⟨o,HO⟩:=sV h.ops;rw[HO.o] at k b;go_enter func219,ntmps219;go_wp2;go_end0;exact⟨ae,f.o,jZ.refl _ _⟩
def lB(h:Head):Head×Bool:=
 if h.left=0 then({h with df:=cx},cy) else if h.df=cx then(h,cy) else if 0<h.left then({h with left:=h.left-1},cx) else(h,cx)
theorem Eo(h:Head)(x:Int):∀j,j<6->(if j=4 then(bU cq x:c7) else pO h j)=pO {h with left:=x} j:=by intro j b;by_cases a:j=4;subst a;rfl;simp_all[pO]
theorem PL(h:Head)(x:Bool):∀j,j<6->(if j=5 then(bZ x:c7) else pO h j)=pO {h with df:=x} j:=by intro j b;by_cases a:j=5;subst a;rfl;rw[cX a];grind[pO]
def Ep(D:Nat)(h:Head)(d: -1<=h.left/\h.left<=9223372036854775807)(w:cS)(a:kh w D h):CP_ 261 #[bW (cu ⟨D,0,cw⟩)] w λe w'=>e=cj (bZ (lB h).2)/\kh w' D (lB h).1/\jZ D w w':=by
 obtain⟨-,-,-,-,j,p⟩:=a.cells;have q:=cL.frozen a 4;have r:=cL.frozen a 5;have n:=cz a;clear a;by_cases b:h.left=0
 . have hc:lB h=({h with df:=cx},cy):=c8 b;rw[hc];have i:=cz (n.o.set 5 (bZ cx) (PL h cx));have g:=cz (qC D w 5 (bZ cx));rw[b] at j;clear hc b d;go_enter func261,ntmps261;go_wp2;go_ret;exact⟨ae,i.o,g.o⟩
 by_cases c:h.df=cx;have hc:lB h=(h,cy):=by unfold lB;rw[cX b,c8 c]
 rw[hc];rw[c] at p;have k:((h.left:Int)==0)=cy:=by rw[lr];exact b
 clear hc b c d;have⟨l,d⟩:=dG h.left;rw[d] at j k;have o:=cz d;clear d;rotate_left;have f:h.df=cy:=by simpa using c
 rw[f] at p;have k:((h.left:Int)==0)=cy:=by rw[lr];exact b
 by_cases m:0<h.left
 . (have hc:lB h=({h with left:=h.left-1},cx):=by unfold lB;rw[cX b,cX c,c8 m]);rw[hc];have i:=cz (n.o.set 4 (bU cq (h.left-1)) (Eo h (h.left-1)));have g:=cz (qC D w 4 (bU cq (h.left-1)));clear hc b c f;have⟨l,hl2⟩:=dG h.left;rw[hl2] at j k m d i g;have o:=cz hl2;clear hl2;go_enter func261,ntmps261;go_wp2;go_ret;exact⟨ae,by rw[o.o];exact i.o,g.o⟩
 have hc:lB h=(h,cx):=by unfold lB;rw[cX b,cX c,cX m]
 rw[hc];clear hc b c f;have⟨l,hl2⟩:=dG h.left;rw[hl2] at j k m d;clear hl2
 all_goals
  go_enter func261,ntmps261;go_wp2;go_ret;exact⟨ae,n.o,jZ.refl _ _⟩
def L5(h:Head)(n:Int):Head:={h with left:=max n (-1)}
def aaI(D:Nat)(h:Head)(n:Int)(i:eT n)(w:cS)(a:kh w D h):CP_ 21 #[bW (cu ⟨D,0,cw⟩),bU cq n] w λe w'=>e=cj (cg #[])/\kh w' D (L5 h n)/\jZ D w w':=by
 unfold eT at i;obtain⟨-,-,-,-,j,-⟩:=a.cells;have k:=cL.frozen a 4;have d:=cz a;clear a;by_cases l:n< -1;have c:max n (-1)= -1:=cN;have b:L5 h n= {h with left:=-1}:=by unfold L5;rw[c]
 rw[b];have g:=cz (d.o.set 4 (bU cq (-1)) (Eo h (-1)));have f:=cz (qC D w 4 (bU cq (-1)));rotate_left;have c:max n (-1)=n:=cN;have b:L5 h n= {h with left:=n}:=by unfold L5;rw[c]
 rw[b];have g:=cz (d.o.set 4 (bU cq n) (Eo h n));have f:=cz (qC D w 4 (bU cq n))
 all_goals
  clear c b;go_enter func21,ntmps21;go_wp2
  go_end0
  exact⟨ae,g.o,f.o⟩
def di(s:cV):Nat->c7:=λj=>bU .u8 (s.getD j 0:Nat)
def jP(s:cV):∀i,(di s i).oneCell'=cx:=λ_=>ae
def fN:cV:=replicate 128 0
def EV(s:Nat->cV):Nat->c7:=λi=>bU .u8 ((s (i/128)).getD (i%128) 0:Nat)
def kO(w:cS)(b n:Nat)(s:Nat->cV):Prop:=cL w b 36 (n*128) (EV s)
theorem agd(s:Nat->cV)(i j:Nat)(h:j<128):EV s (i*128+j)=di (s i) j:=by grind[EV,di]
def kO.range{s:Nat->cV}(h:kO w b n s)(c:i<n):w.rangeAt b (i*128) (cM 128 (di (s i))).t:=by
 intro j v a;rw[nL,dy] at a;split at a;next hj=>cases a;rw[<-agd s i j hj];exact cL.cell h cN
 cases a
def pB:(prog.info? 36).map (·.size)=cu 128:=dC
theorem vW:zeroCells36=cM 128 (di fN):=dC
structure zK(w:cS)(D:Nat)(h:Head)(st nw:Nat->cV):Prop where
 head:kh w D h
 lk:kO w h.sb h.n st
 lC:kO w h.nb h.n nw
 apart:h.sb≠h.nb
 qD:h.n<=1024
def G1(h:Head)(nw:Nat->cV)(i:Int):cV×Int:=
 if AI h i=cx then(if h.df=cx then(fN,42) else(nw i.m,0)) else(fN,41)
theorem zK.but{w w':cS}{D:Nat}{h c:Head}{st nw:Nat->cV}(a:zK w D h st nw)(d:jZ D w w')(g:kh w' D c)(e:c.n=h.n/\c.sb=h.sb/\c.nb=h.nb):zK w' D c st nw:=by
 have⟨e1,e2,e3⟩:=e;have f:∀{b:Nat},kO w b h.n st∨kO w b h.n nw->b≠D:=by intro b j e;have i:=a.head;grind[kh,cL,kO]
 refine⟨g,?_,?_,by rw[e2,e3];exact a.apart,by rw[e1];exact a.qD⟩;rw[e1,e2];have:=f (.inl a.lk);unfold kO cL;rw[d.block _ a.lk.lt this];exact a.lk;rw[e1,e3];have:=f (.inr a.lC);unfold kO cL;rw[d.block _ a.lC.lt this];exact a.lC
def zK.setRow{h:Head}{st:Nat->cV}(a:zK w D h st nw)(d:D≠E)(b:h.sb≠E)(c:h.nb≠E)(cs:gJ):zK (w.setRow E cs) D h st nw:=
 ⟨cL.setRow_other a.head d cs,cL.setRow_other a.lk b cs,cL.setRow_other a.lC c cs,a.apart,a.qD⟩
def jZ.setRow(h:jZ D w w1)(c:w.heap.size<=E)(cs:gJ):jZ D w (w1.setRow E cs):=
 ⟨h.os,h.tape,h.output,by rw[setRow_size];exact h.size,λk b a=>(setRow_other w1 E k cs cN).trans (h.block k b a)⟩
theorem nO(h:Head):(jD h).n=h.n/\(jD h).sb=h.sb/\(jD h).nb=h.nb/\(jD h).df=h.df/\(jD h).left=h.left/\(jD h).pv=h.pv:=by unfold jD;grind
def adf(D:Nat)(h:Head)(st nw:Nat->cV)(i:Int)(F:eT i)(w:cS)(a:zK w D h st nw):
 CP_ 165 #[bW (cu ⟨D,0,cw⟩),bU cq i] w λe w'=>∃A,e=cj (cg #[bV A,bU cq (G1 h nw i).2])/\A=cM 128 (di (G1 h nw i).1)/\zK w' D (jD h) st nw/\jZ D w w':=by
 have G:=cz F;clear F;have⟨W0,hW0⟩:=fU (w.alloc (.cells zeroCells36 36));have B:cL W0 w.h.s 36 128 (di fN):=by rw[hW0,vW];exact br
 have l:dS w W0:=by rw[hW0];exact aQ
 have K:zK W0 D h st nw:=a.but (jZ.tA l) (cL.cP a.head l) ⟨ae,ae,ae⟩;have X:D<w.h.s:=a.head.lt;have F:h.sb<w.h.s:=a.lk.lt;have Y:h.nb<w.h.s:=a.lC.lt;have⟨E,hE⟩:=fU w.h.s;rw[<-hE] at B X F Y;have F:w.h.s<=E:=cN;have r:jZ D w W0:=jZ.tA l;have G:=cz hE;clear hE;have I:=cz hW0;clear hW0;have s:=cz K;clear K a l;have t:=cz B;clear B;obtain⟨n,x,y,z,_,_⟩:=nO h;have⟨h2,hh2⟩:=dG (jD h);rw[hh2] at n x y z|-;have k:=cz (And.intro n (And.intro x y));have U:=cz z;have g:AI h2 i=AI h i:=by unfold AI;rw[n]
 clear n x y z;have T:=cz hh2;clear hh2;have⟨hs,hhs⟩:=dG (AI h i);rw[hhs] at g;have R:=cz g;clear g;have j:=cz hhs;clear hhs;go_enter func165,ntmps165;go_wp2_with fail;rw[<-I.o,<-G.o];refine(AJ D h _ s.o.head).mono ?_;rw[T.o];rintro e w1 ⟨rfl,N,m⟩;have u:=r.trans m;have d:=cz (s.o.but m N k.o);have O:cL w1 E 36 128 (di fN):=by unfold cL;rw[m.block E t.o.lt cN];exact t.o
 have f:=cz O;clear O N m t s I r;go_wp2_with fail
 refine(Rb D h2 i _ d.o.head).mono ?_;rw[R.o];rintro e w2 ⟨rfl,rfl⟩;cases hs with
 |false=>
  have c:G1 h nw i=(fN,41):=by unfold G1;rw[j.o];rfl
  have b:=cz c;clear c;go_wp2_with (refine wpList_store_row (o:=⟨cw,.store 36 (.tmp 4) (.tmp 12),_,_,_,cw⟩) ae 36 (.tmp 4) (.tmp 12) ae E ae 128 (di fN) zeroCells36 ae vW 36 (di fN) f.o pB (jP _) ?_);exact iI (mA (p:=4) (q:=5) (ty:=36) ae ae (cL.setRow f.o (di fN)) vX ae pB) ae<|⟨_,by rw[b.o];rfl,by rw[b.o],d.o.setRow cN amW amX _,u.setRow F _⟩
 |true=>
  have⟨hi0,hin⟩:=mj (j.o:decide (0<=i/\i<(h.n:Int))=cx);obtain⟨-,I,-,-,-,V⟩:=d.o.head.cells;rw[U.o] at V;by_cases L:h.df=cx
  . (have c:G1 h nw i=(fN,42):=by unfold G1;rw[j.o,L];rfl);have b:=cz c;clear c;rw[L] at V;clear L I hi0 hin;go_wp2_with (refine wpList_store_row (o:=⟨cw,.store 36 (.tmp 4) (.tmp 17),_,_,_,cw⟩) ae 36 (.tmp 4) (.tmp 17) ae E ae 128 (di fN) zeroCells36 ae vW 36 (di fN) f.o pB (jP _) ?_);exact iI (mA (p:=4) (q:=5) (ty:=36) ae ae (cL.setRow f.o (di fN)) vX ae pB) ae<|⟨_,by rw[b.o];rfl,by rw[b.o],d.o.setRow cN amW amX _,u.setRow F _⟩
  . (have v:h.df=cy:=by simpa using L);(rw[v] at V;obtain⟨q,rfl⟩:∃q:Nat,i=(q:Int):=⟨i.m,cN⟩;have G:q<h.n:=cN;have c:G1 h nw (q:Int)=(nw q,0):=by unfold G1;rw[j.o,v,uI];rfl);(have b:=cz c;clear c L v;have C:=d.o.lC.range (i:=q) (by have:=k.o.1;omega);have Z:(q:Int)<(h2.n:Int):=by have:=k.o.1;omega);(have G:(0:Int)<=(q:Int):=cN;have M:=d.o.qD;have⟨A,hA⟩:=fU (cM 128 (di (nw q)));rw[<-hA] at C;have J:A.t.n=128:=by rw[hA,nA,cW]);have Q:=cz hA;clear hA;have H:=cz C;clear C;have G:=cz J;clear J;have⟨nb,hnb⟩:=dG h2.nb;have⟨nn,hnn⟩:=dG h2.n;rw[hnb,hnn] at I;rw[hnn] at Z M;rw[hnb] at H;have I:=cz hnb;clear hnb;have I:=cz hnn;clear hnn;go_upto_region 6 with(fail);go_wp2_with (refine wpList_load_mid (op:=⟨cu 24,.load 36 (.tmp 23),_,_,_,cw⟩) ae 36 (.tmp 23) ae nb (q*128) ae A.t _ H.o vX ae (by rw[G.o];exact pB) ?_;rw[vA];refine wpList_store_row (o:=⟨cw,.store 36 (.tmp 4) (.tmp 24),_,_,_,cw⟩) ae 36 (.tmp 4) (.tmp 24) ae E ae 128 (di (nw q)) A ae Q.o 36 (di fN) f.o pB (jP _) ?_);exact iI (mA (p:=4) (q:=5) (ty:=36) ae ae (cL.setRow f.o (di (nw q))) vX ae pB) ae<|⟨_,by rw[b.o];rfl,by rw[b.o],d.o.setRow cN amW amX _,u.setRow F _⟩
def aid:(prog.info? 36).map (λi=>(i.zero,i.s,i.bytes))=cu (cu (bV zeroCells36),128,128):=dC
def rP(n:Nat):gJ:=cM (n*128) (EV λ_=>fN)
theorem aaJ(n:Nat):madeCells (Value.agg zeroCells36).cells (n*128)=rP n:=by
 have hc:(Value.agg zeroCells36).cells=cM 128 (di fN):=by rfl
 rw[hc];apply yg;intro j;unfold rP;rw[dy];unfold madeCells;by_cases h:j<n*128;rw[c8 h];simp only[Array.getElem?_map,cW];have a:j%128<128:=cN;simp_all[di,getElem!_def,dy,EV];grind
theorem Jg(n:Nat)(a:n<=1024)(W:cS):(Instr.makeSlice 124 (bU cq n) (bU cq n)).run prog W=.ok (bX (cu ⟨W.h.s,0,cw⟩) n n) (W.alloc (.cells (rP n) 36)):=by have⟨i0,hi,hz0,hz1,hz2⟩:=oH aid;rw[run_make W 124 36 i0 (bV zeroCells36) underlying124 hi hz0 cq cq (n:Nat) (n:Nat) cN cN jH cN,hz1];grind[aaJ]
def J4(s:Int):Nat:=(min (max s 0) 1024).m
def yH(n b a:Nat):Head:=⟨n,b,a,bX cw 0 0,0,-1,cy⟩
theorem TX(n b a:Nat):(#[Value.slice (cu ⟨b,0,cw⟩) n n,bX (cu ⟨a,0,cw⟩) n n,bX cw 0 0,bU cq 0,bU cq (-1),bZ cy]:gJ)=cM 6 (pO (yH n b a)):=by rfl
theorem TY(w:cS)(n:Nat)(l:n<=1024)(W:cS)(h:W=(w.alloc (.cells (rP n) 36)).alloc (.cells (rP n) 36))(d c:Nat)(p:(d=w.h.s/\c=w.h.s+1)∨(d=w.h.s+1/\c=w.h.s))(g:cS)(e:g=(W.alloc (.cells #[bX (cu ⟨d,0,cw⟩) n n,bX (cu ⟨c,0,cw⟩) n n,bX cw 0 0,bU cq 0,bU cq (-1),bZ cy] 127)).drew):
 zK g (w.h.s+1+1) (yH n d c) (λ_=>fN) (λ_=>fN)/\dS w g:=by
 have r:kO (w.alloc (.cells (rP n) 36)) w.h.s n λ_=>fN:=cL.alloc _ _ _ _;have i:(w.alloc (.cells (rP n) 36)).h.s=w.h.s+1:=by simp
 have j:kO W (w.h.s+1) n λ_=>fN:=by rw[h,<-i];exact br
 have o:Below (w.h.s+1) (w.alloc (.cells (rP n) 36)) W:=by rw[h];exact(gK _ _).alloc cN _
 have q:W.h.s=w.h.s+1+1:=by simp_all
 have f:kO W w.h.s n λ_=>fN:=by grind[cL.alloc_old,kO]
 rw[TX] at e;have k:kh (W.alloc (.cells (cM 6 (pO (yH n d c))) 127)) (w.h.s+1+1) (yH n d c):=by grind[cL.alloc,kh]
 have a:kO (W.alloc (.cells (cM 6 (pO (yH n d c))) 127)) w.h.s n λ_=>fN:=cL.alloc_old f _;have b:kO (W.alloc (.cells (cM 6 (pO (yH n d c))) 127)) (w.h.s+1) n λ_=>fN:=cL.alloc_old j _;have m:dS w g:=by rw[e,h];exact((((gK _ _).alloc (eN _) _).alloc cN _).alloc jH _).drew
 refine⟨?_,m⟩;rw[e];rcases p with⟨rfl,rfl⟩|⟨rfl,rfl⟩;exact⟨k,a,b,by grind[yH],l⟩;exact⟨k,b,a,by grind[yH],l⟩
def age(s:Int)(g:eT s)(w:cS):
 CP_ 37 #[bU cq s] w λe w'=>∃D d c,e=cj (bW (cu ⟨D,0,cw⟩))/\(zK w' D (yH (J4 s) d c) (λ_=>fN) (λ_=>fN)/\dS w w')/\w.h.s<=D/\w.h.s<=d/\w.h.s<=c:=by
 have⟨n,hn⟩:=dG (J4 s);rw[hn];unfold eT at g;have f:n<=1024:=by unfold J4 at hn;omega
 have a:=cz (TY w n f _ ae);by_cases h:s<0;obtain rfl:n=0:=by unfold J4 at hn;omega
 have b:∀W:cS,(Instr.makeSlice 124 (bU cq 0) (bU cq 0)).run prog W=.ok (bX (s_ W.h.s 0) 0 0) (W.alloc (.cells (rP 0) 36)):=λW=>Jg 0 cN W;rotate_left;by_cases i:1024<s;obtain rfl:n=1024:=by unfold J4 at hn;omega
 have b:∀W:cS,(Instr.makeSlice 124 (bU cq 1024) (bU cq 1024)).run prog W=.ok (bX (s_ W.h.s 0) 1024 1024) (W.alloc (.cells (rP 1024) 36)):=λW=>Jg 1024 cN W;rotate_left;obtain rfl:s=(n:Int):=by unfold J4 at hn;omega
 have b:∀W:cS,(Instr.makeSlice 124 (bU cq n) (bU cq n)).run prog W=.ok (bX (s_ W.h.s 0) n n) (W.alloc (.cells (rP n) 36)):=λW=>Jg n cN W
 all_goals
  clear hn;go_enter func37,ntmps37;go_wp2
  go_region
  all_goals(go_wp2;go_ret;first|exact⟨_,_,_,ae,a.o _ _ amv _ ae,cN,by omega,cN⟩|exact⟨_,_,_,ae,a.o _ _ amw _ ae,cN,by omega,cN⟩)
structure qR(B:Nat)(l:cV)(w w':cS):Prop where
 os:w'.os=w.os
 tape:w'.tape=w.tape
 output:w'.output=w.output
 size:w.h.s<=w'.h.s
 block:∀k,k<B->k∉l->w'.h[k]?=w.h[k]?
theorem qR.trans{B:Nat}{l:cV}{w w1 w2:cS}(h:qR B l w w1)(k:qR B l w1 w2):qR B l w w2:=
 ⟨k.os.trans h.os,k.tape.trans h.tape,k.output.trans h.output,ik h.size k.size,λi a b=>(k.block i a b).trans (h.block i a b)⟩
theorem qR.drew{l:cV}(h:qR B l w w'):qR B l w w'.drew:=⟨h.os,h.tape,h.output,h.size,h.block⟩
theorem qR.tA{B:Nat}{w w':cS}(h:Below B w w')(l:cV):qR B l w w':=⟨h.os,h.tape,h.output,h.s,λk a _=>h.block k a⟩
def qR.rO(h:jZ b w w')(a:B<=w.heap.size){l:cV}(c:b∈l∨B<=b):qR B l w w':=
 ⟨h.os,h.tape,h.output,h.size,λk d e=>h.block k cN jH⟩
def qR.setCell{l:cV}(h:qR B l w w')(d:b∈l∨B<=b)(o:Nat)(v:c7):qR B l w (w'.setCell ⟨b,o,none⟩ v):=
 ⟨h.os,h.tape,h.output,by simpa using h.size,λk a c=>(I9 w' ⟨b,o,none⟩ k v jH).trans (h.block k a c)⟩
def cL.pX{l:cV}(h:cL w b t n f)(s:qR B l w w')(a:b<B)(c:b∉l):cL w' b t n f:=by unfold cL;rw[s.block b a c];exact h
theorem Rc{l:cV}{e:Nat}(h:w.ownsRow base e size v n xs)(s:qR B l w w')(a:∀b,v.ownBlock=cu b->b<B/\b∉l):w'.ownsRow base e size v n xs:=by refine⟨h.1,?_⟩;rcases h.2 with h2|⟨g,cap,cur,rfl,h1,h2,h3⟩;grind;have⟨hg,hgl⟩:=a g ae;exact .inr ⟨g,cap,cur,ae,h1,by rw[s.block g hg hgl];exact h2,h3⟩
def xe(ps:List (Nat×cV)):List c7:=ps.flatMap λp=>bU cq (p.1:Nat):: (cM 128 (di p.2)).t
theorem Xk(ps:List (Nat×cV))(i:Nat)(s:cV):xe (ps++[(i,s)])=xe ps++(bU cq i:: (cM 128 (di s)).t):=by grind[xe]
structure od(w:cS)(D:Nat)(h:Head)(st nw:Nat->cV)(ps:List (Nat×cV)):Prop extends zK w D h st nw where
 xf:w.ownsRow 0 129 129 h.pv ps.n (xe ps)
 inside:∀p∈ps,p.1<h.n
def fV(D:Nat)(h:Head):cV:=D::h.sb::h.nb:: (match h.pv.ownBlock with|some b=> [b]|none=> [])
def od.pX{l:cV}{h:Head}{st:Nat->cV}(a:od w D h st nw ps)(s:qR B l w w')(c:∀k∈fV D h,k<B/\k∉l):od w' D h st nw ps:=by have d:=c D bH;have f:=c h.sb bH;have e:=c h.nb bH;refine⟨⟨cL.pX a.head s d.1 d.2,cL.pX a.lk s f.1 f.2,cL.pX a.lC s e.1 e.2,a.apart,a.qD⟩,Rc a.xf s λb g=>c b (by simp[fV,g]),a.inside⟩
theorem xg(h:Head):(lB h).1.n=h.n/\(lB h).1.sb=h.sb/\(lB h).1.nb=h.nb/\(lB h).1.pv=h.pv:=by unfold lB;grind
def G4(D:Nat)(h:Head)(z: -1<=h.left/\h.left<=9223372036854775807)(i:Int)(A:gJ)(w:cS)(a:kh w D h)(b:AI h i=cy∨(lB (jD h)).2=cy):
 CP_ 227 #[bW (cu ⟨D,0,cw⟩),bU cq i,bV A] w λe w'=>
  (e=cj (bU cq (if AI h i=cx then 42 else 41)))/\kh w' D (if AI h i=cx then(lB (jD h)).1 else jD h)/\jZ D w w':=by
 have⟨W0,HW0⟩:=yw (w.alloc (.cells A 36));have f:dS w W0:=by rw[HW0.o];exact aQ
 have m:kh W0 D h:=cL.cP a f;have n:jZ D w W0:=jZ.tA f;have j:=cz m;clear m a f;obtain⟨s,-,-,-,t,-⟩:=nO h;have c:AI (jD h) i=AI h i:=by unfold AI;rw[s]
 have g: -1<=(jD h).left/\(jD h).left<=9223372036854775807:=by rw[t];exact z
 have k:=cz c;clear c s t z;have⟨h2,HH2⟩:=sV (jD h);rw[HH2.o] at b g|-;have B:=cz g;clear g;have⟨hs,HHS⟩:=sV (AI h i);rw[HHS.o] at b|-;have y:=cz b;clear b;go_enter func227,ntmps227;go_wp2_with fail;rw[<-HW0.o];refine(AJ D h _ j.o).mono ?_;rw[HH2.o];rintro e w1 ⟨rfl,q,o⟩;have l:=cz (n.trans o);have d:=cz q;clear q o j n;go_wp2_with fail
 refine(Rb D h2 i _ d.o).mono ?_;rw[<-HH2.o,k.o,HHS.o];rintro e w2 ⟨rfl,rfl⟩;cases hs with
 |false=>go_wp2_with fail;go_ret;exact⟨by simp,by simpa using d.o,l.o⟩
 |true=>
  go_wp2_with fail;refine(Ep D h2 B.o _ d.o).mono ?_;have u:(lB h2).2=cy:=by have:=y.o;simpa using this
  rw[u];clear u;rintro e C ⟨rfl,r,p⟩;have x:=cz (l.o.trans p);have v:=cz r;clear r p;go_wp2_with fail;go_ret;exact⟨by simp,by simpa using v.o,x.o⟩
def L6(f:Nat->c7)(o n:Nat)(g:Nat->c7):Nat->c7:=λi=>if o<=i/\i<o+n then g (i-o) else f i
theorem cL.setCells{b:Nat}{t:dW}{n:Nat}:∀(vs:List c7)(o:Nat){w:cS}{f:Nat->c7},cL w b t n f->
 cL (w.setCells b o vs) b t n (L6 f o vs.n λj=>vs.getD j (bU .u8 0))
 | [],o,w,f,h=>cL.congr h λj _=>by simp_all[L6,cX]
 |v::r,o,w,f,h=>by
  rw[World.setCells];refine cL.congr (cL.setCells r (o+1) (cL.set h o v)) λj _=>?_;unfold L6
  grind
theorem jZ.setCells(b:Nat):∀(vs:List c7)(o:Nat)(w:cS),jZ b w (w.setCells b o vs)
 | [],_,w=>jZ.refl b w
 |v::r,o,w=>by
  rw[World.setCells];exact(qC b w o v).trans (jZ.setCells b r (o+1) _)
def iM(s:Nat->cV)(q:Nat)(x:cV):Nat->cV:=λi=>if i=q then x else s i
theorem kO.put{s:Nat->cV}(h:kO w b n s)(q:Nat)(x:cV):
 kO (w.setCells b (q*128) (cM 128 (di x)).t) b n (iM s q x):=by
 refine cL.congr (cL.setCells (cM 128 (di x)).t (q*128) h) λj _=>?_;unfold L6 EV iM;rw[nA,cW];by_cases a:q*128<=j/\j<q*128+128;rw[c8 a,c8 (show j/128=q from cN),show j%128=j-q*128 from by omega];show(cM 128 (di x)).t.getD (j-q*128) (bU .u8 0)=_;rw[zB,nL,dy,c8 cN];rfl
 grind
def kO.there{q:Nat}{s:Nat->cV}(h:kO w b n s)(c:q<n):w.there b (q*128) 128:=λj a=>
 ⟨by rw[cL.cell h cN];rfl,cL.frozen h _⟩
def Rf:(prog.info? 129).map (λi=>(i.zero,i.s,i.bytes))=cu (cu (bV zeroCells129),129,136):=dC
theorem agf(x:c7)(A:gJ)(a:A.s=128):
 Array.foldl (λ(cs:gJ)(y:c7×Nat)=>cs.setIfInBounds (1+y.snd) y.fst) (zeroCells129.setIfInBounds 0 x) A.zipIdx 0 128=#[x]++A:=by have d:zeroCells129.s=129:=dC;generalize zeroCells129=Z at d;rw[show 128=A.zipIdx.s from by simp[a],<-Array.foldl_toList,Array.toList_zipIdx];apply yg;intro k;have b:=λc=>(Great.foldl_set 1 A.t 0 c).2 k;rw[b];simp only[nA,a];by_cases e:k=0;grind;by_cases f:k<129;rw[c8 aF,Array.getElem?_append_right aF];simp;grind
def iy(w:cS)(k:Nat):Option dW:=match w.h[k]? with|some (.cells _ t _)=>cu t|_=>cw
def lQ(t:dW):Bool:=decide (t=127∨t=129∨t=36)
def gZ(t:dW):Bool:=decide (t=206∨t=147∨t=145∨t=101)
def oT(w:cS)(D:Nat):cV:=match w.h[D]? with
 |some (.cells cs _ _)=>D:: (((cs[0]?.bind Value.ownBlock).t++(cs[1]?.bind Value.ownBlock).t)++(cs[2]?.bind Value.ownBlock).t)
 |_=> []
theorem sD{w w':cS}{D:Nat}(h:w'.h[D]?=w.h[D]?):oT w' D=oT w D:=by grind[oT]
def PM(w:cS)(d:Option Nat)(l:cV)(k:Nat):Prop:=∃t,iy w k=cu t/\((∃D,d=cu D/\lQ t=cx/\k∈oT w D)∨(gZ t=cx/\k∈l))
structure Fr(d:Option Nat)(l:cV)(w w':cS):Prop where
 os:w'.os=w.os
 tape:w'.tape=w.tape
 output:w'.output=w.output
 size:w.h.s<=w'.h.s
 block:∀k,k<w.h.s->¬PM w d l k->w'.h[k]?=w.h[k]?
 dty:∀D,d=cu D->iy w D=cu 127/\iy w' D=cu 127
 dev:∀D,d=cu D->∀k∈oT w' D,k∈oT w D∨w.h.s<=k
theorem wC{w w':cS}{k:Nat}(h:w'.h[k]?=w.h[k]?):iy w' k=iy w k:=by grind[iy]
theorem iA(h:iy w b=cu t):b<w.h.s:=by grind[iy]
theorem cL.ty(h:cL w b t n f):iy w b=cu t:=by grind[cL,iy]
theorem adg(h:w'.h[D]?=w.h[D]?):∀k∈oT w' D,k∈oT w D∨w.h.s<=k:=by grind[sD]
theorem Fr.refl(d:Option Nat)(l:cV)(w:cS)(a:∀D,d=cu D->iy w D=cu 127):Fr d l w w:=⟨ae,ae,ae,eN _,λ_ _ _=>ae,λD e=>⟨a D e,a D e⟩,λD _ k b=>.inl b⟩
theorem Fr.tA{w w':cS}(h:dS w w')(d:Option Nat)(l:cV)(a:∀D,d=cu D->iy w D=cu 127):Fr d l w w':=
 ⟨h.os,h.tape,h.output,h.s,λk b _=>h.block k b,λD e=>⟨a D e,by rw[wC (h.block D (iA (a D e)))];grind⟩,λD e=>adg (h.block D (iA (a D e)))⟩
theorem Fr.Er(h:dS w w')(l:cV):Fr cw l w w':=by grind[Fr.tA]
theorem Fr.cP(h:Fr none [] w w'):dS w w':=
 ⟨h.os,h.tape,h.output,h.size,λk a=>h.block k a (by grind[PM])⟩
theorem Fr.step{d2:Option Nat}{l:cV}(h:Fr d l w w1)(g:Fr d2 l2 w1 w2)(n:∀D,d2=some D->d=some D)(r:∀k∈l2,k∈l∨w.heap.size<=k):Fr d l w w2:=by
 have f:∀D,d=some D->d2≠some D->w2.heap[D]?=w1.heap[D]?:=by intro D e i;have p:=(h.dty D e).2;refine g.block D (iA p) ?_;rintro⟨t,m,hc⟩;rw[p] at m;cases m;rcases hc with⟨q,a,b,c⟩|⟨a,b⟩;grind;exact absurd a kM
 refine⟨g.os.trans h.os,g.tape.trans h.tape,g.output.trans h.output,ik h.size g.size,λk j o=>?_,λD e=>⟨(h.dty D e).1,?_⟩,λD e k j=>?_⟩;have e:=h.block k j o;rw[<-e];refine g.block k (pK j h.size) ?_;rintro⟨t,m,hc⟩;rw[wC e] at m;refine o ⟨t,m,?_⟩;rcases hc with⟨D,a,b,c⟩|⟨a,b⟩;exact .inl ⟨D,n D a,b,(h.dev D (n D a) k c).resolve_right cN⟩;grind;by_cases i:d2=some D;exact(g.dty D i).2;rw[wC (f D e i)];exact(h.dty D e).2;by_cases i:d2=some D;rcases g.dev D i k j with h3|h3;exact h.dev D e k h3;exact .inr (ik h.size h3);rw[sD (f D e i)] at j;exact h.dev D e k j
theorem Fr.trans{d:Option Nat}{l:cV}{w w1 w2:cS}(h:Fr d l w w1)(a:Fr d l w1 w2):Fr d l w w2:=h.step a (λ_ e=>e) λ_ b=>.inl b
def Fr.ajE{l:cV}(h:Fr d l w w1)(a:Fr cw l2 w1 w2)(b:∀k∈l2,k∈l∨w.h.s<=k):Fr d l w w2:=h.step a aJ b
def Fr.mono{d':Option Nat}{l a:cV}(h:Fr d l w w')(b:∀D,d'=cu D->iy w D=cu 127)(c:∀D,d=cu D->d'=cu D)(e:∀k∈l,k∈a∨w.h.s<=k):Fr d' a w w':=(Fr.refl d' a w b).step h c e
def Fr.adh{l:cV}(h:Fr d l w w1)(a:dS w1 w2):Fr d l w w2:=h.ajE (Fr.Er a []) eQ
def Fr.Rg{l:cV}(h:Fr d l w w1)(i:w.heap.size<=b)(c:jZ b w1 w2):Fr d l w w2:=by
 have a:∀D,d=some D->w2.heap[D]?=w1.heap[D]?:=λD e=>c.block D (iA (h.dty D e).2) (by rintro rfl;exact absurd (iA (h.dty _ e).1) cN)
 exact⟨c.os.trans h.os,c.tape.trans h.tape,c.output.trans h.output,ik h.size c.size,λk f g=>(c.block k (pK f h.size) cN).trans (h.block k f g),
  λD e=>⟨(h.dty D e).1,by rw[wC (a D e)];exact(h.dty D e).2⟩,λD e k f=>by rw[sD (a D e)] at f;exact h.dev D e k f⟩
theorem Fr.grown{d:Option Nat}{l:cV}{w w' w2:cS}{row:Option Nat}(h:Fr d l w w')(a:w'.grownBy w2 row)(e:∀k,row=some k->w.heap.size<=k):Fr d l w w2:=by cases row with|none=>exact h.adh ⟨a.os,a.tape,a.output,a.size,λk c=>a.block k c eQ⟩|some b=>exact h.Rg (e b ae) ⟨a.os,a.tape,a.output,a.size,λk c f=>a.block k c jH⟩
def Fr.rO(h:jZ b w w')(e:iy w b=some t)(ho:gZ t=true){l:cV}(a:b∈l):Fr none l w w':=
 ⟨h.os,h.tape,h.output,h.size,λk c d=>h.block k c (by rintro rfl;exact d ⟨t,e,.inr ⟨ho,a⟩⟩),aJ,aJ⟩
theorem Fr.eS{l:cV}(h:Fr d l w w')(a:iy w k=cu t)(b:d=cw∨lQ t=cy)(c:gZ t=cy∨k∉l):w'.h[k]?=w.h[k]?:=by refine h.block k (iA a) ?_;grind[PM]
theorem Fr.L7{l:cV}(h:Fr (cu D) l w w')(a:iy w k=cu t)(b:k∉oT w D)(c:gZ t=cy∨k∉l):w'.h[k]?=w.h[k]?:=by refine h.block k (iA a) ?_;grind[PM]
theorem Fr.adi{D:Nat}{l:cV}{w w':cS}(h:Fr (cu D) l w w'){k:Nat}(c:k<w.h.s)(b:k∉oT w D):k∉oT w' D:=λa=>by rcases h.dev D ae k a with h2|h2<;>grind
theorem cL.fr{d:Option Nat}{l:cV}{w w':cS}{b:Nat}{t:dW}{n:Nat}{f:Nat->c7}(h:cL w b t n f)(s:Fr d l w w')(a:d=cw∨lQ t=cy)(c:gZ t=cy∨b∉l):cL w' b t n f:=by have:=s.eS h.ty a c;grind[cL]
theorem cL.frX{l:cV}(h:cL w b t n f)(s:Fr (cu D) l w w')(a:b∉oT w D)(c:gZ t=cy∨b∉l):cL w' b t n f:=by have:=s.L7 h.ty a c;grind[cL]
theorem BQ{d:Option Nat}{l:cV}{w w':cS}{base:Nat}{e:dW}{size:Nat}{v:c7}{n:Nat}{xs:List c7}(h:w.ownsRow base e size v n xs)(s:Fr d l w w')(a:d=cw∨lQ e=cy)(b:gZ e=cy):w'.ownsRow base e size v n xs:=by refine⟨h.1,?_⟩;rcases h.2 with h3|⟨g,cap,cur,rfl,hb,hg,hr⟩;grind;refine .inr ⟨g,cap,cur,ae,hb,?_,hr⟩;rw[s.eS (t:=e) (by grind[iy]) a (.inl b)];exact hg
theorem BR{w:cS}{base base':Nat}{e:dW}{size:Nat}{v:c7}{n:Nat}{xs:List c7}(h:w.ownsRow base e size v n xs)(a:base'<=base):w.ownsRow base' e size v n xs:=
 ⟨h.1,h.2.imp id λ⟨g,cap,cur,h1,h2,r⟩=>⟨g,cap,cur,h1,ik a h2,r⟩⟩
theorem fD.fr{d:Option Nat}{l:cV}{w w':cS}{b:Nat}{st:Nat->Nat}(h:fD w b st)(s:Fr d l w w')(a:b∉l):fD w' b st:=cL.fr h s ax (.inr a)
structure Dv where
 n:Nat
 st:Nat->cV
 nw:Nat->cV
 ps:List (Nat×cV)
 ops:Nat
 left:Int
 df:Bool
def Dv.head(d:Dv)(b a:Nat)(pv:c7):Head:=⟨d.n,b,a,pv,d.ops,d.left,d.df⟩
def kb(s:cV):Prop:=s.n=128/\∀x∈s,x<256
structure qE(d:Dv):Prop where
 st:∀i,kb (d.st i)
 nw:∀i,kb (d.nw i)
 ps:∀p∈d.ps,kb p.2
 qD:d.ps.n<=d.ops
 ops:d.ops<=4611686018427387903
 left: -1<=d.left/\d.left<=9223372036854775807
def iQ(w:cS)(D:Nat)(d:Dv):Prop:=qE d/\∃b a pv,od w D (d.head b a pv) d.st d.nw d.ps
theorem iQ.ok{d:Dv}(h:iQ w D d):qE d:=h.1
theorem od.oT{w:cS}{D:Nat}{h:Head}{st nw:Nat->cV}{ps:List (Nat×cV)}(a:od w D h st nw ps):oT w D=fV D h:=by have e:w.h[D]?=cu (.cells (cM 6 (pO h)) 127 (0,0)):=a.head;unfold Proofs.YtklligbjoplbgaaGreat.oT fV;rw[e];have b:(cM 6 (pO h))[0]?=cu (.slice (s_ h.sb 0) h.n h.n):=rfl;have c:(cM 6 (pO h))[1]?=cu (.slice (s_ h.nb 0) h.n h.n):=rfl;have d:(cM 6 (pO h))[2]?=cu h.pv:=rfl;simp only[b,c,d,xA];cases h.pv.ownBlock<;>rfl
theorem od.adj{h:Head}{st:Nat->cV}(a:od w D h st nw ps):∀k∈fV D h,∃t,iy w k=cu t/\lQ t=cx:=by intro k b;unfold fV at b;simp only[iX] at b;rcases b with rfl|rfl|rfl|b;exact⟨127,cL.ty a.head,ae⟩;exact⟨36,cL.ty a.lk,ae⟩;exact⟨36,cL.ty a.lC,ae⟩;rcases a.xf.2 with⟨c,_⟩|⟨g,cap,d,c,_,e,_⟩;grind[Value.ownBlock];rw[c] at b;simp only[Value.ownBlock,iX,jL,uH] at b;subst b;exact⟨129,by grind[iy],ae⟩
theorem iQ.fr{l:cV}{w w':cS}{D:Nat}{d:Dv}(h:iQ w D d)(s:Fr cw l w w'):iQ w' D d:=by have⟨h0,sb,nb,pv,a⟩:=h;refine⟨h0,sb,nb,pv,⟨⟨cL.fr a.head s aD aD,cL.fr a.lk s aD aD,cL.fr a.lC s aD aD,a.apart,a.qD⟩,BQ a.xf s aD ae,a.inside⟩⟩
theorem iQ.cP{d:Dv}(h:iQ w D d)(s:dS w w'):iQ w' D d:=h.fr (Fr.Er s [])
def fm(d:Dv):Dv:=if d.ops<4611686018427387903 then {d with ops:=d.ops+1} else d
def iN(d:Dv):Dv×Bool:=
 if d.left=0 then({d with df:=cx},cy) else if d.df=cx then(d,cy) else if 0<d.left then({d with left:=d.left-1},cx) else(d,cx)
def L8(d:Dv)(i:Int):Bool:=decide (0<=i/\i<(d.n:Int))
theorem zL(d:Dv)(b a:Nat)(pv:c7):(fm d).head b a pv=jD (d.head b a pv):=by grind[fm,jD,Dv.head]
theorem J5(d:Dv)(b a:Nat)(pv:c7):(iN d).1.head b a pv=(lB (d.head b a pv)).1/\(iN d).2=(lB (d.head b a pv)).2:=by grind[iN,lB,Dv.head]
theorem xh(d:Dv):(fm d).n=d.n/\(fm d).st=d.st/\(fm d).nw=d.nw/\(fm d).ps=d.ps/\(fm d).left=d.left/\(fm d).df=d.df:=by unfold fm;grind
theorem xi(d:Dv):(iN d).1.n=d.n/\(iN d).1.st=d.st/\(iN d).1.nw=d.nw/\(iN d).1.ps=d.ps/\(iN d).1.ops=d.ops:=by unfold iN;grind
theorem Xl(d:Dv)(h:d.ops<=4611686018427387903):d.ops<=(fm d).ops/\(fm d).ops<=d.ops+1/\(fm d).ops<=4611686018427387903:=by unfold fm;grind
def Es{d:Dv}(h:qE d):qE (fm d):=by have⟨e1,e2,e3,e4,e5,e6⟩:=xh d;have⟨o1,o2,o3⟩:=Xl d h.ops;refine⟨by rw[e2];exact h.st,by rw[e3];exact h.nw,by rw[e4];exact h.ps,by rw[e4];exact ik h.qD o1,o3,by rw[e5];exact h.left⟩
theorem TZ{d:Dv}(h: -1<=d.left/\d.left<=9223372036854775807): -1<=(iN d).1.left/\(iN d).1.left<=9223372036854775807:=by grind[iN]
def PN{d:Dv}(h:qE d):qE (iN d).1:=by have⟨e1,e2,e3,e4,e5⟩:=xi d;exact⟨by rw[e2];exact h.st,by rw[e3];exact h.nw,by rw[e4];exact h.ps,by rw[e4,e5];exact h.qD,by rw[e5];exact h.ops,TZ h.left⟩
def iq(d:Dv)(i:Int):Dv×(cV×Int):=
 (fm d,if L8 d i=cx then(if d.df=cx then(fN,42) else(d.nw i.m,0)) else(fN,41))
theorem xj:kb fN:=⟨by rfl,λx a=>by grind[fN]⟩
theorem Jh{d:Dv}(h:qE d)(i:Int):kb (iq d i).2.1:=by unfold iq;simp only;split;split;exact xj;exact h.nw _;exact xj
def gw(d:Dv)(i:Int)(s:cV):Dv×Int:=
 if L8 d i=cx then
  (if(iN (fm d)).2=cx then({(iN (fm d)).1 with nw:=iM d.nw i.m s,ps:=d.ps++[(i.m,s)]},0) else((iN (fm d)).1,42))
 else(fm d,41)
def ny(st:Nat->cV)(ps:List (Nat×cV)):Nat->cV:=ps.foldl (λs p=>iM s p.1 p.2) st
def fH(d:Dv):Dv×Int:=
 if(iN (fm d)).2=cx then({(iN (fm d)).1 with st:=ny d.st d.ps,ps:=[]},0) else((iN (fm d)).1,42)
def oe(st:Nat->cV)(eS:List Bool):Nat->List (Nat×cV)->(Nat->cV)
 |_,[]=>st
 |k,p::ps=>oe (if eS.getD k cy=cx then iM st p.1 p.2 else st) eS (k+1) ps
def lU(d:Dv)(eS:List Bool):Dv:=
 {d with st:=oe d.st eS 0 d.ps,nw:=oe d.st eS 0 d.ps,ps:=[],left:=-1,df:=cy}
def xU(d:Dv)(n:Int):Dv:={d with left:=max n (-1)}
theorem adk(A:gJ)(s:Nat)(b:0<s)(cells:gJ)(a:A.s=s)(hc:cells.s=1*s):
 Instr.fill (λi=>cu (i*s,s)) cells [(0,bV A)]=cu A:=by
 have h:=Great.fill_whole b [Value.agg A] cells (by intro v c;cases fS.1 c;exact a) jH;have e:([Value.agg A].flatMap λv=>v.cells.t).toArray=A:=by have:(Value.agg A).cells=A:=rfl;simp[this]
 grind
theorem Et(t e:dW)(x:Operand)(ho:o.op=.buildSlice t 1 #[(0,x)])(A:gJ)(s b:Nat)(z:c7)(k:a.eval x=bV A)(f:P.underlying t=cu (.slice e))(c:(P.info? e).map (λi=>(i.zero,i.s,i.bytes))=cu (cu z,s,b))(j:0<s)(d:s<=16777216)(g:A.s=s)(h:K (a.put o.dst (bX (cu ⟨w.h.s,0,cw⟩) 1 1)) (w.alloc (.cells A e))):o.wp P a w K Q:=by have⟨it,hi1,hz,hz1,hz2⟩:=oH c;refine wp_buildSlice t e 1 #[(0,x)] ho A it z f hi1 hz cN cN ?_ h;grind[adk]
def Oz(c:o.guard=cw)(t e:dW)(x:Operand)(ho:o.op=.buildSlice t 1 #[(0,x)])(A:gJ)(s b:Nat)(z:c7)(m:a.eval x=bV A)(l:P.underlying t=cu (.slice e))(j:(P.info? e).map (λi=>(i.zero,i.s,i.bytes))=cu (cu z,s,b))(k:0<s)(d:s<=16777216)(f:A.s=s)(h:wpList P ops Q rest (a.put o.dst (bX (cu ⟨w.h.s,0,cw⟩) 1 1)) (w.alloc (.cells A e))):wpList P ops Q (o::rest) a w:=
 mz c λ_ g=>Et t e x ho A s b z m l j k d f (g _ _ h)
def Gc(s x:Operand)(t:dW)(ho:o.op=.call {callee:=.builtin .append,args:=#[s,x],argTypes:=#[t,t]})(base:Nat)(e:dW)(z:c7)(size b:Nat)(y:P.underlying t=cu (.slice e))(q:(P.info? e).map (λi=>(i.zero,i.s,i.bytes))=cu (cu z,size,b))(l:z.cells.s=size)(k:0<size)(v:c7)(n:Nat)(xs:List c7)(r:a.eval s=v)(f:w.ownsRow base e size v n xs)(B:Nat)(A:gJ)(D:dW)(fr:Nat×Nat)(C:a.eval x=bX (cu ⟨B,0,cw⟩) 1 1)(p:w.h[B]?=cu (.cells A D fr))(E:A.s=size)(m:∀u∈A.t,u.oneCell'=cx)(j:n+1<=maxLen)(c:(n+1)*b<=140737488355328)(d:base<=w.h.s)(h:∀g cap w',w'.ownsRow base e size (bX (cu ⟨g,0,cw⟩) (n+1) cap) (n+1) (xs++A.t)->w.grownBy w' v.ownBlock->(v.ownBlock=cu g∨g=w.h.s)->g<w'.h.s->K (a.put o.dst (bX (cu ⟨g,0,cw⟩) (n+1) cap)) w'):o.wp P a w K Q:=by have⟨it,hi1,hz,hz1,hz2⟩:=oH q;exact wp_append_lies w s x t ho base e it z size b y hi1 hz hz1 hz2 l k v n xs r f ⟨B,0,cw⟩ 1 1 A.t C jH (World.news_of_block p) m cN j c d _ ae h
def L9(k:o.guard=cw)(s x:Operand)(t:dW)(ho:o.op=.call {callee:=.builtin .append,args:=#[s,x],argTypes:=#[t,t]})(base:Nat)(e:dW)(z:c7)(size b:Nat)(J:P.underlying t=cu (.slice e))(H:(P.info? e).map (λi=>(i.zero,i.s,i.bytes))=cu (cu z,size,b))(m:z.cells.s=size)(l:0<size)(v:c7)(n:Nat)(xs:List c7)(I:a.eval s=v)(f:w.ownsRow base e size v n xs)(B:Nat)(A:gJ)(p:dW)(fr:Nat×Nat)(K:a.eval x=bX (cu ⟨B,0,cw⟩) 1 1)(F:w.h[B]?=cu (.cells A p fr))(E:A.s=size)(q:∀u∈A.t,u.oneCell'=cx)(j:n+1<=maxLen)(c:(n+1)*b<=140737488355328)(d:base<=w.h.s)(h:∀g cap w',w'.ownsRow base e size (bX (cu ⟨g,0,cw⟩) (n+1) cap) (n+1) (xs++A.t)->w.grownBy w' v.ownBlock->(v.ownBlock=cu g∨g=w.h.s)->g<w'.h.s->wpList P ops Q rest (a.put o.dst (bX (cu ⟨g,0,cw⟩) (n+1) cap)) w'):wpList P ops Q (o::rest) a w:=
 mz k λ_ G=>Gc s x t ho base e z size b J H m l v n xs I f B A p fr K F E q j c d λg cap w' r y C D=>G _ _ (h g cap w' r y C D)
theorem pC{w:cS}{b:Nat}{t:dW}{n:Nat}{f:Nat->c7}(h:cL w b t n f):w.rangeAt b 0 (cM n f).t:=by
 intro j v a;rw[nL,dy] at a;split at a;next hj=>cases a;rw[pM];exact cL.cell h hj
 cases a
def Fa(i:Region.wanted op (yielded ops a.tmps)=cx)(ty:dW)(x:Operand)(ho:op.op=.load ty x)(g n:Nat)(t:dW)(f:Nat->c7)(j:a.eval x=bW (cu ⟨g,0,cw⟩))(A:gJ)(b:A=cM n f)(d:TypeDesc)(hS:∀w,S w->cL w g t n f)(e:P.underlying ty=cu d)(c:d.isRow=cx)(k:(P.info? ty).map (·.size)=cu n):YieldsIf P ops S op (bV A) a:=by subst b;have h:=yieldsIf_load_mid (P:=P) (S:=S) i ty x ho g 0 j (cM n f).t d (λw h=>pC (hS w h)) e c aG;omega
def wD(e:Region.wanted op (yielded ops a.tmps)=cx)(ty:dW)(x:Operand)(ho:op.op=.load ty x)(g o:Nat)(f:a.eval x=bW (cu ⟨g,o,cw⟩))(A:gJ)(d:TypeDesc)(hS:∀w,S w->w.rangeAt g o A.t)(c:P.underlying ty=cu d)(b:d.isRow=cx)(i:(P.info? ty).map (·.size)=cu A.s):YieldsIf P ops S op (bV A) a:=by have h:=yieldsIf_load_mid (P:=P) (S:=S) e ty x ho g o f A.t d hS c b cN;omega
theorem Rh(w:cS)(Z A:gJ)(T:dW):(w.alloc (.cells Z T)).setRow w.h.s A=w.alloc (.cells A T):=by unfold World.setRow World.alloc;simp only[World.mk.injEq,true_and,and_true];grind
def BS(b:o.guard=cw)(ty:dW)(x y:Operand)(ho:o.op=.store ty x y)(Z A:gJ)(n:Nat)(f:a.eval x=bW (cu ⟨w.h.s,0,cw⟩))(g:a.eval y=bV A)(i:(P.info? ty).map (·.size)=cu n)(e:Z.s=n)(d:A.s=n)(c:A.all (·.oneCell')=cx)(h:wpList P ops Q rest (a.put o.dst undef) (w.alloc (.cells A ty))):wpList P ops Q (o::rest) a (w.alloc (.cells Z ty)):=by refine Ma b ty x y ho w.h.s A f g ty Z (AA _ _) jH (by rw[e,d]) c ?_;rw[Rh];exact h
def nH(b:o.guard=none)(t:dW)(x:Operand)(d c e:Option Operand)(ho:o.op=.slice t x d c e)(v:c7)(g:(Instr.sliceAt t (a.eval x) (d.map a.eval) (c.map a.eval) (e.map a.eval)).run P w=.ok v w)(h:wpList P ops Q rest (a.put o.dst v) w):wpList P ops Q (o::rest) a w:=
 mz b λK f=>by
  unfold Oper.wp execOp;simp only[ho,lx,g,nX];exact f _ _ h
def G5(b:o.guard=cw)(t:dW)(x i:Operand)(ho:o.op=.index t x i)(v:c7)(d:(Instr.index t (a.eval x) (a.eval i)).run P w=.ok v w)(h:wpList P ops Q rest (a.put o.dst v) w):wpList P ops Q (o::rest) a w:=
 mz b λK c=>by
  unfold Oper.wp execOp;simp only[ho,lx,d,nX];exact c _ _ h
def vY(b:o.guard=cw)(t:dW)(x i:Operand)(ho:o.op=.indexAddr t x i)(v:c7)(d:(Instr.indexAt t (a.eval x) (a.eval i)).run P w=.ok v w)(h:wpList P ops Q rest (a.put o.dst v) w):wpList P ops Q (o::rest) a w:=
 mz b λK c=>by
  unfold Oper.wp execOp;simp only[ho,lx,d,nX];exact c _ _ h
theorem uR(h:w.ownsRow base e size v n xs)(a:v.ownBlock=cu b):iy w b=cu e:=by rcases h.2 with⟨rfl,_⟩|⟨g,cap,c,rfl,_,d,_⟩;cases a;cases a<;>grind[iy]
theorem sE(h:w.ownsRow base e size v n xs)(c:iy w b=cu t)(d:t≠e):v.ownBlock≠cu b:=λa=>by rw[uR h a] at c;grind
theorem qX{w w':cS}{base:Nat}{e:dW}{size:Nat}{v:c7}{n:Nat}{xs:List c7}(h:w.ownsRow base e size v n xs){b:Nat}(a:v.ownBlock≠cu b)(s:jZ b w w'):w'.ownsRow base e size v n xs:=by refine⟨h.1,h.2.imp id λ⟨g,cap,cur,h1,h2,hg,r⟩=>⟨g,cap,cur,h1,h2,?_,r⟩⟩;rw[s.block g (rI.1 hg).1 (by rintro rfl;exact a (by rw[h1];rfl))];exact hg
def vZ(h:iy w b=cu t)(s:dS w w'):iy w' b=cu t:=by rw[wC (s.block b (iA h))];exact h
theorem oD{n:Nat}(f:Nat->c7)(h:∀i,(f i).oneCell'=cx):(cM n f).all (·.oneCell')=cx:=by rw[Array.all_eq_true];simp_all[cM]
theorem wE{E:Prop}(b:o.guard=cw)(h:o.wp P a w K Q):
 if Region.wanted o (yielded ops a.tmps)=cx then Oper.wp P o a w K Q else E:=by simp_all[Region.wanted]
theorem Ri(h:Head)(v:c7):∀j,j<6->(if j=2 then v else pO h j)=pO {h with pv:=v} j:=by intro j b;by_cases a:j=2;subst a;rfl;simp_all[pO]
structure xV(w5:cS)(D:Nat)(h h5:Head)(st nw:Nat->cV)(ps:List (Nat×cV))(w:cS):Prop where
 head:kh w5 D h5
 lk:kO w5 h.sb h.n st
 lC:kO w5 h.nb h.n nw
 xf:w5.ownsRow 0 129 129 h5.pv ps.n (xe ps)
 pX:qR w.h.s (fV D h) w w5
 dns:D≠h.sb
 dnn:D≠h.nb
 pnn:h5.pv.ownBlock≠cu h.nb
theorem aaK(D:Nat)(h i:Head)(st nw:Nat->cV)(ps:List (Nat×cV))(q:Nat)(s:cV)(w r t w4:cS)(A B:gJ)(E:Nat)(z:c7)(g cap:Nat)(a:od w D h st nw ps)(K:(lB (jD h)).1=i)(Q:i.pv=z)(u:r=w.alloc (.cells A 36))(b:jZ D r t)(c:(t.drew.alloc (.cells B 129)).grownBy w4 z.ownBlock)(m:w4.ownsRow 0 129 129 (.slice (some ⟨g,0,none⟩) (ps.length+1) cap) (ps.length+1) (xe ps++B.toList))(N: #[Value.int .i64 q]++A=B)(M:A=cM 128 (di s))(l:cL w4 D 127 6 (pO i)):
 xV (w4.setCell ⟨D,2,none⟩ (.slice (some ⟨g,0,none⟩) (ps.length+1) cap)) D h {i with pv:=.slice (some ⟨g,0,none⟩) (ps.length+1) cap} st nw (ps++[(q,s)]) w:=by
 have p:z=h.pv:=by grind[xg,nO]
 have j:dS w r:=by rw[u];exact aQ
 have R:=a.head.ty;have ts:=cL.ty a.lk;have L:=cL.ty a.lC;have f:D≠h.sb:=λe=>by grind
 have d:D≠h.nb:=λe=>by grind
 have I:z.ownBlock≠some h.sb:=by rw[p];exact sE a.xf ts kM
 have H:z.ownBlock≠some h.nb:=by rw[p];exact sE a.xf L kM
 have base:∀k,k<w.heap.size->k≠D->z.ownBlock≠some k->w4.heap[k]?=w.heap[k]?:=by intro k x C F;have n:k<r.heap.size:=pK x j.size;have y:k<t.heap.size:=pK n b.size;rw[c.block k (by simp_all[lt_succ_of_lt]) (pU F)];rw[Below.heap_alloc t.drew (.cells B 129) k y];exact(b.block k n C).trans (j.block k x)
 have sz:w.heap.size<=w4.heap.size:=ik j.size (ik b.size (by have:=c.size;simp at this;omega));have G:kO w4 h.sb h.n st:=by have:=base h.sb a.lk.lt (pU f) I;unfold kO cL;rw[this];exact a.lk
 have o:kO w4 h.nb h.n nw:=by have:=base h.nb a.lC.lt (pU d) H;unfold kO cL;rw[this];exact a.lC
 have J:(Value.slice (s_ g 0) (ps.length+1) cap).ownBlock≠some D:=sE m l.ty kM;have v:(Value.slice (s_ g 0) (ps.length+1) cap).ownBlock≠some h.nb:=sE m (cL.ty o) kM;refine⟨kh.set (h:=i) l 2 _ (Ri i _),cL.AB G _ (pU f) _,cL.AB o _ (pU d) _,?_,?_,f,d,v⟩;grind[Xk,qX,qC];refine qR.setCell ⟨?_,?_,?_,sz,λk x O=>?_⟩ ams 2 _;rw[c.os];exact b.os.trans j.os;rw[c.tape];exact b.tape.trans j.tape;rw[c.output];exact b.output.trans j.output;grind[fV]
theorem xV.drew{h a:Head}{st:Nat->cV}(m:xV w5 D h a st nw ps w):xV w5.drew D h a st nw ps w:=⟨m.head,m.lk,m.lC,m.xf,m.pX.drew,m.dns,m.dnn,m.pnn⟩
theorem T3{q:Nat}(h:∀p∈ps,p.1<n)(a:q<n):∀p∈ps++[(q,s)],p.1<n:=by grind
theorem aaL{h b:Head}{st:Nat->cV}(m:xV w5 D h b st nw ps w)(i:b.n=h.n/\b.sb=h.sb/\b.nb=h.nb)(c:h.sb≠h.nb)(d:h.n<=1024)(j:∀p∈ps,p.1<h.n)(q:Nat)(s:cV):
 od (w5.setCells h.nb (q*128) (cM 128 (di s)).toList) D b st (iM nw q s) ps/\qR w.heap.size (fV D h) w (w5.setCells h.nb (q*128) (cM 128 (di s)).toList):=by have⟨e1,e2,e3⟩:=i;have a:=jZ.setCells h.nb (cM 128 (di s)).toList (q*128) w5;refine⟨⟨⟨?_,?_,?_,cN,cN⟩,qX m.xf m.pnn a,by grind⟩,?_⟩;unfold kh cL;rw[a.block D m.head.lt m.dnn];exact m.head;rw[e1,e2];unfold kO cL;rw[a.block h.sb m.lk.lt c];exact m.lk;rw[e1,e3];exact m.lC.put q s;exact⟨a.os.trans m.pX.os,a.tape.trans m.pX.tape,a.output.trans m.pX.output,ik m.pX.size a.size,λk f g=>(a.block k (pK f m.pX.size) (λe=>g (by grind[fV]))).trans (m.pX.block k f g)⟩
def AK:(Value.agg zeroCells129).cells.s=129:=dC
theorem OA(D:Nat)(h:Head)(st nw:Nat->cV)(ps:List (Nat×cV))(hl: -1<=h.left/\h.left<=9223372036854775807)(f2:ps.n<=1000000000)(q:Nat)(s:cV)(A:gJ)(hA:A=cM 128 (di s))(w:cS)(a:od w D h st nw ps)(hq:q<h.n)(J:(lB (jD h)).2=cx):
 CP_ 227 #[bW (cu ⟨D,0,cw⟩),bU cq q,bV A] w λe w'=>
  ∃pv,(e=cj (bU cq 0))/\(∀b,pv.ownBlock=cu b->h.pv.ownBlock=cu b∨w.h.s<=b)/\od w' D {(lB (jD h)).1 with pv:=pv} st (iM nw q s) (ps++[(q,s)])/\qR w.h.s (fV D h) w w':=by
 have⟨W0,hW0⟩:=fU (w.alloc (.cells A 36));have a9:dS w W0:=by rw[hW0];exact aQ
 have c4:cL W0 w.h.s 36 128 (di s):=by rw[hW0,hA];exact br
 have U:kh W0 D h:=cL.cP a.head a9;have f1:jZ D w W0:=jZ.tA a9;have f:=cz hA;clear hA;have Q:=cz hW0;clear hW0;have c6:=cz U;have Z:=cz U;clear U;have a6:=cz c4;clear c4;have G:=cz a;clear a;obtain⟨d6,-,-,-,d7,-⟩:=nO h;have H:AI (jD h) (q:Int)=cx:=by unfold AI;rw[d6];exact gI ⟨cN,cN⟩
 have b9: -1<=(jD h).left/\(jD h).left<=9223372036854775807:=by rw[d7];exact hl
 have a5:=cz H;clear H;have a8:=cz J;clear J;have HL:=cz b9;clear b9;go_enter func227,ntmps227
 go_wp2_with fail
 rw[<-Q.o];refine aj (AJ D h _ c6.o) λw1⟨b8,d2⟩=>?_;have a4:=cz b8;clear b8
 go_wp2_with fail
 refine(Rb D _ _ _ a4.o).mono ?_;rw[a5.o];rintro e w2 ⟨rfl,rfl⟩
 go_wp2_with fail
 refine(Ep D _ HL.o _ a4.o).mono ?_;rw[a8.o];rintro e x ⟨rfl,l,d3⟩;have M:=cz (d2.trans d3);have y:=cz l;clear l;have⟨h3,l⟩:=dG ((lB (jD h)).1);rw[l] at y;have m:=cz l;clear l;have⟨z,hz⟩:=dG h3.pv;have c2:=y.o.cells.2.2.1;rw[hz] at c2;have HZ:=cz hz;clear hz;have e8:D<w.h.s:=G.o.head.lt;have v:cL x w.h.s 36 128 (di s):=by
  unfold cL;rw[M.o.block _ a6.o.lt cN];exact a6.o
 -- REGION 6
 have d:x.ownsRow 0 129 129 z ps.n (xe ps):=by
  have e1:z=h.pv:=by rw[<-HZ.o,<-m.o,(xg _).2.2.2,(nO h).2.2.2.2.2]
  rw[e1];have hp:W0.ownsRow 0 129 129 h.pv ps.n (xe ps):=by rw[Q.o];exact G.o.xf.alloc _
  exact qX hp (sE hp (Z.o.ty) kM) M.o
 have c7:=cz d;have c3:z.ownBlock≠cu w.h.s:=sE d v.ty kM;have d8:z.ownBlock≠cu D:=sE d y.o.ty kM;clear d;have⟨E,hE⟩:=dG w.h.s;rw[hE] at v c3;have e9:E<x.h.s:=v.lt;have e7:D≠E:=cN;have F:A.s=128:=by rw[f.o,cW]
 have d4:=agf (bU cq q) A F;have⟨B,hB⟩:=dG (#[Value.int cq q]++A);rw[hB] at d4;have T:B.s=129:=by rw[<-hB];simp[F]
 have R:∀u∈B.t,u.oneCell'=cx:=by
  intro u I;rw[<-hB,f.o] at I;simp only[Array.toList_append,gH] at I;rcases I with I|I
  . simp at I;rw[I];rfl
  . obtain⟨j,hj,rfl⟩:=xz.1 I;have:(cM 128 (di s)).t[j]=di s j:=by
     have:=dy 128 (di s) j
     grind
    rw[this];rfl
 skip
 go_upto_region 6 with(fail)
 refine wp_region_held_drew (S:=λW=>cL W E 36 128 (di s)) dC v (λc=>?_);refine GM 0 16 (dF D 0) c ?_;refine GM 1 17 (dF D 0) c ?_;refine GM 2 18 (dF D 0) c ?_;refine GM 3 19 (dF D 2) c ?_;refine GM 5 21 (bU cq q) c ?_;refine wx_ 6 22 (bV A) ae (Fa dC 36 (.tmp 5) nF E 128 36 (di s) nF A f.o _ (λw h=>h) vX ae pB) c ?_;refine wx_ 7 23 (bV B) ae (Or.inl ⟨dC,λw _=>by go_simp;skip⟩) c ?_;have e4:x.drew.cell? ⟨D,2,cw⟩=cu z:=c2;have N:=cz c;refine wpAnyH_ready (rs:=[4,8]) dC eQ ?_;refine AllReadyH.cons (o:=⟨cu 20,Op.load 125 (Operand.tmp 19),125,_,_,cw⟩) nF (λK k=>wE ae ?_) ?_
 -- the load first
 have O:=N;go_simp;refine k.out _ _ O.o (λp=>?_);refine wpAnyH_ready (rs:=[8]) dC eQ ?_;refine AllReadyH.cons (o:=⟨cu 24,Op.buildSlice 125 1 #[(0,Operand.tmp 23)],125,_,_,cw⟩) nF (λK k=>wE ae ?_) AllReadyH.nil;refine Et 125 129 (.tmp 23) nF B 129 136 (bV zeroCells129) nF underlying125 Rf cN cN T ?_;simp only[Ol];have n:=cz (cL.alloc_old N.o (.cells B 129));refine k.out _ _ n.o (λp=>?_)
 rotate_left
 -- the build first
 refine AllReadyH.cons (o:=⟨cu 24,Op.buildSlice 125 1 #[(0,Operand.tmp 23)],125,_,_,cw⟩) nF (λK k=>wE ae ?_) AllReadyH.nil;refine Et 125 129 (.tmp 23) nF B 129 136 (bV zeroCells129) nF underlying125 Rf cN cN T ?_;simp only[Ol];have n:=cz (cL.alloc_old N.o (.cells B 129));refine k.out _ _ n.o (λp=>?_);refine wpAnyH_ready (rs:=[4]) dC eQ ?_;refine AllReadyH.cons (o:=⟨cu 20,Op.load 125 (Operand.tmp 19),125,_,_,cw⟩) nF (λK k=>wE ae ?_) AllReadyH.nil;have O:=n;have e5:(x.alloc (.cells B 129)).cell? ⟨D,2,cw⟩=cu z:=by rw[World.cell?_alloc_some _ _ _ (by rw[c2];rfl)];exact c2
 go_simp;refine k.out _ _ O.o (λp=>?_)
 all_goals
  refine wpAnyH_ready (rs:=[9]) dC eQ ?_;refine AllReadyH.cons (o:=⟨cu 25,Op.call {callee:=Callee.builtin Builtin.append,args:=#[Operand.tmp 20,Operand.tmp 24],argTypes:=#[125,125]},125,_,_,cw⟩) nF (λK k=>wE ae ?_) AllReadyH.nil;refine Gc (.tmp 20) (.tmp 24) 125 nF 0 129 (bV zeroCells129) 129 136 underlying125 Rf AK cN z ps.n (xe ps) nF ((c7.o:x.drew.ownsRow 0 129 129 z ps.n (xe ps)).alloc _) x.drew.h.s B 129 (0,0) nF (AA _ _) T R aK cN cN ?_;intro g cap w4 X V d1 d5;simp only[Ol];have a7:=cz (cL.grown n.o V c3);have L:=cz (cL.grown (cL.alloc_old (show cL x.drew D 127 6 (pO h3) from y.o) (.cells B 129)) V d8);have c8:=cz (And.intro d1 d5);refine k.out _ _ a7.o (λc=>?_);refine GM 10 26 (dF D 0) c ?_;refine GM 11 27 (dF D 2) c ?_;refine wpAnyH_ready (rs:=[12]) dC eQ ?_;refine AllReadyH.cons (o:=⟨cw,Op.store 125 (Operand.tmp 27) (Operand.tmp 25),0,_,_,cw⟩) nF (λK k=>wE ae ?_) AllReadyH.nil;have e3:w4.cell? ⟨D,2,cw⟩=cu z:=by have:=(kh.cells (h:=h3) L.o).2.2.1;rw[HZ.o] at this;exact this
  have e6:w4.frozen? ⟨D,2,cw⟩=cy:=cL.frozen L.o 2;go_simp;have C:=cz (cL.AB a7.o ⟨D,2,cw⟩ (by show E≠D;omega) (bX (s_ g 0) (ps.n+1) cap));refine k.out _ _ C.o (λp=>?_);refine wpAnyH_done dC ?_ _;have i:=cz (aaK D h h3 st nw ps q s w W0 x w4 A B E z g cap G.o m.o HZ.o Q.o M.o V X hB f.o L.o);generalize hw5:w4.setCell ⟨D,2,cw⟩ (bX (s_ g 0) (ps.n+1) cap)=w5 at*;have⟨nb,hnb⟩:=dG h.nb;have⟨Y,hnn⟩:=dG h.n;have c1:=(kh.cells (h:={h3 with pv:=bX (s_ g 0) (ps.n+1) cap}) i.o.head).2.1;have t:h3.n=h.n/\h3.sb=h.sb/\h3.nb=h.nb:=by
   obtain⟨a1,a2,a3,_⟩:=xg (jD h);obtain⟨b1,b2,b3,_,_,_⟩:=nO h;rw[<-m.o];exact⟨a1.trans b1,a2.trans b2,a3.trans b3⟩
  simp only[t.1,t.2.2,hnb,hnn] at c1;have c5:=i.o.lC.there hq;rw[hnb] at c5;have f4:(q:Int)<(Y:Int):=cN;have f3:(0:Int)<=(q:Int):=cN;have b7:=G.o.qD;rw[hnn] at b7
  go_upto_region 7 with(fail)
  refine wp_region_held_drew (S:=λW=>W.cell? ⟨D,1,cw⟩=cu (.slice (s_ nb 0) Y Y)/\cL W E 36 128 (di s)) dC ⟨c1,C.o⟩ (λc=>?_);refine GM 0 28 (dF D 0) c ?_;refine GM 1 29 (dF D 0) c ?_;refine GM 2 30 (dF D 1) c ?_;refine wx_ 3 31 (bX (s_ nb 0) Y Y) ae (Or.inl ⟨dC,λw hw=>by have h1:=hw.1;go_simp⟩) c ?_;refine GM 4 32 (bU cq q) c ?_;refine wx_ 5 33 (bV A) ae (Fa dC 36 (.tmp 5) nF E 128 36 (di s) nF A f.o _ (λw h=>h.2) vX ae pB) c ?_;refine GM 6 34 (dF nb (q*128)) c ?_;refine wpAnyH_ready (rs:=[7]) dC eQ ?_;refine AllReadyH.cons (o:=⟨cw,Op.store 36 (Operand.tmp 34) (Operand.tmp 33),0,_,_,cw⟩) nF (λK k=>wE ae ?_) AllReadyH.nil;refine wp_store_mid 36 (.tmp 34) (.tmp 33) nF nb (q*128) A nF nF (by rw[F];exact c5) (by rw[F];exact pB) (by rw[f.o];exact oD _ (λ_=>ae)) ?_;have b6:=jZ.setCells nb A.t (q*128) w5.drew;have d9:nb<w5.h.s:=by have:=i.o.lC.lt;rw[hnb] at this;exact this
  have e2:nb<w.h.s:=by have:=G.o.lC.lt;rw[hnb] at this;exact this
  have b5:E≠nb:=by rw[<-hE];omega
  have b4:D≠nb:=by have:=i.o.dnn;rw[hnb] at this;exact this
  have c9:(w5.drew.setCells nb (q*128) A.t).cell? ⟨D,1,cw⟩=cu (.slice (s_ nb 0) Y Y)/\cL (w5.drew.setCells nb (q*128) A.t) E 36 128 (di s):=
   ⟨by rw[yx (w:=w5.drew) (b6.block D i.o.head.lt b4)];exact c1,by unfold cL;rw[b6.block E (cL.lt C.o) b5];exact C.o⟩
  refine k.out _ _ c9 (λp=>?_);refine wpAnyH_done dC ?_ _;have r:=aaL i.o.drew t G.o.apart G.o.qD (T3 G.o.inside hq) q s;rw[hnb,<-f.o] at r;generalize w5.drew.setCells nb (q*128) A.t=w6 at*;go_wp2;go_ret;refine⟨_,ae,?_,by rw[m.o];exact r.1,r.2⟩;intro b hb;cases hb;have e1:z=h.pv:=by rw[<-HZ.o,<-m.o,(xg _).2.2.2,(nO h).2.2.2.2.2]
  rcases c8.o.1 with h5|h5
  . left;rw[<-e1];exact h5
  right;have h6:x.h.s<=g:=by rw[h5];simp
  have h7:=hE;have h8:=cL.lt v;show w.h.s<=g;omega
def uS(w:cS)(D:Nat)(d:Dv)(l:cV):Prop:=qE d/\∃b a pv,od w D (d.head b a pv) d.st d.nw d.ps/\l=fV D (d.head b a pv)
theorem iQ.Wo{d:Dv}(h:iQ w D d):iy w D=cu 127:=by have⟨h0,sb,nb,pv,h1⟩:=h;exact cL.ty h1.head
def iQ.open{d:Dv}(h:iQ w D d):∃l,uS w D d l:=by have⟨h0,sb,nb,pv,h1⟩:=h;exact⟨_,h0,sb,nb,pv,h1,ae⟩
theorem uS.shut{d:Dv}{l:cV}(h:uS w D d l):iQ w D d:=by obtain⟨a,e,c,pv,b,_⟩:=h;grind[iQ]
theorem uS.ty{d:Dv}{l:cV}(h:uS w D d l):∀k∈l,∃t,iy w k=cu t/\lQ t=cx:=by obtain⟨b,e,c,pv,a,rfl⟩:=h;exact a.adj
theorem uS.lt{w:cS}{D:Nat}{d:Dv}{l:cV}(h:uS w D d l):∀k∈l,k<w.h.s:=λk a=>by obtain⟨t,b,_⟩:=h.ty k a;exact iA b
def uS.pX{d:Dv}{l m:cV}(h:uS w D d l)(s:qR B m w w')(c:∀k∈l,k<B/\k∉m):uS w' D d l:=by obtain⟨a,f,e,pv,b,rfl⟩:=h;exact⟨a,f,e,pv,b.pX s c,ae⟩
structure sZ(w w':cS)(D:Nat)(d':Dv)(l:cV):Prop where
 at_:∃l',uS w' D d' l'/\∀k∈l',k∈l∨w.h.s<=k
 pX:qR w.h.s l w w'
theorem uS.oT{w:cS}{D:Nat}{d:Dv}{l:cV}(h:uS w D d l):oT w D=l:=by obtain⟨b,e,c,pv,a,rfl⟩:=h;exact a.oT
theorem uS.Wo{d:Dv}{l:cV}(h:uS w D d l):iy w D=cu 127:=by obtain⟨b,e,c,pv,a,_⟩:=h;exact cL.ty a.head
theorem sZ.fr{w w':cS}{D:Nat}{d d':Dv}{l:cV}(s:sZ w w' D d' l)(h:uS w D d l)(m:cV):Fr (some D) m w w':=by have⟨l',h',hk⟩:=s.at_;refine⟨s.pX.os,s.pX.tape,s.pX.output,s.pX.size,λk b g=>s.pX.block k b λc=>?_,λf e=>?_,λf e k a=>?_⟩;have⟨t,ht,hd⟩:=h.ty k c;exact g ⟨t,ht,.inl ⟨D,ae,hd,by rw[h.oT];exact c⟩⟩;cases e;exact⟨h.Wo,h'.Wo⟩;cases e;rw[h'.oT] at a;rw[h.oT];grind
def sZ.shut{d':Dv}{l:cV}(s:sZ w w' D d' l):iQ w' D d':=by obtain⟨a,h,_⟩:=s.at_;exact h.shut
theorem sZ.G6{w w':cS}{D:Nat}{d d':Dv}{c b:Nat}{pv:c7}(a:od w D (d.head c b pv) d.st d.nw d.ps)(g:kh w' D (d'.head c b pv))(f:jZ D w w')
 (ok:qE d') (e:d'.n=d.n/\d'.st=d.st/\d'.nw=d.nw/\d'.ps=d.ps):sZ w w' D d' (fV D (d.head c b pv)):=by have⟨e1,e2,e3,e4⟩:=e;refine⟨⟨fV D (d'.head c b pv),⟨ok,c,b,pv,⟨?_,?_,?_⟩,ae⟩,λk h=>.inl h⟩,qR.rO f (eN _) ams⟩;rw[e2,e3];exact a.tozK.but f g ⟨e1,ae,ae⟩;rw[e4];exact qX a.xf (sE a.xf a.head.ty kM) f;rw[e4];intro p i;show p.1<d'.n;rw[e1];exact a.inside p i
def Ag(D:Nat)(d:Dv)(w:cS)(a:iQ w D d):CP_ 84 #[bW (cu ⟨D,0,cw⟩)] w λe w'=>e=cj (bU cq d.n)/\w=w':=by obtain⟨_,c,b,pv,h⟩:=a;exact agc D _ w h.head
def Lh(D:Nat)(d:Dv)(w:cS)(a:iQ w D d):CP_ 82 #[bW (cu ⟨D,0,cw⟩)] w λe w'=>e=cj (bZ d.df)/\w=w':=by obtain⟨_,c,b,pv,h⟩:=a;exact ade D _ w h.head
def agi(D:Nat)(d:Dv)(l:cV)(i:Int)(q:eT i)(w:cS)(a:uS w D d l):
 CP_ 165 #[bW (cu ⟨D,0,cw⟩),bU cq i] w λe w'=>∃A,e=cj (cg #[bV A,bU cq (iq d i).2.2])/\A=cM 128 (di (iq d i).2.1)/\sZ w w' D (iq d i).1 l:=by obtain⟨o,s,r,pv,b,rfl⟩:=a;refine(adf D _ d.st d.nw i q w b.tozK).mono ?_;rintro e w' ⟨A,g,c,f,p⟩;have n:G1 (d.head s r pv) d.nw i=(iq d i).2:=rfl;rw[n] at g c;rw[<-zL] at f;obtain⟨h,j,k,m,_,_⟩:=xh d;exact⟨A,g,c,sZ.G6 (d':=fm d) b f.head p (Es o) ⟨h,j,k,m⟩⟩
theorem Ji{s:Nat->cV}{x:cV}(h:∀i,kb (s i))(a:kb x)(q:Nat):∀i,kb (iM s q x i):=by grind[iM]
theorem Xm{d:Dv}(h:qE d)(i:Int)(e:kb s):d.ops<4611686018427387903->qE (gw d i s).1:=by intro ho;have hc:=Es h;have a:=PN hc;unfold gw;split;split;(next h2 h3=>(have⟨e1,e2,e3,e4,e5⟩:=xi (fm d);obtain⟨f,g,j,k,_,_⟩:=xh d;have c:(fm d).ops=d.ops+1:=by simp_all[fm]);refine⟨a.st,Ji h.nw e _,?_,?_,a.ops,a.left⟩;intro p b;rcases gH.1 b with b|b;exact h.ps p b;grind;show(d.ps++[(i.m,s)]).n<=(iN (fm d)).1.ops;rw[e5,c,jv,length_singleton];have:=h.qD;omega);omega;exact hc
theorem adl(D:Nat)(d:Dv)(l:cV)(ho:d.ops<=1000000000)(i:Int)(s:cV)(J:kb s)(A:gJ)(E:A=cM 128 (di s))(w:cS)(a:uS w D d l):
 CP_ 227 #[bW (cu ⟨D,0,cw⟩),bU cq i,bV A] w λe w'=>e=cj (bU cq (gw d i s).2)/\sZ w w' D (gw d i s).1 l:=by obtain⟨m,j,g,pv,p,rfl⟩:=a;have c:=Xm m i J cN;have v:=m.qD;have⟨e1,e2,e3,e4,e5⟩:=xi (fm d);obtain⟨K,B,L,M,_,_⟩:=xh d;have z:=J5 (fm d) j g pv;rw[zL] at z;by_cases x:L8 d i=cx;by_cases N:(iN (fm d)).2=cx;(have n:gw d i s=({(iN (fm d)).1 with nw:=iM d.nw i.m s,ps:=d.ps++[(i.m,s)]},0):=by simp_all[gw]);have⟨hi0,hin⟩:=mj (x:decide (0<=i/\i<(d.n:Int))=cx);obtain⟨q,rfl⟩:∃q:Nat,i=(q:Int):=⟨i.m,cN⟩;rw[n] at c|-;rw[uI] at c|-;refine(OA D (d.head j g pv) d.st d.nw d.ps m.left cN q s A E w p (by show q<d.n;omega) jH).mono ?_;rintro e w' ⟨h,u,y,o,t⟩;rw[<-z.1] at o;refine⟨u,⟨⟨_,⟨c,j,g,h,?_,ae⟩,?_⟩,t⟩⟩;(have C:d.st=(iN (fm d)).1.st:=by rw[e2,B]);rw[C] at o;exact o;intro k f;by_cases I:w.h.s<=k;omega;refine .inl ?_;simp only[fV,iX] at f|-;rcases f with f|f|f|f;omega;exact .inr (.inl f);exact .inr (.inr (.inl f));(have F:h.ownBlock=cu k:=by change k∈(match h.ownBlock with|some b=> [b]|none=> []) at f;grind);grind;(have n:gw d i s=((iN (fm d)).1,42):=by simp_all[gw]);rw[n] at c|-;refine(G4 D (d.head j g pv) m.left i A w p.head (.inr jH)).mono ?_;rintro e w' ⟨u,o,F⟩;have H:AI (d.head j g pv) i=cx:=x;simp_all[sZ.G6];(have G:L8 d i=cy:=by grind);(have n:gw d i s=(fm d,41):=by simp_all[gw]);rw[n] at c|-;have r:AI (d.head j g pv) i=cy:=G;refine(G4 D (d.head j g pv) m.left i A w p.head (.inl r)).mono ?_;simp_all[zL,sZ.G6]
theorem adm(D:Nat)(d:Dv)(l:cV)(n:Int)(f:eT n)(w:cS)(a:uS w D d l):
 CP_ 21 #[bW (cu ⟨D,0,cw⟩),bU cq n] w λe w'=>e=cj (cg #[])/\sZ w w' D (xU d n) l:=by obtain⟨b,k,j,pv,c,rfl⟩:=a;refine(aaI D _ n f w c.head).mono ?_;rintro e w' ⟨h,i,g⟩;unfold eT at f;refine⟨h,sZ.G6 (d':=xU d n) c i g ⟨b.st,b.nw,b.ps,b.qD,b.ops,?_⟩ ⟨ae,ae,ae,ae⟩⟩;grind[xU]
def Tg(i:Nat)(s:cV):Nat->c7:=λj=>if j=0 then bU cq i else di s (j-1)
def Y8(i:Nat)(s:cV):∀j,(Tg i s j).oneCell'=cx:=by intro j;unfold Tg;split<;>rfl
theorem agj(i:Nat)(s:cV):(Value.int cq i:: (cM 128 (di s)).t)=(cM 129 (Tg i s)).t:=by apply xL;intro j;rw[nL (xs:=cM 129 (Tg i s)),dy];cases j with|zero=>rfl|succ j=>rw[getElem?_cons_succ,nL (xs:=cM 128 (di s)),dy];by_cases h:j<128;simp_all[Tg];grind
theorem adn(ps:List (Nat×cV)){k:Nat}(b:k<ps.n){j:Nat}(a:j<129):(xe ps)[k*129+j]?=cu (Tg ps[k].1 ps[k].2 j):=by
 induction ps generalizing k with
 |nil=>grind
 |cons p ps ih=>
  have e:xe (p::ps)=(cM 129 (Tg p.1 p.2)).t++xe ps:=by grind[xe,agj]
  rw[e];cases k with|zero=>rw[yn,pM,I1 aG,nL,dy,c8 a];rfl|succ k=>rw[IZ aG,nA,cW,show(k+1)*129+j-129=k*129+j from by omega];grind
theorem PO(h:w.ownsRow 0 129 129 v ps.n (xe ps)):
 ∃ao cap,v=bX ao ps.n cap/\ps.n<=cap/\∀k(i:k<ps.n),∃g,ao=cu ⟨g,0,cw⟩:=by rcases h.2 with⟨b,c⟩|⟨g,cap,a,b,c,d,e,f⟩<;>grind
theorem Mb(h:w.ownsRow 0 129 129 (bX (cu ⟨g,0,cw⟩) ps.n cap) ps.n (xe ps))(b:k<ps.n):
 w.rangeAt g (k*129) (cM 129 (Tg ps[k].1 ps[k].2)).t:=by
 intro j v a;rw[nL,dy] at a;split at a;next hj=>cases a;rw[h.cellAt (k*129+j) cN];grind[adn]
 cases a
def zM:(prog.info? 129).map (·.size)=cu 129:=dC
theorem PQ(h:cL w E 129 129 (Tg i s)){C:gJ}(b:C=cM 128 (di s)):w.rangeAt E 1 C.t:=by
 intro j v a;rw[b,nL (xs:=cM 128 (di s)),dy] at a;split at a;next hj=>cases a;have:=cL.cell h (i:=1+j) cN;simp_all[Tg]
 cases a
theorem T4(st:Nat->cV)(ps:List (Nat×cV))(a:k<ps.n):ny st (ps.take (k+1))=iM (ny st (ps.take k)) ps[k].1 ps[k].2:=by grind[ny,take_succ_eq_append_getElem]
theorem xV.cP{h b:Head}{st:Nat->cV}(m:xV w5 D h b st nw ps w)(a:dS w5 w6):xV w6 D h b st nw ps w:=
 ⟨cL.cP m.head a,cL.cP m.lk a,cL.cP m.lC a,l9 m.xf a,m.pX.trans (qR.tA (a.mono m.pX.size) _),m.dns,m.dnn,m.pnn⟩
theorem xV.PR{h c:Head}{st:Nat->cV}(m:xV w5 D h c st nw ps w)(b:h.sb≠h.nb)(q:Nat)(s:cV):
 xV (w5.setCells h.sb (q*128) (cM 128 (di s)).toList) D h c (iM st q s) nw ps w:=by have a:=jZ.setCells h.sb (cM 128 (di s)).toList (q*128) w5;refine⟨?_,m.lk.put q s,?_,?_,?_,m.dns,m.dnn,m.pnn⟩;unfold kh cL;rw[a.block D m.head.lt m.dns];exact m.head;unfold kO cL;rw[a.block h.nb m.lC.lt (pU b)];exact m.lC;exact qX m.xf (sE m.xf (cL.ty m.lk) kM) a;exact⟨a.os.trans m.pX.os,a.tape.trans m.pX.tape,a.output.trans m.pX.output,ik m.pX.size a.size,λk d f=>(a.block k (pK d m.pX.size) (λe=>f (by grind[fV]))).trans (m.pX.block k d f)⟩
theorem xV.Li{h c h6:Head}{st:Nat->cV}{ps':List (Nat×cV)}(m:xV w5 D h c st nw ps w)(i:Nat)(v:c7)(e:∀j,j<6->(if j=i then v else pO c j)=pO h6 j)(d:h6.pv=c.pv/\ps'=ps∨h6.pv=bX cw 0 0/\ps'=[]):xV (w5.setCell ⟨D,i,cw⟩ v) D h h6 st nw ps' w:=by refine⟨m.head.set i v e,cL.AB m.lk _ (pU m.dns) _,cL.AB m.lC _ (pU m.dnn) _,?_,m.pX.setCell ams i v,m.dns,m.dnn,?_⟩;rcases d with⟨a,b⟩|⟨a,b⟩;rw[a,b];exact qX m.xf (sE m.xf m.head.ty kM) (qC D w5 i v);grind[World.ownsRow_nil,xe];rcases d with⟨a,b⟩|⟨a,b⟩;rw[a];exact m.pnn;grind[Value.ownBlock]
theorem od.mid{g:cS}{h f:Head}{st:Nat->cV}(a:od w D h st nw ps)(i:kh g D f)(d:jZ D w g)(e:f.pv=h.pv):xV g D h f st nw ps w:=by
 have j:=a.head.ty;have ts:=cL.ty a.lk;have k:=cL.ty a.lC;have c:D≠h.sb:=λe=>by grind
 have b:D≠h.nb:=λe=>by grind
 refine⟨i,?_,?_,?_,qR.rO d (eN _) ams,c,b,?_⟩;unfold kO cL;rw[d.block _ a.lk.lt (pU c)];exact a.lk;unfold kO cL;rw[d.block _ a.lC.lt (pU b)];exact a.lC;rw[e];exact qX a.xf (sE a.xf j kM) d;rw[e];exact sE a.xf k kM
theorem xV.fin{h a:Head}{st:Nat->cV}(m:xV w5 D h a st nw ps w)(d:a.n=h.n/\a.sb=h.sb/\a.nb=h.nb)(c:h.sb≠h.nb)(b:h.n<=1024)(e:∀p∈ps,p.1<h.n):
 od w5 D a st nw ps:=by have⟨e1,e2,e3⟩:=d;refine⟨⟨m.head,by rw[e1,e2];exact m.lk,by rw[e1,e3];exact m.lC,cN,cN⟩,m.xf,by grind⟩
def Rj(D:Nat)(h:Head)(k: -1<=h.left/\h.left<=9223372036854775807)(w:cS)(a:kh w D h)(j:(lB (jD h)).2=cy):
 CP_ 226 #[bW (cu ⟨D,0,cw⟩)] w λe w'=>e=cj (bU cq 42)/\kh w' D (lB (jD h)).1/\jZ D w w':=by
 have i: -1<=(jD h).left/\(jD h).left<=9223372036854775807:=by rw[(nO h).2.2.2.2.1];exact k
 go_enter func226,ntmps226;go_wp2_with fail;refine aj (AJ D h _ a) λw1⟨f,c⟩=>?_;go_wp2_with fail;refine(Ep D _ i _ f).mono ?_;rw[j];rintro e l ⟨rfl,g,d⟩;have b:=cz (c.trans d);go_wp2_with fail;go_ret;exact⟨ae,g,b.o⟩
def OB(D:Nat)(h:Head)(st nw:Nat->cV)(ps:List (Nat×cV))(hl: -1<=h.left/\h.left<=9223372036854775807)(d6:ps.n<=1000000000)(w:cS)(a:od w D h st nw ps)(b8:(lB (jD h)).2=cx):
 CP_ 226 #[bW (cu ⟨D,0,cw⟩)] w λe w'=>e=cj (bU cq 0)/\od w' D {(lB (jD h)).1 with pv:=bX cw 0 0} (ny st ps) nw []/\qR w.h.s (fV D h) w w':=by
 have d5: -1<=(jD h).left/\(jD h).left<=9223372036854775807:=by rw[(nO h).2.2.2.2.1];exact hl
 obtain⟨F,f⟩:=dG ((lB (jD h)).1);rw[f];have d:F.n=h.n/\F.sb=h.sb/\F.nb=h.nb/\F.pv=h.pv:=by
  obtain⟨a1,a2,a3,a4⟩:=xg (jD h);obtain⟨b1,b2,b3,_,_,b4⟩:=nO h;rw[<-f];exact⟨a1.trans b1,a2.trans b2,a3.trans b3,a4.trans b4⟩
 have c4:=cz f;clear f;go_enter func226,ntmps226
 go_wp2_with fail
 refine aj (AJ D h _ a.head) λw1⟨d4,a6⟩=>?_;have b9:=cz a6;have x:=cz d4;clear a6
 go_wp2_with fail
 refine(Ep D _ d5 _ x.o).mono ?_;rw[b8];rintro e w3 ⟨rfl,f,d3⟩;have c1:=cz (b9.o.trans d3);have Q:=cz f;clear f;rw[c4.o] at Q;have d:=d;have hm:=a.mid Q.o c1.o d.2.2.2;obtain⟨ao,cap,b6,a8,d2⟩:=PO hm.xf;have c2:=hm.head.cells.2.2.1;rw[b6] at c2;obtain⟨r,n⟩:=dG h.sb;obtain⟨O,v⟩:=dG h.n;obtain⟨L,hL⟩:=dG ps.n;rw[hL] at c2 a8 d6;have a9:=a.qD;rw[v] at a9;clear d
 go_wp2_with fail
 go_loopw [15] (λc wr=>∃k:Nat,k<=L/\c=bU cq k/\Hid (xV wr D h F (ny st (ps.take k)) nw ps w)) (λc _=>L-(intOf c).m)
 case atStart=>exact⟨0,gG _,ae,hm⟩
 case round=>
  obtain⟨k,hk,rfl,hrel⟩:=hrel;by_cases b5:k<L
  . obtain⟨g,hg⟩:=d2 k (by rw[hL];exact b5);subst hg;have I:k<ps.n:=by rw[hL];exact b5
    obtain⟨p,hp⟩:=dG (ps[k]);have j:=hrel.o.xf;rw[b6] at j;have m:=Mb j I;have l:=T4 st ps I;have H:=a.inside p (by rw[<-hp];exact mP I);rw[hp] at m l;rw[v] at H;obtain⟨i,s⟩:=p;simp only at m l H;clear hp j;obtain⟨A,hA⟩:=fU (cM 129 (Tg i s));rw[<-hA] at m;have Y:A.t.n=129:=by rw[hA,nA,cW]
    have R:=cz hA;clear hA;have c6:=cz m;clear m;have y:=cz Y;clear Y;obtain⟨B,h6⟩:=fU ((wr.alloc (.cells zeroCells129 129)).setRow wr.h.s A);have M:cL B wr.h.s 129 129 (Tg i s):=by
     rw[h6,R.o];exact setRow_heap _ _ _ _ _ _ (AA _ _)
    have c8:dS wr B:=by rw[h6];exact anR
    have H6:=cz h6;clear h6;have t:=hrel.o.cP c8;have X:=t.head.cells.1;rw[d.2.1,d.1,n,v] at X;have b7:r≠wr.h.s:=by have:=hrel.o.lk.lt;rw[n] at this;omega
    have N:=t.lk.there (q:=i) (by rw[v];exact H);rw[n] at N;have c7:=cz N;clear N;have T:=cz t;clear t;have Z:A.all (·.oneCell')=cx:=by rw[R.o];exact oD _ (Y8 i s)
    obtain⟨C,hC⟩:=fU (cM 128 (di s));have G:C.s=128:=by rw[hC,cW]
    have a5:C.all (·.oneCell')=cx:=by rw[hC];exact oD _ (λ_=>ae)
    have HC:=cz hC;clear hC;have c3:=cz a5;clear a5;have x:=cz Z;clear Z;obtain⟨E,hE⟩:=dG wr.h.s;rw[hE] at M b7;have HE:=cz hE;have e2:(0:Int)<=(i:Int):=cN;have e3:(i:Int)<(O:Int):=cN;have d9:D≠E:=by have:=hrel.o.head.lt;rw[<-hE];omega
    have c9:D≠r:=by have:=hrel.o.dns;rw[n] at this;exact this
    clear hE
    go_upto_region 7 with(first|(refine wpList_load_mid (op:=⟨cu 18,.load 129 (.tmp 17),_,_,_,cw⟩) ae 129 (.tmp 17) ae g (k*129) ae A.t _ c6.o underlying129 ae (by rw[y.o];exact zM) ?_;rw[vA])|(refine Ma (o:=⟨cw,.store 129 (.tmp 4) (.tmp 18),_,_,_,cw⟩) ae 129 (.tmp 4) (.tmp 18) ae wr.h.s A ae ae 129 zeroCells129 (AA _ _) (by rw[<-nA,y.o];exact zM) (by rw[<-nA (xs:=A),y.o];exact AK) x.o ?_;rw[<-H6.o]))
    simp only[HE.o];have z:=cz M;clear M;have V:=cz (And.intro X z.o);refine wp_region_held_drew (S:=λW=>W.cell? ⟨D,0,cw⟩=cu (.slice (s_ r 0) O O)/\cL W E 129 129 (Tg i s)) dC V.o (λb=>?_);refine GM 0 19 (dF D 0) b ?_;refine GM 1 20 (dF D 0) b ?_;refine GM 2 21 (dF D 0) b ?_;refine wx_ 3 22 (bX (s_ r 0) O O) ae (Or.inl ⟨dC,λw hw=>by have h1:=hw.1;go_simp⟩) b ?_;refine GM 4 23 (dF E 0) b ?_;refine wx_ 5 24 (bU cq i) ae (Or.inl ⟨dC,λw hw=>by have h1:w.cell? ⟨E,0,cw⟩=cu (.int cq i):=cL.cell hw.2 (i:=0) cN;go_simp⟩) b ?_;refine GM 6 25 (dF E 1) b ?_;refine wx_ 7 26 (bV C) ae (wD dC 36 (.tmp 25) nF E 1 nF C _ (λw hw=>PQ hw.2 HC.o) vX ae (by rw[G];exact pB)) b ?_;refine GM 8 27 (dF r (i*128)) b ?_;refine wpAnyH_ready (rs:=[9]) dC eQ ?_;refine AllReadyH.cons (o:=⟨cw,Op.store 36 (Operand.tmp 27) (Operand.tmp 26),0,_,_,cw⟩) nF (λK hK=>wE ae ?_) AllReadyH.nil;refine wp_store_mid 36 (.tmp 27) (.tmp 26) nF r (i*128) C nF nF (by rw[G];exact c7.o) (by rw[G];exact pB) c3.o ?_;have a7:=jZ.setCells r C.t (i*128) B.drew;have d1:(B.drew.setCells r (i*128) C.t).cell? ⟨D,0,cw⟩=cu (.slice (s_ r 0) O O)/\cL (B.drew.setCells r (i*128) C.t) E 129 129 (Tg i s):=
     ⟨by rw[yx (w:=B.drew) (a7.block D T.o.head.lt c9)];exact V.o.1,by unfold cL;rw[a7.block E (cL.lt z.o) (pU b7)];exact z.o⟩
    refine hK.out _ _ d1 (λe1=>?_);refine wpAnyH_done dC ?_ _;have u:=(T.o.drew).PR a.apart i s;rw[n,<-HC.o] at u;rw[<-l] at u;have c5:=cz u;clear u;generalize B.drew.setCells r (i*128) C.t=w7 at*;go_wp2;go_roundw
    case rel=>exact⟨k+1,cN,by go_num,c5.o⟩
    case measure=>exact qN
  . obtain rfl:k=L:=cN;have d7:=hrel.o.head.cells.2.2.1;have d8:=cL.frozen hrel.o.head 2;have J:=hrel.o.Li 2 (bX cw 0 0) (h6:={F with pv:=bX cw 0 0}) (ps':=[]) (Ri F _) amw;rw[nV (by rw[hL];exact eN _)] at J;have U:=cz J;clear J;go_wp2;go_ret;exact⟨ae,U.o.fin ⟨d.1,d.2.1,d.2.2.1⟩ a.apart a.qD eQ,U.o.pX⟩
def dg(w:cS)(T:dW)(sz:Nat)(v:c7)(n:Nat)(xs:List c7):Prop:=
 xs.n=n*sz/\∃ao cap,v=bX ao n cap/\n<=cap/\cap<=maxLen/\
  (0<n->∃b o cs a,ao=cu ⟨b,o,cw⟩/\w.h[b]?=cu (.cells cs T a)/\∀j u,xs[j]?=cu u->cs[o+j]?=cu u)
def dg.nil(w:cS)(T:dW)(sz:Nat):dg w T sz (bX cw 0 0) 0 []:=⟨by simp,cw,0,ae,eN _,gG _,λh=>absurd h (ug _)⟩
theorem dg.j8(h:w.ownsRow base T sz v n xs):dg w T sz v n xs:=by refine⟨h.1,?_⟩;rcases h.2 with⟨rfl,rfl⟩|⟨g,cap,a,rfl,_,f,b,c,d,e⟩<;>grind
theorem dg.ty(h:dg w T sz v n xs)(c:v.ownBlock=cu b)(d:0<n):iy w b=cu T:=by obtain⟨_,ao,cap,rfl,_,_,a⟩:=h;obtain⟨g,o,cs,e,rfl,f,_⟩:=a d;cases c<;>grind[iy]
theorem dg.eS(h:dg w T sz v n xs)(f:∀b,iy w b=cu T->w'.h[b]?=w.h[b]?):dg w' T sz v n xs:=by obtain⟨a,ao,cap,rfl,c,d,e⟩:=h;refine⟨a,ao,cap,ae,c,d,λg=>?_⟩;grind[iy]
theorem dg.fr{d:Option Nat}{l:cV}{w w':cS}{T:dW}{sz:Nat}{v:c7}{n:Nat}{xs:List c7}(h:dg w T sz v n xs)(s:Fr d l w w')(a:d=cw∨lQ T=cy)(b:gZ T=cy):dg w' T sz v n xs:=
 h.eS λ_ c=>s.eS c a (.inl b)
theorem dg.cP(h:dg w T sz v n xs)(s:dS w w'):dg w' T sz v n xs:=
 h.eS λb a=>s.block b (iA a)
theorem dg.but{w w':cS}{T t:dW}{sz:Nat}{v:c7}{n:Nat}{xs:List c7}(h:dg w T sz v n xs){c:Nat}(s:jZ c w w')(hc:iy w c=cu t)(d:t≠T):dg w' T sz v n xs:=
 h.eS λb a=>s.block b (iA a) jH
theorem dg.form(h:dg w T sz v n xs):
 ∃ao cap,v=bX ao n cap/\n<=cap/\n<=maxLen/\∀k,k<n->∃b o,ao=cu ⟨b,o,cw⟩/\iy w b=cu T/\b<w.h.s/\∀j u,xs[j]?=cu u->w.cell? ⟨b,o+j,cw⟩=cu u:=by obtain⟨d,ao,cap,rfl,a,c,e⟩:=h;refine⟨ao,cap,ae,a,ik a c,λk f=>?_⟩;grind[iy,cell_of_row]
def Ah(l:List Bool):List c7:=l.map Value.bool
theorem aaM{l:List Bool}(h:k<l.n):(Ah l)[k]?=cu (.bool (l.getD k cy)):=by grind[Ah]
def Mc(w:cS)(v:c7)(l:List Bool):Prop:=dg w 4 1 v l.n (Ah l)
theorem Xn(eS:List Bool)(ps:List (Nat×cV))(p:Nat×cV):∀(st:Nat->cV)(k:Nat),oe st eS k (ps++[p])=if eS.getD (k+ps.n) cy=cx then iM (oe st eS k ps) p.1 p.2 else oe st eS k ps:=by induction ps<;>grind[oe]
def Xo(st:Nat->cV)(eS:List Bool)(ps:List (Nat×cV))(a:k<ps.n):
 oe st eS 0 (ps.take (k+1))=if eS.getD k cy=cx then iM (oe st eS 0 (ps.take k)) ps[k].1 ps[k].2 else oe st eS 0 (ps.take k):=by rw[yl a,Xn,pM,lO,vK cN]
theorem Fb(w:cS)(l u ty c:dW)(g o d f:Nat)(a:Addr)(e k:Nat)(b:gJ)(t:dW)(cs:List c7)(sz n:Nat)(B:P.underlying l=cu (.slice c))(A:(P.info? c).map (·.size)=cu sz)(r:w.h[g]?=cu (.cells b t (0,0)))(y:n=Nat.min e d)(q:cs.n=n*sz)(h:∀j v,cs[j]?=cu v->w.cell? (a.add j)=cu v)(m:o+cs.n<=b.s)(p:∀v∈cs,v.oneCell'=cx):
 (Builtin.copy_ #[l,u] ty #[bX (cu ⟨g,o,cw⟩) d f,bX (cu a) e k]).run P w=
  .ok (goInt n) (w.setRow g (b.t.take o++cs++b.t.drop (o+cs.n)).toArray):=by have x:=run_loadCells_list (P:=P) w a cs h;have s:=run_storeCells_at P g o t cs 0 b w r cN p;cases z:P.info? c with|none=>grind|some i=>simp_all[Builtin.copy_,yI,Builtin.lenOf,Builtin.firstCells,sizeOf,typeInfo]
theorem OC(d s:Operand)(p u:dW)(ho:o.op=.call {callee:=.builtin .copy,args:=#[d,s],argTypes:=#[p,u]})(b:dW)(E:P.underlying p=cu (.slice b))(sz:Nat)(q:(P.info? b).map (·.size)=cu sz)(g n c h:Nat)(x:Nat)(z:a.eval d=bX (cu ⟨g,0,cw⟩) n c)(D:a.eval s=bX (cu ⟨h,0,cw⟩) n x)(t y:dW)(f k:Nat->c7)(A:cL w g t (n*sz) f)(B:cL w h y (n*sz) k)(F:∀i,(k i).oneCell'=cx)(C:K (a.put o.dst (goInt n)) (w.setRow g (cM (n*sz) k))):o.wp P a w K Q:=by
 have l:=Fb (P:=P) w p u o.type b g 0 n c ⟨h,0,cw⟩ n x (cM (n*sz) f) t (cM (n*sz) k).t sz n E q A eQ aG
  (λj v r=>by
   have m:(⟨h,0,cw⟩:Addr).add j=⟨h,j,cw⟩:=by grind[Addr.add]
   rw[m,cell_of_row w h j _ y _ B]
   grind) aG (λv r=>by
   obtain⟨j,G,rfl⟩:=xz.1 r;have:=dy (n*sz) k j
   grind)
 have e:((cM (n*sz) f).t.take 0++(cM (n*sz) k).t++(cM (n*sz) f).t.drop (0+(cM (n*sz) k).t.n)).toArray=cM (n*sz) k:=by grind[cW]
 rw[e] at l;unfold Oper.wp;simp[execOp,ho,resolve,invoke,builtin,z,D,l,Result.andThen];exact C
def xV.ajF{h g:Head}{st e c:Nat->cV}{d:List (Nat×cV)}(m:xV w5 D h g st nw ps w)(a:od w D h e c d){l:List Bool}(j:Mc w v l):Mc w5 v l:=
 dg.eS j λb f=>m.pX.block b (iA f) λi=>by
  have⟨t,ht,hd⟩:=a.adj b i;rw[f] at ht;cases ht;exact absurd hd kM
theorem xV.Xp{h f:Head}{st:Nat->cV}(m:xV w5 D h f st nw ps w)(c:h.sb≠h.nb):
 xV (w5.setRow h.nb (cM (h.n*128) (EV st))) D h f st st ps w:=by have a:jZ h.nb w5 (w5.setRow h.nb (cM (h.n*128) (EV st))):=⟨ae,ae,ae,by simp_all,λk d b=>setRow_other w5 h.nb k _ b⟩;refine⟨?_,?_,cL.setRow m.lC _,?_,?_,m.dns,m.dnn,m.pnn⟩;unfold kh cL;rw[a.block D m.head.lt m.dnn];exact m.head;unfold kO cL;rw[a.block h.sb m.lk.lt c];exact m.lk;exact qX m.xf (sE m.xf (cL.ty m.lC) kM) a;exact⟨a.os.trans m.pX.os,a.tape.trans m.pX.tape,a.output.trans m.pX.output,ik m.pX.size a.size,λk d b=>(a.block k (pK d m.pX.size) (λe=>b (by grind[fV]))).trans (m.pX.block k d b)⟩
def aaN(D:Nat)(h:Head)(st nw:Nat->cV)(ps:List (Nat×cV))(eS:List Bool)(v:c7)(e5:ps.n<=1000000000)(w:cS)(a:od w D h st nw ps)(hv:Mc w v eS):
 CP_ 16 #[bW (cu ⟨D,0,cw⟩),v] w λe w'=>e=cj (cg #[])/\od w' D {h with pv:=bX cw 0 0,left:=-1,df:=cy} (oe st eS 0 ps) (oe st eS 0 ps) []/\qR w.h.s (fV D h) w w':=by
 obtain⟨bo,e6,rfl,O,b7,-⟩:=dg.form hv;have hm:=a.mid a.head (jZ.refl D w) ae;obtain⟨ao,cap,d3,b8,e3⟩:=PO hm.xf;have c2:=hm.head.cells.2.2.1;rw[d3] at c2;obtain⟨y,d6⟩:=dG h.sb;obtain⟨H,d2⟩:=dG h.nb;obtain⟨f,a8⟩:=dG h.n;obtain⟨L,hL⟩:=dG ps.n;obtain⟨M,hM⟩:=dG eS.n;rw[hL] at c2 b8 e5;rw[hM] at O b7;have b9:=a.qD;rw[a8] at b9;have t:=cz d6;clear d6;have N:=cz d2;clear d2;have n:=cz a8;clear a8;have X:=cz hL;clear hL;rw[hM];have Y:=cz hM;clear hM;unfold maxLen at b7;go_enter func16,ntmps16
 go_wp2_with fail
 go_loopw [11] (λc wr=>∃k:Nat,k<=L/\c=bU cq k/\Hid (xV wr D h h (oe st eS 0 (ps.take k)) nw ps w)) (λc _=>L-(intOf c).m)
 case atStart=>exact⟨0,gG _,ae,hm⟩
 case round=>
  obtain⟨k,hk,rfl,hrel⟩:=hrel;by_cases c6:k<L
  . obtain⟨g,hg⟩:=e3 k (by rw[X.o];exact c6);subst hg;have a6:k<ps.n:=by rw[X.o];exact c6
    obtain⟨p,hp⟩:=dG (ps[k]);have x:=hrel.o.xf;rw[d3] at x;have G:=Mb x a6;have m:=Xo st eS ps a6;have a5:=a.inside p (by rw[<-hp];exact mP a6);rw[hp] at G m;rw[n.o] at a5;obtain⟨i,s⟩:=p;simp only at G m a5;have a2:=cz m;clear m;clear hp x;obtain⟨A,hA⟩:=fU (cM 129 (Tg i s));rw[<-hA] at G;have b4:A.t.n=129:=by rw[hA,nA,cW]
    have b1:=cz hA;clear hA;have a1:=cz G;clear G;have l:=cz b4;clear b4;obtain⟨W6,h6⟩:=fU ((wr.alloc (.cells zeroCells129 129)).setRow wr.h.s A);have Q:cL W6 wr.h.s 129 129 (Tg i s):=by
     rw[h6,b1.o];exact setRow_heap _ _ _ _ _ _ (AA _ _)
    have d9:dS wr W6:=by rw[h6];exact anR
    have H6:=cz h6;clear h6;have F:=hrel.o.cP d9;have b3:=F.head.cells.1;rw[t.o,n.o] at b3;have d5:y≠wr.h.s:=by have:=hrel.o.lk.lt;rw[t.o] at this;omega
    have a9:=F.lk.there (q:=i) (by rw[n.o];exact a5);rw[t.o] at a9;have d8:=cz a9;clear a9;have e4:=F.ajF a hv;have I:=cz F;clear F;have b5:A.all (·.oneCell')=cx:=by rw[b1.o];exact oD _ (Y8 i s)
    obtain⟨C,hC⟩:=fU (cM 128 (di s));have a3:C.s=128:=by rw[hC,cW]
    have b6:C.all (·.oneCell')=cx:=by rw[hC];exact oD _ (λ_=>ae)
    have HC:=cz hC;clear hC;have d7:=cz b6;clear b6;have V:=cz b5;clear b5;obtain⟨E,hE⟩:=dG wr.h.s;rw[hE] at Q d5;have HE:=cz hE;have f7:(0:Int)<=(i:Int):=cN;have f8:(i:Int)<(f:Int):=cN;have f6:D≠E:=by have:=hrel.o.head.lt;rw[<-hE];omega
    have e1:D≠y:=by have:=hrel.o.dns;rw[t.o] at this;exact this
    have e8:(k:Int)<9223372036854775807:=cN;clear hE;by_cases c3:k<M
    . obtain⟨f1,e7,e,-,-,u⟩:=dg.form e4;cases e;obtain⟨b,o,rfl,-,-,u⟩:=u k (by rw[Y.o];exact c3);have ck:=u k _ (aaM (by rw[Y.o];exact c3));have Z:=cz Q;clear Q;have b2:=cz (And.intro b3 Z.o);obtain⟨q,hq⟩:=dG (eS.getD k cy);rw[hq] at ck;have HQ:=cz hq;clear hq;rcases q with _|_;have r:=a2.o;rw[HQ.o,cX eQ] at r;have j:=I.o;rw[<-r] at j;have J:=cz j;clear j
      rotate_left
      go_upto_region 4 with(first|(refine wpList_load_mid (op:=⟨cu 15,.load 129 (.tmp 14),_,_,_,cw⟩) ae 129 (.tmp 14) ae g (k*129) ae A.t _ a1.o underlying129 ae am4 ?_;rw[vA])|(refine Ma (o:=⟨cw,.store 129 (.tmp 5) (.tmp 15),_,_,_,cw⟩) ae 129 (.tmp 5) (.tmp 15) ae wr.h.s A ae ae 129 zeroCells129 (AA _ _) amO amG V.o ?_;rw[<-H6.o]))
      simp only[HE.o];refine wp_region_held_drew (S:=λW=>W.cell? ⟨D,0,cw⟩=cu (.slice (s_ y 0) f f)/\cL W E 129 129 (Tg i s)) dC b2.o (λd=>?_);refine GM 0 26 (dF D 0) d ?_;refine GM 1 27 (dF D 0) d ?_;refine GM 2 28 (dF D 0) d ?_;refine wx_ 3 29 (bX (s_ y 0) f f) ae (Or.inl ⟨dC,λw R=>by have h1:=R.1;go_simp⟩) d ?_;refine GM 4 30 (dF E 0) d ?_;refine wx_ 5 31 (bU cq i) ae (Or.inl ⟨dC,λw R=>by have h1:w.cell? ⟨E,0,cw⟩=cu (.int cq i):=cL.cell R.2 (i:=0) cN;go_simp⟩) d ?_;refine GM 6 32 (dF E 1) d ?_;refine wx_ 7 33 (bV C) ae (wD dC 36 (.tmp 32) nF E 1 nF C _ (λw R=>PQ R.2 HC.o) vX ae (by rw[a3];exact pB)) d ?_;refine GM 8 34 (dF y (i*128)) d ?_;refine wpAnyH_ready (rs:=[9]) dC eQ ?_;refine AllReadyH.cons (o:=⟨cw,Op.store 36 (Operand.tmp 34) (Operand.tmp 33),0,_,_,cw⟩) nF (λK hK=>wE ae ?_) AllReadyH.nil;refine wp_store_mid 36 (.tmp 34) (.tmp 33) nF y (i*128) C nF nF (by rw[a3];exact d8.o) (by rw[a3];exact pB) d7.o ?_;have O:=jZ.setCells y C.t (i*128) W6.drew;have a4:(W6.drew.setCells y (i*128) C.t).cell? ⟨D,0,cw⟩=cu (.slice (s_ y 0) f f)/\cL (W6.drew.setCells y (i*128) C.t) E 129 129 (Tg i s):=
       ⟨by rw[yx (w:=W6.drew) (O.block D I.o.head.lt e1)];exact b2.o.1,by unfold cL;rw[O.block E (cL.lt Z.o) (pU d5)];exact Z.o⟩
      refine hK.out _ _ a4 (λe2=>?_);refine wpAnyH_done dC ?_ _;have j:=(I.o.drew).PR a.apart i s;rw[t.o,<-HC.o] at j;have r:=a2.o;rw[HQ.o,c8 ae] at r;rw[<-r] at j;have J:=cz j;clear j;generalize W6.drew.setCells y (i*128) C.t=w7 at*
      all_goals
       go_wp2_with first|(refine wpList_load_mid (op:=⟨cu 15,.load 129 (.tmp 14),_,_,_,cw⟩) ae 129 (.tmp 14) ae g (k*129) ae A.t _ a1.o underlying129 ae am4 ?_;rw[vA])|(refine Ma (o:=⟨cw,.store 129 (.tmp 5) (.tmp 15),_,_,_,cw⟩) ae 129 (.tmp 5) (.tmp 15) ae wr.h.s A ae ae 129 zeroCells129 (AA _ _) amO amG V.o ?_;rw[<-H6.o])
       go_roundw
       case rel=>exact⟨k+1,cN,by go_num,J.o⟩
       case measure=>exact qN
    . have r:=a2.o;have hq:eS.getD k cy=cy:=by rw[zB,getElem?_eq_none (by rw[Y.o];omega)];rfl
      rw[hq,cX eQ] at r;have j:=I.o;rw[<-r] at j;clear hq Q;have J:=cz j;clear j
      go_wp2_with (first|(refine wpList_load_mid (op:=⟨cu 15,.load 129 (.tmp 14),_,_,_,cw⟩) ae 129 (.tmp 14) ae g (k*129) ae A.t _ a1.o underlying129 ae am4 ?_;rw[vA])|(refine Ma (o:=⟨cw,.store 129 (.tmp 5) (.tmp 15),_,_,_,cw⟩) ae 129 (.tmp 5) (.tmp 15) ae wr.h.s A ae ae 129 zeroCells129 (AA _ _) amO amG V.o ?_;rw[<-H6.o]))
      go_roundw
      case rel=>exact⟨k+1,cN,by go_num,J.o⟩
      case measure=>exact qN
  . obtain rfl:k=L:=cN;have f2:=hrel.o.head.cells.2.2.1;have f3:=cL.frozen hrel.o.head 2;have a7:=hrel.o.Li 2 (bX cw 0 0) (h6:={h with pv:=bX cw 0 0}) (ps':=[]) (Ri h _) amw;rw[nV (by rw[X.o];exact eN _)] at a7;have z:=cz a7;clear a7;clear c2
    go_upto_region 7 with(fail)
    generalize wr.setCell ⟨D,2,cw⟩ (bX cw 0 0)=w8 at*;have c0:=z.o.head.cells.1;have c1:=z.o.head.cells.2.1;simp only[t.o,n.o] at c0;simp only[N.o,n.o] at c1;refine wp_region_held_drew (S:=λW=>W.cell? ⟨D,0,cw⟩=cu (.slice (s_ y 0) f f)/\W.cell? ⟨D,1,cw⟩=cu (.slice (s_ H 0) f f)) dC ⟨c0,c1⟩ (λd=>?_);refine GM 0 39 (dF D 0) d ?_;refine GM 1 40 (dF D 0) d ?_;refine GM 2 41 (dF D 1) d ?_;refine wx_ 3 42 (bX (s_ H 0) f f) ae (Or.inl ⟨dC,λw R=>by have h1:=R.2;go_simp⟩) d ?_;refine GM 4 43 (dF D 0) d ?_;refine GM 5 44 (dF D 0) d ?_;refine GM 6 45 (dF D 0) d ?_;refine wx_ 7 46 (bX (s_ y 0) f f) ae (Or.inl ⟨dC,λw R=>by have h1:=R.1;go_simp⟩) d ?_;refine wpAnyH_ready (rs:=[8]) dC eQ ?_;refine AllReadyH.cons (o:=⟨cu 47,Op.call {callee:=Callee.builtin Builtin.copy,args:=#[Operand.tmp 42,Operand.tmp 46],argTypes:=#[124,124]},3,_,_,cw⟩) nF (λK hK=>wE ae ?_) AllReadyH.nil;have d4:=z.o.lk;have d1:=z.o.lC;rw[t.o,n.o] at d4;rw[N.o,n.o] at d1;refine OC (.tmp 42) (.tmp 46) 124 124 nF 36 underlying124 128 pB H f f y f nF nF 36 36 (EV nw) (EV (oe st eS 0 ps)) d1 d4 (λ_=>ae) ?_;simp only[Ol];have a4:(w8.drew.setRow H (cM (f*128) (EV (oe st eS 0 ps)))).cell? ⟨D,0,cw⟩=cu (.slice (s_ y 0) f f)/\(w8.drew.setRow H (cM (f*128) (EV (oe st eS 0 ps)))).cell? ⟨D,1,cw⟩=cu (.slice (s_ H 0) f f):=by
     have hD:D≠H:=by have:=z.o.dnn;rw[N.o] at this;exact this
     have e:=setRow_other w8.drew H D (cM (f*128) (EV (oe st eS 0 ps))) hD;rw[yx (w:=w8.drew) (a:=⟨D,0,cw⟩) e,yx (w:=w8.drew) (a:=⟨D,1,cw⟩) e];exact⟨c0,c1⟩
    refine hK.out _ _ a4 (λe2=>?_);refine wpAnyH_done dC ?_ _;have B:=(z.o.drew).Xp a.apart;have e9:w8.drew.setRow h.nb (cM (h.n*128) (EV (oe st eS 0 ps)))=w8.drew.setRow H (cM (f*128) (EV (oe st eS 0 ps))):=by rw[N.o,n.o]
    rw[e9] at B;have c4:=B.head.cells.2.2.2.2.1;have f4:=cL.frozen B.head 4;have c5:=B.head.cells.2.2.2.2.2;have f5:=cL.frozen B.head 5;have c9:=B.Li 4 (bU cq (-1)) (h6:={h with pv:=bX cw 0 0,left:=-1}) (ps':=[]) (Eo {h with pv:=bX cw 0 0} (-1)) amv;have U:=c9.Li 5 (bZ cy) (h6:={h with pv:=bX cw 0 0,left:=-1,df:=cy}) (ps':=[]) (PL {h with pv:=bX cw 0 0,left:=-1} cy) amv;have T:=cz U;clear U;generalize w8.drew.setRow H (cM (f*128) (EV (oe st eS 0 ps)))=w9 at*;go_wp2
    go_end0
    exact⟨ae,T.o.fin ⟨ae,ae,ae⟩ a.apart a.qD eQ,T.o.pX⟩
def Dp:List c7->Nat->List c7->List c7
 |xs,_,[]=>xs
 |xs,o,v::r=>Dp (xs.set o v) (o+1) r
theorem zN:∀(vs:List c7)(xs:List c7)(o:Nat),(Dp xs o vs).n=xs.n
 | [],_,_=>rfl
 |v::r,xs,o=>by unfold Dp;rw[zN r];simp
theorem yJ:∀(vs:List c7)(xs:List c7)(o j:Nat),o+vs.n<=xs.n->(Dp xs o vs)[j]?=if o<=j/\j<o+vs.n then vs[j-o]? else xs[j]?
 | [],xs,o,j,_=>by simp_all[cX,Dp]
 |v::r,xs,o,j,h=>by
  simp only[lq] at h|-;unfold Dp;rw[yJ r (xs.set o v) (o+1) j aF]
  grind
theorem tB{base e size n cap g:Nat}:∀(vs:List c7)(o:Nat){w:cS}{xs:List c7},w.ownsRow base e size (bX (cu ⟨g,0,cw⟩) n cap) n xs->
 (w.setCells g o vs).ownsRow base e size (bX (cu ⟨g,0,cw⟩) n cap) n (Dp xs o vs)
 | [],_,_,_,h=>h
 |v::r,o,w,xs,h=>by
  rw[World.setCells];unfold Dp;exact tB r (o+1) (h.stored o v).1
theorem aaO{st:Nat->cV}(h:∀i,kb (st i))(a:∀p∈ps,kb p.2):∀i,kb (ny st ps i):=by unfold ny;induction ps generalizing st with|nil=>exact h|cons p ps ih=>simp_all[Ji]
theorem T5{eS:List Bool}(a:∀p∈ps,kb p.2):∀{st:Nat->cV}(k:Nat),(∀i,kb (st i))->∀i,kb (oe st eS k ps i):=by induction ps with|nil=>simp[oe]|cons p ps ih=>intro st k h;refine ih (λq b=>a q (kT _ b)) (k+1) ?_;grind[Ji]
theorem G7{h a:Head}(e:a.sb=h.sb/\a.nb=h.nb)(d:∀b,a.pv.ownBlock=cu b->h.pv.ownBlock=cu b∨B<=b):∀k∈fV D a,k∈fV D h∨B<=k:=by intro k c;simp only[fV,iX] at c|-;grind
theorem ado(D:Nat)(d:Dv)(l:cV)(ho:d.ops<=1000000000)(w:cS)(a:uS w D d l):
 CP_ 226 #[bW (cu ⟨D,0,cw⟩)] w λe w'=>e=cj (bU cq (fH d).2)/\sZ w w' D (fH d).1 l:=by obtain⟨f,h,g,pv,m,rfl⟩:=a;have n:=f.qD;have c:=PN (Es f);have⟨e1,e2,e3,e4,e5⟩:=xi (fm d);obtain⟨t,u,p,v,_,_⟩:=xh d;have o:=J5 (fm d) h g pv;rw[zL] at o;by_cases x:(iN (fm d)).2=cx;(have k:fH d=({(iN (fm d)).1 with st:=ny d.st d.ps,ps:=[]},0):=by simp_all[fH]);(rw[k];refine(OB D (d.head h g pv) d.st d.nw d.ps f.left cN w m jH).mono ?_;rintro e w' ⟨s,j,i⟩;rw[<-o.1] at j;refine⟨s,⟨⟨_,⟨⟨aaO f.st f.ps,c.nw,by simp,gG _,c.ops,c.left⟩,h,g,bX cw 0 0,?_,ae⟩,G7 ⟨ae,ae⟩ (by intro b r;cases r)⟩,i⟩⟩;have q:d.nw=(iN (fm d)).1.nw:=by rw[e3,p]);rw[q] at j;exact j;(have k:fH d=((iN (fm d)).1,42):=by simp_all[fH]);rw[k];refine(Rj D (d.head h g pv) f.left w m.head jH).mono ?_;grind[sZ.G6]
def adp(D:Nat)(d:Dv)(l:cV)(ho:d.ops<=1000000000)(v:c7)(eS:List Bool)(w:cS)(a:uS w D d l)(g:Mc w v eS):
 CP_ 16 #[bW (cu ⟨D,0,cw⟩),v] w λe w'=>e=cj (cg #[])/\sZ w w' D (lU d eS) l:=by
 obtain⟨c,k,j,pv,m,rfl⟩:=a;have h:=c.qD;refine(aaN D (d.head k j pv) d.st d.nw d.ps eS v cN w m g).mono ?_;rintro e w' ⟨o,g,f⟩;have i:=T5 (eS:=eS) c.ps 0 c.st;exact⟨o,⟨⟨_,⟨⟨i,i,by simp[lU],gG _,c.ops,by simp[lU]⟩,k,j,bX cw 0 0,g,ae⟩,G7 ⟨ae,ae⟩ (by intro b n;cases n)⟩,f⟩⟩
def eX(l:Nat->cQ):Nat->c7:=λi=>dE (l (i/3)) (i%3)
theorem nR(l:Nat->cQ):∀i,(eX l i).oneCell'=cx:=λ_=>dJ _ _
def adq(l:Nat->cQ):c7:=bV (cM 24 (eX l))
def zO:(prog.info? 191).map (·.size)=cu 24:=dC
theorem Md(n:Nat)(l:Nat->cQ)(k:Nat)(b:k*3+3<=n):(cM n (eX l)).extract (k*3) (k*3+3)=cM 3 (dE (l k)):=by apply yg;intro j;rw[dy,Array.getElem?_extract];by_cases a:j<3;rw[c8 aG,c8 a,dy,c8 cN];grind[eX];grind
theorem Rk:prog.underlying 191=cu (.array 8 106):=by rfl
theorem wF(h:(P.info? t).map (·.size)=cu n):∃a,P.info? t=cu a/\a.s=n:=by simp_all
theorem BT(l:Nat->cQ)(k:Nat)(b:k<8)(W:cS):(Instr.index 191 (bV (cM 24 (eX l))) (bU cq k)).run prog W=.ok (bV (cM 3 (dE (l k)))) W:=by
 have a:(part 106 (cM 24 (eX l)) (k*3)).run prog W=.ok (bV (cM 3 (dE (l k)))) W:=by have⟨it,hi,hs⟩:=wF ku;simp[part,isAgg106,sizeOf,typeInfo,hi,hs,Md 24 l k cN]
 have⟨it,hi,hs⟩:=wF ku;simp_all[Instr.index,asIntOf]
theorem PT(b c a:Nat)(d:c<=a)(i:a<=128)(j:c<128)(W:cS):(Instr.sliceAt 36 (bW (cu ⟨b,0,cw⟩)) (cu (.int cq c)) (cu (.int cq a)) cw).run prog W=.ok (bX (cu ⟨b,c,cw⟩) (a-c) (128-c)) W:=by
 have k:prog.underlying 36=cu (.array 128 5):=vX;have⟨it,hi5,hs5⟩:=wF Cw;have f:(Instr.sliceBound (bU cq a) 128 .sliceAlen).run prog W=.ok a W:=by have e:(0:Int)<=(a:Int)/\(a:Int)<=(128:Nat):=cN;simp_all[Instr.sliceBound,asIntOf]
 have g:(Instr.sliceBound (bU cq c) a .sliceB).run prog W=.ok c W:=by simp[Instr.sliceBound,asIntOf,d]
 have h:¬128=c:=cN;simp_all[Instr.sliceAt,Instr.sureAddr,Instr.sliceBounds,Addr.add]
def aaP(b:Nat)(W:cS):(Instr.sliceAt 36 (bW (cu ⟨b,0,cw⟩)) cw cw cw).run prog W=.ok (bX (cu ⟨b,0,cw⟩) 128 128) W:=by rfl
def mB(l:Nat->cQ)(k:Nat):cV:=(range k).flatMap λi=>iT (l i)
def KX(l:Nat->cQ)(k:Nat):Bool:=(range k).all λi=>im (l i)
def mW(l:Nat->cQ):Option cV:=if KX l 8=cx then cu (mB l 8) else cw
theorem J6(l:Nat->cQ)(k:Nat):mB l (k+1)=mB l k++iT (l k):=by grind[mB,range_succ]
theorem qY(l:Nat->cQ)(k:Nat):(mB l k).n=k*16:=by induction k<;>grind[J6,gh,mB]
theorem aaQ(l:Nat->cQ)(k:Nat):∀x∈mB l k,x<256:=by intro x a;unfold mB at a;obtain⟨i,_,h⟩:=De.1 a;exact pW _ x h
theorem aaR(l:Nat->cQ)(k:Nat):KX l (k+1)=(KX l k&&im (l k)):=by grind[KX]
theorem agk{l:Nat->cQ}(h:k<n)(a:im (l k)=cy):KX l n=cy:=by grind[KX]
theorem adr{l:Nat->cQ}:kb ((mW l).getD fN):=by grind[mW,qY,aaQ,kb,fN]
theorem Ai(s b:cV)(e:s.n+b.n<=128):
 (splice (cM 128 (di s)).t s.n (b.map λ(x:Nat)=>Value.int .u8 (x:Int))).toArray=cM 128 (di (s++b)):=by
 apply yg;intro j;rw[Lx,dy];unfold splice;have a:(cM 128 (di s)).t.n=128:=by grind[cW]
 by_cases c:j<s.n;rw[I1 jH,getElem?_take,c8 c,nL (xs:=cM 128 (di s)),dy,c8 cN,c8 cN];grind[di];rw[IZ jH,lO,a,vK cN];by_cases d:j<s.n+b.n;rw[I1 jH,rK,c8 cN,jG cN];grind[di];rw[IZ jH,mQ,getElem?_drop,nL (xs:=cM 128 (di s)),dy,show s.n+b.n+(j-s.n-b.n)=j from by omega];simp_all[di]
theorem Rl:zeroCells36=cM 128 (di []):=by rfl
def Jj:(#[Value.int cq 0,bU ct 0,bU .u32 0]:gJ).s=3:=rfl
def Fc(l:Nat->cQ)(hl:∀i,i<8->dD (l i))(w:cS):
 CP_ 185 #[adq l] w λe w'=>∃A,e=cj (cg #[bV A,bU cq (gq 51 (mW l))])/\A=cM 128 (di ((mW l).getD fN))/\dS w w':=by
 unfold adq;have⟨N,hN⟩:=fU (cM 24 (eX l));rw[<-hN];have⟨W0,hW0⟩:=fU (((w.alloc (.cells N 191)).alloc (.cells zeroCells36 36)).alloc (.cells zeroCells36 36));have s1:(w.alloc (.cells N 191)).h.s=w.h.s+1:=by simp
 have s2:((w.alloc (.cells N 191)).alloc (.cells zeroCells36 36)).h.s=w.h.s+1+1:=by simp
 have d7:W0.h.s=w.h.s+1+1+1:=by rw[hW0];simp
 have a2:cL W0 w.h.s 191 24 (eX l):=by rw[hW0,hN];exact anL
 have a3:cL W0 (w.h.s+1) 36 128 (di fN):=by rw[hW0,vW,<-s1];exact cL.alloc_old (cL.alloc _ _ _ _) _
 have a4:cL W0 (w.h.s+1+1) 36 128 (di (mB l 0)):=by rw[hW0,<-s2,Rl];exact br
 have R:dS w W0:=by rw[hW0];exact ano
 have f:∀k,k<8->∀W:cS,(Instr.index 191 (bV N) (bU cq (k:Nat))).run prog W=.ok (bV (cM 3 (dE (l k)))) W:=λk hk W=>by rw[hN];exact BT l k hk W
 have⟨E2,C⟩:=fU (w.h.s+1);have⟨E4,D⟩:=fU (w.h.s+1+1);have⟨E1,B⟩:=fU w.h.s;have g1:w.h.s+1<=E2:=cN;have g2:E2<E4:=cN;have g3:w.h.s<=E4:=cN;have g4:E4<W0.h.s:=cN;rw[<-B] at a2;rw[<-C] at a3;rw[<-D] at a4;have HE:=cz (And.intro B (And.intro C D));clear B C D s1 s2 d7;have a9:=cz f;clear f;have c6:N.t.n=24:=by rw[hN,nA,cW]
 have d6:W0.rangeAt E1 0 N.t:=by rw[hN];exact pC a2
 have HN:=cz hN;clear hN;have b8:=cz hW0;clear hW0;have HL:=cz hl;clear hl;have O:=cz (And.intro a3 (And.intro a4 (gK E4 W0)));have L:=cz R;clear R;go_enter func185,ntmps185
 go_upto_region 2 with(fail)
 rw[<-b8.o,<-HE.o.2.2,<-HE.o.2.1,<-HE.o.1]
 go_wp2_with ((refine wpList_load_mid (op:=⟨cu 9,Op.load 191 (Operand.tmp 1),191,_,_,cw⟩) ae 191 (.tmp 1) ae E1 0 ae N.t _ d6 Gd ae (by rw[c6];exact zO) ?_;rw[vA]))
 go_loopw [10] (λc wr=>∃k:Nat,k<=8/\c=bU cq k/\Hid (KX l k=cx/\cL wr E2 36 128 (di fN)/\cL wr E4 36 128 (di (mB l k))/\Below E4 W0 wr)) (λc _=>8-(intOf c).m)
 case atStart=>exact⟨0,gG _,ae,ae,O.o⟩
 case round=>
  obtain⟨k,hk,rfl,hrel⟩:=hrel;by_cases G:k<8
  . have hp:=HL.o k G;have b:=xT (l k) hp;have⟨A,hA⟩:=fU (cM 3 (dE (l k)));have J:mO (l k)=bV A:=by rw[hA];exact(GZ _).symm
    rw[J] at b;have f:=a9.o k G;rw[<-hA] at f;have c5:A.s=3:=by rw[hA,cW]
    have c4:A.all (·.oneCell')=cx:=by rw[hA];exact oD _ (dJ _)
    have HA:=cz hA;clear hA;have z:=cz (And.intro c5 c4);have a8:=cz f;clear f;have HC:=cz b;clear b;have a6:(wr.alloc (.cells A 106)).rangeAt wr.h.s 0 A.t:=by
     have:=pC (cL.alloc wr 106 3 (dE (l k)));rw[<-HA.o] at this;exact this
    have b3:=cz a6;clear a6;have c9:Below E4 W0 (wr.alloc (.cells A 106)):=hrel.o.2.2.2.alloc (by have:=cL.lt hrel.o.2.2.1;omega) _;have s:cL (wr.alloc (.cells A 106)) E4 36 128 (di (mB l k)):=cL.alloc_old hrel.o.2.2.1 _;have c1:cL (wr.alloc (.cells A 106)) E2 36 128 (di fN):=cL.alloc_old hrel.o.2.1 _;have t:=cz (And.intro c9 (And.intro s c1));clear s
    go_wp2_with (first|(refine G5 (o:=⟨cu 13,Op.index 191 (Operand.tmp 9) (Operand.tmp 10),106,_,_,cw⟩) ae 191 (.tmp 9) (.tmp 10) ae (bV A) (a8.o _) ?_)|(refine BS (o:=⟨cw,Op.store 106 (Operand.tmp 6) (Operand.tmp 13),0,_,_,cw⟩) ae 106 (.tmp 6) (.tmp 13) ae #[Value.int cq 0,bU ct 0,bU .u32 0] A 3 ae ae ku Jj z.o.1 z.o.2 ?_)|(refine wpList_load_mid (op:=⟨cu 15,Op.load 106 (Operand.tmp 6),106,_,_,cw⟩) ae 106 (.tmp 6) ae wr.h.s 0 ae A.t _ b3.o Af ae (by rw[nA,z.o.1];exact ku) ?_;rw[vA]))
    refine(HC.o _).mono ?_;have⟨q,hq⟩:=dG (im (l k));rw[hq];have HQ:=cz hq;clear hq;rintro e w5 ⟨r,rfl,s,E⟩;have d9:E4<(wr.alloc (.cells A 106)).h.s:=cL.lt t.o.2.1;have d1:Below E4 W0 w5:=t.o.1.trans (E.mono cN);have a5:cL w5 E4 36 128 (di (mB l k)):=cL.cP t.o.2.1 E;have c2:cL w5 E2 36 128 (di fN):=cL.cP t.o.2.2 E;have d2:E4<w5.h.s:=cL.lt a5;have h:=cz (And.intro d1 (And.intro a5 c2));have b1:=cz s;clear s;cases q with
    |false=>
     have Z:mW l=cw:=by unfold mW;rw[cX];rw[agk G HQ.o];simp
     have M:=cz Z;clear Z
     go_wp2_with (first|refine wpList_store_row (o:=⟨cw,Op.store 36 (Operand.tmp 2) (Operand.tmp 21),0,_,_,cw⟩) ae 36 (.tmp 2) (.tmp 21) ae E2 ae 128 (di fN) zeroCells36 ae vW 36 (di fN) h.o.2.2 pB (jP _) ?_)
     refine iI (mA (p:=2) (q:=3) (ty:=36) ae ae (cL.setRow h.o.2.2 (di fN)) vX ae pB) ae<|⟨_,by rw[M.o];rfl,by rw[M.o];rfl,?_⟩;exact below_setRow (L.o.trans (h.o.1.mono g3)) cN _
    |true=>
     have a:=b1.o;rw[c8 ae] at a;obtain⟨bo,n,d5⟩:∃bo n,r=bX bo 16 n:=by
      rcases a.2 with⟨K,Q⟩|⟨g,cap,b9,K,_⟩
      . rw[gh] at Q;cases Q
      . rw[gh] at K;exact⟨_,_,K⟩
     subst d5;obtain⟨cs,d⟩:∃cs:List c7,cs=(iT (l k)).map (λ(x:Nat)=>Value.int .u8 (x:Int)):=⟨_,ae⟩;have V:cs.n=16:=by rw[d,mQ,gh]
     have d3:∀v∈cs,v.oneCell'=cx:=by
      intro v J;rw[d] at J;obtain⟨x,_,rfl⟩:=gT.1 J;rfl
     have a1:∃ad,bo=cu ad/\∀j v,cs[j]?=cu v->w5.cell? (ad.add j)=cu v:=by
      rcases a.2 with⟨K,Q⟩|⟨g,cap,b9,K,_⟩
      . rw[gh] at Q;cases Q
      . cases K;refine⟨_,ae,λj v J=>?_⟩;rw[d] at J;exact a.cells (g:=g) ae j v J
     have Y:k*16+cs.n<=(cM 128 (di (mB l k))).t.n:=by rw[V,nA,cW];omega
     have X:w5.h[E4]?=cu (.cells (cM 128 (di (mB l k))).t.toArray 36 (0,0)):=by rw[vA];exact h.o.2.1
     have H:=PT E4 (k*16) ((k+1)*16) cN cN cN;have e1:(((k*16:Nat)):Int)=(k:Int)*16:=cN;have e2:((((k+1)*16:Nat)):Int)=((k:Int)+1)*16:=cN;rw[e1,e2,show(k+1)*16-k*16=16 from by omega] at H;have b5:=cz H;clear H;have U:KX l (k+1)=cx:=by rw[aaR,hrel.o.1,HQ.o];rfl
     have I:=Ai (mB l k) (iT (l k)) (by rw[qY,gh];omega);rw[qY,<-d,<-J6] at I;have b6:=cz I;clear I;have m:=cz (And.intro V (And.intro d3 (And.intro a1 (And.intro Y X))));have e5:=cz d;clear d a;have a7:=cz U;clear U;have e3:(0:Int)<=(k:Int)*16:=cN
     go_wp2_with (first|((with_reducible refine Y5 ⟨cu 27,Op.slice 36 (Operand.tmp 4) (cu (Operand.tmp 23)) (cu (Operand.tmp 26)) cw,22,_,_,cw⟩ ?_);refine nH (o:=⟨cu 27,Op.slice 36 (Operand.tmp 4) (cu (Operand.tmp 23)) (cu (Operand.tmp 26)) cw,22,_,_,cw⟩) ae 36 (.tmp 4) (cu (.tmp 23)) (cu (.tmp 26)) cw ae (bX (s_ E4 (k*16)) 16 (128-k*16)) (b5.o _) ?_)|(refine wpList_copy_splice (o:=⟨cu 29,Op.call {callee:=Callee.builtin Builtin.copy,args:=#[Operand.tmp 27,Operand.tmp 28],argTypes:=#[22,22]},3,_,_,cw⟩) ae (.tmp 27) (.tmp 28) 22 22 ae 5 oS Cw (s_ E4 (k*16)) bo 16 (128-k*16) 16 n ae ae E4 (k*16) (cM 128 (di (mB l k))).t 36 m.o.2.2.2.2 cs (by rw[m.o.1];rfl) (λ_=>⟨ae,m.o.2.2.1⟩) m.o.2.2.2.1 m.o.2.1 E4 W0 h.o.1 (eN _) ?_;intro w8 d8 F))
     have d4:cL w8 E4 36 128 (di (mB l (k+1))):=by
      have:=d8.o;rw[b6.o] at this;exact this
     have e4:Below E4 W0 w8:=F;have c3:cL w8 E2 36 128 (di fN):=by
      have h0:cL W0 E2 36 128 (di fN):=O.o.1;exact cL.FV h0 F cN
     have b2:=cz (And.intro a7.o (And.intro c3 (And.intro d4 F)));go_wp2;go_roundw
     case rel=>exact⟨k+1,cN,by go_num,b2.o⟩
     case measure=>exact qN
  . obtain rfl:k=8:=cN;have y:mW l=cu (mB l 8):=by unfold mW;rw[c8 hrel.o.1]
    have u:=cz y;clear y;have⟨S,hS⟩:=fU (cM 128 (di (mB l 8)));have a:wr.rangeAt E4 0 S.t:=by rw[hS];exact pC hrel.o.2.2.1
    have T:S.t.n=128:=by rw[hS,nA,cW]
    have b7:=cz T;clear T;have b4:=cz a;clear a
    go_wp2_with (first|(refine wpList_load_mid (op:=⟨cu 31,Op.load 36 (Operand.tmp 4),36,_,_,cw⟩) ae 36 (.tmp 4) ae E4 0 ae S.t _ b4.o vX ae (by rw[b7.o];exact pB) ?_;rw[vA])|refine wpList_store_row (o:=⟨cw,Op.store 36 (Operand.tmp 2) (Operand.tmp 31),0,_,_,cw⟩) ae 36 (.tmp 2) (.tmp 31) ae E2 ae 128 (di (mB l 8)) S ae hS 36 (di fN) hrel.o.2.1 pB (jP _) ?_)
    refine iI (mA (p:=2) (q:=3) (ty:=36) ae ae (cL.setRow hrel.o.2.1 (di (mB l 8))) vX ae pB) ae<|⟨_,by rw[u.o];rfl,by rw[u.o];rfl,?_⟩;exact below_setRow (L.o.trans (hrel.o.2.2.2.mono g3)) cN _
theorem Eu:(#[Value.int cq 0,bU ct 0,bU .u32 0,Value.int cq 0,bU ct 0,bU .u32 0,Value.int cq 0,bU ct 0,bU .u32 0,Value.int cq 0,bU ct 0,bU .u32 0,Value.int cq 0,bU ct 0,bU .u32 0,Value.int cq 0,bU ct 0,bU .u32 0,Value.int cq 0,bU ct 0,bU .u32 0,Value.int cq 0,bU ct 0,bU .u32 0]:gJ)=cM 24 (eX λ_=>cY):=rfl
def zP(s:cV)(i:Nat):cV:=(s.drop (i*16)).take 16
def okN(s:cV)(k:Nat):Bool:=(range k).all λi=>(nZ (zP s i)).isSome
def EW(s:cV)(k:Nat):Nat->cQ:=λi=>if i<k then AH (zP s i) else cY
def pY(s:cV):Option (Nat->cQ):=if okN s 8=cx then cu (EW s 8) else cw
theorem ads(s:cV)(k:Nat):okN s (k+1)=(okN s k&& (nZ (zP s k)).isSome):=by grind[okN]
theorem aie(h:k<n)(a:nZ (zP s k)=cw):okN s n=cy:=by grind[okN]
theorem aaS(s:cV)(k:Nat):EW s (k+1)=λi=>if i=k then AH (zP s k) else EW s k i:=by funext i;unfold EW;grind
def Rm(h:kb s)(a:k<8):(zP s k).n=16:=by unfold zP;rw[lO,uf,h.1];omega
theorem adt(h:cL w E 36 128 (di s))(a:kb s)(c:k<8):
 eU .u8 w (bX (cu ⟨E,k*16,cw⟩) 16 (128-k*16)) (dN (zP s k)):=by have d:=Rm a c;refine⟨_,_,by rw[dA,d],by grind[dA],?_,λ_=>⟨E,k*16,ae,cL.lt h,?_⟩⟩;intro x b;unfold dN at b;obtain⟨y,e,rfl⟩:=gT.1 b;have:=a.2 y (mR (lP e));grind[Lit.wf,IntKind.min,IntKind.max,IntKind.signed,IntKind.bits];grind[dA,cL.cell,tt,di,zP]
theorem adu{l:Nat->cQ}(h:cL w E 191 24 (eX l))(c:k<8)(p:cQ):
 cL (w.setCells E (k*3) (cM 3 (dE p)).t) E 191 24 (eX λi=>if i=k then p else l i):=by
 refine cL.congr (cL.setCells (cM 3 (dE p)).t (k*3) h) λj b=>?_;unfold L6 eX;rw[nA,cW];by_cases a:k*3<=j/\j<k*3+3;rw[c8 a];simp only[show j/3=k from by omega,oQ];rw[show j%3=j-k*3 from by omega];show(cM 3 (dE p)).t.getD (j-k*3) (bU .u8 0)=_;rw[zB,nL,dy,c8 cN];rfl
 grind
theorem Xq{l:Nat->cQ}(h:cL w E 191 24 (eX l))(b:k<8):w.there E (k*3) 3:=λj a=>
 ⟨by grind[cL.cell],cL.frozen h _⟩
theorem yK(E k:Nat)(b:k<8)(W:cS):(Instr.indexAt 191 (bW (cu ⟨E,0,cw⟩)) (bU cq k)).run prog W=.ok (bW (cu ⟨E,k*3,cw⟩)) W:=by have⟨it,hi,hs⟩:=wF ku;have a:(k:Int)<8:=cN;simp[Instr.indexAt,asIntOf,yI Rk,Instr.sureAddr,sizeOf,typeInfo,hi,hs,Addr.add];grind
theorem aaT{bs:cV}{p:cQ}(h:nZ bs=cu p):p=AH bs:=by grind[nZ]
def BU(s:cV)(hs:kb s)(A:gJ)(hA:A=cM 128 (di s))(w:cS):
 CP_ 207 #[.agg A] w λe w'=>∃N,e=.returned (.tuple #[.agg N,.int .i64 (gq 51 (pY s))])/\N=cM 24 (eX ((pY s).getD λ_=>cY))/\dS w w':=by
 have⟨W0,hW0⟩:=fU (((w.alloc (.cells A 36)).alloc (.cells (#[Value.int .i64 0,.int .u64 0,.int .u32 0,Value.int .i64 0,.int .u64 0,.int .u32 0,Value.int .i64 0,.int .u64 0,.int .u32 0,Value.int .i64 0,.int .u64 0,.int .u32 0,Value.int .i64 0,.int .u64 0,.int .u32 0,Value.int .i64 0,.int .u64 0,.int .u32 0,Value.int .i64 0,.int .u64 0,.int .u32 0,Value.int .i64 0,.int .u64 0,.int .u32 0]:gJ) 191)).alloc (.cells (#[Value.int .i64 0,.int .u64 0,.int .u32 0,Value.int .i64 0,.int .u64 0,.int .u32 0,Value.int .i64 0,.int .u64 0,.int .u32 0,Value.int .i64 0,.int .u64 0,.int .u32 0,Value.int .i64 0,.int .u64 0,.int .u32 0,Value.int .i64 0,.int .u64 0,.int .u32 0,Value.int .i64 0,.int .u64 0,.int .u32 0,Value.int .i64 0,.int .u64 0,.int .u32 0]:gJ) 191));have s1:(w.alloc (.cells A 36)).heap.size=w.heap.size+1:=by simp
 have s2:((w.alloc (.cells A 36)).alloc (.cells (#[Value.int .i64 0,.int .u64 0,.int .u32 0,Value.int .i64 0,.int .u64 0,.int .u32 0,Value.int .i64 0,.int .u64 0,.int .u32 0,Value.int .i64 0,.int .u64 0,.int .u32 0,Value.int .i64 0,.int .u64 0,.int .u32 0,Value.int .i64 0,.int .u64 0,.int .u32 0,Value.int .i64 0,.int .u64 0,.int .u32 0,Value.int .i64 0,.int .u64 0,.int .u32 0]:gJ) 191)).heap.size=w.heap.size+1+1:=by simp
 have b7:W0.heap.size=w.heap.size+1+1+1:=by rw[hW0];simp
 have g:cL W0 w.heap.size 36 128 (di s):=by rw[hW0,hA];exact anL
 have I:cL W0 (w.heap.size+1) 191 24 (eX λ_=>cY):=by rw[hW0,Eu,<-s1];exact cL.alloc_old (cL.alloc _ _ _ _) _
 have z:cL W0 (w.heap.size+1+1) 191 24 (eX λ_=>cY):=by rw[hW0,<-s2,Eu];exact br
 have R:dS w W0:=by rw[hW0];exact ano
 have⟨E2,F⟩:=fU (w.heap.size+1);have⟨E4,G⟩:=fU (w.heap.size+1+1);have⟨E1,E⟩:=fU w.heap.size;have g1:w.heap.size+1<=E2:=cN;have g2:E2<E4:=cN;have g3:w.heap.size<=E4:=cN;have g4:E4<W0.heap.size:=cN;have g5:E1<E4:=cN;rw[<-E] at g;rw[<-F] at I;rw[<-G] at z;have e0:EW s 0=λ_=>cY:=by funext i;unfold EW;rw[cX cN]
 rw[<-e0] at z;clear e0;have HE:=cz (And.intro E (And.intro F G));clear E F G s1 s2 b7;have b5:=cz hW0;clear hW0;have HS:=cz hs;clear hs;have v:=cz (And.intro g (And.intro I (And.intro z (gK E4 W0))));clear g I z;have L:=cz R;clear R;clear hA;go_enter func207,ntmps207
 go_upto_region 2 with(fail)
 rw[<-b5.o,<-HE.o.2.2,<-HE.o.2.1,<-HE.o.1]
 go_wp2_with (fail)
 go_loopw [8] (λc wr=>∃k:Nat,k<=8/\c=.int .i64 k/\Hid (okN s k=true/\cL wr E4 191 24 (eX (EW s k))/\Below E4 W0 wr)) (λc _=>8-(intOf c).toNat)
 case atStart=>exact⟨0,gG _,ae,ae,v.o.2.2⟩
 case round=>
  obtain⟨k,hk,rfl,hrel⟩:=hrel;by_cases u:k<8
  . have g:cL wr E1 36 128 (di s):=cL.FV v.o.1 hrel.o.2.2 g5;have l:cL wr E2 191 24 (eX λ_=>cY):=cL.FV v.o.2.1 hrel.o.2.2 g2;have hu:=adt g HS.o u;have d:=xd _ _ wr hu ⟨_,_,_,ae,cN⟩;have⟨q,hq⟩:=dG (nZ (zP s k));rw[hq] at d;have HQ:=cz hq;clear hq hu g;have HC:=cz d;clear d;have H2:=cz l;clear l;have J:=PT E1 (k*16) ((k+1)*16) cN cN cN;have e1:(((k*16:Nat)):Int)=(k:Int)*16:=cN;have e2:((((k+1)*16:Nat)):Int)=((k:Int)+1)*16:=cN;rw[e1,e2,show(k+1)*16-k*16=16 from by omega] at J;have b2:=cz J;clear J e1 e2;have b8:(0:Int)<=(k:Int)*16:=cN
    go_wp2_with (first|((with_reducible refine Y5 ⟨some 17,Op.slice 36 (Operand.tmp 1) (some (Operand.tmp 13)) (some (Operand.tmp 16)) none,22,_,_,none⟩ ?_);refine nH (o:=⟨some 17,Op.slice 36 (Operand.tmp 1) (some (Operand.tmp 13)) (some (Operand.tmp 16)) none,22,_,_,none⟩) ae 36 (.tmp 1) (some (.tmp 13)) (some (.tmp 16)) none ae (.slice (s_ E1 (k*16)) 16 (128-k*16)) (b2.o _) ?_))
    refine aj HC.o λw5 x=>?_;have T:E4<wr.heap.size:=cL.lt hrel.o.2.1;have V:Below E4 W0 w5:=hrel.o.2.2.trans (x.mono cN);have a1:cL w5 E4 191 24 (eX (EW s k)):=cL.cP hrel.o.2.1 x;have O:cL w5 E2 191 24 (eX λ_=>cY):=cL.cP H2.o x;have f:=cz (And.intro V (And.intro a1 O));clear V a1 O x T;cases q with
    |none=>
     have Y:pY s=none:=by unfold pY;rw[cX];rw[aie u HQ.o];simp
     have M:=cz Y;clear Y;have⟨A5,hA5⟩:=fU (cM 3 (dE cY));have hv:mO ((none:Option cQ).getD cY)=.agg A5:=by rw[hA5];exact(GZ _).symm
     rw[hv];have n:A5.size=3:=by rw[hA5,cW]
     have m:A5.all (·.oneCell')=true:=by rw[hA5];exact oD _ (dJ _)
     have b:=cz (And.intro n m);clear n m hv hA5;have Q:cL (w5.alloc (.cells A5 106)) E2 191 24 (eX λ_=>cY):=cL.alloc_old f.o.2.2 _;have K:=cz Q;clear Q;have a:Below E4 W0 (w5.alloc (.cells A5 106)):=f.o.1.alloc an6 _;have a5:=cz a;clear a;have h:gq 51 (none:Option cQ)=51:=rfl;rw[h];clear h
     go_wp2_with (first|(refine BS (o:=⟨none,Op.store 106 (Operand.tmp 6) (Operand.tmp 19),0,_,_,none⟩) ae 106 (.tmp 6) (.tmp 19) ae #[Value.int .i64 0,.int .u64 0,.int .u32 0] A5 3 ae ae ku Jj b.o.1 b.o.2 ?_)|refine wpList_store_row (o:=⟨none,Op.store 191 (Operand.tmp 2) (Operand.tmp 23),0,_,_,none⟩) ae 191 (.tmp 2) (.tmp 23) ae E2 ae 24 (eX λ_=>cY) (#[Value.int .i64 0,.int .u64 0,.int .u32 0,Value.int .i64 0,.int .u64 0,.int .u32 0,Value.int .i64 0,.int .u64 0,.int .u32 0,Value.int .i64 0,.int .u64 0,.int .u32 0,Value.int .i64 0,.int .u64 0,.int .u32 0,Value.int .i64 0,.int .u64 0,.int .u32 0,Value.int .i64 0,.int .u64 0,.int .u32 0,Value.int .i64 0,.int .u64 0,.int .u32 0]:gJ) ae Eu 191 (eX λ_=>cY) K.o zO (nR _) ?_)
     refine iI (mA (p:=2) (q:=3) (ty:=191) ae ae (cL.setRow K.o (eX λ_=>cY)) Gd ae zO) ae<|⟨_,by rw[M.o];rfl,by rw[M.o];rfl,?_⟩;exact below_setRow (L.o.trans (a5.o.mono g3)) cN _
    |some p=>
     have H:=aaT HQ.o;have⟨A5,hA5⟩:=fU (cM 3 (dE p));have hv:mO ((some p:Option cQ).getD cY)=.agg A5:=by rw[hA5];exact(GZ _).symm
     rw[hv];have h:gq 51 (some p:Option cQ)=0:=rfl;rw[h];clear h;have n:A5.size=3:=by rw[hA5,cW]
     have m:A5.all (·.oneCell')=true:=by rw[hA5];exact oD _ (dJ _)
     have b:=cz (And.intro n m);clear n m hv;have a2:(w5.alloc (.cells A5 106)).rangeAt w5.heap.size 0 A5.toList:=by
      have:=pC (cL.alloc w5 106 3 (dE p));rw[<-hA5] at this;exact this
     have a8:=cz a2;clear a2;have D:cL (w5.alloc (.cells A5 106)) E4 191 24 (eX (EW s k)):=cL.alloc_old f.o.2.1 _;have a:Below E4 W0 (w5.alloc (.cells A5 106)):=f.o.1.alloc an6 _;have a4:=Xq D u;have y:=adu D u p;rw[H,<-aaS,<-H,<-hA5] at y;have r:Below E4 W0 ((w5.alloc (.cells A5 106)).setCells E4 (k*3) A5.toList):=by
      have t:=jZ.setCells E4 A5.toList (k*3) (w5.alloc (.cells A5 106));exact⟨t.os.trans a.os,t.tape.trans a.tape,t.output.trans a.output,ik a.size t.size,λj hj=>(t.block j (by have:=a.size;omega) cN).trans (a.block j hj)⟩
     have Z:okN s (k+1)=true:=by rw[ads,hrel.o.1,HQ.o];rfl
     have b4:=cz a4;clear a4 D a H hA5;have⟨W9,hW9⟩:=fU ((w5.alloc (.cells A5 106)).setCells E4 (k*3) A5.toList);rw[<-hW9] at y r;have b6:=cz hW9;clear hW9;have a7:=cz (And.intro Z (And.intro y r));clear Z y r;have X:∀W:cS,(Instr.indexAt 191 (dF E4 0) (.int .i64 k)).run prog W=.ok (dF E4 (k*3)) W:=λW=>yK E4 k u W;have a6:=cz X;clear X
     go_wp2_with (first|(refine BS (o:=⟨none,Op.store 106 (Operand.tmp 6) (Operand.tmp 19),0,_,_,none⟩) ae 106 (.tmp 6) (.tmp 19) ae #[Value.int .i64 0,.int .u64 0,.int .u32 0] A5 3 ae ae ku Jj b.o.1 b.o.2 ?_)|(refine wpList_load_mid (op:=⟨some 25,Op.load 106 (Operand.tmp 6),106,_,_,none⟩) ae 106 (.tmp 6) ae w5.heap.size 0 ae A5.toList _ a8.o Af ae (by rw[nA,b.o.1];exact ku) ?_;rw[vA])|(refine vY (o:=⟨some 26,Op.indexAddr 191 (Operand.tmp 4) (Operand.tmp 24),0,_,_,none⟩) ae 191 (.tmp 4) (.tmp 24) ae (dF E4 (k*3)) (a6.o _) ?_)|(refine wpList_store_mid (op:=⟨none,Op.store 106 (Operand.tmp 26) (Operand.tmp 25),0,_,_,none⟩) ae 106 (.tmp 26) (.tmp 25) ae E4 (k*3) A5 ae ae (by rw[b.o.1];exact b4.o) (by rw[b.o.1];exact ku) b.o.2 ?_;rw[<-b6.o]))
     go_roundw
     case rel=>exact⟨k+1,cN,by go_num,a7.o⟩
     case measure=>exact qN
  . obtain rfl:k=8:=cN;have C:pY s=some (EW s 8):=by unfold pY;rw[c8 hrel.o.1]
    have B:=cz C;clear C;have l:cL wr E2 191 24 (eX λ_=>cY):=cL.FV v.o.2.1 hrel.o.2.2 g2;have⟨S,hS⟩:=fU (cM 24 (eX (EW s 8)));have a3:wr.rangeAt E4 0 S.toList:=by rw[hS];exact pC hrel.o.2.1
    have U:S.toList.length=24:=by rw[hS,nA,cW]
    have b1:=cz hS;clear hS;have b3:=cz U;clear U;have a9:=cz a3;clear a3;have H2:=cz l;clear l
    go_wp2_with (first|(refine wpList_load_mid (op:=⟨some 28,Op.load 191 (Operand.tmp 4),191,_,_,none⟩) ae 191 (.tmp 4) ae E4 0 ae S.toList _ a9.o Gd ae (by rw[b3.o];exact zO) ?_;rw[vA])|refine wpList_store_row (o:=⟨none,Op.store 191 (Operand.tmp 2) (Operand.tmp 28),0,_,_,none⟩) ae 191 (.tmp 2) (.tmp 28) ae E2 ae 24 (eX (EW s 8)) S ae b1.o 191 (eX λ_=>cY) H2.o zO (nR _) ?_)
    refine iI (mA (p:=2) (q:=3) (ty:=191) ae ae (cL.setRow H2.o (eX (EW s 8))) Gd ae zO) ae<|⟨_,by rw[B.o];rfl,by rw[B.o];rfl,?_⟩;exact below_setRow (L.o.trans (hrel.o.2.2.mono g3)) cN _
end