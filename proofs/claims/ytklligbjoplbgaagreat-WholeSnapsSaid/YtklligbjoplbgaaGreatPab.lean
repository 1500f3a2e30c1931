/- Part 2 of the proof of WholeSnaps. No conditions. -/
import Derived.Test.YtklligbjoplbgaaGreatPaa
import Derived.Test.YtklligbjoplbgaaGreatProg
import Derived.Handy
import Derived.WalkSpells
import Derived.WalkLawsBesides
import Derived.RangeFuncNested
import Derived.RangeFuncBound
import Derived.Shelf.RegionOpen
import Derived.OwnWalkIn
import Derived.LoopNIn
import Derived.LoopIn
import Derived.Laws.AppendOwnNone
import Derived.Laws.CopyOwn
import Derived.Deep.DeepCutAuto
import Derived.Deep.RegionHeld3
import Derived.StillTailTactics
import Derived.Great.FillDense
set_option linter.all false
namespace Go.Proofs.YtklligbjoplbgaaGreat
set_option maxRecDepth 100000
set_option maxHeartbeats 64000000
open Go.RowKit Lib List Nat _root_.Go.Proofs.Tryz Go.Shelf
open _root_.List renaming length->List.n
open _root_.String renaming length->String.n
open _root_.Array renaming size->Array.s,toList->Array.t
open _root_.ByteArray renaming size->ByteArray.s
open Go.TypeInfo renaming size->Go.TypeInfo.s
open Go.RowKit.Below renaming size->Go.RowKit.Below.s
open _root_.Option renaming toList->Option.t,some->cu,none->cw
open Go.World renaming heap->Go.World.h
open _root_.Int renaming toNat->Int.m
open Go.Value renaming int->bU,agg->bV,pointer->bW,slice->bX,bool->bZ,tuple->cg
open Go.Ending renaming returned->cj
open Go.IntKind renaming i64->cq,u64->ct
open _root_.Bool renaming true->cx,false->cy
variable {tmps:gE}{ad:Addr}{listed:Array Bool}{ops:Array Oper}{Q:Exit->Act->cS->Prop}{fn:Func}{T ns q r ws:cV}{p:List (Fin 4096)}{J:List (Fin 4096)->cS->Prop}{C l:List (Int×Int)}{ps:List (Nat×cV)}{bs:List Int}{ts:List cV}{rest:List Oper}{cs vs xs:List c7}{B D E b base base' c fuel g i j k m n n0 n1 size:Nat}{nw s:Nat->cV}{st:Nat->Nat}{f:Nat->c7}{o sP:Oper}{a ao:Option Addr}{row:Option Nat}{P:oN}{Q':Prop}{e t ty:dU}{α β:Type}{d:TypeDesc}{v v' x y z:c7}{W w w' w1 w4 w5 w6 wr:cS}{S:cS->Prop}
def ku(s l:Int):Bool:=decide (0<=s/\s<4096/\1<=l/\l<=4096-s)
def iQ(e:Int):List (Int×Int)->Bool
 | []=>cx
 |x::r=>ku x.1 x.2&&decide (e<x.1)&&iQ (x.1+x.2) r
def gT(l:List (Int×Int)):Bool:=iQ (-1) l
def rP(l:List (Int×Int))(n:Int):Bool:=l.any λx=>decide (x.1<=n/\n<x.1+x.2)
def qC(l:List (Int×Int)):Nat->Bool:=λn=>rP l (n:Int)
def Ly(l:List (Int×Int))(k:Nat):List (Int×Int):=
 match l.getLast? with
 |some x=>if x.1+x.2=(k:Int) then l.dropLast++[(x.1,x.2+1)] else l++[((k:Int),1)]
 |none=> [((k:Int),1)]
def gx(f:Nat->Bool):Nat->List (Int×Int)
 |0=> []
 |k+1=>if f k then Ly (gx f k) k else gx f k
def iN(f:Nat->Bool):List (Int×Int):=gx f 4096
def oS(e:Int):List (Int×Int)->Int
 | []=>e
 |x::r=>oS (x.1+x.2) r
theorem gg(s l:Int):ku s l=cx↔(0<=s/\s<4096/\1<=l/\l<=4096-s):=by simp[ku]
theorem ig(e:Int)(x:Int×Int)(r:List (Int×Int)):
 iQ e (x::r)=cx↔ku x.1 x.2=cx/\e<x.1/\iQ (x.1+x.2) r=cx:=by simp[iQ,and_assoc]
theorem nP(e:Int)(l m:List (Int×Int)):iQ e (l++m)=(iQ e l&&iQ (oS e l) m):=by induction l generalizing e<;>grind[iQ,oS]
theorem uI(e:Int)(l m:List (Int×Int)):oS e (l++m)=oS (oS e l) m:=by induction l generalizing e<;>grind[oS]
theorem kP(x:Int×Int)(r:List (Int×Int))(n:Int):rP (x::r) n=cx↔(x.1<=n/\n<x.1+x.2)∨rP r n=cx:=by simp[rP]
theorem Dl(l m:List (Int×Int))(n:Int):rP (l++m) n=(rP l n||rP m n):=by simp[rP]
theorem acO(n:Int):rP [] n=cy:=rfl
theorem sh{e:Int}(h:iQ e l=cx){n:Int}(a:rP l n=cx):e<n/\0<=n/\n<4096:=by induction l generalizing e<;>grind[rP,ig,gg]
theorem QX{e i:Int}{m:List (Int×Int)}(b:iQ e l=cx)(c:iQ i m=cx)(h:∀n,rP l n=rP m n):l=m:=by induction l generalizing e i m with|nil=>(cases m with|nil=>rfl|cons y s=>rw[ig,gg] at c;have:=h y.1;grind[rP])|cons x r ih=>cases m with|nil=>grind[ig,rP]|cons y s=>(rw[ig,gg] at b c;have d:rP (y::s) x.1=cx:=by grind[kP]);(have a:rP (x::r) y.1=cx:=by grind[kP]);(have j:x.1=y.1:=by rw[kP] at d a;rcases d with d|d;rcases a with a|a;omega;have:=sh b.2.2 a;omega;have:=sh c.2.2 d;rcases a with a|a;omega;have:=sh b.2.2 a;omega);(have p:rP (x::r) (x.1+x.2)≠cx:=by rw[ne_eq,kP];rintro(hh|hh);omega;have:=sh b.2.2 hh;omega);(have q:rP (y::s) (y.1+y.2)≠cx:=by rw[ne_eq,kP];rintro(hh|hh);omega;have:=sh c.2.2 hh;omega);(have k:x.2=y.2:=by grind[kP]);have g:x=y:=xI j k;subst g;congr 1;refine ih b.2.2 c.2.2 (λn=>?_);have o:=h n;rw[wM,kP,kP] at o;rw[wM];constructor;intro f;have:=sh b.2.2 f;grind;intro f;have:=sh c.2.2 f;grind
/-! ### The set of some numbers -/
theorem Em(k:Nat):Ly [] k=[((k:Int),1)]:=rfl
theorem vL(l:List (Int×Int))(x:Int×Int)(k:Nat):
 Ly (l++[x]) k=if x.1+x.2=(k:Int) then l++[(x.1,x.2+1)] else(l++[x])++[((k:Int),1)]:=by simp[Ly]
theorem yA(l:List α):l=[]∨∃m x,l=m++[x]:=by rcases eq_nil_or_concat l with h|⟨m,x,h⟩<;>grind
theorem BN(f:Nat->Bool)(k:Nat)(d:k<=4096):
 iQ (-1) (gx f k)=cx/\oS (-1) (gx f k)<=k/\(∀n,rP (gx f k) n=cx↔(0<=n/\n<k/\f n.m=cx)):=by induction k with|zero=>exact⟨ae,by simp[gx,oS],λn=>by grind[gx,rP]⟩|succ k ih=>have⟨h1,h2,h3⟩:=ih cN;unfold gx;by_cases c:f k=cx;(rw[df c];have a:∀n:Int,(0<=n/\n<((k+1:Nat):Int)/\f n.m=cx)↔((0<=n/\n<(k:Int)/\f n.m=cx)∨n=(k:Int)):=by grind);rcases yA (gx f k) with he|⟨m,x,he⟩;grind[Em,iQ,ku,oS,rP];rw[he,vL];rw[he] at h1 h2 h3;rw[nP] at h1;rw[uI] at h2;simp only[wN,ig,gg] at h1;simp only[oS] at h2;by_cases b:x.1+x.2=(k:Int);rw[df b];refine⟨?_,?_,λn=>?_⟩;rw[nP];simp only[wN,ig,gg];exact⟨h1.1,cN,by omega,ae⟩;grind[uI,oS];rw[a,<-h3,Dl,Dl,Bool.or_eq_true,Bool.or_eq_true,kP,kP];grind;rw[cZ b];refine⟨?_,?_,λn=>?_⟩;rw[nP,nP,uI];simp only[wN,ig,gg,oS];exact⟨⟨h1.1,h1.2.1,h1.2.2.1,ae⟩,cN,by omega,ae⟩;grind[uI,oS];rw[a,<-h3,Dl,Bool.or_eq_true,kP];grind[acO];grind
theorem qY(f:Nat->Bool):gT (iN f)=cx:=(BN f 4096 (eN _)).1
theorem zI(f:Nat->Bool)(n:Int):rP (iN f) n=cx↔(0<=n/\n<4096/\f n.m=cx):=(BN f 4096 (eN _)).2.2 n
theorem Lz(f:Nat->Bool){n:Nat}(a:n<4096):qC (iN f) n=f n:=by rw[wM];grind[qC,zI]
theorem Ot{f g:Nat->Bool}(h:∀n,n<k->f n=g n):gx f k=gx g k:=by induction k with|zero=>rfl|succ k ih=>simp_all[gx,lt_succ_of_lt]
theorem wy{f g:Nat->Bool}(h:∀n,n<4096->f n=g n):iN f=iN g:=Ot h
theorem Dm(h:gT l=cx):iN (qC l)=l:=by refine QX (qY _) h (λn=>?_);rw[wM,zI];constructor;grind[qC];intro a;have:=sh h a;grind[qC]
theorem QY(f:Nat->Bool)(k:Nat):(∃m x,gx f k=m++[x]/\x.1+x.2=(k:Int))↔(0<k/\f (k-1)=cx):=by
 cases k with
 |zero=>simp[gx]
 |succ k=>
  have b:∀(j:Nat),∀x∈gx f j,x.1+x.2<=(j:Int):=by intro j;induction j with|zero=>simp[gx]|succ j ih=>unfold gx;split;rcases yA (gx f j) with a|⟨m,x,a⟩;grind[Em];rw[a,vL];rw[a] at ih;split;intro y e;grind;grind;grind
  unfold gx;by_cases c:f k=cx;rw[df c];simp only[QS,c,and_true];refine⟨λ_=>by omega,λ_=>?_⟩;rcases yA (gx f k) with a|⟨m,x,a⟩;rw[a,Em];exact⟨[],_,ae,by simp⟩;rw[a,vL];grind;rw[cZ c];constructor;rintro⟨m,x,a,d⟩;have:=b k x jv;omega;grind
theorem uJ(f:Nat->Bool)(k:Nat):(gx f k).n<=k:=by induction k with|zero=>simp[gx]|succ k ih=>unfold gx;split;rcases yA (gx f k) with he|⟨m,x,he⟩;grind[Em];grind[vL];omega
/-! ### The numbers of a set,rising -/
def nu(l:List (Int×Int)):List Int:=l.flatMap λx=>(range x.2.m).map λ(k:Nat)=>x.1+(k:Int)
theorem vM(l:List (Int×Int))(n:Int):n∈nu l↔rP l n=cx:=by induction l with|nil=>simp[nu,rP]|cons x r ih=>rw[kP,<-ih];simp only[nu,BF,gH,gI,yo];constructor;grind;rintro(⟨h1,h2⟩|h);exact .inl ⟨(n-x.1).m,cN,cN⟩;grind
theorem JP{e:Int}(h:iQ e l=cx):(nu l).Pairwise (· < ·):=by induction l generalizing e with|nil=>simp_all[nu]|cons x r ih=>rw[ig] at h;simp only[nu,BF];rw[pairwise_append];refine⟨?_,ih h.2.2,?_⟩;rw[pairwise_map];exact List.pairwise_lt_range.imp cN;intro a f b d;have c:rP r b=cx:=(vM r b).1 d;have:=sh h.2.2 c;grind
theorem Th{l m:List Int}(a:l.Pairwise (· < ·))(b:m.Pairwise (· < ·))(h:∀n,n∈l↔n∈m):l=m:=by induction l generalizing m with|nil=>(cases m with|nil=>rfl|cons y s=>exact absurd ((h y).2 eQ) eQ)|cons x r ih=>cases m with|nil=>grind|cons y s=>(rw[Dd] at a b;have c:x=y:=by rcases iZ.1 ((h x).1 eQ) with h1|h1;exact h1;rcases iZ.1 ((h y).2 eQ) with h2|h2<;>grind);grind
def mb(f:Nat->Bool)(k:Nat):List Int:=((range k).filter f).map λ(n:Nat)=>(n:Int)
def LA(f:Nat->Bool):List Int:=mb f 4096
theorem zJ(f:Nat->Bool)(k:Nat):mb f (k+1)=if f k then mb f k++[(k:Int)] else mb f k:=by grind[mb,range_succ]
theorem si(f:Nat->Bool)(k:Nat):(mb f k).n<=k:=by grind[mb]
theorem vN(f:Nat->Bool)(k:Nat)(n:Int):n∈mb f k↔(0<=n/\n<(k:Int)/\f n.m=cx):=by simp only[mb,gI,AE,yo];grind
def Ti(f:Nat->Bool)(k:Nat):(mb f k).Pairwise (· < ·):=by rw[mb,pairwise_map];exact(List.pairwise_lt_range.filter _).imp cN
theorem aak{l:List (Int×Int)}(h:gT l=cx):nu l=LA (qC l):=by refine Th (JP h) (Ti _ _) (λn=>?_);rw[vM,LA,vN];constructor;intro a;have:=sh h a;grind[qC];grind[qC]
def qD(l:List (Int×Int)):Int:=(l.map (·.2)).sum
theorem Wm:qD []=0:=rfl
theorem Tj(x:Int×Int)(r:List (Int×Int)):qD (x::r)=x.2+qD r:=by rfl
theorem Ou(l m:List (Int×Int)):qD (l++m)=qD l+qD m:=by simp[qD]
theorem aal{e:Int}(h:iQ e l=cx):qD l=((nu l).n:Int):=by induction l generalizing e<;>grind[ig,gg,nu,qD]
theorem QZ{e:Int}(h:iQ e l=cx)(a: -1<=e):0<=qD l/\qD l+e<=oS e l/\(l≠ []->oS e l<=4096):=by induction l generalizing e<;>grind[qD,oS,ig,gg]
/-! ### The first so many -/
/-! ### The numbers of a set as an iterator hands them out -/
def Tk(x:Int):Fin 4096:=Fin.ofNat 4096 x.m
theorem Pu{x:Int}(a:0<=x)(b:x<4096):((Tk x).val:Int)=x:=by have:(Tk x).val=x.m%4096:=rfl;omega
def kJ(l:List (Int×Int)):List (Fin 4096):=if gT l=cx then(nu l).map Tk else []
theorem zK{l:List (Int×Int)}(h:gT l=cx):kJ l=(nu l).map Tk:=by simp_all[kJ]
theorem wU{l:List (Int×Int)}(h:gT l=cy):kJ l=[]:=by simp_all[kJ]
theorem BO{l:List (Int×Int)}(h:gT l=cx):(kJ l).map (λx=>(x.val:Int))=nu l:=by
 rw[zK h,wO];conv=>rhs;rw[<-map_id (nu l)]
 apply map_congr_left;intro x a;have:=sh h ((vM l x).1 a);grind[Pu]
def qE(l:List (Int×Int))(i:Nat):Nat:=(nu (l.take i)).n
theorem Ov(l m:List (Int×Int)):nu (l++m)=nu l++nu m:=by simp[nu]
theorem Tl(x:Int×Int)(r:List (Int×Int)):nu (x::r)=((range x.2.m).map λ(k:Nat)=>x.1+(k:Int))++nu r:=by rfl
theorem Tm(h:i<l.n):qE l (i+1)=qE l i+l[i].2.m:=by grind[qE,take_succ_eq_append_getElem,nu]
theorem Wn(l:List (Int×Int))(h:l.n<=i):qE l i=(nu l).n:=by grind[qE,take_of_length_le]
theorem Tn(l:List (Int×Int)):qE l 0=0:=by rfl
theorem aam(h:i<l.n)(b:j<l[i].2.m):(nu l)[qE l i+j]?=cu (l[i].1+(j:Int)):=by
 have a:l=l.take i++l[i]::l.drop (i+1):=by simp_all
 grind[Ov,Tl,qE]
theorem acP(e:gT l=cx)(h:i<l.n)(d:j<l[i].2.m):
 ∃x:Fin 4096,(x.val:Int)=l[i].1+(j:Int)/\qE l i+j<(kJ l).n/\(kJ l).take (qE l i+j)++[x]=(kJ l).take (qE l i+(j+1)):=by
 have a:=aam h d;have⟨hlt,h2⟩:=nB.1 a;have b:qE l i+j<(kJ l).n:=by grind[zK]
 refine⟨(kJ l)[qE l i+j],?_,b,?_⟩;(have c:(kJ l)[qE l i+j]=Tk (nu l)[qE l i+j]:=by grind[kJ]);rw[c,h2];have f:=sh e ((vM l _).1 (h2▸mP hlt));grind[Pu];grind[take_succ_eq_append_getElem]
theorem Pv{l:List (Int×Int)}(a:gT l=cx)(n:Fin 4096):n∈kJ l↔qC l n.val=cx:=by unfold qC;rw[<-vM,<-BO a,gI];grind
def rA(l:List (Int×Int)):Nat->Bool:=λn=>gT l&&qC l n
theorem To(l:List (Int×Int))(a:n<4096):(⟨n,a⟩:Fin 4096)∈kJ l↔rA l n=cx:=by grind[Pv,wU,rA]
theorem GM{e:Int}(h:iQ e l=cx)(a:i<l.n):ku l[i].1 l[i].2=cx:=by induction l generalizing e i<;>grind[ig]
abbrev cz:=@Go.Lib.hid
abbrev gJ:=@Go.RowKit.Below.refl
abbrev iD:=@Go.World.ownsRow_nil
abbrev iH:=@Go.bodyPost_ret
abbrev kS:=@Go.IntWalk.i64_in
abbrev lh:=@Go.Sem.run_bind
abbrev ly:=@Go.Value.slice.injEq
abbrev mC:=@Go.wpList_plain
abbrev nW:=@Go.Result.andThen_ok
abbrev oG:=@Go.info_parts
abbrev oT:=@Go.Proofs.Tryz.underlying22
abbrev qt:=@Go.Proofs.Tryz.underlying81
abbrev rQ:=@Go.block_lt_of_cell
abbrev rR:=@Go.Sem.run_pure
abbrev sU:=@Go.Proofs.Tryz.zeroValue99
abbrev ue:=@Go.callsIn_wide
abbrev xO:=@Go.Proofs.Tryz.zeroValue109
abbrev yD:=@Go.World.cell?_of_block
abbrev yE:=@Go.wpList_append_own
abbrev yO:=@Go.run_underlying
abbrev zL:=@Go.World.cell?_alloc_at
abbrev AI:=@Go.heap_alloc_new
abbrev vO:=@Go.results_none
abbrev vP:=@Go.Proofs.Tryz.underlying3
abbrev vS:=@Go.Proofs.Tryz.underlying78
abbrev vV:=@Go.Proofs.Tryz.underlying36
abbrev xC:=@Go.Proofs.Tryz.zeroValue106
abbrev yU:=@Go.Proofs.Tryz.underlying5
abbrev za:=@Go.Proofs.Tryz.underlying9
abbrev Al:=@Go.Proofs.Tryz.underlying106
abbrev Av:=@Go.Exit.noGoto_exit
abbrev Aw:=@Go.Exit.noGoto_normal
abbrev BX:=@Go.IntWalk.u64_in
abbrev DL:=@Go.ByteArray.toList_eq
abbrev FY:=@Go.bodyPost_end
abbrev Gf:=@Go.Proofs.Tryz.underlying191
abbrev Gl:=@Go.run_newObj_alloc
abbrev I6:=@Go.heap_setCell_other
abbrev I7:=@Go.run_equalIn_int
abbrev I':=@Go.World.ownsRow.cellAt
abbrev Ja:=@Go.run_loadVar_row
abbrev LH:=@Go.wpList_make_own
abbrev LW:=@wpList_store_row
abbrev Mf:=@Go.run_storeCells_cells
abbrev Q1:=@Go.World.ownsRow.alloc
abbrev SY:=@Go.MapKept.heap_alloc
abbrev s_(b o : Nat) : Option Addr := cu ⟨b, o, cw⟩
abbrev dE(b o : Nat) : c7 := bW (cu ⟨b, o, cw⟩)
def sO{α : Sort _}(v : α) :∃x, Hid (v = x) := ⟨v, rfl⟩
def yB{α : Sort _}(v : α) :∃x, Hid (x = v) := ⟨v, rfl⟩
def pR{P : Prop}(h : P := by simp [intOf]; omega) : P := h
abbrev tf(n : Fi_)(args : Array c7)(w : World)(v : c7) : Prop := CP_ n args w λe w' => e = cj v /\ Below w.h.s w w'
abbrev dR(w w' : World) : Prop := Below w.h.s w w'
def ahF(a:dR W w1):(∀b o,b<W.h.s->w1.cell? ⟨b,o,cw⟩=W.cell? ⟨b,o,cw⟩)/\(∀b o,b<W.h.s->w1.frozen? ⟨b,o,cw⟩=W.frozen? ⟨b,o,cw⟩):=
 ⟨λb o h=>a.cell (p:=⟨b,o,cw⟩) h,λb o h=>a.frozen (p:=⟨b,o,cw⟩) h⟩
def Below.step(h:Below B w wr)(b:B<=wr.h.s)(a:dR wr w1):Below B w w1:=h.trans (a.mono b)
def fh(x:Int):Prop:=-9223372036854775808<=x/\x<=9223372036854775807
theorem JQ{e:Int}(h:iQ e l=cx):∀x∈l,fh x.1/\fh x.2:=by induction l generalizing e with|nil=>simp|cons x r ih=>rw[ig,gg] at h;intro y a;rcases iZ.1 a with rfl|a;grind[fh];grind
def fm(w:cS)(v:c7)(l:List (Int×Int)):Prop:=
 ∃ao cap,v=bX ao l.n cap/\l.n<=9223372036854775807/\(∀x∈l,fh x.1/\fh x.2)/\
  (l≠ []->∃b o,ao=cu ⟨b,o,cw⟩/\b<w.h.s/\
   ∀k(h:k<l.n),w.cell? ⟨b,o+k*2,cw⟩=cu (.int cq l[k].1)/\w.cell? ⟨b,o+k*2+1,cw⟩=cu (.int cq l[k].2))
theorem fm.cP(h:fm w v l)(a:dR w w'):fm w' v l:=by have⟨ao,cap,h1,h2,h3,h4⟩:=h;refine⟨ao,cap,h1,h2,h3,λd=>?_⟩;have⟨b,o,h5,h6,h7⟩:=h4 d;refine⟨b,o,h5,pM h6 a.s,λk c=>?_⟩;have⟨h8,h9⟩:=h7 k c;exact⟨(a.cell (p:=⟨b,_,cw⟩) h6).trans h8,(a.cell (p:=⟨b,_,cw⟩) h6).trans h9⟩
theorem tO(w:cS):fm w (bX cw 0 0) []:=⟨cw,0,ae,by simp,by simp,λh=>absurd ae h⟩
def eT(k:IntKind)(w:cS)(v:c7)(l:List Int):Prop:=
 ∃ao cap,v=bX ao l.n cap/\l.n<=9223372036854775807/\(∀x∈l,(Lit.int k x).wf=cx)/\
  (l≠ []->∃b o,ao=cu ⟨b,o,cw⟩/\b<w.h.s/\∀j(h:j<l.n),w.cell? ⟨b,o+j,cw⟩=cu (.int k l[j]))
theorem eT.cP{k:IntKind}{l:List Int}(h:eT k w v l)(a:dR w w'):eT k w' v l:=by have⟨ao,cap,h1,h2,h3,h4⟩:=h;refine⟨ao,cap,h1,h2,h3,λd=>?_⟩;have⟨b,o,h5,h6,h7⟩:=h4 d;exact⟨b,o,h5,pM h6 a.s,λk c=>(a.cell (p:=⟨b,_,cw⟩) h6).trans (h7 k c)⟩
theorem I4(k:IntKind)(w:cS):eT k w (bX cw 0 0) []:=⟨cw,0,ae,by simp,by simp,λh=>absurd ae h⟩
def cL(n:Nat)(f:Nat->c7):gE:=Array.ofFn (n:=n) λi=>f i.val
theorem cW(n:Nat)(f:Nat->c7):(cL n f).s=n:=by simp[cL]
theorem dy(n:Nat)(f:Nat->c7)(i:Nat):(cL n f)[i]?=if i<n then cu (f i) else cw:=by grind[cL,Array.getElem?_ofFn]
theorem aan(n:Nat)(f:Nat->c7)(i:Nat)(v:c7):(cL n f).setIfInBounds i v=cL n (λj=>if j=i then v else f j):=by apply yp;intro j;rw[Array.getElem?_setIfInBounds,dy,dy,cW];grind
theorem JR{n:Nat}{f g:Nat->c7}(h:∀i,i<n->f i=g i):cL n f=cL n g:=by simp_all[cL]
theorem Dn(n:Nat)(v:c7):Array.replicate n v=cL n (λ_=>v):=by apply yp;grind[dy]
def cM(w:cS)(b:Nat)(t:dU)(n:Nat)(f:Nat->c7):Prop:=w.h[b]?=cu (.cells (cL n f) t (0,0))
theorem cM.cell{w:cS}{b:Nat}{t:dU}{n:Nat}{f:Nat->c7}(h:cM w b t n f){i:Nat}(a:i<n):w.cell? ⟨b,i,cw⟩=cu (f i):=by rw[cell_of_row w b i _ t _ h,dy,df a]
def cM.frozen(h:cM w b t n f)(i:Nat):w.frozen? ⟨b,i,cw⟩=cy:=frozen_of_row w b i _ t h
theorem cM.lt{w:cS}{b:Nat}{t:dU}{n:Nat}{f:Nat->c7}(h:cM w b t n f):b<w.h.s:=(rN.1 h).1
theorem cM.set(h:cM w b t n f)(i:Nat)(v:c7):cM (w.setCell ⟨b,i,cw⟩ v) b t n (λj=>if j=i then v else f j):=by unfold cM;rw[heap_setCell_same w b i _ t v h,aan]
theorem cM.cP(h:cM w b t n f)(a:dR w w'):cM w' b t n f:=by unfold cM;rw[a.block b h.lt];exact h
def cM.FX(h:cM w b t n f)(c:Below B w w')(a:b<B):cM w' b t n f:=by unfold cM;rw[c.block b a];exact h
theorem cM.congr{g:Nat->c7}(h:cM w b t n f)(a:∀i,i<n->f i=g i):cM w b t n g:=by grind[cM,JR]
theorem cM.alloc(w:cS)(t:dU)(n:Nat)(f:Nat->c7):cM (w.alloc (.cells (cL n f) t)) w.h.s t n f:=AI w _
theorem cM.alloc_old{w:cS}{b:Nat}{t:dU}{n:Nat}{f:Nat->c7}(h:cM w b t n f)(o:Obj):cM (w.alloc o) b t n f:=by grind[cM,Below.heap_alloc]
theorem cM.AJ(h:cM w b t n f)(a:Addr)(c:b≠a.block)(v:c7):cM (w.setCell a v) b t n f:=by grind[cM,heap_setCell_other]
theorem cM.grown{w w':cS}{b:Nat}{t:dU}{n:Nat}{f:Nat->c7}{row:Option Nat}(h:cM w b t n f)(a:w.grownBy w' row)(c:row≠cu b):cM w' b t n f:=by unfold cM;rw[a.block b h.lt (λe=>c e.symm)];exact h
def iJ(f:Nat->Bool):Nat->c7:=λi=>bZ (f i)
theorem Y0:zeroCells249=cL 4096 (iJ λ_=>cy):=by rw[show(iJ λ_=>cy)=(λ_=>Value.bool cy) from ae,<-Dn];kernel_rfl
theorem afV:zeroCells248=cL 4096 (iJ λ_=>cy):=by rw[show(iJ λ_=>cy)=(λ_=>Value.bool cy) from ae,<-Dn];kernel_rfl
/-! ### Cells of spans,one behind the other -/
def jw:List (Int×Int)->List c7
 | []=> []
 |x::r=>bU cq x.1::bU cq x.2::jw r
theorem pV(l:List (Int×Int)):(jw l).n=l.n*2:=by induction l<;>grind[jw]
theorem sk(l m:List (Int×Int)):jw (l++m)=jw l++jw m:=by induction l<;>grind[jw]
theorem wz(l:List (Int×Int))(k:Nat)(h:k<l.n):(jw l)[k*2]?=cu (.int cq l[k].1)/\(jw l)[k*2+1]?=cu (.int cq l[k].2):=by induction l generalizing k with|nil=>simp at h|cons x r ih=>cases k with|zero=>exact aE|succ k=>grind[jw]
theorem uK(h:w.ownsRow base e 2 v l.n (jw l))(d:∀x∈l,fh x.1/\fh x.2)(c:l.n<=9223372036854775807):fm w v l:=by rcases h.2 with⟨rfl,f⟩|⟨g,cap,a,rfl,m,b,o,hc,p,q⟩;grind[tO];refine⟨_,cap,ae,c,d,λ_=>⟨g,0,ae,(rN.1 b).1,λk n=>?_⟩⟩;have i:=h.cellAt (k*2) cN;have j:=h.cellAt (k*2+1) cN;grind[wz]
theorem qZ{k:IntKind}{l:List Int}(h:w.ownsRow base e 1 v l.n (l.map (Value.int k)))(d:∀x∈l,(Lit.int k x).wf=cx)(c:l.n<=9223372036854775807):eT k w v l:=by rcases h.2 with⟨rfl,f⟩|⟨g,cap,a,rfl,m,b,o,hc,p,q⟩;grind[I4];refine⟨_,cap,ae,c,d,λ_=>⟨g,0,ae,(rN.1 b).1,λj n=>?_⟩⟩;have i:=h.cellAt j cN;grind
def aao:(prog.info? 141).map (λi=>(i.zero,i.s,i.bytes))=cu (cu (bV #[bU cq 0,bU cq 0]),2,16):=dC
def K4:(prog.info? 3).map (λi=>(i.zero,i.s,i.bytes))=cu (cu (.int cq 0),1,8):=dC
def AK{a b:Bool}(h:a=b):Ending.returned (bZ a)=cj (bZ b):=by rw[h]
def Y1{k:IntKind}{a b:Int}(h:a=b):Ending.returned (bU k a)=cj (bU k b):=by rw[h]
def yC{o:Nat}(c:b<w.h.s)(a:∀k(h:k<l.n),w.cell? ⟨b,o+k*2,cw⟩=cu (.int cq l[k].1)/\w.cell? ⟨b,o+k*2+1,cw⟩=cu (.int cq l[k].2))(hbel:dR w wr)(h:k<l.n):
 wr.cell? ⟨b,o+k*2,cw⟩=cu (.int cq l[k].1)/\wr.cell? ⟨b,o+k*2+1,cw⟩=cu (.int cq l[k].2):=
 ⟨(hbel.cell (p:=⟨b,o+k*2,cw⟩) c).trans (a k h).1,(hbel.cell (p:=⟨b,o+k*2+1,cw⟩) c).trans (a k h).2⟩
def aap{k:IntKind}{o:Nat}{l:List Int}(c:b<w.h.s)(a:∀j(h:j<l.n),w.cell? ⟨b,o+j,cw⟩=cu (.int k l[j]))(hbel:dR w wr)(h:j<l.n):
 wr.cell? ⟨b,o+j,cw⟩=cu (.int k l[j]):=(hbel.cell (p:=⟨b,o+j,cw⟩) c).trans (a j h)
theorem Oq:(∀(a:Act)(d:Tmp)(v:c7),a.put (cu d) v= {a with tmps:=a.tmps.setIfInBounds d v})/\(∀(a:Act)(v:c7),a.put cw v=a)/\
 (∀(a:Act)(t:Tmp),a.eval (.tmp t)=a.tmps.getD t undef)/\(∀(a:Act)(v:c7),a.eval (.const v)=v)/\(∀(a:Act)(g:Nat),a.eval (.global g)=bW (cu ⟨g,0,cw⟩))/\(∀(a:Act)(f:Fi_),a.eval (.func f)=.func (.func f) #[] #[])/\
 (∀(l:List c7)(i:Nat)(x:c7),l.toArray.setIfInBounds i x=(l.set i x).toArray)/\(∀(x y:c7)(l:List c7)(n:Nat),(x::l).set (n+1) y=x::l.set n y)/\(∀(x y:c7)(l:List c7),(x::l).set 0 y=y::l)/\
 (∀(A:gE)(i:Nat)(d:c7),A.getD i d=A[i]?.getD d)/\(∀(l:List c7)(i:Nat),l.toArray[i]?=l[i]?)/\(∀(x:c7)(l:List c7)(i:Nat),(x::l)[i+1]?=l[i]?)/\(∀(x:c7)(l:List c7),(x::l)[0]?=cu x)/\(∀(x d:c7),(cu x).getD d=x):=
 ⟨λ_ _ _=>ae,λ_ _=>ae,λ_ _=>ae,λ_ _=>ae,λ_ _=>ae,λ_ _=>ae,λl i x=>setIfInBounds_toArray l i x,λ_ _ _ _=>ae,λ_ _ _=>ae,λA i d=>Array.getD_eq_getD_getElem? ..,λl i=>by simp,λ_ _ _=>ae,λ_ _=>ae,λ_ _=>ae⟩
def Wo(s l:Int)(w:cS):
 tf 276 #[bV #[bU cq s,bU cq l]] w (bZ (ku s l)):=by
 by_cases a:0<=s;by_cases b:s<4096;by_cases c:1<=l
 . by_cases d:l<=4096-s
   all_goals
    go_enter func276,ntmps276;go_wp2;go_ret;refine⟨?_,(gJ _ _).alloc (eN _) _⟩;simp[ku]<;>omega
 rotate_left;rotate_left
 all_goals
  go_enter func276,ntmps276;go_wp2;go_ret;refine⟨?_,(gJ _ _).alloc (eN _) _⟩;simp[ku]<;>omega
def I5(b:Bool)(s l:Int)(a:ku s l=b)(w:cS):
 tf 276 #[bV #[bU cq s,bU cq l]] w (bZ b):=by subst a;exact Wo s l w
def aaq(v:c7)(l:List (Int×Int))(w:cS)(C:fm w v l):
 tf 247 #[v] w (bZ (gT l)):=by
 obtain⟨ao,cap,rfl,t,y,hc⟩:=C;have D:=cz y;have u:=cz hc;clear hc;unfold gT;go_enter func247,ntmps247;go_wp2_with (fail)
 go_loopw [3,8] (λx i wr=>∃(k:Nat)(e:Int),k<=l.n/\i=bU cq k/\x=bU cq e/\-1<=e/\e<=4096/\iQ (-1) l=iQ e (l.drop k)/\dR w wr)
  (λ_ i _=>l.n-(intOf i).m)
 exact⟨0,-1,gw _,ae,ae,cN,by omega,ae,gJ _ _⟩;obtain⟨k,e,E,rfl,rfl,z,A,m,hbel⟩:=hrel;by_cases g:k<l.n
 . rw[De g,iQ] at m;have j:=cz m;clear m;obtain⟨b,o,rfl,p,c⟩:=u.o (by intro h;simp[h] at g);have⟨h1,h2⟩:=yC p c hbel g;clear c;have r:=hbel.size;have a:=hbel.alloc r (.cells #[bU cq l[k].1,bU cq l[k].2] 141);by_cases n:ku l[k].1 l[k].2=cx
   . have f:=cz n;have B:=(gg _ _).1 n;clear n;by_cases q:e<l[k].1
     . go_wp2_with ((go_at_call 276;refine aj (I5 cx _ _ f.o _) λw1 d=>?_;have⟨hq1,hq2⟩:=ahF d));go_roundw;exact⟨k+1,_,cN,by go_num,ae,cN,by omega,by rw[j.o,f.o];simp[q],Below.step a aF aQ⟩;exact pR
     . go_wp2_with ((go_at_call 276;refine aj (I5 cx _ _ f.o _) λw1 d=>?_;have⟨hq1,hq2⟩:=ahF d));go_ret;exact⟨AK (by rw[j.o,f.o];simp;intro F;omega),Below.step a aF aQ⟩
   . have f:=cz (show ku l[k].1 l[k].2=cy by simpa using n);clear n;go_wp2_with ((go_at_call 276;refine(I5 cy _ _ f.o _).mono ?_;rintro s w1 ⟨rfl,d⟩));go_ret;exact⟨AK (by rw[j.o,f.o];simp),Below.step a aF aQ⟩
 . have j:=cz m;clear m;go_wp2;go_ret;exact⟨AK (by rw[j.o,Df cN];rfl),hbel⟩
def uL(b:Bool)(v:c7)(l:List (Int×Int))(h:gT l=b)(w:cS)(a:fm w v l):
 tf 247 #[v] w (bZ b):=by subst h;exact aaq v l w a
attribute [local go_sem] Oper.semAt_some
structure Kept(n0 n1:Nat)(W W':cS):Prop where
 cP:Below n0 W W'
 rows:∀(k:Nat)(o:Obj),n1<=k->W.h[k]?=cu o->o.isCells=cx->W'.h[k]?=cu o
theorem Kept.trans{n0 n1:Nat}{A B C:cS}(h:Kept n0 n1 A B)(k:Kept n0 n1 B C):Kept n0 n1 A C:=
 ⟨h.cP.trans k.cP,λi o a ho hc=>k.rows i o a (h.rows i o a ho hc) hc⟩
theorem Kept.wV(b:n0<=w.h.s)(W:cS)(l:Nat)(o o':Obj)(a:w.h.s<=l)(ho:W.h[l]?=cu o)(hc:o.isCells=cy)(f:o.isWalk=cy):Kept n0 n1 W (W.putObj l o'):=
 ⟨belowK_b b W l o o' a ho hc f,λk p _ c d=>(World.putObj_heap_other (λe=>by grind)).trans c⟩
theorem Kept.cell{n0 n1:Nat}{W b:cS}(h:Kept n0 n1 W b){a:Addr}{v:c7}(c:n1<=a.block)(hc:W.cell? a=cu v):b.cell? a=cu v:=by have⟨o,ho,hoc⟩:=cells_of_cell hc;exact(yD ((h.rows _ o c ho hoc).trans ho.symm)).trans hc
def Kept.setCell{a:Addr}(v:c7)(b:n0<=a.block)(c:a.block<n1):Kept n0 n1 W (W.setCell a v):=
 ⟨(gJ n0 W).setCell b v,λk o d ho _=>(I6 W a k v cN).trans ho⟩
theorem Kept.refl(n0 n1:Nat)(W:cS):Kept n0 n1 W W:=⟨gJ _ _,λ_ _ _ h _=>h⟩
def BP(c:AbidesFrom B J){s:List (Fin 4096)}{b:cS}(h:J s W)(a:dR W b):J s b:=
 c s W b cw h ⟨a.os,a.tape,a.output,a.s,λk d _=>a.block k d⟩ (λr e=>by cases e)
def En:Fence.wide.depth.isSome=cx->1<=n:=λh=>by cases h
theorem acQ(n:Nat)(lp G n0 n1:Nat)(v:c7)(l:List (Int×Int))(w:cS)(hv:fm w v l)(X:n0=w.h.s)(J Jx:List (Fin 4096)->cS->Prop)(W:cS)(b2:n1<=W.h.s)(hJ:AbidesFrom W.h.s J)(hY:∀d x N,J d N->d.n<(kJ l).n->YieldAt Fence.wide (n-1) prog lp #[bU cq ((x:Fin 4096).val:Int)] N λe t=>
  (e=cj (bZ cx)/\J (d++[x]) t/\Kept n0 n1 N t)∨(e=cj (bZ cy)/\Jx (d++[x]) t))(c:Below n0 w W)(z:W.cell? ⟨G,0,cw⟩=cu v)(h0:J [] W):
 CallsIn Fence.wide n prog 262 #[.func (.yield lp) #[] #[],bW (cu ⟨G,0,cw⟩)] W λe t=>(∃u,e=cj u)/\
  ((∃ys,ys=kJ l/\J ys t)∨(∃d,d<+:kJ l/\Jx d t)):=by
 subst X;have D:fm W v l:=hv.cP c;obtain⟨ao,cap,rfl,a5,hb,hc⟩:=hv;have HC:=cz hc;clear hc;have HB:=cz hb;have HY:=cz hY;clear hY;have M:=cz hJ;clear hJ;have O:G<W.h.s:=rQ z;refine callsIn_of_wp func262 rfl iG ?_ rfl;simp only[ntmps262,AG,lr,tX,reduceAdd,reduceSub,AH,vE,vF,vG,pN,uG];by_cases I:gT l=cx
 . have r:=cz I;clear I;gi_wp2_with ((refine⟨iG,En,?_⟩;gi_at_call 247;refine(ue.2 (uL cx _ _ r.o _ D)).mono ?_;rintro e w1 ⟨rfl,f⟩;have a2:=(f.cell (p:=⟨G,0,cw⟩) O).trans z))
   gi_loopw [11] (λi wr=>∃k:Nat,k<=l.n/\i=bU cq k/\J ((kJ l).take (qE l k)) wr/\dR w wr/\w1.h.s<=wr.h.s)
    (λi _=>l.n-(intOf i).m)
   exact⟨0,gw _,rfl,by rw[Tn];exact BP M.o h0 f,Below.step c c.s f,eN _⟩;obtain⟨k,hk,rfl,B,s,b6⟩:=hrel;by_cases q:k<l.n
   . obtain⟨b,o,rfl,T,m⟩:=HC.o (by intro h;simp[h] at q);obtain⟨h1,h2⟩:=yC T m s q;clear m;have R:=HB.o l[k] (mP _);unfold fh at R;have b4:=(gg _ _).1 (GM r.o q);have L:=cz (Tm q);have C:=s.s;have a3:=f.s;gi_wp2;(obtain⟨y,g⟩:=fP (wr.alloc (.cells #[bU cq l[k].1,bU cq l[k].2] 141));have a8:y.cell? ⟨wr.h.s,0,cw⟩=cu (.int cq l[k].1):=by simp_all);(have a9:wr.h.s<y.h.s:=by rw[g];simp);(have a6:J ((kJ l).take (qE l k)) y:=by rw[g];exact BP M.o B ((gJ _ _).alloc (eN _) _));(have b3:dR w y:=by rw[g];exact s.alloc C _);rw[<-g];clear g;obtain⟨F,rfl⟩:∃F:cS,F=wr:=⟨_,rfl⟩
     gi_loopw [17] (λi K=>∃j:Nat,(j:Int)<=l[k].2/\i=bU cq j/\J ((kJ l).take (qE l k+j)) K/\dR w K/\y.h.s<=K.h.s/\K.cell? ⟨F.h.s,0,cw⟩=cu (.int cq l[k].1))
      (λi _=>l[k].2.m-(intOf i).m)
     grind;obtain⟨j,hj,rfl,A,Y,b5,U⟩:=hrel;by_cases b1:(j:Int)<l[k].2
     . obtain⟨x,hx,b7,E⟩:=acP r.o q (j:=j) cN;obtain⟨fn,tmps,H,a1,hy,Q⟩:=HY.o _ x _ A (by rw[lP];omega);rw[hx] at hy;clear hx;have Z:=cz E;clear E;gi_wp2;refine⟨En,Q.mono ?_⟩;rintro e W3 (⟨rfl,hJ3,hk3⟩|⟨rfl,hJx3⟩)
       . have V:=hk3.cell (a:=⟨F.h.s,0,cw⟩) (by show n1<=F.h.s;omega) U;have a4:=hk3.cP.s;gi_wp2;go_roundw;exact⟨j+1,cN,by go_num,by rw[<-Z.o];exact hJ3,Y.trans hk3.cP,cN,V⟩;exact pR
       . gi_wp2;refine iH (vO rfl _ _ _) rfl ?_;exact⟨⟨_,rfl⟩,.inr ⟨_,by rw[Z.o];exact take_prefix _ _,hJx3⟩⟩
     . (have a7:J ((kJ l).take (qE l (k+1))) wr:=by rw[L.o,show l[k].2.m=j from by omega];exact A);gi_wp2;go_roundw;grind;exact pR
   . gi_wp2
     refine FY (vO rfl _ _ _) rfl ?_;exact⟨⟨_,rfl⟩,.inl ⟨_,rfl,by
      have h:=B;rw[Wn l cN,nU (by rw[zK r.o,mQ];exact eN _)] at h;exact h⟩⟩
 . have r:=cz (show gT l=cy by simpa using I);clear I;gi_wp2_with ((refine⟨iG,En,?_⟩;gi_at_call 247;refine(ue.2 (uL cy _ _ r.o _ D)).mono ?_;rintro e w1 ⟨rfl,f⟩));refine iH (vO rfl _ _ _) rfl ?_;exact⟨⟨_,rfl⟩,.inl ⟨_,rfl,by rw[wU r.o];exact BP M.o h0 f⟩⟩
def BQ(n:Nat)(c:Nat)(v:c7)(l:List (Int×Int))(b w:cS)(k:fm b v l)(f:dR b w)(a:w.cell? ⟨c,0,cw⟩=cu v):
 SeqStopsK Fence.wide n prog 262 #[bW (cu ⟨c,0,cw⟩)] (λx:Fin 4096=>#[Value.int cq (x.val:Int)]) (Kept b.h.s w.h.s) (λo=>o=kJ l) (λe=>e<+:kJ l) (kJ l).n w:=by intro m J g W d i _ j h;exact acQ n m c b.h.s w.h.s v l b k ae J g W d.s i j (f.trans (d.mono f.s)) ((d.cell (p:=⟨c,0,cw⟩) (rQ a)).trans a) h
def GO(a:Option Addr)(b cap:Nat)(w:cS):
 CP_ 230 #[bX a b cap] w λe w'=>e=cj (.func (.func 262) #[] #[bW (cu ⟨w.h.s,0,cw⟩)])/\w'=w.alloc (.cells #[bX a b cap] 66):=by go_enter func230,ntmps230;go_wp2;go_ret;exact aE
theorem FZ(h:w.ownsRow base e size v n xs):
 (v=bX cw 0 0/\n=0)∨∃g cap,v=bX (cu ⟨g,0,cw⟩) n cap/\base<=g/\g<w.h.s:=by rcases h.2 with⟨b,c⟩|⟨g,cap,a,b,c,d,_⟩<;>grind
theorem Ow(m:List (Int×Int))(x:Int×Int)(c:Int):(jw (m++[x])).set (m.n*2+1) (bU cq c)=jw (m++[(x.1,c)]):=by simp_all[sk,pV,jw]
theorem Pw{a b:c7}:∀j u,[a,b][j]?=cu u->(w.alloc (.cells #[a,b] t)).cell? ((⟨w.h.s,0,cw⟩:Addr).add j)=cu u:=by
 intro j u c
 match j,c with
 |0,c=>simp_all[Addr.add]
 |1,c=>simp_all[Addr.add]
 |j+2,c=>simp at c
def JS(a b:Int)(k l:IntKind):∀u∈ [Value.int k a,Value.int l b],u.oneCell'=cx:=by intro u c;simp at c;rcases c with rfl|rfl<;>rfl
def F1(h:w.ownsRow base e size v n xs)(d:Nat):(w.drewN d).ownsRow base e size v n xs:=h
theorem E'{d:Nat}{o:Obj}(hbel:dR w wr)(b:∀j,row=cu j->w.h.s<=j)(a:((wr.drewN d).alloc o).grownBy w1 row):dR w w1:=
 ((below_drewN hbel d).alloc (by have:=hbel.size;exact this) o).grown a (by have:=hbel.size;simp_all[le_succ_of_le]) b
def pW(l:List Int):Nat->Bool:=λn=>decide ((n:Int)∈l)
theorem F2{l:List Int}(h:k<l.n)(n:Nat):pW (l.take (k+1)) n=(pW (l.take k) n||decide ((n:Int)=l[k])):=by unfold pW;rw[wM,yv h];grind
theorem cM.GQ{f g:Nat->Bool}(h:cM w b t n (iJ f))(i:Nat)(v:Bool)(a:∀j,j<n->g j=if j=i then v else f j):cM (w.setCell ⟨b,i,cw⟩ (bZ v)) b t n (iJ g):=by refine(h.set i (bZ v)).congr (λj c=>?_);grind[iJ]
attribute [local go_sem] Oper.semAt_some
def Px(b:Nat)(t:dU)(n:Nat)(f:β->Nat->c7):Own (λs W=>cM W b t n (f s)):=by intro s W g row a c d;refine a.grown c (λe=>?_);have⟨o,ho,hc⟩:=d b e;rw[show W.h[b]?=_ from a] at ho;cases ho;cases hc
def BR(a:List (Fin 4096)):Nat->Bool:=λn=>a.any λx=>x.val==n
theorem JT(a:List (Fin 4096))(x:Fin 4096)(n:Nat):BR (a++[x]) n=if n=x.val then cx else BR a n:=by grind[BR]
theorem GR(l:List (Int×Int))(a:n<4096):BR (kJ l) n=rA l n:=by rw[wM,<-To l a];grind[BR]
theorem afW(v:c7)(l:List (Int×Int))(w:cS)(s:fm w v l):
 CallsIn Fence.wide 5 prog 291 #[v] w λe w'=>e=cj (bW (cu ⟨w.h.s,0,cw⟩))/\cM w' w.h.s 249 4096 (iJ (rA l))/\dR w w':=by
 have f:=s;obtain⟨ao,cap,rfl,r,F,hc⟩:=s;clear hc;have t:=cz f;clear f;refine callsIn_of_wp_marks func291 ae iG ?_ ae;simp only[ntmps291,AG,lr,tX,reduceAdd,reduceSub,AH,vE,vF,vG,pN,uG];gi_wp2_with ((refine⟨iG,?_⟩;gi_at_call 230;refine(ue.2 (GO _ _ _ _)).mono ?_;rintro e w' ⟨rfl,rfl⟩));have⟨W0,hW0⟩:=fP (w.alloc (.cells zeroCells249 249));have n:cM W0 w.h.s 249 4096 (iJ λ_=>cy):=by rw[hW0,Y0];exact bp
 have q:W0.h.s=w.h.s+1:=by rw[hW0];simp
 have k:dR w W0:=by rw[hW0];exact aR
 rw[<-hW0];have⟨W1,hW1⟩:=fP (W0.alloc (.cells #[bX ao l.n cap] 66));have c:W1.cell? ⟨W0.h.s,0,cw⟩=cu (.slice ao l.n cap):=by simp_all
 have A:W1.h.s=w.h.s+2:=by rw[hW1];simp;omega
 have b:dR w W1:=by rw[hW1];exact k.alloc cN _
 have o:cM W1 w.h.s 249 4096 (iJ λ_=>cy):=by rw[hW1];exact n.alloc_old _
 rw[<-hW1];rw[q] at c;clear hW0 hW1;refine wpIn_rangeFunc_ownF ae cN (gf:=262) (lb:=#[dE (w.h.s+1) 0]) ae iG (enters_of func262 dC ae)
  (BQ 4 (w.h.s+1) _ l w W1 t.o b c) Kept.trans (Kept.wV cN) (gJ _ _) (λ_=>ae)
  (λa W=>cM W w.h.s 249 4096 (iJ (BR a))/\dR w W)
  (λ_ _ _=>False)
  (OwnFrom.and (Own.from (Px _ _ _ _) _) (ownFrom_below (eN _) cN))
  (λ_ _ _ _ _ z _ _=>z)
  ⟨o.congr (λi _=>ae),b⟩
  (λx=>{tmps:=#[bX ao l.n cap,undef,bW cw,dE w.h.s 0,bU cq (x.val:Int),bX ao l.n cap,.func (.func 262) #[] #[dE (w.h.s+1) 0],bU cq (x.val:Int),undef,undef],defers:=[]}) ?assign ?body ?done ?stop
 case assign=>intro C x W K g;gi_wp2;exact g
 case body=>
  rintro C a x W ⟨d,h⟩ _;have m:=d.cell x.isLt;have u:=d.frozen x.val;simp only[iJ] at m;have B:(x.val:Int)<(4096:Int):=by have:=x.isLt;omega
  gi_wp2;exact⟨KeepsOthers.setCell _ _ _,Kept.setCell _ (eN _) jv,d.GQ _ cx (λj _=>JT a x j),h.setCell (p:=⟨w.h.s,x.val,cw⟩) (eN _) _⟩
 case done=>rintro D G W E rfl ⟨d,h⟩ g;gi_wp2;refine⟨by simp,.inl ⟨_,_,ae,run_takeDeferred g,?_⟩⟩;refine⟨_,results_tmp ae _ _ _,ae,?_,h.trans (belowK_b (w:=w) (eN _) W D _ _ cN g ae ae)⟩;exact(d.grown (grownBy_putObj' W D _) (λe=>by cases e;omega)).congr (λi y=>by simp only[iJ];rw[GR l y])
 case stop=>grind
def acR(v:c7)(l:List (Int×Int))(w:cS)(a:fm w v l):
 CP_ 291 #[v] w λe w'=>e=cj (bW (cu ⟨w.h.s,0,cw⟩))/\cM w' w.h.s 249 4096 (iJ (rA l))/\dR w w':=
 ue.1 (afW v l w a)
attribute [local go_sem] Oper.semAt_some
def F3(l:List (Int×Int)):Int:=if gT l=cx then qD l else 0
def Tp(h:k<l.n):qD (l.take (k+1))=qD (l.take k)+l[k].2:=by rw[yv h,Ou,Tj,Wm];omega
def Wp(h:gT l=cx)(k:Nat):gT (l.take k)=cx:=by have a:=h;unfold gT at a|-;rw[<-Aj k l,nP,wN] at a;exact a.1
theorem Py(h:gT l=cx):0<=qD l/\qD l<=4097:=by have:=QZ h cN;grind[qD]
def aar(v:c7)(l:List (Int×Int))(w:cS)(p:fm w v l):
 tf 229 #[v] w (bU cq (F3 l)):=by
 have m:=cz p;obtain⟨ao,cap,rfl,n,u,hc⟩:=p;have q:=cz hc;clear hc;have A:=cz u;by_cases g:gT l=cx
 . have f:=cz g;clear g;go_enter func229,ntmps229;go_wp2_with ((go_at_call 247;refine(uL cx _ _ f.o _ m.o).mono ?_;rintro e w1 ⟨rfl,d⟩))
   go_loopw [3,11] (λt i wr=>∃k:Nat,k<=l.n/\i=bU cq k/\t=bU cq (qD (l.take k))/\dR w wr)
    (λ_ i _=>l.n-(intOf i).m)
   exact⟨0,gw _,ae,ae,d⟩;obtain⟨k,B,rfl,rfl,hbel⟩:=hrel;by_cases c:k<l.n
   . obtain⟨b,o,rfl,j,a⟩:=q.o (by intro h;simp[h] at c);have⟨h1,h2⟩:=yC j a hbel c;clear a;have s:=cz (Tp c);have y:=(gg _ _).1 (GM f.o c);have x:=Py (Wp f.o k);have z:=hbel.size;go_wp2;go_roundw;(case rel=>exact⟨k+1,cN,by go_num,by rw[s.o],by go_grown⟩);case measure=>exact pR
   . go_wp2;go_ret;exact⟨Y1 (by unfold F3;rw[df f.o,nU cN]),hbel⟩
 . have f:=cz (show gT l=cy by simpa using g);have r:=cz g;clear g;go_enter func229,ntmps229;go_wp2_with ((go_at_call 247;refine(uL cy _ _ f.o _ m.o).mono ?_;rintro e w1 ⟨rfl,d⟩));go_ret;exact⟨Y1 (by unfold F3;rw[cZ r.o]),d⟩
attribute [local go_sem] Oper.semAt_some
theorem LB(l:List (Int×Int)):F3 l=((kJ l).n:Int):=by unfold F3;by_cases h:gT l=cx;rw[df h,zK h,mQ];exact aal h;simp_all[wU]
def acS(m:Int)(v:c7)(l:List (Int×Int))(w:cS)(a:F3 l=m)(b:fm w v l):
 tf 229 #[v] w (bU cq m):=by subst a;exact aar v l w b
theorem KL(l:List (Int×Int)):(kJ l).n<=4097:=by have h:=LB l;by_cases a:gT l=cx;have:=Py a;unfold F3 at h;omega;grind[wU]
def AL(l:List (Fin 4096)):List c7:=l.map λx=>bU cq (x.val:Int)
theorem aas{k:IntKind}{l:List Int}{o:Obj}(h:eT k W v l)(g:W.heap[D]?=some o)(hc:o.isCells=false)(o':Obj):eT k (W.putObj D o') v l:=by
 have⟨ao,cap,h1,h2,h3,h4⟩:=h;refine⟨ao,cap,h1,h2,h3,λd=>?_⟩;have⟨b,o2,h5,h6,h7⟩:=h4 d;have a:=grownBy_putObj' W D o';have f:∀r,some D=some r->∃o:Obj,W.heap[r]?=some o/\o.isCells=false:=λr e=>by grind
 exact⟨b,o2,h5,pM h6 a.size,λj c=>cell_kept (h7 j c) a f⟩
theorem Kept.grown{n0 n1:Nat}{A W a:cS}{row:Option Nat}(h:Kept n0 n1 A W)(b:W.grownBy a row)(d:n0<=W.h.s)(f:∀k,row=cu k->n0<=k/\k<n1):Kept n0 n1 A a:=
 ⟨h.cP.grown b d (λk e=>(f k e).1),λk o c ho hc=>(b.block k (rN.1 (h.rows k o c ho hc)).1 (λe=>by grind)).trans (h.rows k o c ho hc)⟩
def nV(l:List (Int×Int)):List Int:=(kJ l).map λx=>(x.val:Int)
theorem Ox(l:List (Fin 4096))(x:Fin 4096):AL (l++[x])=AL l++[bU cq (x.val:Int)]:=by simp[AL]
theorem ah2(x:Fin 4096):(Lit.int cq (x.val:Int)).wf=cx:=by grind[WalkArith.wf_i64]
theorem Y2(v:c7)(l:List (Int×Int))(w:cS)(m:fm w v l):
 CallsIn Fence.wide 5 prog 172 #[v] w λe w'=>∃r,e=.returned r/\eT .i64 w' r (nV l)/\(∃b n c,r=.slice (some ⟨b,0,none⟩) n c/\w.heap.size<=b)/\dR w w':=by
 have E:=m;obtain⟨ao,g,rfl,_,_,_⟩:=m;have M:=cz E;clear E;have⟨i0,hi,hz0,hz1,hz2⟩:=oG K4;have O:=KL l;refine callsIn_of_wp_marks func172 ae iG ?_ ae;simp only[ntmps172,AG,lr,tX,reduceAdd,reduceSub,AH,vE,vF,vG,pN,uG];gi_wp2_with (first|(refine⟨iG,?_⟩;gi_at_call 229;refine(ue.2 (acS _ _ _ _ (LB l) M.o)).mono ?_;rintro e w1 ⟨rfl,u⟩)|(refine⟨iG,?_⟩;gi_at_call 230;refine(ue.2 (GO _ _ _ _)).mono ?_;rintro e w' ⟨rfl,rfl⟩)|(gi_at_make;refine wpListIn_make_own _ ae _ _ 81 ae w1.heap.size 3 i0 (.int .i64 0) 1 qt hi hz0 hz1 .i64 .i64 _ (kJ l).length ae ae ae ame aN (eN _) ?_;intro j d h));have N:=u.size;have V:=h.size;have H:dR w j:=u.grown h cN (λk e=>by cases e);have A:=(d.lt w1.heap.size ae).2;have⟨W0,hW0⟩:=fP (j.alloc (.cells #[.slice (s_ w1.heap.size 0) 0 (kJ l).length] 81));have Z:W0.heap.size=j.heap.size+1:=by rw[hW0];simp
 have o:Boxed W0 j.heap.size 81 (.slice (s_ w1.heap.size 0) 0 (kJ l).length):=by rw[hW0];exact Boxed.new _ _ _
 have C:W0.ownsRow w1.heap.size 3 1 (.slice (s_ w1.heap.size 0) 0 (kJ l).length) 0 []:=by rw[hW0];exact d.alloc _
 have s:dR w W0:=by rw[hW0];exact H.alloc cN _
 rw[<-hW0];have⟨W1,hW1⟩:=fP (W0.alloc (.cells #[.slice ao l.length g] 66));have I:W1.cell? ⟨j.heap.size+1,0,none⟩=some (.slice ao l.length g):=by simp_all
 have F:W1.heap.size=j.heap.size+2:=by rw[hW1];simp;omega
 have z:Boxed W1 j.heap.size 81 (.slice (s_ w1.heap.size 0) 0 (kJ l).length):=by rw[hW1];exact o.alloc _
 have J:W1.ownsRow w1.heap.size 3 1 (.slice (s_ w1.heap.size 0) 0 (kJ l).length) 0 []:=by rw[hW1];exact C.alloc _
 have t:dR w W1:=by rw[hW1];exact s.alloc cN _
 rw[<-hW1];clear hW0 hW1 o C s d h;refine wpIn_rangeFunc_ownF ae cN (gf:=262) (lb:=#[dE (j.heap.size+1) 0]) ae iG (enters_of func262 dC ae)
  (BQ 4 (j.heap.size+1) _ l w W1 M.o t I) Kept.trans (Kept.wV cN) (gJ _ _) (λ_=>ae)
  (λf W=>(∃v,Boxed W j.heap.size 81 v/\W.ownsRow w1.heap.size 3 1 v f.length (AL f)/\v=.slice (s_ w1.heap.size 0) f.length (kJ l).length)/\dR w W)
  (λ_ _ _=>False)
  (OwnFrom.and (Own.from (holdsRow_own w1.heap.size j.heap.size 81 3 1 (λf=>f.length) (λf=>AL f) (λf v=>v=.slice (s_ w1.heap.size 0) f.length (kJ l).length)) _) (ownFrom_below (eN _) cN))
  (λ_ _ _ _ _ Y _ _=>Y)
  ⟨⟨_,z,J,ae⟩,t⟩
  (λx=>{tmps:=#[.slice ao l.length g,undef,.slice none 0 0,dE j.heap.size 0,.int .i64 (x.val:Int),.slice ao l.length g,.int .i64 ((kJ l).length:Int),.slice (s_ w1.heap.size 0) 0 (kJ l).length,.slice ao l.length g,.func (.func 262) #[] #[dE (j.heap.size+1) 0],.int .i64 (x.val:Int),undef,undef,undef,undef,undef],defers:=[]}) ?assign ?body ?done ?stop
 case assign=>intro F x W K q;gi_wp2;exact q
 case body=>rintro F f x W ⟨⟨v,m,d,rfl⟩,F⟩ B;have G:=F.size;have L:=m.cell;have H:=m.frozen;have X:=m.not_row kB d;have A:=d.lt w1.heap.size ae;gi_wp2_with (first|(gi_at_builtin;refine wpListIn_append_fits _ ae _ _ 81 ae w1.heap.size 3 i0 1 qt hi hz1 w1.heap.size f.length (kJ l).length (AL f) ae (d.alloc _) ⟨W.heap.size,0,none⟩ 1 1 [.int .i64 (x.val:Int)] ae ae (cell_one_new _ _ _) bg B ?_;intro H p i;have⟨q1,q2,q3,q4,q5⟩:=m.appended kB d (iE cN (Nat.le_of_lt A.2)) cN p i;have T:=q1.cell;have U:=q1.frozen));refine⟨q4,?_,⟨⟨_,q2,?_,?_⟩,Below.trans F (q5.mono cN)⟩⟩;exact((((Kept.refl w.heap.size W1.heap.size W).grown (World.grownBy_alloc W _ none) G (λk e=>by cases e)).grown i aF (λk e=>by cases e;omega)).trans (Kept.setCell (a:=⟨j.heap.size,0,none⟩) _ jv jv));rw[ji,Ox];exact q3;rw[ji];rfl
 case done=>rintro D G W G rfl ⟨⟨v,m,d,rfl⟩,F⟩ q;have L:=m.cell;have R:D<W.heap.size:=(rN.1 q).1;gi_wp2;refine⟨by simp,.inl ⟨_,_,ae,run_takeDeferred q,?_⟩⟩;refine⟨_,results_tmp ae _ _ _,_,ae,?_,⟨_,_,_,ae,cN⟩,F.trans (belowK_b (w:=w) (eN _) W D _ _ cN q ae ae)⟩;refine aas (qZ (l:=nV l) (e:=3) (base:=w1.heap.size) ?_ ?_ ?_) q ae _;unfold nV;rw[mQ,wO];exact d;intro x Q;unfold nV at Q;obtain⟨y,_,rfl⟩:=gI.1 Q;exact ah2 y;unfold nV;rw[mQ];omega
 grind
def acT(v:c7)(l:List (Int×Int))(w:cS)(a:fm w v l):
 CP_ 172 #[v] w λe w'=>∃r,e=cj r/\eT cq w' r (nV l)/\dR w w':=(ue.1 (Y2 v l w a)).mono λ_ _ ⟨r,h1,h2,_,h4⟩=>⟨r,h1,h2,h4⟩
def acU(v:c7)(l:List (Int×Int))(w:cS)(a:fm w v l):
 CP_ 172 #[v] w λe w'=>∃r,e=cj r/\eT cq w' r (nV l)/\(∃b n c,r=bX (cu ⟨b,0,cw⟩) n c/\w.h.s<=b)/\dR w w':=ue.1 (Y2 v l w a)
def Q0(l:List (Int×Int))(n:Int):Bool:=decide (n∈nV l)
theorem Wq(l:List (Int×Int)):(nV l).Pairwise (· < ·):=by unfold nV;by_cases h:gT l=cx;rw[BO h];exact JP h;simp_all[wU]
theorem aat{x:Fin 4096}{n:Int}(h:p++[x]<+:kJ l)(c:∀y∈p,(y.val:Int)<n)(d:n<=(x.val:Int)):Q0 l n=((x.val:Int)==n):=by
 have⟨r,hr⟩:=h;have a:nV l=p.map (λx=>(x.val:Int))++(x.val:Int)::r.map (λx=>(x.val:Int)):=by grind[nV]
 have b:=Wq l;rw[a,pairwise_append,Dd] at b;unfold Q0;grind
theorem aau{n:Int}(a:∀y∈kJ l,(y.val:Int)<n):Q0 l n=cy:=by unfold Q0;grind[nV]
def ah3(v:c7)(l:List (Int×Int))(n:Int)(w:cS)(Q:fm w v l):
 CallsIn Fence.wide 5 prog 281 #[v,bU cq n] w λe w'=>e=cj (bZ (Q0 l n))/\dR w w':=by
 have u:=Q;obtain⟨ao,b,rfl,_,_,_⟩:=Q;have R:=cz u;clear u;refine callsIn_of_wp_marks func281 ae iG ?_ ae;simp only[ntmps281,AG,lr,tX,reduceAdd,reduceSub,AH,vE,vF,vG,pN,uG];gi_wp2_with (first|(refine⟨iG,?_⟩;gi_at_call 230;refine(ue.2 (GO _ _ _ _)).mono ?_;rintro e w' ⟨rfl,rfl⟩));have⟨Wa,hWa⟩:=fP (w.alloc (.cells #[bU cq n] 3));have L:Wa.h.s=w.h.s+1:=by rw[hWa];simp
 have q:Boxed Wa w.h.s 3 (bU cq n):=by rw[hWa];exact Boxed.new _ _ _
 have m:dR w Wa:=by rw[hWa];exact aR
 rw[<-hWa];have⟨W0,hW0⟩:=fP (Wa.alloc (.cells #[bZ cy] 4));have J:W0.h.s=w.h.s+2:=by rw[hW0];simp;omega
 have o:Boxed W0 w.h.s 3 (bU cq n):=by rw[hW0];exact q.alloc _
 have t:Boxed W0 (w.h.s+1) 4 (bZ cy):=by rw[hW0,<-L];exact Boxed.new _ _ _
 have j:dR w W0:=by rw[hW0];exact m.alloc cN _
 rw[<-hW0];have⟨W1,hW1⟩:=fP (W0.alloc (.cells #[bX ao l.n b] 66));have A:W1.cell? ⟨w.h.s+2,0,cw⟩=cu (.slice ao l.n b):=by rw[hW1,<-J];simp
 have V:W1.h.s=w.h.s+3:=by rw[hW1];simp;omega
 have z:Boxed W1 w.h.s 3 (bU cq n):=by rw[hW1];exact o.alloc _
 have G:Boxed W1 (w.h.s+1) 4 (bZ cy):=by rw[hW1];exact t.alloc _
 have k:dR w W1:=by rw[hW1];exact j.alloc cN _
 rw[<-hW1];clear hWa hW0 hW1 q m o t j;refine wpIn_rangeFunc_ownF ae cN (gf:=262) (lb:=#[dE (w.h.s+1+1) 0]) ae iG (enters_of func262 dC ae)
  (BQ 4 (w.h.s+2) _ l w W1 R.o k A) Kept.trans (Kept.wV cN) (gJ _ _) (λ_=>ae)
  (λa W=>(Hid (∀y∈a,(y.val:Int)<n)/\Boxed W w.h.s 3 (bU cq n)/\Boxed W (w.h.s+1) 4 (bZ cy))/\dR w W)
  (λc a W=>(Hid (c=.ret/\∃p x,a=p++[x]/\(∀y∈p,(y.val:Int)<n)/\n<=(x.val:Int))/\Boxed W (w.h.s+1) 4 (bZ (match a.getLast? with|some x=>(x.val:Int)==n|none=>cy)))/\dR w W)
  (OwnFrom.and (OwnFrom.and (ownFrom_pure _ _) (OwnFrom.and (Own.from (boxed_own _ _ λ_=>bU cq n) _) (Own.from (boxed_own _ _ λ_=>bZ cy) _))) (ownFrom_below (eN _) cN))
  (λc=>OwnFrom.and (OwnFrom.and (ownFrom_pure _ _) (Own.from (boxed_own _ _ λa:List (Fin 4096)=>bZ (match a.getLast? with|some x=>(x.val:Int)==n|none=>cy)) _)) (ownFrom_below (eN _) cN))
  ⟨⟨λy M=>by simp at M,z,G⟩,k⟩
  (λx=>{tmps:=#[bX ao l.n b,bU cq n,undef,dE w.h.s 0,dE (w.h.s+1) 0,bU cq (x.val:Int),bX ao l.n b,.func (.func 262) #[] #[dE (w.h.s+1+1) 0],bU cq (x.val:Int),undef,undef,undef,undef,undef,undef],defers:=[]}) ?assign ?body ?done ?stop
 case assign=>intro Y x W K f;gi_wp2;exact f
 case body=>
  rintro Y a x W ⟨⟨O,N,d⟩,i⟩ _;have U:=N.cell;have H:=d.cell;have I:=d.frozen;by_cases X:n<=(x.val:Int)
  . gi_wp2;refine⟨KeepsOthers.setCell _ _ _,⟨⟨ae,a,x,ae,O.o,X⟩,?_⟩,i.setCell (p:=⟨w.h.s+1,0,cw⟩) jv _⟩;have:=d.set (bZ ((x.val:Int)==n));simpa using this
  . gi_wp2;exact⟨KeepsOthers.refl _,Kept.refl _ _ _,⟨λy M=>(gH.1 M).elim (O.o y) (λe=>by simp at e;subst e;omega),N,d⟩,i⟩
 case done=>rintro D Z W T rfl ⟨⟨E,_,d⟩,i⟩ f;have H:=d.cell;have I:=d.frozen;gi_wp2;have g:=(KeepsOthers.setCell W ⟨w.h.s+1,0,cw⟩ (bZ cy)).same D _ f ae;refine⟨by simp,.inl ⟨_,_,ae,run_takeDeferred g,?_⟩⟩;have h:=cell_kept (d.set (bZ cy)).cell (grownBy_putObj' _ D (.deferred cw)) (λr e=>by cases e;exact⟨_,g,ae⟩);refine⟨bZ cy,?_,by rw[aau E.o],(i.setCell (p:=⟨w.h.s+1,0,cw⟩) eQ _).trans (belowK_b (w:=w) (eN _) _ D _ _ cN g ae ae)⟩;simp[results,f281,go_sem,h]
 case stop=>rintro D c a W T s ⟨⟨F,d⟩,i⟩ f;obtain⟨rfl,p,x,rfl,C,B⟩:=F.o;rw[getLast?_append] at d;simp only[getLast?_singleton,Option.some_or] at d;gi_wp2;refine⟨by simp,.inl ⟨_,_,ae,run_takeDeferred f,?_⟩⟩;have h:=cell_kept d.cell (grownBy_putObj' _ D (.deferred cw)) (λr e=>by cases e;exact⟨_,f,ae⟩);refine⟨bZ ((x.val:Int)==n),?_,by rw[aat s C B],i.trans (belowK_b (w:=w) (eN _) W D _ _ cN f ae ae)⟩;simp[results,f281,go_sem,h]
def afX(v:c7)(l:List (Int×Int))(n:Int)(w:cS)(a:fm w v l):
 tf 281 #[v,bU cq n] w (bZ (Q0 l n)):=ue.1 (ah3 v l n w a)
def cM.setRow(h:cM w g t n f)(f':Nat->c7):cM (w.setRow g (cL n f')) g t n f':=
 setRow_heap w g _ _ t _ h
theorem cM.setRow_other{w:cS}{g b:Nat}{t:dU}{n:Nat}{f:Nat->c7}(h:cM w b t n f)(a:b≠g)(cs:gE):cM (w.setRow g cs) b t n f:=by grind[cM,setRow_other]
def Below.setRow{a:cS}(h:Below B a w)(b:B<=g)(cs:gE):Below B a (w.setRow g cs):=
 h.trans ⟨ae,ae,ae,by simp,λk c=>setRow_other w g k cs cN⟩
theorem setRow_size(w:cS)(g:Nat)(cs:gE):(w.setRow g cs).h.s=w.h.s:=by simp
theorem run_storeVar_row(w:cS)(ty:dU)(g:Nat)(t:dU)(n:Nat)(f f':Nat->c7)(h:cM w g t n f)(c:(P.info? ty).map (·.size)=cu n)(b:∀i,(f' i).oneCell'=cx):
 (storeVar ty ⟨g,0,cw⟩ (bV (cL n f'))).run P w=.ok () (w.setRow g (cL n f')):=by
 cases d:P.info? ty with
 |none=>grind
 |some i=>
  have e:i.s=n:=by grind
  have a:=run_storeCells_at P g 0 t (cL n f').t 0 (cL n f) w h (by simp[cL]) (by
   grind[Array.mem_iff_getElem?,dy])
  simp_all[Df,cW,storeVar,Value.cells,sizeOf,typeInfo]
def wpList_store_row{a:Act}(c:o.guard=cw)(ty:dU)(x y:Operand)(ho:o.op=.store ty x y)(g:Nat)(l:a.eval x=bW (cu ⟨g,0,cw⟩))(n:Nat)(f':Nat->c7)(cs:gE)(m:a.eval y=bV cs)(b:cs=cL n f')(t:dU)(f:Nat->c7)(h:cM w g t n f)(j:(P.info? ty).map (·.size)=cu n)(d:∀i,(f' i).oneCell'=cx)(k:wpList P ops Q rest (a.put o.dst undef) (w.setRow g (cL n f'))):wpList P ops Q (o::rest) a w:=
 mC c λK e=>by
  subst b;unfold Oper.wp execOp;simp only[ho,l,m,Instr.storeAt,Instr.sureAddr,lh,rR,nW,run_storeVar_row w ty g t n f f' h j d];exact e _ _ k
def tL{a:Act}(b:o.guard=cw)(ty:dU)(x:Operand)(ho:o.op=.load ty x)(g:Nat)(j:a.eval x=bW (cu ⟨g,0,cw⟩))(n:Nat)(t:dU)(f:Nat->c7)(h:cM w g t n f)(d:TypeDesc)(i:P.underlying ty=cu d)(c:(match d with| .struct _| .array _ _=>cx|_=>cy)=cx)(k:(P.info? ty).map (·.size)=cu n)(e:wpList P ops Q rest (a.put o.dst (bV (cL n f))) w):wpList P ops Q (o::rest) a w:=
 wpList_load_row b ty x ho g j t (cL n f) (0,0) d h i c aG e
def afY:(prog.info? 248).map (·.size)=cu 4096:=dC
theorem acV(a b c d:Int)(r:Bool)(h:(!((a==c)&& (b==d)))=r)(w:cS):
 (binOp .neq 141 (bV #[bU cq a,bU cq b]) (bV #[bU cq c,bU cq d])).run prog w=.ok (bZ r) w:=by
 subst h;have f:(Op.equal 141 (bV #[bU cq a,bU cq b]) (bV #[bU cq c,bU cq d])).run prog w=.ok ((a==c)&& (b==d)) w:=by unfold Op.equal Op.maxDepth;rw[run_equalIn_struct (P:=prog) w 9999 141 _ _ dC dC];have e:(prog.fieldsOf 141).t=[{name:= "Start",type:=3,offset:=0,embedded:=cy,tag:= "",pkgPath:= "",byteOffset:=0},{name:= "Len",type:=3,offset:=1,embedded:=cy,tag:= "",pkgPath:= "",byteOffset:=8}]:=dC;rw[e];simp[Op.eqFields,part,isAgg3,Result.andThen,I7 w 9998 3 cq cq _ _ vP];grind
 simp_all[binOp]
theorem Tq{l m:List α}(a:k<l.n)(b:k<m.n)(h:l[k]≠m[k]):l≠m:=by grind
theorem aav{l m:List α}(a:l.n=m.n)(h:∀j(b:j<l.n)(c:j<m.n),l[j]=m[j]):l=m:=
 ext_getElem a h
def Pz(w:cS)(l:List Int)(cs:gE)(t:dU)(a:cs.t=l.map (Value.int cq))(e:∀x∈l,(Lit.int cq x).wf=cx)(c:l.n<=9223372036854775807)(n cap:Nat)(d:n=l.n):
 eT cq (w.alloc (.cells cs t)) (bX (cu ⟨w.h.s,0,cw⟩) n cap) l:=by subst d;refine⟨_,cap,ae,c,e,λ_=>⟨w.h.s,0,ae,by simp,λj b=>?_⟩⟩;rw[oQ,zL _ _ _ _ ae,<-mR,a];simp[b]
theorem Ws(w:cS)(l:List (Int×Int))(cs:gE)(t:dU)(a:cs.t=jw l)(e:∀x∈l,fh x.1/\fh x.2)(c:l.n<=9223372036854775807)(n cap:Nat)(d:n=l.n):
 fm (w.alloc (.cells cs t)) (bX (cu ⟨w.h.s,0,cw⟩) n cap) l:=by subst d;refine⟨_,cap,ae,c,e,λ_=>⟨w.h.s,0,ae,by simp,λj b=>?_⟩⟩;have⟨h1,h2⟩:=wz l j b;rw[oQ,zL _ _ _ _ ae,zL _ _ _ _ ae,<-mR,<-mR,a];grind
theorem PD(f:Nat->Bool)(k:Nat)(a:k<=4096):∀x∈mb f k,(Lit.int cq x).wf=cx:=by grind[vN,WalkArith.wf_i64]
theorem JU{l:List (Int×Int)}(h:gT l=cx):nV l=LA (qC l):=by grind[nV,BO,aak]
abbrev kQ:=Bool×Int×Int
def tP(w:cS)(v:c7)(l:List kQ):Prop:=
 ∃ao cap,v=bX ao l.n cap/\l.n<=9223372036854775807/\(∀x∈l,fh x.2.1/\fh x.2.2)/\
  (l≠ []->∃b o,ao=cu ⟨b,o,cw⟩/\b<w.h.s/\
   ∀k(h:k<l.n),w.cell? ⟨b,o+k*3,cw⟩=cu (.bool l[k].1)/\w.cell? ⟨b,o+k*3+1,cw⟩=cu (.int cq l[k].2.1)/\w.cell? ⟨b,o+k*3+2,cw⟩=cu (.int cq l[k].2.2))
theorem tQ(w:cS):tP w (bX cw 0 0) []:=⟨cw,0,ae,by simp,by simp,λh=>absurd ae h⟩
def kR:List kQ->List c7
 | []=> []
 |x::r=>bZ x.1::bU cq x.2.1::bU cq x.2.2::kR r
theorem vQ(l m:List kQ):kR (l++m)=kR l++kR m:=by induction l<;>grind[kR]
theorem Oy(l:List kQ)(k:Nat)(h:k<l.n):(kR l)[k*3]?=cu (.bool l[k].1)/\(kR l)[k*3+1]?=cu (.int cq l[k].2.1)/\(kR l)[k*3+2]?=cu (.int cq l[k].2.2):=by induction l generalizing k with|nil=>simp at h|cons x r ih=>cases k with|zero=>exact⟨ae,ae,ae⟩|succ k=>have:=ih k jv;rw[show(k+1)*3=k*3+1+1+1 from by omega,show k*3+1+1+1+1=k*3+1+1+1+1 from ae,show k*3+1+1+1+2=k*3+2+1+1+1 from by omega];grind[kR]
theorem Dp{l:List kQ}(h:w.ownsRow base e 3 v l.n (kR l))(f:∀x∈l,fh x.2.1/\fh x.2.2)(d:l.n<=9223372036854775807):tP w v l:=by rcases h.2 with⟨rfl,i⟩|⟨g,cap,a,rfl,n,c,p,hc,q,r⟩;grind[tQ];refine⟨_,cap,ae,d,f,λ_=>⟨g,0,ae,(rN.1 c).1,λk o=>?_⟩⟩;have j:=h.cellAt (k*3) cN;have m:=h.cellAt (k*3+1) cN;have b:=h.cellAt (k*3+2) cN;grind[Oy]
def LC{o:Nat}{l:List kQ}(c:b<w.h.s)(a:∀k(h:k<l.n),w.cell? ⟨b,o+k*3,cw⟩=cu (.bool l[k].1)/\w.cell? ⟨b,o+k*3+1,cw⟩=cu (.int cq l[k].2.1)/\w.cell? ⟨b,o+k*3+2,cw⟩=cu (.int cq l[k].2.2))(hbel:dR w wr)(h:k<l.n):
 wr.cell? ⟨b,o+k*3,cw⟩=cu (.bool l[k].1)/\wr.cell? ⟨b,o+k*3+1,cw⟩=cu (.int cq l[k].2.1)/\wr.cell? ⟨b,o+k*3+2,cw⟩=cu (.int cq l[k].2.2):=
 ⟨(hbel.cell (p:=⟨b,o+k*3,cw⟩) c).trans (a k h).1,(hbel.cell (p:=⟨b,o+k*3+1,cw⟩) c).trans (a k h).2.1,(hbel.cell (p:=⟨b,o+k*3+2,cw⟩) c).trans (a k h).2.2⟩
def PF:(prog.info? 334).map (λi=>(i.zero,i.s,i.bytes))=cu (cu (bV #[bZ cy,bU cq 0,bU cq 0]),3,24):=dC
attribute [local go_sem] Oper.semAt_some
def nX(w:cS)(base:Nat)(v:c7)(l:List (Int×Int)):Prop:=w.ownsRow base 141 2 v l.n (jw l)
def nX.mono(h:nX w base v l)(a:base'<=base):nX w base' v l:=
 ⟨h.1,h.2.imp id λ⟨g,cap,cur,h1,h2,r⟩=>⟨g,cap,cur,h1,iE a h2,r⟩⟩
theorem nX.sl{f:Nat->Bool}(h:nX w base v (iN f)):fm w v (iN f):=
 uK h (JQ (qY f)) (iE (uJ f 4096) cN)
def PG(b:Nat)(f:Nat->Bool)(w:cS)(A:cM w b 249 4096 (iJ f)):
 CP_ 158 #[bW (cu ⟨b,0,cw⟩)] w λe w'=>∃v',e=cj v'/\nX w' w.h.s v' (iN f)/\dR w w':=by
 have⟨i0,hi,hz0,hz1,hz2⟩:=oG aao;go_enter func158,ntmps158;go_wp2_with (fail)
 go_loopw [3,8] (λv i wr=>∃(k:Nat),k<=4096/\i=bU cq k/\wr.ownsRow w.h.s 141 2 v (gx f k).n (jw (gx f k))/\dR w wr)
  (λ_ i _=>4096-(intOf i).m)
 exact⟨0,gw _,ae,iD _ _ _ _,gJ _ _⟩;obtain⟨k,J,rfl,a,hbel⟩:=hrel;have N:=hbel.size;by_cases E:k<4096
 . have s:cM wr b 249 4096 (iJ f):=A.cP hbel;have r:=s.cell E;simp only[iJ] at r;have I:(k:Int)<(4096:Int):=cN;by_cases t:f k=cx
   . (rw[t] at r;have u:Hid (gx f (k+1)=Ly (gx f k) k):=by unfold Hid;rw[gx,df t]);clear t;rcases yA (gx f k) with he|⟨m,x,he⟩
     . rw[he] at a;have B:=cz he;clear he;have d:=a.lt;rcases FZ a with⟨rfl,_⟩|⟨g,cap,rfl,z,D⟩;rotate_left
       all_goals
        have q:=cz d;clear d
        go_wp2_with (first|(go_quiet (fail))|(at_builtin;refine yE _ ae _ _ 66 ae w.h.s 141 i0 (bV #[bU cq 0,bU cq 0]) 2 16 underlying66 hi hz0 hz1 hz2 ae kB _ _ _ ae ((F1 a _).alloc _) ⟨wr.h.s,0,cw⟩ 1 1 [bU cq k,bU cq 1] ae ae Pw (JS _ _ _ _) (by simp[maxLen]) eQ aF ?_;intro v' w1 n l _))
        go_roundw
        case rel=>exact⟨k+1,cN,by go_num,by rw[u.o,B.o];exact n,E' hbel (λj h=>(q.o j h).1) l⟩
        case measure=>exact pR
     . have p:=uJ f k;have c:=BN f k J;rw[he] at a p c;rw[nP,wN,ig,gg] at c;have Q:=c.1.2.1;have B:=cz he;clear he c;rw[ji] at a p;have⟨M,HM⟩:=yB m.n;rw[<-HM.o] at a p;simp only[lr,tX,oQ] at a p;have d:=a.lt;rcases FZ a with⟨rfl,O⟩|⟨g,cap,rfl,z,D⟩;omega
       . (have q:=cz d;clear d;have G:wr.cell? ⟨g,M*2,cw⟩=cu (.int cq x.1):=by rw[a.cellAt _ cN,sk,IV (by rw[pV,HM.o];omega),pV,HM.o];simp[jw]);(have F:wr.cell? ⟨g,M*2+1,cw⟩=cu (.int cq x.2):=by rw[a.cellAt _ cN,sk,IV (by rw[pV,HM.o];omega),pV,HM.o];simp[jw]);have H:wr.frozen? ⟨g,M*2+1,cw⟩=cy:=a.frozenAt _;have K:(M:Int)<(M:Int)+1:=cN;have w1:IntKind.i64.wrap (M:Int)=(M:Int):=kS _ cN;have R:IntKind.i64.wrap (x.1+x.2)=x.1+x.2:=kS _ cN;by_cases o:x.1+x.2=(k:Int)
         . (have L:(x.1+x.2==(k:Int))=cx:=by simpa using o);have C:=cz o;clear o;go_wp2_with (go_quiet (fail));go_roundw;refine⟨k+1,cN,by go_num,?_,(below_drewN hbel _).setCell z _⟩;rw[u.o,B.o,vL,df C.o,ji,<-HM.o,<-Ow,<-HM.o];exact((F1 a _).stored _ _).1;exact pR
         . (have L:(x.1+x.2==(k:Int))=cy:=by simpa using o);have C:=cz o;clear o;go_wp2_with (first|(go_quiet (fail))|(at_builtin;refine yE _ ae _ _ 66 ae w.h.s 141 i0 (bV #[bU cq 0,bU cq 0]) 2 16 underlying66 hi hz0 hz1 hz2 ae kB _ _ _ ae ((F1 a _).alloc _) ⟨wr.h.s,0,cw⟩ 1 1 [bU cq k,bU cq 1] ae ae Pw (JS _ _ _ _) amW cN aF ?_;intro v' w1 n l _));go_roundw;refine⟨k+1,cN,by go_num,?_,E' hbel (λj h=>(q.o j h).1) l⟩;rw[u.o,B.o,vL,cZ C.o,sk,ji,ji,<-HM.o];exact n;exact pR
   . (have y:f k=cy:=by simpa using t);(rw[y] at r;have u:Hid (gx f (k+1)=gx f k):=by unfold Hid;rw[gx,cZ t]);clear t y;go_wp2_with (go_quiet (fail));go_roundw;exact⟨k+1,cN,by go_num,by rw[u.o];exact a,by refine below_drewN ?_ _;exact hbel⟩;exact pR
 . obtain rfl:k=4096:=cN;go_wp2;go_ret;exact⟨_,ae,a,hbel⟩
theorem Wt(v u:c7)(l m:List (Int×Int))(w:cS)(Q:fm w v l)(O:fm w u m):
 CallsIn Fence.wide 5 prog 287 #[v,u] w λe w'=>∃r,e=cj r/\nX w' w.h.s r (iN (λn=>rA l n&& !rA m n))/\dR w w':=by
 have t:=O;obtain⟨z,a,rfl,_,_,_⟩:=O;have T:=cz Q;clear Q;have R:=cz t;clear t;refine callsIn_of_wp_marks func287 ae iG ?_ ae;simp only[ntmps287,AG,lr,tX,reduceAdd,reduceSub,AH,vE,vF,vG,pN,uG];gi_wp2_with (first|(refine⟨iG,?_⟩;gi_at_call 291;refine(ue.2 (acR _ _ _ T.o)).mono ?_;rintro e w1 ⟨rfl,f,E⟩)|(refine⟨iG,?_⟩;gi_at_call 230;refine(ue.2 (GO _ _ _ _)).mono ?_;rintro e w' ⟨rfl,rfl⟩));have F:=f.lt;have⟨W0,hW0⟩:=fP (w1.alloc (.cells #[dE w.h.s 0] 312));have Y:W0.h.s=w1.h.s+1:=by rw[hW0];simp
 have F:W0.cell? ⟨w1.h.s,0,cw⟩=cu (dE w.h.s 0):=by simp_all
 have q:cM W0 w.h.s 249 4096 (iJ (rA l)):=by rw[hW0];exact f.alloc_old _
 have h:dR w W0:=by rw[hW0];exact E.alloc cN _
 rw[<-hW0];have⟨W1,hW1⟩:=fP (W0.alloc (.cells #[bX z m.n a] 66));have H:W1.cell? ⟨w1.h.s+1,0,cw⟩=cu (.slice z m.n a):=by simp_all
 have Z:W1.h.s=w1.h.s+2:=by rw[hW1];simp;omega
 have G:W1.cell? ⟨w1.h.s,0,cw⟩=cu (dE w.h.s 0):=by simp_all
 have L:cM W1 w.h.s 249 4096 (iJ (rA l)):=by rw[hW1];exact q.alloc_old _
 have k:dR w W1:=by rw[hW1];exact h.alloc cN _
 rw[<-hW1];clear hW0 hW1 q F h f;refine wpIn_rangeFunc_ownF ae cN (gf:=262) (lb:=#[dE (w1.h.s+1) 0]) ae iG (enters_of func262 dC ae)
  (BQ 4 (w1.h.s+1) _ m w W1 R.o k H) Kept.trans (Kept.wV cN) (gJ _ _) (λ_=>ae)
  (λb W=>(cM W w.h.s 249 4096 (iJ λn=>rA l n&& !BR b n)/\W.cell? ⟨w1.h.s,0,cw⟩=cu (dE w.h.s 0))/\dR w W)
  (λ_ _ _=>False)
  (OwnFrom.and (OwnFrom.and (Own.from (Px _ _ _ λb=>iJ λn=>rA l n&& !BR b n) _) (Own.from (λs A B row M V d=>cell_kept M V d) _)) (ownFrom_below (eN _) cN))
  (λ_ _ _ _ _ M _ _=>M)
  ⟨⟨L.congr (λi _=>by simp[iJ,BR]),G⟩,k⟩
  (λx=>{tmps:=#[v,bX z m.n a,undef,undef,bX cw 0 0,dE w1.h.s 0,bU cq (x.val:Int),v,dE w.h.s 0,bX z m.n a,.func (.func 262) #[] #[dE (w1.h.s+1) 0],bU cq (x.val:Int),undef,undef,undef,undef,undef,undef],defers:=[]}) ?assign ?body ?done ?stop
 case assign=>intro F x W K y;gi_wp2;exact y
 case body=>
  rintro F b x W ⟨⟨d,hc⟩,g⟩ _;have F:(x.val:Int)<(4096:Int):=by have:=x.isLt;omega
  have I:=d.cell x.isLt;have U:=d.frozen x.val;simp only[iJ] at I;gi_wp2;refine⟨KeepsOthers.setCell _ _ _,Kept.setCell _ (eN _) jv,⟨d.GQ _ cy (λj _=>by rw[JT];grind),?_⟩,g.setCell (p:=⟨w.h.s,x.val,cw⟩) (eN _) _⟩;rw[yD (I6 W _ _ _ jv)];exact hc
 case done=>rintro D F W F rfl ⟨⟨d,hc⟩,g⟩ y;have J:cM W w.h.s 249 4096 (iJ (λn=>rA l n&& !rA m n)):=d.congr (λi X=>by simp only[iJ];rw[GR m X]);have C:D<W.h.s:=(rN.1 y).1;gi_wp2_with ((refine⟨iG,?_⟩;gi_at_call 158;refine(ue.2 (PG _ _ _ J)).mono ?_;rintro e F ⟨r,rfl,N,o⟩));have c:=(o.block D C).trans y;refine⟨by simp,.inl ⟨_,_,ae,run_takeDeferred c,?_⟩⟩;exact⟨_,results_tmp ae _ _ _,r,ae,nX.mono (ownsRow_putObj N _ c ae) g.s,(Below.step g g.s o).trans (belowK_b (w:=w) (eN _) F D _ _ cN c ae ae)⟩
 case stop=>grind
def Y3(v u:c7)(l m:List (Int×Int))(w:cS)(b:fm w v l)(a:fm w u m):
 CP_ 287 #[v,u] w λe w'=>∃r,e=cj r/\nX w' w.h.s r (iN (λn=>rA l n&& !rA m n))/\dR w w':=ue.1 (Wt v u l m w b a)
def jQ(a b:List (Int×Int)):List (Int×Int):=iN λn=>rA a n&& !rA b n
def pO(a b:List (Int×Int)):List kQ:=if(gT a&&gT b)=cx then(jQ a b).map (Prod.mk cy)++(jQ b a).map (Prod.mk cx) else []
def Tr(a b:List (Int×Int)):(jQ a b).n<=4096:=uJ _ _
theorem LD(a b:List (Int×Int)):∀x∈jQ a b,fh x.1/\fh x.2:=JQ (qY _)
theorem F4{f:dU}{a:Nat}{t:Nat}{b:List c7}(q:e≠f)(h:w.ownsRow base e size v n xs)(j:w.ownsRow base' f a v' t b):v.ownBlock=cw∨v.ownBlock≠v'.ownBlock:=by rcases h.2 with⟨rfl,x⟩|⟨g,cap,i,rfl,y,z,A,hc,B,C⟩;exact .inl ae;rcases j.2 with⟨rfl,k⟩|⟨u,c,d,rfl,l,o,p,m,r,s⟩;grind[Value.ownBlock];grind[Value.ownBlock]
theorem me{w w':cS}{base:Nat}{e:dU}{size:Nat}{v:c7}{n:Nat}{xs:List c7}(h:w.ownsRow base e size v n xs)(a:dR w w'):w'.ownsRow base e size v n xs:=
 h.kept (row:=cw) ⟨a.os,a.tape,a.output,a.s,λk b _=>a.block k b⟩ (BG _)
theorem PH{cap:Nat}(h:nX w base (bX ao n cap) l)(i:k<l.n):
 ∃b,ao=cu ⟨b,0,cw⟩/\b<w.h.s/\w.cell? ⟨b,k*2,cw⟩=cu (.int cq l[k].1)/\w.cell? ⟨b,k*2+1,cw⟩=cu (.int cq l[k].2):=by rcases h.2 with⟨_,j⟩|⟨g,c,e,f,p,q,r,hc,s,t⟩;omega;have a:=f;simp only[ly] at a;obtain⟨rfl,rfl,rfl⟩:=a;have d:w.ownsRow base 141 2 (bX (s_ g 0) l.n cap) l.n (jw l):=h;have m:=d.cellAt (k*2) cN;have o:=d.cellAt (k*2+1) cN;have⟨h3,h4⟩:=wz l k i;grind
theorem Ts(h:nX w base v l):∃ao cap,v=bX ao l.n cap:=by rcases h.2 with⟨rfl,c⟩|⟨g,a,b,rfl,_⟩<;>grind
theorem Dq{a b c:c7}(e:n=w.h.s):∀j u,[a,b,c][j]?=cu u->(w.alloc (.cells #[a,b,c] t)).cell? ((⟨n,0,cw⟩:Addr).add j)=cu u:=by
 intro j u d;subst e
 match j,d with
 |0,d=>simp_all[Addr.add]
 |1,d=>simp_all[Addr.add]
 |2,d=>simp_all[Addr.add]
 |j+3,d=>simp at d
def BS(t:Bool)(a b:Int):∀u∈ [Value.bool t,Value.int cq a,Value.int cq b],u.oneCell'=cx:=by intro u c;simp at c;rcases c with rfl|rfl|rfl<;>rfl
theorem LF(t:Bool)(h:k<C.n):kR ((C.take (k+1)).map (Prod.mk t))=kR ((C.take k).map (Prod.mk t))++[bZ t,bU cq C[k].1,bU cq C[k].2]:=by rw[yv h,nL,vQ];rfl
theorem Tt{a b:List (Int×Int)}:∀x∈pO a b,fh x.2.1/\fh x.2.2:=by intro x c;unfold pO at c;split at c;rcases gH.1 c with h|h;obtain⟨y,d,rfl⟩:=gI.1 h;grind[LD];obtain⟨y,d,rfl⟩:=gI.1 h;grind[LD];grind
theorem JV{a b:List (Int×Int)}(h:(gT a&&gT b)=cy):pO a b=[]:=by grind[pO]
theorem Tu{a b D:List (Int×Int)}(e:gT a=cx)(f:gT b=cx)(c:C=jQ a b)(d:D=jQ b a):pO a b=C.map (Prod.mk cy)++D.map (Prod.mk cx):=by grind[pO]
def acW(v u:c7)(a b:List (Int×Int))(w:cS)(U:fm w v a)(T:fm w u b):
 CP_ 277 #[v,u] w λe w'=>∃r,e=cj r/\tP w' r (pO a b)/\dR w w':=by
 have⟨i0,hi,hz0,hz1,hz2⟩:=oG PF;have N:=cz U;clear U;have M:=cz T;clear T;have⟨r,HR⟩:=sO (gT a);have⟨s,HS⟩:=sO (gT b);have⟨C,HC⟩:=yB (jQ a b);have⟨D,HD⟩:=yB (jQ b a);have Z:C.n<=4096:=by rw[HC.o];exact Tr a b
 have F:D.n<=4096:=by rw[HD.o];exact Tr b a
 have L:Hid (∀x∈pO a b,fh x.2.1/\fh x.2.2):=Tt;have A:=gJ w.h.s w;go_enter func277,ntmps277;go_wp2_with fail;refine aj (uL r _ a HR.o _ (N.o.cP A)) λw1 G=>?_;have q:=Below.step A A.s G;cases r with|false=>go_wp2;go_ret;refine⟨_,ae,?_,q⟩;rw[JV (by rw[HR.o,HS.o];rfl)];exact tQ _|true=>
 go_wp2_with fail;refine aj (uL s _ b HS.o _ (M.o.cP q)) λF H=>?_;have l:=Below.step q q.s H;cases s with|false=>go_wp2;go_ret;refine⟨_,ae,?_,l⟩;rw[JV (by rw[HR.o,HS.o];rfl)];exact tQ _|true=>
 go_wp2_with fail;refine(Y3 _ _ a b _ (N.o.cP l) (M.o.cP l)).mono ?_;rw[show(iN λn=>rA a n&& !rA b n)=C from HC.o.symm];rintro e F ⟨z,rfl,g,I⟩;replace g:=nX.mono g l.s;obtain⟨ao,cap,rfl⟩:=Ts g;go_wp2_with fail
 go_loopw [5,22] (λx i wr=>∃k:Nat,k<=C.n/\i=bU cq k/\wr.ownsRow w.h.s 334 3 x k (kR ((C.take k).map (Prod.mk cy)))/\nX wr w.h.s (bX ao C.n cap) C/\dR w wr)
  (λ_ i _=>C.n-(intOf i).m)
 exact⟨0,gw _,ae,me (me (me (iD w w.h.s 334 3) G) H) I,g,Below.step l l.s I⟩;clear g;obtain⟨k,G,rfl,c,g,hbel⟩:=hrel;have p:=hbel.size;by_cases m:k<C.n
 . obtain⟨V,rfl,Q,X,Y⟩:=PH g m;have t:=cz c.lt;go_wp2_with (first|(at_builtin;refine yE _ ae _ _ 294 ae w.h.s 334 i0 (bV #[bZ cy,bU cq 0,bU cq 0]) 3 24 underlying294 hi hz0 hz1 hz2 ae kB _ _ _ ae ((c.alloc _).alloc _) ⟨wr.h.s+1,0,cw⟩ 1 1 [bZ cy,bU cq C[k].1,bU cq C[k].2] ae ae (Dq eQ) (BS _ _ _) amW cN aF ?_;intro v' w1 f d _));go_roundw;refine⟨k+1,cN,by go_num,?_,World.ownsRow.kept (Q1 (Q1 g _) _) d (F4 kB g c),((hbel.alloc p _).alloc aF _).grown d aF (λj h=>(t.o j h).1)⟩;rw[LF cy m];exact f;exact pR
 . have B:k=C.n:=cN;subst B;rw[qq] at c;go_wp2_with fail;refine(Y3 _ _ b a _ (M.o.cP hbel) (N.o.cP hbel)).mono ?_;rw[show(iN λn=>rA b n&& !rA a n)=D from HD.o.symm];rintro e w4 ⟨y,rfl,K,J⟩;have F:=Below.step hbel p J;have o:=me c J;replace K:=nX.mono K p;obtain⟨O,E,rfl⟩:=Ts K;clear c g hbel;go_wp2_with fail
   go_loopw [5,36] (λx i wr=>∃k:Nat,k<=D.n/\i=bU cq k/\wr.ownsRow w.h.s 334 3 x (C.n+k) (kR (C.map (Prod.mk cy))++kR ((D.take k).map (Prod.mk cx)))/\nX wr w.h.s (bX O D.n E) D/\dR w wr)
    (λ_ i _=>D.n-(intOf i).m)
   exact⟨0,gw _,ae,by simpa[kR] using o,K,F⟩;clear o K F;obtain⟨k,G,rfl,c,g,hbel⟩:=hrel;have p:=hbel.size;by_cases m:k<D.n
   . obtain⟨V,rfl,Q,X,Y⟩:=PH g m;have t:=cz c.lt;go_wp2_with (first|(at_builtin;refine yE _ ae _ _ 294 ae w.h.s 334 i0 (bV #[bZ cy,bU cq 0,bU cq 0]) 3 24 underlying294 hi hz0 hz1 hz2 ae kB _ _ _ ae ((c.alloc _).alloc _) ⟨wr.h.s+1,0,cw⟩ 1 1 [bZ cx,bU cq D[k].1,bU cq D[k].2] ae ae (Dq eQ) (BS _ _ _) amW cN aF ?_;intro v' w1 f d _));go_roundw;refine⟨k+1,cN,by go_num,?_,World.ownsRow.kept (Q1 (Q1 g _) _) d (F4 kB g c),((hbel.alloc p _).alloc aF _).grown d aF (λj h=>(t.o j h).1)⟩;rw[LF cx m,<-wP];exact f;exact pR
   . have B:k=D.n:=cN;subst B;rw[qq,<-vQ] at c;have R:Hid (pO a b=C.map (Prod.mk cy)++D.map (Prod.mk cx)):=Tu HR.o HS.o HC.o HD.o;go_wp2;go_ret;refine⟨_,ae,Dp (base:=w.h.s) (e:=334) ?_ L.o ?_,hbel⟩;rw[R.o,ji,mQ,mQ];exact c;rw[R.o,ji,mQ,mQ];omega
def Q2(u:c7)(b:List (Int×Int))(w:cS)(c:fm w u b):
 CP_ 248 #[u] w λe w'=>∃r,e=cj r/\tP w' r (pO [] b)/\dR w w':=by have d:=cz c;clear c;go_enter func248,ntmps248;go_wp2_with fail;refine ah (acW _ _ [] b _ (tO _) d.o) λr w1⟨f,a⟩=>?_;go_wp2;go_ret;exact⟨_,ae,f,a⟩
def qF(f:Nat->Bool)(s:Nat)(t:Bool)(k:Nat):Bool:=(range k).any λj=>f (s+j)==t
def yF(f:Nat->Bool)(s:Nat)(t:Bool)(k:Nat):Nat->Bool:=λn=>if s<=n/\n<s+k then t else f n
def rB:(Nat->Bool)->List kQ->Option (Nat->Bool)
 |f,[]=>cu f
 |f,x::r=>if(ku x.2.1 x.2.2&& !qF f x.2.1.m x.1 x.2.2.m)=cx then rB (yF f x.2.1.m x.1 x.2.2.m) r else cw
def uM(l:List (Int×Int))(a:List kQ):Option (List (Int×Int)):=
 if gT l=cx then(rB (qC l) a).map iN else cw
theorem Q3(f:Nat->Bool)(s:Nat)(t:Bool)(k:Nat):qF f s t (k+1)=(qF f s t k||(f (s+k)==t)):=by grind[qF]
theorem Q4{f:Nat->Bool}{s:Nat}{t:Bool}(h:qF f s t k=cx)(a:k<=m):qF f s t m=cx:=by grind[qF]
theorem acX(f:Nat->Bool)(s:Nat)(t:Bool)(k:Nat):yF f s t k (s+k)=f (s+k):=by simp_all[yF]
theorem Wu(f:Nat->Bool)(s:Nat)(t:Bool)(n:Nat):yF f s t 0 n=f n:=by simp_all[yF,cZ]
theorem Wv(f:Nat->Bool)(s:Nat)(t:Bool)(k n:Nat):yF f s t (k+1) n=if n=s+k then t else yF f s t k n:=by unfold yF;grind
theorem aaw(s l:Int):gT [(s,l)]=ku s l:=by rw[wM];unfold gT;rw[ig];constructor;grind;intro h;have a:=(gg _ _).1 h;exact⟨h,cN,ae⟩
theorem Tv{f:Nat->Bool}{x:kQ}{r:List kQ}(h:ku x.2.1 x.2.2=cy):rB f (x::r)=cw:=by grind[rB]
theorem Oz{f:Nat->Bool}{x:kQ}{r:List kQ}(h:qF f x.2.1.m x.1 x.2.2.m=cx):rB f (x::r)=cw:=by grind[rB]
theorem GS{f:Nat->Bool}{x:kQ}{r:List kQ}(a:ku x.2.1 x.2.2=cx)(h:qF f x.2.1.m x.1 x.2.2.m=cy):rB f (x::r)=rB (yF f x.2.1.m x.1 x.2.2.m) r:=by grind[rB]
def F5(t:Bool)(s l:Int)(i:fh s/\fh l)(w:cS):
 tf 246 #[bV #[bZ t,bU cq s,bU cq l]] w (bZ (ku s l)):=by
 have m:=cz i;clear i;have⟨b,hb⟩:=dI (ku s l);rw[hb];have j:Hid (gT [(s,l)]=b):=(aaw s l).trans hb;clear hb;have⟨W0,hW0⟩:=fP (w.alloc (.cells #[bZ t,bU cq s,bU cq l] 334));have g:W0.h.s=w.h.s+1:=by rw[hW0];simp
 have a:dR w W0:=by rw[hW0];exact aR
 have h:fm (W0.alloc (.cells #[bU cq s,bU cq l] 141)) (bX (s_ W0.h.s 0) 1 1) [(s,l)]:=
  Ws W0 [(s,l)] _ _ ae (by simpa using m.o) eQ _ _ ae
 have k:=cz h;clear h;go_enter func246,ntmps246;go_wp2_with fail;rw[<-hW0];try rw[<-g]
 have c:=a.alloc a.s (.cells #[bU cq s,bU cq l] 141);refine aj (uL b _ _ j.o _ k.o) λn f=>?_;have d:=Below.step c c.s f;go_wp2;go_ret;exact⟨ae,d⟩
def Ww(o:Option (List (Int×Int))):Int:=if o.isSome=cx then 0 else 81
theorem afZ{a:List kQ}(h:k<a.n):a.drop k=a[k]::a.drop (k+1):=by simp_all
theorem Tw(A:gE)(k:Nat)(b:Bool)(a:k<4096)(h:A[k]?=cu (.bool b))(w:cS):
 (Instr.index 248 (bV A) (bU cq k)).run prog w=.ok (bZ b) w:=by simp_all[Instr.index,asIntOf,part]
theorem Wx(h:gT l=cx)(a:n<4096):pW (nV l) n=qC l n:=by rw[JU h];unfold pW;rw[wM,qS,LA,vN];grind
theorem acY(h:gT l=cx)(a:k<(nV l).n):0<=(nV l)[k]/\(nV l)[k]<4096:=by grind[LA,JU,getElem_mem,vN]
def K5:(prog.info? 5).map (λi=>(i.zero,i.s,i.bytes))=cu (cu (.int .u8 0),1,1):=dC
def acZ:(prog.info? 82).map (λi=>(i.zero,i.s,i.bytes))=cu (cu (.int ct 0),1,8):=dC
def LG(w:cS):CP_ 245 #[] w λe w'=>∃b,e=cj (bX (cu ⟨b,0,cw⟩) 3 3)/\eT cq w' (bX (cu ⟨b,0,cw⟩) 3 3) [1,2,2]/\b=w.h.s/\dR w w':=by go_enter func245,ntmps245;go_wp2;go_ret;exact⟨_,ae,Pz w [1,2,2] _ _ ae kB kB _ _ ae,ae,(gJ _ _).alloc (eN _) _⟩
def dN(l:cV):List Int:=l.map λ(n:Nat)=>(n:Int)
theorem dA(l:cV):(dN l).n=l.n:=by grind[dN]
theorem tj(l:cV)(k:Nat)(h:k<(dN l).n):(dN l)[k]=((l[k]'(by grind[dA]):Nat):Int):=getElem_map _
def okW(ws:cV):Bool:=ws.all λw=>decide (1<=w/\w<=8)
def qQ(w n:Nat):cV:=(range w).map λk=>n/256^k%256
def kT:cV->cV->cV
 |w::ws,n::ns=>qQ w n++kT ws ns
 |_,_=> []
def fitAll:cV->cV->Bool
 |w::ws,n::ns=>decide (n<256^w)&&fitAll ws ns
 |_,_=>cx
def vR(ws ns:cV):Option cV:=if okW ws=cx/\ns.n=ws.n/\fitAll ws ns=cx then cu (kT ws ns) else cw
theorem K6(k:Nat):(2:Int)^(8*k)=((256^k:Nat):Int):=by
 have h:(2:Nat)^(8*k)=256^k:=by rw[Nat.pow_mul]
 grind
theorem gh(w n:Nat):(qQ w n).n=w:=by grind[qQ]
theorem yG(w n:Nat):∀x∈qQ w n,x<256:=by intro x a;unfold qQ at a;grind
theorem ac0(w n k:Nat)(h:k<w):(qQ w n).take (k+1)=(qQ w n).take k++[n/256^k%256]:=by grind[take_succ_eq_append_getElem,qQ]
theorem Wy(ws ns:cV)(k:Nat)(h:k<ws.n)(b:k<ns.n):
 kT (ws.take (k+1)) (ns.take (k+1))=kT (ws.take k) (ns.take k)++qQ ws[k] ns[k]:=by induction ws generalizing ns k with|nil=>grind|cons a ws ih=>cases ns with|nil=>grind|cons n ns=>cases k<;>grind[kT]
theorem Tx(ws ns:cV)(k:Nat)(h:k<ws.n)(b:k<ns.n):
 fitAll (ws.take (k+1)) (ns.take (k+1))=(fitAll (ws.take k) (ns.take k)&&decide (ns[k]<256^ws[k])):=by induction ws generalizing ns k with|nil=>grind|cons a ws ih=>cases ns with|nil=>grind|cons n ns=>cases k<;>grind[fitAll]
theorem aax(h:k<ws.n)(b:k<ns.n)(c:¬ns[k]<256^ws[k]):fitAll ws ns=cy:=by induction ws generalizing ns k with|nil=>grind|cons a ws ih=>cases ns with|nil=>grind|cons n ns=>unfold fitAll;grind
theorem ac1(ws:cV)(k:Nat)(h:k<ws.n):okW (ws.take (k+1))=(okW (ws.take k)&&decide (1<=ws[k]/\ws[k]<=8)):=by grind[okW,take_succ_eq_append_getElem]
theorem ah4(h:k<ws.n)(a:¬(1<=ws[k]/\ws[k]<=8)):okW ws=cy:=by grind[okW,getElem_mem]
theorem Q5(h:okW ws=cx)(a:k<ws.n):1<=ws[k]/\ws[k]<=8:=by simp_all[okW]
def sY(ws:cV):Nat:=ws.sum
theorem I8(ws:cV)(k:Nat)(h:k<ws.n):sY (ws.take (k+1))=sY (ws.take k)+ws[k]:=by grind[sY,take_succ_eq_append_getElem]
theorem Q6(ws:cV)(h:okW ws=cx):sY ws<=8*ws.n:=by
 induction ws with
 |nil=>simp_all[sY]
 |cons a ws ih=>
  have b:=Q5 h (k:=0) eQ;have c:okW ws=cx:=by simp_all[okW]
  grind[sY]
theorem sq(h:ns.n=ws.n):(kT ws ns).n=sY ws:=by induction ws generalizing ns with|nil=>rfl|cons a ws ih=>cases ns<;>grind[kT,sY,gh]
theorem wW(ws ns:cV):∀x∈kT ws ns,x<256:=by induction ws generalizing ns with|nil=>grind[kT]|cons a ws ih=>cases ns<;>grind[kT,yG]
def yH(ws:cV):Int:=if okW ws=cx then(sY ws:Nat) else 0
theorem I9(v:c7)(ws:cV)(M:ws.n<=4096)(w:cS)(K:eT cq w v (dN ws)):
 CP_ 72 #[v] w λe w'=>e=cj (cg #[bU cq (yH ws),bZ (okW ws)])/\w=w':=by
 obtain⟨ao,cap,rfl,p,_,n⟩:=K;have E:=cz n;clear n;rw[dA] at p|-;go_enter func72,ntmps72;go_wp2_with fail
 go_loop [4,6,9] (λs _ i=>∃(k q:Nat),k<=ws.n/\i=bU cq k/\s=bU cq q/\Hid (q=sY (ws.take k))/\Hid (okW (ws.take k)=cx)/\q<=8*k)
  (λ_ _ i=>ws.n-(intOf i).m)
 exact⟨0,0,gw _,ae,ae,by simp[Hid,sY],by simp[Hid,okW],cN⟩;obtain⟨k,q,L,rfl,rfl,C,F,N⟩:=hrel;by_cases d:k<ws.n
 . obtain⟨b,o,rfl,I,a⟩:=E.o bO;have hc:=a k (by rw[dA];exact d);rw[tj] at hc;clear a;have z:=cz (I8 ws k d);have u:=cz (ac1 ws k d);by_cases c:1<=ws[k]/\ws[k]<=8
   . (have f:Hid (okW (ws.take (k+1))=cx):=by unfold Hid;rw[u.o,F.o,gM c];rfl);(have⟨x,hx⟩:=dI (ws[k]);rw[hx] at hc c;have G:=cz hx;clear hx;have j:Hid (q+x=sY (ws.take (k+1))):=by unfold Hid;rw[z.o,C.o,G.o]);have l:¬(x:Int)<1:=cN;have A:¬(8:Int)<(x:Int):=cN;have m:decide ((x:Int)<1)=cy:=jG l;have B:decide ((8:Int)<(x:Int))=cy:=jG A;have r:(k:Int)<(ws.n:Int):=cN;go_wp2;go_round;grind;exact pR
   . (have g:=ah4 d c;have D:yH ws=0:=by unfold yH;rw[g];rfl);have t:=cz g;clear g;have y:=cz D;clear D;have⟨x,hx⟩:=dI (ws[k]);rw[hx] at hc c;clear hx;have r:(k:Int)<(ws.n:Int):=cN;by_cases H:x<1;have l:(x:Int)<1:=cN;have m:decide ((x:Int)<1)=cx:=gM l;rotate_left;have l:¬(x:Int)<1:=cN;have A:(8:Int)<(x:Int):=cN;have m:decide ((x:Int)<1)=cy:=jG l;have B:decide ((8:Int)<(x:Int))=cx:=gM A
     all_goals
      clear c H;go_wp2;refine iH (v:=cg #[bU cq 0,bZ cy]) (by simp[results,results72,go_sem]) ae ⟨by rw[y.o,t.o],ae⟩
 . (obtain rfl:k=ws.n:=cN;have f:Hid (okW ws=cx):=by grind);(have j:Hid (yH ws=(q:Nat)):=by unfold Hid yH;rw[f.o,df ae,C.o,qq]);have J:¬(ws.n:Int)<(ws.n:Int):=cN;go_wp2;refine iH (v:=cg #[bU cq q,bZ cx]) (by simp[results,results72,go_sem]) ae ⟨by rw[j.o,f.o],ae⟩
def mN(w:cS)(base:Nat)(v:c7)(l:cV):Prop:=w.ownsRow base 5 1 v l.n (l.map λ(n:Nat)=>Value.int .u8 (n:Int))
def gi{α:Type}(c:Int)(o:Option α):Int:=if o.isSome=cx then 0 else c
theorem af0(x q:Nat):(x:Int)/2^(8*q)=((x/256^q:Nat):Int):=by grind[K6]
theorem ac3{x y:Nat}(d:1<=y/\y<=8)(b:Bool)(a:decide (x<256^y)=b):((x:Int)/2^(8*y) !=0)= !b:=by rw[K6,show(x:Int)/((256^y:Nat):Int)=((x/256^y:Nat):Int) from(Int.natCast_ediv x (256^y)).symm,<-a];have c:0<256^y:=Nat.pow_pos kB;by_cases h:x<256^y;grind[div_eq_of_lt];rw[jG h];have:0<x/256^y:=div_pos cN c;grind
theorem GU(v u:c7)(ws ns:cV)(L:ws.n<=4096)(w:cS)(H:eT cq w v (dN ws))(I:eT ct w u (dN ns)):
 CP_ 73 #[v,u] w λe w'=>∃r,e=cj (cg #[r,bU cq (gi 21 (vR ws ns))])/\mN w' w.h.s r ((vR ws ns).getD [])/\dR w w':=by
 have⟨i0,hi,hz0,hz1',hz2⟩:=oG K5;have K:=cz H;obtain⟨ao,cap,rfl,G,_,F⟩:=H;obtain⟨H,H,rfl,U,N,H⟩:=I;have Y:=cz F;clear F;have I:=cz H;clear H;clear N;rw[dA] at G U;have G:=iD w w.h.s 5 1;have A:Hid (mN w w.h.s (bX cw 0 0) []):=G;clear G;rw[dA,dA];rw[dA] at K;by_cases l:okW ws=cx
 case neg=>
  have F:okW ws=cy:=by simpa using l
  have R:vR ws ns=cw:=by unfold vR;grind
  have O:yH ws=0:=by unfold yH;rw[F];rfl
  rw[R];have g:=cz F;clear l F R;have F:=cz O;clear O;go_enter func73,ntmps73;go_wp2_with fail;refine(I9 _ ws L _ K.o).mono ?_;rw[g.o,F.o];rintro e w1 ⟨rfl,rfl⟩;go_wp2;refine iH (v:=cg #[bX cw 0 0,bU cq 21]) (by simp[results,results73,go_sem]) ae ⟨_,ae,A.o,gJ _ _⟩
 by_cases j:ns.n=ws.n
 case neg=>
  have R:vR ws ns=cw:=by unfold vR;grind
  rw[R];have O:yH ws=(sY ws:Nat):=by unfold yH;rw[l];rfl
  have G:((ns.n:Int)!=(ws.n:Int))=cx:=by rw[fJ];omega
  have g:=cz l;clear l R j;have F:=cz O;clear O;go_enter func73,ntmps73;go_wp2_with fail;refine(I9 _ ws L _ K.o).mono ?_;rw[g.o,F.o];rintro e w1 ⟨rfl,rfl⟩;go_wp2;refine iH (v:=cg #[bX cw 0 0,bU cq 21]) (by simp[results,results73,go_sem]) ae ⟨_,ae,A.o,gJ _ _⟩
 have O:yH ws=(sY ws:Nat):=by unfold yH;rw[l];rfl
 have H:=Q6 ws l;have⟨Z,HZ⟩:=sO (sY ws);rw[HZ.o] at O H;have G:((ns.n:Int)!=(ws.n:Int))=cy:=by grind
 have g:=cz l;clear l;have F:=cz O;clear O;have f:=cz j;have⟨PS,HPS⟩:=sO (vR ws ns);rw[HPS.o];have H:ws.n<=4096:=L;rw[j] at G|-;clear j U;go_enter func73,ntmps73;go_wp2_with fail;refine(I9 _ ws L _ K.o).mono ?_;rw[g.o,F.o];rintro e w1 ⟨rfl,rfl⟩;go_wp2_with fail
 go_loop [8,9,30] (λ_ _ i=>∃k:Nat,k<=ws.n/\i=bU cq k/\Hid (fitAll (ws.take k) (ns.take k)=cx))
  (λ_ _ i=>ws.n-(intOf i).m)
 exact⟨0,gw _,ae,by simp[Hid,fitAll]⟩;obtain⟨k,hk,rfl,H⟩:=hrel;by_cases n:k<ws.n
 . (obtain⟨b,o,rfl,L,c⟩:=Y.o bO;obtain⟨ub,U,rfl,T,a⟩:=I.o anx;have hc:=c k (by rw[dA];exact n);have E:=a k (by rw[dA];have:=f.o;omega);rw[tj] at hc E;clear c a;have K:k<ns.n:=by have:=f.o;omega);have D:=Q5 g.o n;have V:=cz (Tx ws ns k n K);have N:=λh=>aax (ws:=ws) (ns:=ns) (k:=k) n K h;have⟨x,hx⟩:=dI (ns[k]);have⟨y,hy⟩:=dI (ws[k]);rw[hy] at hc D V N;rw[hx] at E V N;have G:=cz N;clear N;have O:(k:Int)<(ws.n:Int):=cN;have⟨bb,hbb⟩:=dI (decide (x<256^y));have F:=ac3 D bb hbb;have F:=cz hbb;clear hbb;clear hx hy;have N:(8:Int)*(y:Int)<=64:=cN;have N:(0:Int)<=8*(y:Int):=cN;cases bb with|true=>(have N:Hid (fitAll (ws.take (k+1)) (ns.take (k+1))=cx):=by unfold Hid;rw[V.o,H.o,F.o];rfl);go_wp2;go_round;grind;exact pR|false=>(have R:PS=cw:=by rw[<-HPS.o];unfold vR;rw[cZ (by intro h;rw[G.o (yw F.o)] at h;grind)]);have G:=cz R;clear R;go_wp2;refine iH (v:=cg #[bX cw 0 0,bU cq 21]) (by simp[results,results73,go_sem]) ae ⟨_,by rw[G.o];rfl,by rw[G.o];exact A.o,gJ _ _⟩
 . (obtain rfl:k=ws.n:=cN;have N:¬(ws.n:Int)<(ws.n:Int):=cN;have F:Hid (fitAll ws ns=cx):=by have:=H.o;rw[qq,<-f.o,qq] at this;exact this);(have H:PS=cu (kT ws ns):=by rw[<-HPS.o];unfold vR;rw[df ⟨g.o,f.o,F.o⟩]);have G:=cz H;clear H;go_wp2_with (refine LH (o:=⟨cu 45,_,_,_,_,_⟩) _ ae _ _ 22 ae w.h.s 5 i0 (bU .u8 0) 1 oT hi hz0 hz1' cq cq _ Z ae ae ae ame aN (eN _) ?_;intro R H B);have F:dR w R:=(gJ _ _).grown B (eN _) (λk e=>by cases e);have X:Hid (mN R w.h.s (bX (s_ w.h.s 0) 0 Z) (kT (ws.take 0) (ns.take 0))):=H;clear B H
   go_loopw [10,48] (λv i wr=>∃k:Nat,k<=ws.n/\i=bU cq k/\Hid (mN wr w.h.s v (kT (ws.take k) (ns.take k)))/\dR w wr)
    (λ_ i _=>ws.n-(intOf i).m)
   grind;clear X F;obtain⟨k,hk,rfl,t,hbel⟩:=hrel;by_cases n:k<ws.n
   . (obtain⟨b,o,rfl,L,c⟩:=Y.o bO;obtain⟨ub,U,rfl,T,a⟩:=I.o anx;have hc:=(hbel.cell (p:=⟨b,o+k,cw⟩) L).trans (c k (by rw[dA];exact n));have E:=(hbel.cell (p:=⟨ub,U+k,cw⟩) T).trans (a k (by rw[dA];have:=f.o;omega));rw[tj] at hc E;clear c a;have K:k<ns.n:=by have:=f.o;omega);(have D:=Q5 g.o n;have J:=cz (Wy ws ns k n K);have⟨x,hx⟩:=dI (ns[k]);have⟨y,hy⟩:=dI (ws[k]);rw[hy] at hc D J;rw[hx] at E J;clear hx hy;have Y:(kT (ws.take k) (ns.take k)).n<=32768:=by rw[sq jv];have F:=Q6 (ws.take k) (by unfold okW;rw[rz];intro z F;have:=g.o;unfold okW at this;rw[rz] at this;exact this z (lQ F));grind);(have⟨L,hL⟩:=dI (kT (ws.take k) (ns.take k));rw[hL] at t J Y;clear hL;have Q:Hid (mN wr w.h.s u10 (L++(qQ y x).take 0)):=by grind);clear t;have O:(k:Int)<(ws.n:Int):=cN;go_wp2_with fail
     go_loopw [10,57] (λv i F=>∃q:Nat,q<=y/\i=bU cq q/\Hid (mN F w.h.s v (L++(qQ y x).take q))/\dR w F)
      (λ_ i _=>y-(intOf i).m)
     exact⟨0,gw _,ae,Q,hbel⟩;clear Q hbel hc E;obtain⟨q,F,rfl,t,hbel⟩:=hrel;have F:=hbel.size;by_cases F:q<y
     . (have H:(q:Int)<(y:Int):=cN;have I:=af0 x q;have H:=cz (ac0 y x q F);have⟨d,hd⟩:=dI (x/256^q);rw[hd] at I H;clear hd;have F:(L++(qQ y x).take q).n<=32776:=by rw[ji,lP,gh];omega);have s:=t.o;unfold mN at s;have⟨M,HM⟩:=sO (L++(qQ y x).take q);rw[HM.o] at s F;clear t;have F:=cz s.lt;have I:(8:Int)*(q:Int)<=64:=cN;have I:(0:Int)<=8*(q:Int):=cN;go_wp2_with (at_builtin;refine yE _ ae (.tmp 60) (.tmp 66) 22 ae w.h.s 5 i0 (bU .u8 0) 1 1 oT hi hz0 hz1' hz2 ae kB _ _ _ ae (s.alloc _) ⟨wr.h.s,0,cw⟩ 1 1 [bU .u8 ((d:Int)%256)] ae ae (cell_one_new _ _ _) bg aN cN aF ?_;intro v' O I C _);(have K:=(hbel.alloc cN (.cells #[bU .u8 ((d:Int)%256)] 5)).grown C aF (λk h=>(F.o k h).1);have m:Hid (mN O w.h.s v' (L++(qQ y x).take (q+1))):=by unfold Hid mN;rw[H.o,<-wP,HM.o,ji,nL];exact I);clear I C s;go_roundw;exact⟨q+1,cN,by go_num,m,K⟩;exact pR
     . (obtain rfl:q=y:=cN;have N:¬(q:Int)<(q:Int):=cN;have m:Hid (mN wr w.h.s u10 (kT (ws.take (k+1)) (ns.take (k+1)))):=by unfold Hid;rw[J.o];have:=t.o;rw[nU (by rw[gh];exact eN _)] at this;exact this);go_wp2;go_roundw;exact⟨k+1,cN,by go_num,m,hbel⟩;exact pR
   . (obtain rfl:k=ws.n:=cN;have N:¬(ws.n:Int)<(ws.n:Int):=cN;have m:Hid (mN wr w.h.s u10 ((PS).getD [])):=by unfold Hid;rw[G.o];have:=t.o;rw[qq,<-f.o,qq] at this;exact this);(have F:Hid (gi 21 PS=0):=by unfold Hid;rw[G.o];rfl);go_wp2;refine iH (v:=cg #[u10,bU cq 0]) (by simp[results,results73,go_sem]) ae ⟨_,by rw[F.o],m.o,hbel⟩
def yI(v:c7):Prop:=∃a n c,v=bX a n c/\n<=c
def Eo:yI (bX cw 0 0):=⟨_,_,_,ae,eN _⟩
def Wz(h:w.ownsRow base e size v n xs):yI v:=by rcases h.2 with⟨rfl,b⟩|⟨g,cap,a,rfl,c,d,f,hc,i,j⟩;exact Eo;exact⟨_,_,_,ae,cN⟩
theorem ac4:prog.underlying 22=cu (.slice (prog.elem 22)):=dC
theorem ah5(W:cS):(sizeOf (prog.elem 22)).run prog W=.ok 1 W:=by rfl
def lz(a:Option Addr)(c y s:Nat):Option Addr:=if c=y then a else a.map (·.add (y*s))
theorem ah6(a:Option Addr)(n c y:Nat)(b:y<=n)(W:cS):(Instr.slice 22 (bX a n c) (cu (.int cq y)) cw cw).run prog W=.ok (bX (lz a c y 1) (n-y) (c-y)) W:=by grind[run_slice_l,ac4,ah5,Result.andThen,sliced,lz]
theorem JW(b o c y s:Nat)(h:y<c):lz (cu ⟨b,o,cw⟩) c y s=cu ⟨b,o+y*s,cw⟩:=by unfold lz;rw[cZ cN,Ln];grind[Addr.add]
theorem Q7(b o c q:Nat):lz (cu ⟨b,o,cw⟩) c q 1=if c=q then cu ⟨b,o,cw⟩ else cu ⟨b,o+q,cw⟩:=by by_cases h:c=q;simp_all[lz];simp_all[lz,Addr.add]
theorem BT{k:IntKind}{y:Nat}{l:List Int}(h:eT k w (bX a n c) l)(m:y<=n)(hc:n<=c):eT k w (bX (lz a c y 1) (n-y) (c-y)) (l.drop y):=by
 have⟨ao,cap,h1,h2,h3,h4⟩:=h;simp only[ly] at h1;obtain⟨rfl,rfl,rfl⟩:=h1;refine⟨_,_,by rw[tY],by grind,λx f=>h3 x (mS f),λe=>?_⟩;have g:y<l.n:=by grind
 obtain⟨b,o,rfl,d,h6⟩:=h4 jv;refine⟨b,o+y,by rw[JW b o c y 1 cN,sM],d,λj i=>?_⟩;grind
theorem WD{k:IntKind}{y:Nat}{l:List Int}(h:eT k w (bX a n c) l)(f:y<=n):eT k w (bX a y c) (l.take y):=by have⟨ao,cap,h1,h2,h3,h4⟩:=h;simp only[ly] at h1;obtain⟨rfl,rfl,rfl⟩:=h1;refine⟨_,_,by rw[lP,vH f],by grind,λx e=>h3 x (lQ e),λd=>?_⟩;obtain⟨b,o,rfl,g,h6⟩:=h4 jv;grind
def jL:cV->Nat
 | []=>0
 |b::bs=>b+256*jL bs
def pz:cV->cV->cV
 |w::ws,bs=>jL (bs.take w)::pz ws (bs.drop w)
 | [],_=> []
def sw(ws bs:cV):Option cV:=if okW ws=cx/\bs.n=sY ws then cu (pz ws bs) else cw
theorem WJ(l:cV)(b:Nat):jL (l++[b])=jL l+b*256^l.n:=by induction l<;>grind[jL]
theorem LI(l:cV)(h:∀x∈l,x<256):jL l<256^l.n:=by induction l with|nil=>simp[jL]|cons a l ih=>have b:=h a eQ;grind[jL]
theorem ajC(n b q:Nat)(f:n<256^q)(e:b<256)(h:q<8):bits .or ct (n:Int) ((b:Int)*2^(8*q))=((n+b*256^q:Nat):Int):=by
 have g:256^q*256<=256^8:=by rw[<-Nat.pow_succ];exact QT kB cN
 have a:b*256^q<=255*256^q:=IW _ cN;have d:(256:Nat)^8=18446744073709551616:=by decide
 rw[K6,<-Int.natCast_mul,u64_or_nat n (b*256^q) cN cN];have c:=shiftLeft_add_eq_or_of_lt (b:=n) (i:=8*q) (by grind[Nat.pow_mul]) b;grind[shiftLeft_eq,Nat.pow_mul]
theorem af1(n b q:Nat)(e:n<256^q)(d:b<256)(g:q<8):bits .or ct (n:Int) (IntKind.u64.wrap ((b:Int)*2^(8*q)))=((n+b*256^q:Nat):Int):=by
 have f:256^q*256<=256^8:=by rw[<-Nat.pow_succ];exact QT kB cN
 have a:b*256^q<=255*256^q:=IW _ cN;have c:(256:Nat)^8=18446744073709551616:=by decide
 have h:IntKind.u64.wrap ((b:Int)*2^(8*q))=(b:Int)*2^(8*q):=by rw[K6,<-Int.natCast_mul];show(((b*256^q:Nat):Int))%18446744073709551616=_;omega
 grind[ajC]
def KM(w:cS)(base:Nat)(v:c7)(l:cV):Prop:=w.ownsRow base 82 1 v l.n (l.map λ(n:Nat)=>Value.int ct (n:Int))
theorem BU(l:cV)(k:Nat):(dN l).drop k=dN (l.drop k):=by grind[dN,map_drop]
theorem BV{l:cV}(h:∀x∈dN l,(Lit.int .u8 x).wf=cx):∀x∈l,x<256:=by intro x a;have:=h (x:Int) (gI.2 ⟨x,a,ae⟩);grind[Lit.wf,IntKind.max,IntKind.bits]
theorem Ty(ws bs:cV)(k:Nat)(h:k<ws.n):pz (ws.take (k+1)) bs=pz (ws.take k) bs++[jL ((bs.drop (sY (ws.take k))).take ws[k])]:=by induction ws generalizing bs k with|nil=>grind|cons a ws ih=>cases k<;>grind[pz,sY,drop_drop]
theorem OA(ws bs:cV):(pz ws bs).n=ws.n:=by induction ws generalizing bs<;>grind[pz]
theorem Tz(ws:cV)(k:Nat)(h:k<ws.n):sY (ws.take k)+ws[k]<=sY ws:=by rw[<-I8 ws k h];grind[sY,take_append_drop]
def JX(v u:c7)(ws bs:cV)(hl:ws.n<=4096)(w:cS)(hv:eT cq w v (dN ws))(hu:eT .u8 w u (dN bs))(m:yI u):
 CP_ 29 #[v,u] w λe w'=>∃r,e=cj (cg #[r,bU cq (gi 21 (sw ws bs))])/\KM w' w.h.s r ((sw ws bs).getD [])/\dR w w':=by
 have⟨i0,hi,hz0,hz1',hz2⟩:=oG acZ;have HV:=cz hv;have HU:=cz hu;obtain⟨ao,cap,rfl,b5,_,b2⟩:=hv;obtain⟨uo,T,rfl,b9,b8,_⟩:=hu;have⟨a',n',c',he,m⟩:=m;simp only[ly] at he;obtain⟨rfl,rfl,rfl⟩:=he;have b1:=BV b8;have c2:=cz b1;clear b1 b8;have HC:=cz b2;clear b2;rw[dA] at b5 b9 HV HU m;have I:Hid (KM w w.h.s (bX cw 0 0) []):=iD w w.h.s 82 1;rw[dA,dA];by_cases g:okW ws=cx
 case neg=>
  have C:okW ws=cy:=by simpa using g
  have hp:sw ws bs=cw:=by unfold sw;rw[cZ (by rw[C];simp)]
  have R:yH ws=0:=by unfold yH;rw[C];rfl
  rw[hp];have E:=cz C;clear g C hp;have HR:=cz R;clear R;go_enter func29,ntmps29;go_wp2_with fail;refine(I9 _ ws hl _ HV.o).mono ?_;rw[E.o,HR.o];rintro e w1 ⟨rfl,rfl⟩;go_wp2;refine iH (v:=cg #[bX cw 0 0,bU cq 21]) (by simp[results,results29,go_sem]) ae ⟨_,ae,I.o,gJ _ _⟩
 have R:yH ws=(sY ws:Nat):=by unfold yH;rw[g];rfl
 have b7:=Q6 ws g;have⟨Z,hZ⟩:=dI (sY ws);rw[hZ] at R b7;by_cases f:bs.n=Z
 case neg=>
  have hp:sw ws bs=cw:=by unfold sw;rw[cZ (λh=>f (h.2.trans hZ))]
  rw[hp];have d8:((bs.n:Int)!=(Z:Int))=cx:=by rw[fJ];omega
  have E:=cz g;clear g hp f hZ;have HR:=cz R;clear R;go_enter func29,ntmps29;go_wp2_with fail;refine(I9 _ ws hl _ HV.o).mono ?_;rw[E.o,HR.o];rintro e w1 ⟨rfl,rfl⟩;go_wp2;refine iH (v:=cg #[bX cw 0 0,bU cq 21]) (by simp[results,results29,go_sem]) ae ⟨_,ae,I.o,gJ _ _⟩
 have d8:((bs.n:Int)!=(Z:Int))=cy:=by rw[vI];omega
 have⟨PS,hPS⟩:=dI (sw ws bs);rw[hPS];have hP:PS=cu (pz ws bs):=by rw[<-hPS];unfold sw;rw[df ⟨g,f.trans hZ.symm⟩]
 have HP:=cz hP;clear hP hPS;have HZ:=cz hZ;clear hZ;have E:=cz g;clear g;have HR:=cz R;clear R;have c5:=cz f;clear f;go_enter func29,ntmps29;go_wp2_with fail;refine(I9 _ ws hl _ HV.o).mono ?_;rw[E.o,HR.o];rintro e w1 ⟨rfl,rfl⟩;go_wp2_with (refine LH (o:=⟨cu 28,_,_,_,_,_⟩) _ ae _ _ 78 ae w.h.s 82 i0 (bU ct 0) 1 vS hi hz0 hz1' cq cq _ ws.n ae ae ae ame aN (eN _) ?_;intro w2 N t);have a8:dR w w2:=(gJ _ _).grown t (eN _) (λk e=>by cases e);have J:Hid (KM w2 w.h.s (bX (s_ w.h.s 0) 0 ws.n) (pz (ws.take 0) bs)):=N;have a5:Hid (eT .u8 w (bX uo bs.n T) (dN (bs.drop (sY (ws.take 0))))):=HU.o;clear t N
 go_loopw [1,8,31] (λu v i wr=>∃(k s n c:Nat)(a:Option Addr),k<=ws.n/\i=bU cq k/\u=bX a n c/\n<=c/\n+s=bs.n/\Hid (s=sY (ws.take k))/\Hid (eT .u8 w (bX a n c) (dN (bs.drop s)))/\Hid (KM wr w.h.s v (pz (ws.take k) bs))/\dR w wr)
  (λ_ _ i _=>ws.n-(intOf i).m)
 exact⟨0,0,bs.n,T,uo,gw _,ae,ae,m,cN,by simp[Hid,sY],a5,J,a8⟩;clear J a8 a5;obtain⟨k,s,n,c,a,hk,rfl,rfl,d7,f1,HS,X,U,hbel⟩:=hrel;by_cases L:k<ws.n
 . (obtain⟨b,o,rfl,d3,K⟩:=HC.o bO;have hc:=(hbel.cell (p:=⟨b,o+k,cw⟩) d3).trans (K k (by rw[dA];exact L));rw[tj] at hc;clear K;have b6:=Q5 E.o L;have d9:=Tz ws k L;have G:=cz (Ty ws bs k L);have V:=cz (I8 ws k L);have⟨y,hy⟩:=dI (ws[k]);rw[hy,<-HS.o,HZ.o,<-c5.o] at d9;rw[hy] at hc b6 G V;clear hy;rw[<-HS.o] at G V;have e1:y<=n:=cN;have⟨B,HBB⟩:=sO (bs.drop s);have a7:B.n=n:=by rw[<-HBB.o,tY];omega);(have F:Hid (∀x∈B,x<256):=by unfold Hid;rw[<-HBB.o];exact λx hx=>c2.o x (mS hx));rw[HBB.o] at X G;have a4:=cz a7;clear a7;obtain⟨e8,e3,b4,-,-,d2⟩:=X.o.cP hbel;simp only[ly] at b4;obtain⟨d4,-,-⟩:=b4;subst d4;obtain⟨ub,c1,rfl,e7,D⟩:=d2 (by intro h;rw[<-Dg,dA,a4.o] at h;omega);have c4:=cz D;clear D;have e4:(k:Int)<(ws.n:Int):=cN;go_wp2_with fail;go_loop [11,36] (λv j=>∃(q z:Nat),q<=y/\j=bU cq q/\v=bU ct z/\Hid (z=jL (B.take q))) (λ_ j=>y-(intOf j).m);exact⟨0,0,gw _,ae,ae,by simp[Hid,jL]⟩;obtain⟨q,z,hq,rfl,rfl,Y⟩:=hrel;by_cases f3:q<y
   . (have a2:q<B.n:=by have:=a4.o;omega);(have b3:=c4.o q (by rw[dA];exact a2);rw[tj] at b3;have hd:=F.o _ (mP a2);have e2:z<256^q:=by have h1:=LI (B.take q) (λx hx=>F.o x (lQ hx));rw[lP,vH cN,<-Y.o] at h1;exact h1);(have a1:=af1 z B[q] q e2 hd cN;have a3:jL (B.take (q+1))=z+B[q]*256^q:=by rw[yv a2,WJ,<-Y.o,lP,vH cN]);have⟨d,hdd⟩:=dI (B[q]);rw[hdd] at b3 hd a1 a3;have d1:=cz a3;clear a3 hdd;have c8:=cz a1;clear a1;have e5:(q:Int)<(y:Int):=cN;have h8:(8:Int)*(q:Int)<=64:=cN;have e9:(0:Int)<=8*(q:Int):=cN;go_wp2;go_round;exact⟨q+1,z+d*256^q,cN,by go_num,by rw[c8.o],d1.o.symm⟩;exact pR
   . (obtain rfl:q=y:=cN;have d5:¬(q:Int)<(q:Int):=cN;have l:=U.o;unfold KM at l;have d6:(pz (ws.take k) bs).n=k:=by rw[OA,lP,vH cN]);have⟨M,HM⟩:=sO (pz (ws.take k) bs);rw[HM.o] at l d6 G;clear U;have c6:=cz l.lt;have f5:=hbel.size;have Q:=cz (BT X.o e1 d7);rw[Q7] at Q;have f4:(q:Int)<=(n:Int):=cN;have f2:(0:Int)<=(q:Int):=cN;go_wp2_with (at_builtin;refine yE _ ae (.tmp 50) (.tmp 52) 78 ae w.h.s 82 i0 (bU ct 0) 1 8 vS hi hz0 hz1' hz2 ae kB _ _ _ ae (l.alloc _) ⟨wr.h.s,0,cw⟩ 1 1 [bU ct (z:Int)] ae ae (cell_one_new _ _ _) bg aN cN aF ?_;intro v' w3 O A _);(have a9:=(hbel.alloc cN (.cells #[bU ct (z:Int)] 82)).grown A aF (λk h=>(c6.o k h).1);have e6:=a9.s;have H:Hid (KM w3 w.h.s v' (pz (ws.take (k+1)) bs)):=by unfold Hid KM;rw[G.o,<-Y.o,ji,nL];exact O);(have a6:Hid (eT .u8 w (bX (if c=q then cu ⟨ub,c1,cw⟩ else cu ⟨ub,c1+q,cw⟩) (n-q) (c-q)) (dN (bs.drop (s+q)))):=by have h:=Q.o;rw[BU,<-HBB.o,drop_drop] at h;exact h);(have c9:Hid (s+q=sY (ws.take (k+1))):=by unfold Hid;rw[V.o]);clear O A l;go_roundw;exact⟨k+1,s+q,n-q,c-q,_,cN,by go_num,ae,cN,by omega,c9,a6,H,a9⟩;exact pR
 . (obtain rfl:k=ws.n:=cN;have d5:¬(ws.n:Int)<(ws.n:Int):=cN;have H:Hid (KM wr w.h.s u8 (PS.getD [])):=by unfold Hid;rw[HP.o];have:=U.o;rw[qq] at this;exact this);(have c3:Hid (gi 21 PS=0):=by unfold Hid;rw[HP.o];rfl);go_wp2;refine iH (v:=cg #[u8,bU cq 0]) (by simp[results,results29,go_sem]) ae ⟨_,by rw[c3.o],H.o,hbel⟩
theorem WL(a b:Nat)(c:a<4611686018427387904)(d:b<4611686018427387904):bits .or .i64 (a:Int) (b:Int)=((a|||b:Nat):Int):=by
 have e:a|||b<2^62:=or_lt_two_pow cN cN;show IntKind.i64.wrap ((BitVec.ofInt 64 (a:Int)|||BitVec.ofInt 64 (b:Int)).toNat:Int)=_
 grind[IntWalk.i64_in]
theorem ah7(a b:Nat)(d:a<256)(e:b<256):bits .or cq (a:Int) ((b:Int)*256)=((a+256*b:Nat):Int):=by have h:=WL a (b*256) cN cN;rw[show((b*256:Nat):Int)=(b:Int)*256 from by omega] at h;rw[h];have c:=shiftLeft_add_eq_or_of_lt (b:=a) (i:=8) cN b;rw[shiftLeft_eq,show(2:Nat)^8=256 from ae] at c;grind
def PI(u:c7)(bs:cV)(d:bs.n<2)(w:cS)(b:eT .u8 w u (dN bs)):
 CP_ 71 #[u] w λe w'=>e=cj (cg #[bU cq 0,bX cw 0 0,bZ cy])/\w=w':=by obtain⟨f,a,rfl,-,-,-⟩:=b;rw[dA];have c:(bs.n:Int)<2:=cN;go_enter func71,ntmps71;go_wp2;refine iH (v:=cg #[bU cq 0,bX cw 0 0,bZ cy]) (by simp[results,results71,go_sem]) ae ⟨ae,ae⟩
def LJ(u:c7)(a b:Nat)(bs:cV)(q w:cS)(A:dR q w)(j:eT .u8 q u (dN (a::b::bs)))(c:yI u):
 CP_ 71 #[u] w λe w'=>∃v,e=cj (cg #[bU cq ((a+256*b:Nat):Int),v,bZ cx])/\eT .u8 q v (dN bs)/\yI v/\dR w w':=by
 have p:=cz j;have E:=j.cP A;clear j A;obtain⟨J,g,rfl,-,x,hc⟩:=E;obtain⟨F,I,G,t,c⟩:=c;simp only[ly] at t;obtain⟨rfl,rfl,rfl⟩:=t;have i:=BV x;have C:=i a eQ;have D:=i b eQ;clear i x;obtain⟨ub,m,rfl,z,d⟩:=hc (by simp[dN]);have r:=d 0 (by rw[dA];simp);have s:=d 1 (by rw[dA];simp);rw[tj] at r s;simp only[getElem_cons_zero,getElem_cons_succ,xJ] at r s;clear d hc;rw[dA] at p c|-;have f:(a::b::bs).n=bs.n+2:=rfl;rw[f] at p c|-;clear f;have n:=cz (BT p.o (y:=2) cN c);rw[Q7] at n;have H:¬((bs.n:Int)+2<2):=cN;have l:=ah7 a b C D;have o:=cz l;clear l;go_enter func71,ntmps71
 go_wp2_with fail
 go_quiet (fail)
 rw[o.o];obtain⟨B,k⟩:=dI ((if g=2 then cu ⟨ub,m,cw⟩ else cu ⟨ub,m+2,cw⟩:Option Addr));rw[k] at n|-;clear k;go_wp2;refine iH (v:=cg #[bU cq ((a+256*b:Nat):Int),bX B bs.n (g-2),bZ cx]) (by simp[results,results71,go_sem]) ae ⟨_,ae,?_,⟨_,_,_,ae,cN⟩,?_⟩
 . have h:=n.o;rw[BU] at h;exact h
 . exact below_drewN (gJ _ _) _
def ac5:(prog.info? 22).map (λi=>(i.zero,i.s,i.bytes))=cu (cu (.slice cw 0 0),1,24):=dC
def KN(w:cS)(base:Nat)(v:c7)(ts:List cV):Prop:=
 ∃vs:List c7,vs.n=ts.n/\w.ownsRow base 22 1 v ts.n vs/\∀k(h:k<vs.n)(a:k<ts.n),mN w base vs[k] ts[k]/\ts[k].n<=65535
def Dr(w:cS)(base:Nat):KN w base (bX cw 0 0) []:=⟨[],ae,iD w base 22 1,λk h=>absurd h (wQ _)⟩
theorem LK{w w':cS}{base:Nat}{v:c7}{l:cV}(h:mN w base v l)(a:dR w w'):mN w' base v l:=me h a
def aay{l:cV}(h:mN w base v l)(a:base'<=base):mN w base' v l:=
 ⟨h.1,h.2.imp id λ⟨g,cap,cur,h1,h2,r⟩=>⟨g,cap,cur,h1,iE a h2,r⟩⟩
theorem F6(h:KN w base v ts)(a:dR w w'):KN w' base v ts:=by grind[me,LK,KN]
theorem aaz{t:cV}(c:vs.n=ts.n)(d:w.ownsRow base 22 1 v ts.n vs)(g:∀k(h:k<vs.n)(f:k<ts.n),mN w base vs[k] ts[k]/\ts[k].n<=65535)(n:mN w base x t)(m:t.n<=65535)(e:w.grownBy w' v.ownBlock)(j:w'.ownsRow base 22 1 v' (ts.n+1) (vs++[x])):KN w' base v' (ts++[t]):=by have i:∀{y:c7}{l:cV},mN w base y l->mN w' base y l:=fun {y l} hy=>World.ownsRow.kept hy e (F4 kB hy d);refine⟨vs++[x],by simp[c],by grind,λk a b=>?_⟩;grind
def Fa:cV->Option (cV×cV)
 |a::b::r=>if a+256*b<=r.n then cu (r.take (a+256*b),r.drop (a+256*b)) else cw
 |_=>cw
def qG:Nat->cV->Option (List cV×cV)
 |0,r=>cu ([],r)
 |k+1,r=>match qG k r with
  |some (ts,q)=>match Fa q with
   |some (t,q')=>cu (ts++[t],q')
   |none=>cw
  |none=>cw
def vT:cV->Option (List cV)
 |a::b::r=>match qG (a+256*b) r with
  |some (ts,[])=>cu ts
  |_=>cw
 |_=>cw
theorem TE(h:qG k r=cw)(a:k<=m):qG m r=cw:=by induction m with|zero=>grind|succ m ih=>grind[qG]
theorem WM(h:qG k r=cu (ts,q)):ts.n=k/\q.n<=r.n:=by
 induction k generalizing ts q with
 |zero=>unfold qG at h;grind
 |succ k ih=>
  unfold qG at h;split at h;next ts' q' h'=>split at h;(next t q2 ht=>cases h;have:=ih h';refine⟨by grind,?_⟩;unfold Fa at ht;grind);cases h
  cases h
theorem WO(n:Nat):madeCells (Value.int .u8 0).cells n=(replicate n (bU .u8 0:c7)).toArray:=by apply yp;intro j;by_cases h:j<n<;>simp[madeCells,Value.cells,mod_one,h]
theorem WQ(n:Nat)(a:n<=281474976710656)(W:cS):(Instr.makeSlice 22 (bU cq n) (bU cq n)).run prog W=.ok (bX (cu ⟨W.h.s,0,cw⟩) n n) (W.alloc (.cells (replicate n (bU .u8 0:c7)).toArray 5)):=by have⟨i0,hi,hz0,hz1,hz2⟩:=oG K5;rw[run_make W 22 5 i0 (bU .u8 0) oT hi hz0 cq cq (n:Nat) (n:Nat) cN cN jv cN,hz1];simp_all[WO]
theorem TF{l:cV}(b:w.h[g]?=cu (.cells cs.toArray 5 (0,0)))(a:base<=g)(hc:cs=l.map λ(x:Nat)=>Value.int .u8 (x:Int))(c:l.n=n)(d:n<=9223372036854775807):mN w base (bX (cu ⟨g,0,cw⟩) n n) l:=by subst c hc;refine⟨by simp,.inr ⟨g,_,_,ae,a,b,eN _,by grind[maxLen],by simp,by simp_all[nU]⟩⟩
def Y4{a:Act}(o:Oper)(h:wpList P ops Q (o::rest) a w):wpList P ops Q (o::rest) a w:=h
def CE:(prog.info? 5).map (·.size)=cu 1:=dC
def ej(l:cV):List c7:=l.map λ(x:Nat)=>Value.int .u8 (x:Int)
def F7(l:cV):∀v∈ej l,v.oneCell'=cx:=by intro v a;obtain⟨x,_,rfl⟩:=gI.1 a;rfl
theorem PJ(i:dR w w')(h:dN r≠ []->∃b o,a=cu ⟨b,o,cw⟩/\b<w.h.s/\∀k(h:k<(dN r).n),w.cell? ⟨b,o+k,cw⟩=cu (.int .u8 (dN r)[k]))(d:0<(ej (r.take n)).n):∃ad,a=cu ad/\∀j v,(ej (r.take n))[j]?=cu v->w'.cell? (ad.add j)=cu v:=by
 unfold ej at d;rw[mQ,lP] at d;obtain⟨b,o,rfl,f,g⟩:=h (by grind[dA]);refine⟨_,ae,λj v c=>?_⟩;unfold ej at c;rw[rO] at c;obtain⟨x,l,rfl⟩:=Ak.1 c;have⟨hjl,hxe⟩:=nB.1 l;rw[lP] at hjl;have hc:=g j (by grind[dA]);rw[tj] at hc;rw[getElem_take] at hxe;rw[hxe] at hc;have e:(⟨b,o,cw⟩:Addr).add j=⟨b,o+j,cw⟩:=by grind[Addr.add]
 rw[e];exact(i.cell (p:=⟨b,o+j,cw⟩) f).trans hc
theorem TG(h:q.n<2):Fa q=cw:=by unfold Fa;grind
theorem PK(u:c7)(bs:cV)(K:bs.n<=140737488355328)(w:cS)(I:eT .u8 w u (dN bs))(G:yI u):
 CP_ 28 #[u] w λe w'=>∃r,e=cj (cg #[r,bU cq (gi 21 (vT bs))])/\KN w' w.h.s r ((vT bs).getD [])/\dR w w':=by
 have⟨i0,hi,hz0,hz1',hz2⟩:=oG ac5;have N:=cz I;have F:Hid (KN w w.h.s (bX cw 0 0) []):=Dr w w.h.s;by_cases c:bs.n<2
 . (have H:vT bs=cw:=by unfold vT;split;simp at c;omega;rfl);rw[H];have hc:gi 21 (cw:Option (List cV))=21:=rfl;rw[hc];obtain⟨O,H,rfl,-,-,-⟩:=I;go_enter func28,ntmps28;go_wp2_with fail;refine(PI _ bs c _ N.o).mono ?_;rintro e w1 ⟨rfl,rfl⟩;go_wp2;refine iH (v:=cg #[bX cw 0 0,bU cq 21]) (by simp[results,results28,go_sem]) ae ⟨_,ae,F.o,gJ _ _⟩
 obtain⟨a,b,R,rfl⟩:∃a b R,bs=a::b::R:=by
  match bs,c with
  | [],h=>simp at h
  | [_],h=>simp at h
  |a::b::R,_=>exact⟨a,b,R,ae⟩
 have F:=BV (l:=a::b::R) (by obtain⟨_,_,_,_,h,_⟩:=I;exact h);have L:=F a eQ;have L:=F b eQ;have F:R.n<=140737488355328:=by simp at K;omega
 have⟨M,hM⟩:=dI (a+256*b);have F:M<=65535:=cN;have⟨PS,hPS⟩:=dI (vT (a::b::R));have F:PS=(match qG M R with|some (ts,[])=>cu ts|_=>cw):=by rw[<-hPS,<-hM];rfl
 rw[hPS];have L:=cz F;clear F;have F:=cz hM;clear hM;obtain⟨O,H,rfl,-,-,-⟩:=I;go_enter func28,ntmps28;go_wp2_with fail;refine(LJ _ a b R w _ (gJ _ _) N.o G).mono ?_;rw[F.o];rintro e w1 ⟨F,rfl,G,F,I⟩;have H:=cz G;clear G;have G:=cz F;clear F;have F:Hid (KN w1 w.h.s (bX cw 0 0) []):=Dr w1 w.h.s;go_wp2_with fail
 go_loopw [0,6,20] (λs v i wr=>∃(k:Nat)(ts:List cV)(q:cV),k<=M/\i=bU cq k/\Hid (qG k R=cu (ts,q))/\Hid (eT .u8 w s (dN q))/\Hid (yI s)/\Hid (KN wr w.h.s v ts)/\dR w wr)
  (λ_ _ i _=>M-(intOf i).m)
 exact⟨0,[],R,gw _,ae,ae,H,G,F,I⟩;obtain⟨k,ts,q,F,rfl,t,HQ,H,HT,hbel⟩:=hrel;have⟨htl,hql⟩:=WM t.o;have I:=hbel.size;by_cases F:k<M
 . (have F:(k:Int)<(M:Int):=cN;have o:Hid (Fa q=cw->PS=cw):=by intro h;rw[L.o,TE (k:=k+1) (by unfold qG;rw[t.o];simp only;rw[h]) cN]);by_cases U:q.n<2
   . have A:PS=cw:=o.o (TG U);have p:=cz A;clear A;go_wp2_with fail;refine(PI _ q U _ (HQ.o.cP hbel)).mono ?_;rintro e m ⟨rfl,rfl⟩;go_wp2;refine iH (v:=cg #[bX cw 0 0,bU cq 21]) (by simp[results,results28,go_sem]) ae ⟨_,by rw[p.o];rfl,by rw[p.o];exact Dr _ _,hbel⟩
   obtain⟨x,y,r,rfl⟩:∃x y r,q=x::y::r:=by
    match q,U with
    | [],h=>simp at h
    | [_],h=>simp at h
    |x::y::r,_=>exact⟨x,y,r,ae⟩
   (have F:=BV (l:=x::y::r) (by obtain⟨_,_,_,_,h,_⟩:=HQ.o;exact h);have G:=F x eQ;have G:=F y eQ;have F:r.n<=R.n:=by simp at hql;omega);(have⟨n,hn⟩:=dI (x+256*y);have F:n<=65535:=cN;have G:Fa (x::y::r)=if n<=r.n then cu (r.take n,r.drop n) else cw:=by rw[<-hn];rfl);have K:=cz hn;clear hn;have F:=cz G;clear G;go_wp2_with fail;refine(LJ _ x y r w _ hbel HQ.o H.o).mono ?_;rw[K.o];rintro e m ⟨G,rfl,V,H,G⟩;have g:=Below.step hbel I G;have U:=cz (F6 HT.o G);have G:=V;obtain⟨vo,vc,rfl,-,-,I⟩:=G;have G:=cz I;clear I;have a6:=cz V;clear V;obtain⟨_,_,_,I,z⟩:=H;simp only[ly] at I;obtain⟨rfl,rfl,rfl⟩:=I;rw[dA r] at a6 z|-;by_cases H:r.n<n
   . have A:PS=cw:=o.o (by rw[F.o,cZ cN]);have p:=cz A;clear A;have d:(r.n:Int)<(n:Int):=cN;have D:decide ((r.n:Int)<(n:Int))=cx:=gM d;go_wp2;refine iH (v:=cg #[bX cw 0 0,bU cq 21]) (by simp[results,results28,go_sem]) ae ⟨_,by rw[p.o];rfl,by rw[p.o];exact Dr _ _,g⟩
   (have d:¬(r.n:Int)<(n:Int):=cN;have D:decide ((r.n:Int)<(n:Int))=cy:=jG d;have H:Hid (qG (k+1) R=cu (ts++[r.take n],r.drop n)):=by unfold Hid qG;rw[t.o];simp only;rw[F.o,df cN]);(have F:=WQ n cN;have⟨Zs,hZs⟩:=fP (replicate n (bU .u8 0:c7));have V:Zs.n=n:=by rw[hZs];simp);(rw[<-hZs] at F;have F:=cz hZs;clear hZs;have⟨W1,hW1⟩:=fP (m.alloc (.cells Zs.toArray 5));have X:W1.h[m.h.s]?=cu (.cells Zs.toArray 5 (0,0)):=by rw[hW1];exact AI _ _);(have b4:dR m W1:=by rw[hW1];exact aR);(have E:=hW1.symm;have R:=cz E;clear E;have⟨cs,hcs⟩:=fP (ej (r.take n));have O:cs.n=n:=by rw[hcs];unfold ej;rw[mQ,lP,vH cN]);(have K:0<cs.n->∃ad,vo=cu ad/\∀j v,cs[j]?=cu v->W1.cell? (ad.add j)=cu v:=by intro h;rw[hcs] at h|-;exact PJ (g.trans (b4.mono g.s)) G.o h);(have I:∀v∈cs,v.oneCell'=cx:=by rw[hcs];exact F7 _);(have G:cs.n=Nat.min r.n n:=by rw[O];exact(Nat.min_eq_right cN).symm);have N:=cz K;clear K;have H:=cz I;clear I;have F:=cz G;clear G;have Z:=cz X;clear X;have d4:=cz hcs;clear hcs;have Y:=cz O;clear O;have G:=cz V;clear V;have X:=ah6 vo r.n vc n cN;have C:=BT a6.o (y:=n) cN z;have⟨DA,hDA⟩:=dI (lz vo vc n 1);rw[hDA] at X C;rw[BU] at C;have e5:=cz X;clear X;have I:=cz C;clear C;have e8:r.n-n<=vc-n:=cN;go_upto_region 12 with((with_reducible refine Y4 ⟨cu 40,.call {callee:=.builtin .copy,args:=#[.tmp 38,.tmp 39],argTypes:=#[22,22]},_,_,_,cw⟩ ?_);rw[R.o];refine wpList_copy_splice ae (.tmp 38) (.tmp 39) 22 22 ae 5 oT CE (cu ⟨m.h.s,0,cw⟩) vo n n r.n vc ae ae m.h.s 0 Zs 5 Z.o cs F.o (λh=>⟨ae,N.o h⟩) (by rw[Y.o,G.o];omega) H.o m.h.s m b4 (eN _) ?_;intro w4 I N);(have J:splice Zs 0 cs=cs:=by unfold splice;rw[take_zero,pN,oQ,Y.o,<-G.o,drop_length,wR]);(have K:w4.h[m.h.s]?=cu (.cells cs.toArray 5 (0,0)):=by have:=I.o;rw[J] at this;exact this);have O:mN w4 w.h.s (bX (cu ⟨m.h.s,0,cw⟩) n n) (r.take n):=TF K g.s d4.o (by rw[lP,vH cN]) cN;have F:=Below.step g g.s N;have B:dR w4 (w4.alloc (.cells #[bX (cu ⟨m.h.s,0,cw⟩) n n] 22)):=(gJ _ _).alloc (eN _) _;have H:=LK O B;have⟨vs,hvl,hvo2,hvk⟩:=F6 (F6 U.o N) B;have G:=Below.step F F.s B;have F:=G.s;have V:=cz hvo2.lt;have Y:=cz hvk;clear hvk;have e4:=cz hvl;clear hvl;have X:=cz H;clear H;clear K O I J B N U Z R;have H:ts.n<=65535:=cN;have H:=e5.o;go_wp2_with (at_builtin;refine yE _ ae (.tmp 41) (.tmp 43) 75 ae w.h.s 22 i0 (bX cw 0 0) 1 24 underlying75 hi hz0 hz1' hz2 ae bA _ _ _ ae hvo2 ⟨w4.h.s,0,cw⟩ 1 1 [bX (cu ⟨m.h.s,0,cw⟩) n n] ae ae (cell_one_new _ _ _) bg aN cN F ?_;intro v' w5 Q f _);have H:=G.grown f F (λk h=>(V.o k h).1);have F:Hid (KN w5 w.h.s v' (ts++[r.take n])):=aaz e4.o hvo2 Y.o X.o bj f Q;have F:Hid (yI (bX DA (r.n-n) (vc-n))):=⟨_,_,_,ae,e8⟩;go_roundw;grind;simp[intOf];omega
 . obtain rfl:k=M:=cN;have F:¬(k:Int)<(k:Int):=cN;obtain⟨F,F,rfl,-,-,-⟩:=HQ.o;rw[dA q];by_cases T:q=[]
   . (have A:PS=cu ts:=by rw[L.o,t.o,T]);(have p:=cz A;clear A;have F:(q.n:Int)=0:=by rw[T];rfl);have F:¬(0:Int)<(q.n:Int):=cN;go_wp2;refine iH (v:=cg #[u6,bU cq 0]) (by simp[results,results28,go_sem]) ae ⟨_,by rw[p.o];rfl,by rw[p.o];exact HT.o,hbel⟩
   . (have A:PS=cw:=by rw[L.o,t.o];grind);(have p:=cz A;clear A;have F:(0:Int)<(q.n:Int):=by have:=BH.2 T;omega);go_wp2;refine iH (v:=cg #[bX cw 0 0,bU cq 21]) (by simp[results,results28,go_sem]) ae ⟨_,by rw[p.o];rfl,by rw[p.o];exact Dr _ _,hbel⟩
def xS(v:c7):Prop:=v=bX cw 0 0∨∃a n c,v=bX (cu a) n c/\n<=c
def uN(h:w.ownsRow base e size v n xs):xS v:=by rcases h.2 with⟨rfl,b⟩|⟨g,cap,a,rfl,c,d,f,hc,i,j⟩;exact .inl ae;exact .inr ⟨_,_,_,ae,cN⟩
def Ep(w:cS)(v:c7)(ts:List cV):Prop:=
 ∃(ao:Option Addr)(cap:Nat)(vs:List c7),v=bX ao ts.n cap/\vs.n=ts.n/\ts.n<=cap/\(∀k(h:k<vs.n)(a:k<ts.n),eT .u8 w vs[k] (dN ts[k])/\xS vs[k])/\
  (ts≠ []->∃b o,ao=cu ⟨b,o,cw⟩/\b<w.h.s/\∀k(h:k<vs.n),w.cell? ⟨b,o+k,cw⟩=cu vs[k])
theorem WS{l:cV}(h:mN w base v l)(c:l.n<=9223372036854775807)(b:∀x∈l,x<256):eT .u8 w v (dN l):=by unfold mN at h;refine qZ (e:=5) (base:=base) (l:=dN l) ?_ ?_ ?_;rw[dA];unfold dN;rw[wO];exact h;intro x a;obtain⟨y,d,rfl⟩:=gI.1 a;grind[WalkArith.wf_u8];grind[dA]
def cell_two_new(w:cS)(x y:c7)(t:dU):∀j u,[x,y][j]?=cu u->(w.alloc (.cells #[x,y] t)).cell? ((⟨w.h.s,0,cw⟩:Addr).add j)=cu u:=by
 intro j u a
 match j,a with
 |0,a=>rw[<-a];exact aX
 |1,a=>rw[<-a];exact aX
def vr(n:Nat):cV:=[n%256,n/256]
def uO(t:cV):cV:=vr t.n++t
def uf(ts:List cV):Option cV:=if ts.n<=65535/\ts.all (λt=>decide (t.n<=65535))=cx then cu (vr ts.n++ts.flatMap uO) else cw
def szT(ts:List cV):Nat:=(ts.map λt=>2+t.n).sum
theorem ac6(ts:List cV)(k:Nat)(h:k<ts.n):szT (ts.take (k+1))=szT (ts.take k)+(2+ts[k].n):=by grind[szT,take_succ_eq_append_getElem]
theorem aaA(ts:List cV)(k:Nat)(h:k<ts.n):(ts.take (k+1)).flatMap uO=(ts.take k).flatMap uO++uO ts[k]:=by grind[take_succ_eq_append_getElem]
theorem TH(ts:List cV):(ts.flatMap uO).n=szT ts:=by induction ts<;>grind[szT,uO,vr]
theorem ac7(ts:List cV)(k:Nat):szT (ts.take k)<=szT ts:=by grind[szT,take_append_drop]
def WT(h:¬ts.n<=65535):uf ts=cw:=cZ λx=>h x.1
theorem aaB(a:k<ts.n)(h:¬ts[k].n<=65535):uf ts=cw:=by refine cZ λx=>h ?_;grind
theorem ac8(h:ts.n<=65535)(b:∀k(a:k<ts.n),ts[k].n<=65535):uf ts=cu (vr ts.n++ts.flatMap uO):=by refine df ⟨h,?_⟩;rw[rz];intro t c;obtain⟨k,a,rfl⟩:=vJ.1 c;grind
theorem WU(h:eT .u8 w (bX (cu ad) n c) (dN T))(f:dR w w'):∀j v,(ej T)[j]?=cu v->w'.cell? (ad.add j)=cu v:=by
 obtain⟨ao,cap,d,_,_,hc⟩:=h;simp only[ly] at d;obtain⟨g,_,_⟩:=d;intro j v m;have i:(ej (T.take T.n))[j]?=cu v:=by grind
 have b:0<(ej (T.take T.n)).n:=by grind
 obtain⟨e,k,l⟩:=PJ (a:=cu ad) f jv b;grind
def TJ(v:c7)(ts:List cV)(F:ts.n<=9223372036854775807)(F:∀k(h:k<ts.n),ts[k].n<=9223372036854775807)(w:cS)(K:Ep w v ts):
 CP_ 75 #[v] w λe w'=>∃r,e=cj (cg #[r,bU cq (gi 21 (uf ts))])/\mN w' w.h.s r ((uf ts).getD [])/\dR w w':=by
 have⟨i0,hi,hz0,hz1',hz2⟩:=oG K5;obtain⟨ao,cap,vs,rfl,I,_,H,G⟩:=K;have X:=cz I;clear I;have V:=cz H;clear H;have H:=cz G;clear G;have N:=cz F;clear F;have F:Hid (mN w w.h.s (bX cw 0 0) []):=iD w w.h.s 5 1;by_cases q:¬ts.n<=65535
 . have R:=WT q;rw[R];have M:(65535:Int)<(ts.n:Int):=cN;clear R q;go_enter func75,ntmps75;go_wp2;refine iH (v:=cg #[bX cw 0 0,bU cq 21]) (by simp[results,results75,go_sem]) ae ⟨_,ae,F.o,gJ _ _⟩
 have L:ts.n<=65535:=cN;have M:¬(65535:Int)<(ts.n:Int):=cN;clear q;have⟨PS,HPS⟩:=sO (uf ts);rw[HPS.o];go_enter func75,ntmps75;go_wp2_with fail
 go_loop [4,6,15] (λs _ i=>∃(k z:Nat),k<=ts.n/\i=bU cq k/\s=bU cq z/\z<=2+65537*k/\Hid (z=2+szT (ts.take k))/\Hid (∀j(h:j<ts.n),j<k->ts[j].n<=65535))
  (λ_ _ i=>ts.n-(intOf i).m)
 exact⟨0,2,gw _,ae,ae,cN,by simp[Hid,szT],λj _ h=>absurd h (wQ _)⟩;obtain⟨k,z,hk,rfl,rfl,G,U,Z⟩:=hrel;by_cases c:k<ts.n
 . (have I:k<vs.n:=by have:=X.o;omega);obtain⟨b,o,rfl,Y,f⟩:=H.o anS;have hc:=f k I;obtain⟨D,_⟩:=V.o k I c;obtain⟨ta,tc,E,-,-,-⟩:=D;rw[E,dA] at hc;clear f E;have G:=cz (ac6 ts k c);have K:=N.o k c;have Q:=λh=>aaB (ts:=ts) (k:=k) c h;have O:=cz Q;clear Q;have⟨n,HN⟩:=sO (ts[k].n);rw[HN.o] at hc G K O;have b4:(k:Int)<(ts.n:Int):=cN;by_cases N:n<=65535
   . (have d3:¬(65535:Int)<(n:Int):=cN;have c6:Hid (z+(2+n)=2+szT (ts.take (k+1))):=by unfold Hid;rw[G.o,U.o];omega);(have K:Hid (∀j(h:j<ts.n),j<k+1->ts[j].n<=65535):=by intro j h hj;by_cases d1:j=k;subst d1;rw[HN.o];exact N;exact Z.o j h cN);go_wp2;go_round;exact⟨k+1,z+(2+n),cN,by go_num,by go_num,cN,c6,K⟩;exact pR
   . have d3:(65535:Int)<(n:Int):=cN;have R:PS=cw:=HPS.o.symm.trans (O.o cN);have O:=cz R;clear R;go_wp2;refine iH (v:=cg #[bX cw 0 0,bU cq 21]) (by simp[results,results75,go_sem]) ae ⟨_,by rw[O.o];rfl,by rw[O.o];exact F.o,gJ _ _⟩
 . (obtain rfl:k=ts.n:=cN;have c9:¬(ts.n:Int)<(ts.n:Int):=cN;have R:PS=cu (vr ts.n++ts.flatMap uO):=HPS.o.symm.trans (ac8 L (λj hj=>Z.o j hj hj));have O:=cz R;clear R;have L:Hid (z=2+szT ts):=by have:=U.o;rw[qq] at this;exact this);clear U;have F:z<=4294967298:=cN;go_upto_region 12 with(refine LH (o:=⟨cu 29,_,_,_,_,_⟩) _ ae _ _ 22 ae w.h.s 5 i0 (bU .u8 0) 1 oT hi hz0 hz1' cq cq _ z ae ae ae ame aN (eN _) ?_;intro R t x);have F:dR w R:=(gJ _ _).grown x (eN _) (λk e=>by cases e);clear x;have U:=F.s;have K:=cz t.lt;have C:=t.alloc (.cells #[bU .u8 ((ts.n:Int)%256),bU .u8 ((ts.n:Int)/256)] 5);go_upto_region 13 with(at_builtin;refine yE _ ae (.tmp 30) (.tmp 38) 22 ae w.h.s 5 i0 (bU .u8 0) 1 1 oT hi hz0 hz1' hz2 ae kB _ _ _ ae C ⟨R.h.s,0,cw⟩ 2 2 [bU .u8 ((ts.n:Int)%256),bU .u8 ((ts.n:Int)/256)] ae ae (cell_two_new _ _ _ _) bg aN cN aF ?_;intro v' R g a _);(have m:=(F.alloc U (.cells #[bU .u8 ((ts.n:Int)%256),bU .u8 ((ts.n:Int)/256)] 5)).grown a aF (λk h=>(K.o k h).1);have d:Hid (mN R w.h.s v' (vr ts.n++(ts.take 0).flatMap uO)):=by unfold Hid mN;simp only[take_zero,flatMap_nil,wR,vr,yq,map_nil,lr,tX,Int.natCast_emod,Int.natCast_ediv];exact g);(clear g a t C F U K;have G:Hid (∀k,(vr ts.n++(ts.take k).flatMap uO).n<=4294967298):=by intro k;rw[ji,TH];have F:=ac7 ts k;have F:=L.o;show 2+_<=_;omega);go_wp2_with fail
   go_loopw [7,9,42] (λv _ i wr=>∃k:Nat,k<=ts.n/\i=bU cq k/\Hid (mN wr w.h.s v (vr ts.n++(ts.take k).flatMap uO))/\dR w wr)
    (λ_ _ i _=>ts.n-(intOf i).m)
   exact⟨0,gw _,ae,d,m⟩;clear d m;obtain⟨k,hk,rfl,L,hbel⟩:=hrel;have F:=hbel.size;by_cases c:k<ts.n
   . (have I:k<vs.n:=by have:=X.o;omega);(obtain⟨b,o,rfl,Y,f⟩:=H.o anS;have hc:=(hbel.cell (p:=⟨b,o+k,cw⟩) Y).trans (f k I);have⟨D,hshape⟩:=V.o k I c;have H:=cz D;obtain⟨ta,tc,E,-,-,-⟩:=D;rw[E,dA] at hc;rw[E] at hshape H;rw[dA] at hshape H;clear f E;have V:=cz (aaA ts k c);have N:=Z.o k c c;have⟨T,hT⟩:=dI (ts[k]);rw[hT] at hc V N hshape H;have I:=G.o k;have Z:=G.o (k+1);have⟨A,hAA⟩:=dI (vr ts.n++(ts.take k).flatMap uO);have X:Hid (vr ts.n++(ts.take (k+1)).flatMap uO=(A++vr T.n)++T):=by unfold Hid;rw[V.o,<-hAA];unfold uO;simp only[wP]);rw[X.o,ji,ji] at Z;rw[hAA] at L I;clear hT hAA V;have B:=L.o;unfold mN at B;have⟨n,HN⟩:=sO T.n;rw[HN.o] at hc N hshape H Z;have b4:(k:Int)<(ts.n:Int):=cN;have J:=B.alloc (.cells #[bU .u8 ((n:Int)%256),bU .u8 ((n:Int)/256)] 5);have K:=cz B.lt;have N:=cz hshape;clear hshape;go_upto_region 17 with(at_builtin;refine yE _ ae (.tmp 46) (.tmp 54) 22 ae w.h.s 5 i0 (bU .u8 0) 1 1 oT hi hz0 hz1' hz2 ae kB _ _ _ ae J ⟨wr.h.s,0,cw⟩ 2 2 [bU .u8 ((n:Int)%256),bU .u8 ((n:Int)/256)] ae ae (cell_two_new _ _ _ _) bg aN cN aF ?_;intro v' R g a _);(have m:=(hbel.alloc F (.cells #[bU .u8 ((n:Int)%256),bU .u8 ((n:Int)/256)] 5)).grown a aF (λk h=>(K.o k h).1);have d:Hid (mN R w.h.s v' (A++vr T.n)):=by unfold Hid mN;rw[HN.o,ji,nL];simp only[vr,yq,map_nil,lr,tX,Int.natCast_emod,Int.natCast_ediv];exact g);(clear g a B J L;have l:=d.o;unfold mN at l;have I:=m.s;have F:=cz l.lt;have K:(A++vr T.n).n=A.n+2:=by rw[ji];rfl);have G:(vr n).n=2:=rfl;rw[G] at Z;have U:(A++vr T.n).n+n<=4294967298:=cN;clear G K;rcases N.o with hsh|⟨ad,n',c',hsh,hcap⟩
     . (simp only[ly] at hsh;obtain⟨rfl,rfl,rfl⟩:=hsh;have Y:Hid (mN R w.h.s v' (vr ts.n++(ts.take (k+1)).flatMap uO)):=by unfold Hid;rw[X.o,yr HN.o,wR];have:=d.o;rw[yr HN.o] at this;exact this);go_wp2_with (at_builtin;refine wpList_append_own_none ae (.tmp 56) (.tmp 57) 22 ae w.h.s 5 i0 1 oT hi _ _ _ ae l ae ?_);go_roundw;exact⟨k+1,cN,by go_num,Y,m⟩;exact pR
     . (simp only[ly] at hsh;obtain⟨rfl,-,-⟩:=hsh;have G:=cz (WU H.o m);have H:(ej T).n=n*1:=by unfold ej;rw[mQ,HN.o,sM]);have K:=cz H;clear H;go_wp2_with (at_builtin;refine yE _ ae (.tmp 56) (.tmp 57) 22 ae w.h.s 5 i0 (bU .u8 0) 1 1 oT hi hz0 hz1' hz2 ae kB _ _ _ ae l ad n tc (ej T) ae K.o G.o (F7 T) aN cN I ?_;intro H w4 u y _);(have G:=m.grown y I (λk h=>(F.o k h).1);have Y:Hid (mN w4 w.h.s H (vr ts.n++(ts.take (k+1)).flatMap uO)):=by unfold Hid mN;rw[X.o,ji,nL,HN.o];have:=HN.o;rw[this] at u;exact u);clear u y l;go_roundw;exact⟨k+1,cN,by go_num,Y,G⟩;exact pR
   . (obtain rfl:k=ts.n:=cN;have c9:¬(ts.n:Int)<(ts.n:Int):=cN;have d:Hid (mN wr w.h.s u7 (PS.getD [])):=by unfold Hid;rw[O.o];have:=L.o;rw[qq] at this;exact this);(have F:Hid (gi 21 PS=0):=by unfold Hid;rw[O.o];rfl);go_wp2;refine iH (v:=cg #[u7,bU cq 0]) (by simp[results,results75,go_sem]) ae ⟨_,by rw[F.o],d.o,hbel⟩
theorem ajD(ao:Option Addr)(l h cap:Nat)(W:cS):((sizeOf (prog.elem 22)).run prog W).andThen (λs w=>.ok (sliced ao l h cap s) w)=.ok (sliced ao l h cap 1) W:=by rfl
theorem af2(n:Nat)(h:n<256):qQ 1 n=[n]:=by grind[qQ]
theorem af3(n:Nat)(h:n<65536):qQ 2 n=[n%256,n/256]:=by grind[qQ,range_succ]
theorem ac9(t s n:Nat)(c:t<=1)(b:s<4096)(a:n<=4096):vR [1,2,2] [t,s,n]=cu [t,s%256,s/256,n%256,n/256]:=by unfold vR;rw[df ⟨by decide,ae,by grind[fitAll]⟩];grind[kT,af2,af3]
theorem af4(b c:Nat)(t s n:Nat)(k:t<=1)(j:s<4096)(h:n<=4096)(w:cS)(g:eT cq w (bX (cu ⟨b,0,cw⟩) 3 3) [1,2,2])(hc:w.cell? ⟨c,0,cw⟩=cu (.int ct t)/\w.cell? ⟨c,1,cw⟩=cu (.int ct s)/\w.cell? ⟨c,2,cw⟩=cu (.int ct n))(d:c<w.h.s):
 CP_ 73 #[bX (cu ⟨b,0,cw⟩) 3 3,bX (cu ⟨c,0,cw⟩) 3 3] w λe w'=>∃r,e=cj (cg #[r,bU cq 0])/\eT .u8 w' r [(t:Int),(s:Int)%256,(s:Int)/256,(n:Int)%256,(n:Int)/256]/\dR w w':=by
 have m:eT cq w (bX (s_ b 0) 3 3) (dN [1,2,2]):=g;have l:eT ct w (bX (s_ c 0) 3 3) (dN [t,s,n]):=by refine⟨cu ⟨c,0,cw⟩,3,ae,by simp[dN],?_,λ_=>⟨c,0,ae,d,?_⟩⟩;intro x f;simp[dN] at f;rcases f with rfl|rfl|rfl<;>(grind[Lit.wf,IntKind.min,IntKind.max,IntKind.bits]);grind[dN]
 refine(GU _ _ [1,2,2] [t,s,n] kB w m l).mono ?_;rw[ac9 t s n k j h];rintro e w' ⟨r,rfl,i,a⟩;refine⟨r,ae,?_,a⟩;have:=WS i eQ jv;grind[dN]
theorem ada(a b c d e:Nat):sw [1,2,2] [a,b,c,d,e]=cu [a,b+256*c,d+256*e]:=by rfl
theorem af5(b c o cap:Nat)(h i j k l:Nat)(C:h<256/\i<256/\j<256/\k<256/\l<256)(a:5<=cap)(w:cS)(u:eT cq w (bX (cu ⟨b,0,cw⟩) 3 3) [1,2,2])(hc:w.cell? ⟨c,o,cw⟩=cu (.int .u8 h)/\w.cell? ⟨c,o+1,cw⟩=cu (.int .u8 i)/\w.cell? ⟨c,o+2,cw⟩=cu (.int .u8 j)/\w.cell? ⟨c,o+3,cw⟩=cu (.int .u8 k)/\w.cell? ⟨c,o+4,cw⟩=cu (.int .u8 l))(s:c<w.h.s):
 CP_ 29 #[bX (cu ⟨b,0,cw⟩) 3 3,bX (cu ⟨c,o,cw⟩) 5 cap] w λe w'=>∃g d,e=cj (cg #[bX (cu ⟨g,0,cw⟩) 3 d,bU cq 0])/\
  (w'.cell? ⟨g,0,cw⟩=cu (.int ct h)/\w'.cell? ⟨g,1,cw⟩=cu (.int ct ((i:Int)+256*(j:Int)))/\w'.cell? ⟨g,2,cw⟩=cu (.int ct ((k:Int)+256*(l:Int))))/\g<w'.h.s/\w.h.s<=g/\dR w w':=by
 have z:eT cq w (bX (s_ b 0) 3 3) (dN [1,2,2]):=u;have y:eT .u8 w (bX (s_ c o) 5 cap) (dN [h,i,j,k,l]):=by refine⟨cu ⟨c,o,cw⟩,cap,ae,by simp[dN],?_,λ_=>⟨c,o,ae,s,?_⟩⟩;intro x f;simp[dN] at f;rcases f with rfl|rfl|rfl|rfl|rfl<;>exact WalkArith.wf_u8 cN;grind[dN]
 refine(JX _ _ [1,2,2] [h,i,j,k,l] kB w z y ⟨_,_,_,ae,a⟩).mono ?_;rw[ada];rintro e w' ⟨r,rfl,m,p⟩;rcases m.2 with⟨_,n⟩|⟨g,d,t,rfl,q,v,_⟩;simp at n;have n:=I' m 0 eQ;have A:=I' m 1 eQ;have B:=I' m 2 eQ;refine⟨g,d,ae,⟨n,?_,?_⟩,(rN.1 v).1,q,p⟩;grind;grind
def Er(s:Nat):Nat:=if s%2=1 then s/2 ^^^ 2197175160 else s/2
def yJ:Nat->Nat->Nat
 |0,s=>s
 |k+1,s=>Er (yJ k s)
def xT(s c:Nat):Nat:=yJ 8 (s ^^^ c)
def GV(s:Nat)(bs:cV):Nat:=4294967295 ^^^ bs.foldl xT (4294967295 ^^^ s)
def kU(bs:cV):Nat:=GV 0 bs
theorem LL{s:Nat}(h:s<4294967296):Er s<4294967296:=by unfold Er;split;exact xor_lt_two_pow (n:=32) cN cN;omega
theorem TL{s:Nat}(h:s<4294967296):yJ k s<4294967296:=by induction k<;>grind[LL,yJ]
theorem WX{s c:Nat}(h:s<4294967296)(hc:c<256):xT s c<4294967296:=
 TL (xor_lt_two_pow (n:=32) cN cN)
theorem aaC(s:Nat)(bs:cV)(k:Nat)(h:k<bs.n):(bs.take (k+1)).foldl xT s=xT ((bs.take k).foldl xT s) bs[k]:=by grind[take_succ_eq_append_getElem]
theorem af6(s:Nat)(bs:cV)(a:s<4294967296)(h:∀x∈bs,x<256):bs.foldl xT s<4294967296:=by induction bs generalizing s<;>grind[WX]
def Q8{a:Nat}(c:a<4294967296)(d:b<4294967296):a ^^^ b<4294967296:=xor_lt_two_pow (n:=32) cN cN
def LM(s:Nat)(bs:cV)(a:s<4294967296)(h:∀x∈bs,x<256):GV s bs<4294967296:=Q8 kB (af6 _ _ (Q8 kB a) h)
def Y5(s:Nat)(a:s<4294967296):bits .xor .u32 IntKind.u32.max (s:Int)=((4294967295 ^^^ s:Nat):Int):=u32_xor_nat 4294967295 s kB a
theorem adb(s:Nat)(U:s<4294967296)(u:c7)(bs:cV)(w:cS)(hu:eT .u8 w u (dN bs)):
 CP_ 220 #[bU .u32 s,u] w λe w'=>e=cj (bU .u32 (GV s bs:Nat))/\w=w':=by
 obtain⟨uo,V,rfl,B,T,hc⟩:=hu;have F:=cz (BV T);clear T;have X:=cz hc;clear hc;rw[dA] at B|-;have K:=Y5 s U;have⟨s0,hs0⟩:=dI (4294967295 ^^^ s);have D:s0<4294967296:=by rw[<-hs0];exact Q8 bA U
 rw[hs0] at K;have H:=cz hs0;clear hs0;have Z:=cz K;clear K;go_enter func220,ntmps220;go_wp2_with fail;rw[Z.o]
 go_loop [0,6,7,12] (λv _ _ i=>∃(k z:Nat),k<=bs.n/\i=bU cq k/\v=bU .u32 z/\z<4294967296/\Hid (z=(bs.take k).foldl xT s0))
  (λ_ _ _ i=>bs.n-(intOf i).m)
 exact⟨0,s0,gw _,ae,ae,D,ae⟩;obtain⟨k,z,hk,rfl,rfl,N,Q⟩:=hrel;by_cases m:k<bs.n
 . (obtain⟨b,o,rfl,a1,l⟩:=X.o bO;have hc:=l k (by rw[dA];exact m);rw[tj] at hc;clear l;have J:=F.o _ (mP m);have r:=cz (aaC s0 bs k m);have⟨c,hcc⟩:=dI (bs[k]);rw[hcc] at hc J r;clear hcc;have L:=u32_xor_nat z c N cN;have E:z ^^^ c<4294967296:=Q8 N cN;have t:Hid (yJ 8 (z ^^^ c)=(bs.take (k+1)).foldl xT s0):=by unfold Hid;rw[r.o,<-Q.o];rfl);have⟨x,hxx⟩:=dI (z ^^^ c);rw[hxx] at L E t;clear hxx;have HX:=cz L;clear L;have R:(k:Int)<(bs.n:Int):=cN;go_wp2_with fail;rw[HX.o]
   go_loop [0,7,20] (λv _ i=>∃(j y:Nat),j<=8/\i=bU cq j/\v=bU .u32 y/\y<4294967296/\Hid (y=yJ j x))
    (λ_ _ i=>8-(intOf i).m)
   exact⟨0,x,cN,ae,ae,E,ae⟩;obtain⟨j,y,hj,rfl,rfl,M,O⟩:=hrel;by_cases a4:j<8
   . (have a3:(j:Int)<8:=cN;have g:=u32_and_nat y 1 M bA;rw[and_one_is_mod] at g;have a:bits .and .u32 (y:Int) 1=((y%2:Nat):Int):=g;clear g;have f:yJ (j+1) x=Er y:=by rw[O.o];rfl);(have p:=LL M;by_cases d:y%2=1;have n:=u32_xor_nat (y/2) 2197175160 cN bA;have A:Er y=y/2 ^^^ 2197175160:=df d;rw[A] at f p;have⟨q,hq⟩:=dI (y/2 ^^^ 2197175160);rw[hq] at n f p;have I:=cz f;clear f;have ht:(bits .and .u32 (y:Int) 1==1)=cx:=by rw[a,d];rfl);have a5:bits .xor .u32 ((y:Int)/2) 2197175160=(q:Int):=n;clear A hq d a n;rotate_left;(have A:Er y=y/2:=cZ d;rw[A] at f p;have I:=cz f;clear f;have ht:(bits .and .u32 (y:Int) 1==1)=cy:=by rw[a,show y%2=0 from by omega];rfl);clear A d a
     all_goals
      go_wp2
      go_round
      case rel=>grind
      case measure=>simp[intOf];omega
   . (obtain rfl:j=8:=cN;have Y:Hid (y=(bs.take (k+1)).foldl xT s0):=by unfold Hid;rw[<-t.o];exact O.o);go_wp2;go_round;exact⟨k+1,y,cN,by go_num,ae,M,Y⟩;simp[intOf];omega
 . (obtain rfl:k=bs.n:=cN;have a2:¬(bs.n:Int)<(bs.n:Int):=cN;have HR:Hid ((4294967295 ^^^ z:Nat)=GV s bs):=by unfold Hid GV;rw[H.o,Q.o,qq]);have C:=Y5 z N;have G:=cz C;clear C;go_wp2;go_ret;exact⟨by rw[G.o,HR.o];rfl,ae⟩
def WY(u:c7)(bs:cV)(w:cS)(a:eT .u8 w u (dN bs)):
 CP_ 166 #[u] w λe w'=>e=cj (bU .u32 (kU bs:Nat))/\w=w':=by have b:=cz a;clear a;go_enter func166,ntmps166;go_wp2_with fail;refine(adb 0 kB _ bs _ b.o).mono ?_;rintro e w' ⟨rfl,rfl⟩;go_wp2;go_ret;exact aE
abbrev cQ:=Nat×Nat×Nat
def mO(p:cQ):c7:=bV #[bU cq p.1,bU ct p.2.1,bU .u32 p.2.2]
def cX:cQ:=(0,0,0)
theorem LN(a b c d e f:Int)(w:cS)(n:Nat):
 (Op.equalIn (n+2) 106 (bV #[bU cq a,bU ct b,bU .u32 c]) (bV #[bU cq d,bU ct e,bU .u32 f])).run prog w=.ok ((a==d)&& ((b==e)&& (c==f))) w:=by rw[run_equalIn_struct (P:=prog) w (n+1) 106 _ _ dC dC];have g:(prog.fieldsOf 106).t=[{name:= "At",type:=3,offset:=0,embedded:=cy,tag:= "",pkgPath:= "",byteOffset:=0},{name:= "Birth",type:=82,offset:=1,embedded:=cy,tag:= "",pkgPath:= "",byteOffset:=8},{name:= "Sum",type:=104,offset:=2,embedded:=cy,tag:= "",pkgPath:= "",byteOffset:=16}]:=dC;rw[g];simp[Op.eqFields,part,isAgg3,isAgg82,isAgg104,Result.andThen,I7 w n 3 cq cq _ _ vP,I7 w n 82 ct ct _ _ underlying82,I7 w n 104 .u32 .u32 _ _ underlying104];grind
theorem WZ(p q:cQ):(((p.1:Int)==(q.1:Int))&& (((p.2.1:Int)==(q.2.1:Int))&& ((p.2.2:Int)==(q.2.2:Int))))=decide (p=q):=by grind
theorem F8(p q:cQ)(r:Bool)(h:decide (p=q)=r)(w:cS):(binOp .eql 106 (mO p) (mO q)).run prog w=.ok (bZ r) w:=by
 have a:(Op.equal 106 (mO p) (mO q)).run prog w=.ok r w:=by grind[Op.equal,Op.maxDepth,mO,LN,WZ]
 simp_all[mO,binOp]
theorem F9(p q:cQ)(r:Bool)(h:decide (p=q)=r)(w:cS):(binOp .neq 106 (mO p) (mO q)).run prog w=.ok (bZ !r) w:=by
 have a:(Op.equal 106 (mO p) (mO q)).run prog w=.ok r w:=by grind[Op.equal,Op.maxDepth,mO,LN,WZ]
 simp_all[mO,binOp]
def ij(p:cQ):Bool:=decide (p=cX∨(4<=p.1/\p.1<1024/\1<=p.2.1/\p.2.1<=281474976710655))
def nY(p q:cQ):Bool:=if p.2.1≠q.2.1 then decide (p.2.1<q.2.1) else if p.1≠q.1 then decide (p.1<q.1) else decide (p.2.2<q.2.2)
def jV(p:cQ)(s:Nat):Bool:=decide (p≠cX/\s<p.2.1)
theorem yK(p:cQ)(w:cS):tf 241 #[mO p] w (bZ (ij p)):=by
 have q:dR w (w.alloc (.cells #[bU cq p.1,bU ct p.2.1,bU .u32 p.2.2] 106)):=(gJ _ _).alloc (eN _) _;have g:=cz q;clear q;by_cases d:p=cX;have e:ij p=cx:=gM (.inl d);rw[e];have j:∀w,(binOp .eql 106 (bV #[bU cq p.1,bU ct p.2.1,bU .u32 p.2.2]) (bV #[bU cq 0,bU ct 0,bU .u32 0])).run prog w=.ok (bZ cx) w:=λw=>F8 p cX cx (gM d) w;have⟨a,b,c⟩:=p;simp only at j g;unfold mO;simp only;clear e d;rotate_left;have j:∀w,(binOp .eql 106 (bV #[bU cq p.1,bU ct p.2.1,bU .u32 p.2.2]) (bV #[bU cq 0,bU ct 0,bU .u32 0])).run prog w=.ok (bZ cy) w:=λw=>F8 p cX cy (jG d) w;have e:ij p=decide (4<=p.1/\p.1<1024/\1<=p.2.1/\p.2.1<=281474976710655):=by unfold ij;grind
 rw[e];clear e d;have⟨a,b,c⟩:=p;simp only at j g|-;unfold mO;simp only;by_cases l:4<=a;by_cases m:a<1024;by_cases n:1<=b;by_cases o:b<=281474976710655;rw[gM ⟨l,m,n,o⟩];have f:decide ((4:Int)<=(a:Int))=cx:=gM cN;have i:decide ((a:Int)<1024)=cx:=gM cN;have k:decide ((1:Int)<=(b:Int))=cx:=gM cN;have r:decide ((b:Int)<=281474976710655)=cx:=gM cN;rotate_left;rw[jG (λh=>o h.2.2.2)];have f:decide ((4:Int)<=(a:Int))=cx:=gM cN;have i:decide ((a:Int)<1024)=cx:=gM cN;have k:decide ((1:Int)<=(b:Int))=cx:=gM cN;have r:decide ((b:Int)<=281474976710655)=cy:=jG cN;rotate_left;rw[jG (λh=>n h.2.2.1)];have f:decide ((4:Int)<=(a:Int))=cx:=gM cN;have i:decide ((a:Int)<1024)=cx:=gM cN;have k:decide ((1:Int)<=(b:Int))=cy:=jG cN;rotate_left;rw[jG (λh=>m h.2.1)];have f:decide ((4:Int)<=(a:Int))=cx:=gM cN;have i:decide ((a:Int)<1024)=cy:=jG cN;rotate_left;rw[jG (λh=>l h.1)];have f:decide ((4:Int)<=(a:Int))=cy:=jG cN
 all_goals
  go_enter func241,ntmps241;go_wp2;go_ret;exact⟨ae,g.o⟩
def aaD(w:cS)(x y:Obj):dR w ((w.alloc x).alloc y):=((gJ _ _).alloc (eN _) _).alloc eQ _
theorem PL(p q:cQ)(w:cS):tf 178 #[mO p,mO q] w (bZ (nY p q)):=by
 have⟨a,b,c⟩:=p;have⟨d,e,f⟩:=q;have k:=aaD w (.cells #[bU cq a,bU ct b,bU .u32 c] 106) (.cells #[bU cq d,bU ct e,bU .u32 f] 106);have l:=cz k;clear k;unfold mO;simp only;by_cases h:b=e;by_cases j:a=d;have g:nY (a,b,c) (d,e,f)=decide (c<f):=by unfold nY;grind
 rw[g];have i:((b:Int)!=(e:Int))=cy:=by rw[vI];omega
 have m:((a:Int)!=(d:Int))=cy:=by rw[vI];omega
 clear g h j;have⟨r,g⟩:=dI (decide (c<f));rotate_left;have g:nY (a,b,c) (d,e,f)=decide (a<d):=by unfold nY;grind
 rw[g];have i:((b:Int)!=(e:Int))=cy:=by rw[vI];omega
 have m:((a:Int)!=(d:Int))=cx:=by rw[fJ];omega
 clear g h j;have⟨r,g⟩:=dI (decide (a<d));rotate_left;have g:nY (a,b,c) (d,e,f)=decide (b<e):=by unfold nY;simp only;rw[df h]
 rw[g];have i:((b:Int)!=(e:Int))=cx:=by rw[fJ];omega
 clear g h;have⟨r,g⟩:=dI (decide (b<e))
 all_goals
  rw[g];go_enter func178,ntmps178;go_wp2;go_ret;exact⟨ae,l.o⟩
theorem BW(p:cQ)(s:Nat)(w:cS):tf 154 #[mO p,bU ct s] w (bZ (jV p s)):=by
 have i:dR w (w.alloc (.cells #[bU cq p.1,bU ct p.2.1,bU .u32 p.2.2] 106)):=(gJ _ _).alloc (eN _) _;have f:=cz i;clear i;by_cases e:p=cX;have d:jV p s=cy:=jG (λh=>h.1 e);rw[d];have g:∀w,(binOp .neq 106 (bV #[bU cq p.1,bU ct p.2.1,bU .u32 p.2.2]) (bV #[bU cq 0,bU ct 0,bU .u32 0])).run prog w=.ok (bZ cy) w:=λw=>F9 p cX cx (gM e) w;have⟨a,b,c⟩:=p;simp only at g f;unfold mO;simp only;clear d e;rotate_left;have g:∀w,(binOp .neq 106 (bV #[bU cq p.1,bU ct p.2.1,bU .u32 p.2.2]) (bV #[bU cq 0,bU ct 0,bU .u32 0])).run prog w=.ok (bZ cx) w:=λw=>F9 p cX cy (jG e) w;have d:jV p s=decide (s<p.2.1):=by unfold jV;grind
 rw[d];clear d e;have⟨a,b,c⟩:=p;simp only at g f|-;unfold mO;simp only;have⟨r,d⟩:=dI (decide (s<b));rw[d]
 all_goals
  go_enter func154,ntmps154;go_wp2;go_ret;exact⟨ae,f.o⟩
theorem Xa{k:IntKind}{a:Addr}{l:List Int}(h:eT k w (bX (cu a) n c) l)(g:dR w W):
 n=l.n/\∀j u,(l.map (Value.int k))[j]?=cu u->W.cell? (a.add j)=cu u:=by obtain⟨ao,cap,d,_,_,hc⟩:=h;simp only[ly] at d;obtain⟨rfl,rfl,rfl⟩:=d;refine⟨ae,λj u f=>?_⟩;by_cases m:l=[];grind;have⟨b,o,e,hbs,hcell⟩:=hc m;obtain rfl:=wT e;simp only[rO,Ak] at f;obtain⟨x,q,rfl⟩:=f;obtain⟨i,rfl⟩:=nB.1 q;rw[Addr.add_lit];exact(g.cell (p:=⟨b,o+j,cw⟩) hbs).trans (hcell j i)
def tp(x:kQ):List Int:=[if x.1=cx then 1 else 0,x.2.1%256,x.2.1/256,x.2.2%256,x.2.2/256]
def Wh(x:kQ):Bool:=ku x.2.1 x.2.2
def pB(a:List kQ):Option (List Int):=if a.n<=4096/\a.all Wh=cx then cu (a.flatMap tp) else cw
def AS(bs:List Int)(k:Nat):kQ:=(bs.getD (5*k) 0==1,bs.getD (5*k+1) 0+256*bs.getD (5*k+2) 0,bs.getD (5*k+3) 0+256*bs.getD (5*k+4) 0)
def okB(bs:List Int)(k:Nat):Bool:=decide (bs.getD (5*k) 0<=1)&&Wh (AS bs k)
def AT(bs:List Int):Option (List kQ):=
 if bs.n%5=0/\bs.n<=20480/\(range (bs.n/5)).all (okB bs)=cx then cu ((range (bs.n/5)).map (AS bs)) else cw
theorem Ds(x:kQ):(tp x).n=5:=rfl
theorem yL(a:List kQ):(a.flatMap tp).n=5*a.n:=by induction a<;>grind[Ds]
theorem ade(a:List kQ){k:Nat}(h:k<a.n)(j:Nat)(b:j<5):(a.flatMap tp).getD (5*k+j) 0=(tp a[k]).getD j 0:=by induction a generalizing k with|nil=>simp at h|cons x r ih=>rw[BF];cases k with|zero=>rw[Nat.mul_zero,oQ,zE,IX (by grind[Ds]),<-zE];rfl|succ k=>grind[Ds]
theorem Y6(a:List kQ){k:Nat}(h:k<a.n)(b:Wh a[k]=cx):AS (a.flatMap tp) k=a[k]/\okB (a.flatMap tp) k=cx:=by
 have g:=(gg _ _).1 b;have c:=ade a h 0 cN;rw[xJ] at c;have d:AS (a.flatMap tp) k=a[k]:=by grind[AS,ade,tp,Prod.ext]
 refine⟨d,?_⟩;unfold okB;rw[d,b,c];generalize a[k]=x;grind[tp]
theorem TM{a:List kQ}(h:pB a=cu bs):AT bs=cu a/\bs.n=5*a.n:=by
 unfold pB at h;split at h;next hc=>cases h;have c:∀k(b:k<a.n),Wh a[k]=cx:=λk b=>rz.1 hc.2 _ (mP b);refine⟨?_,yL a⟩;unfold AT;rw[yL,show 5*a.n/5=a.n from by omega,df];congr 1;refine ext_getElem eQ λk d e=>?_;grind[Y6];refine⟨cN,cN,?_⟩;simp_all[Y6]
 cases h
def PM{α:Type}(o:Option α):Int:=if o.isSome=cx then 0 else 81
theorem TN{a:List kQ}(h:¬a.n<=4096):pB a=cw:=by unfold pB;grind
theorem Xb{a:List kQ}(b:k<a.n)(h:Wh a[k]=cy):pB a=cw:=by unfold pB;grind
theorem LO{a:List kQ}(h:a.n<=4096)(c:∀k(b:k<a.n),Wh a[k]=cx):pB a=cu (a.flatMap tp):=by
 unfold pB;rw[df ⟨h,rz.2 λx d=>by
  obtain⟨k,b,rfl⟩:=zF d
  grind⟩]
theorem adf{a:List kQ}(h:k<a.n):(a.take (k+1)).flatMap tp=(a.take k).flatMap tp++tp a[k]:=by grind[take_succ_eq_append_getElem]
theorem ah8{c:List kQ}(b:∀x∈c,Wh x=cx):∀y∈c.flatMap tp,(Lit.int .u8 y).wf=cx:=by intro y a;have⟨x,hx,a⟩:=Dh.1 a;have g:=(gg _ _).1 (b x hx);simp only[tp,iZ,jK,uH] at a;rcases a with rfl|rfl|rfl|rfl|rfl;grind[WalkArith.wf_u8];all_goals grind[WalkArith.wf_u8]
def Xc{k:IntKind}{l:List Int}(h:eT k w v l)(d:l≠ []):
 ∃b o c,v=bX (cu ⟨b,o,cw⟩) l.n c/\∀j u,(l.map (Value.int k))[j]?=cu u->w.cell? ((⟨b,o,cw⟩:Addr).add j)=cu u:=by have a:=h;obtain⟨ao,cap,rfl,_,_,hc⟩:=h;obtain⟨b,o,rfl,_,_⟩:=hc d;exact⟨b,o,cap,ae,(Xa a (gJ _ _)).2⟩
def TP(b:dR w w')(h:w.cell? ⟨E,1,cw⟩=cu x)(a:w.cell? ⟨E,2,cw⟩=cu y):
 w'.cell? ⟨E,1,cw⟩=cu x/\w'.cell? ⟨E,2,cw⟩=cu y:=
 ⟨(b.cell (p:=⟨E,1,cw⟩) (rQ h)).trans h,(b.cell (p:=⟨E,2,cw⟩) (rQ a)).trans a⟩
theorem Es(w:cS)(x y z:c7)(t:dU):((w.alloc (.cells #[x,y,z] t)).cell? ⟨w.h.s,0,cw⟩=cu x/\(w.alloc (.cells #[x,y,z] t)).cell? ⟨w.h.s,1,cw⟩=cu y/\(w.alloc (.cells #[x,y,z] t)).cell? ⟨w.h.s,2,cw⟩=cu z)/\w.h.s<(w.alloc (.cells #[x,y,z] t)).h.s:=
 by simp_all
def aaE(a:Below (w.alloc (.cells #[x,y,z] t)).h.s (w.alloc (.cells #[x,y,z] t)) w'):(w'.cell? ⟨w.h.s,0,cw⟩=cu x/\w'.cell? ⟨w.h.s,1,cw⟩=cu y/\w'.cell? ⟨w.h.s,2,cw⟩=cu z)/\w.h.s<w'.h.s:=
 have h:=Es w x y z t
 ⟨⟨(a.cell (p:=⟨_,0,cw⟩) h.2).trans h.1.1,(a.cell (p:=⟨_,1,cw⟩) h.2).trans h.1.2.1,(a.cell (p:=⟨_,2,cw⟩) h.2).trans h.1.2.2⟩,pM h.2 a.s⟩
def F'(a:Below (w.alloc (.cells #[x,y,z] t)).drew.h.s (w.alloc (.cells #[x,y,z] t)).drew w'):(w'.cell? ⟨w.h.s,0,cw⟩=cu x/\w'.cell? ⟨w.h.s,1,cw⟩=cu y/\w'.cell? ⟨w.h.s,2,cw⟩=cu z)/\w.h.s<w'.h.s:=
 aaE ((gJ _ _).drew.trans a)
def adg{o:Obj}(a:Below w4.drew.h.s w4.drew w5)(b:Below (w5.alloc o).h.s (w5.alloc o) w6):dR w4 w6:=by have c:dR w4 w5:=(gJ _ _).drew.trans a;have d:=c.alloc c.s o;exact Below.step d d.s b
def adh{o:Obj}(a:Below (w4.alloc o).drew.h.s (w4.alloc o).drew w5)(b:dR w5 w6):dR w4 w6:=by have c:dR w4 (w4.alloc o):=(gJ _ _).alloc (eN _) o;have d:dR w4 w5:=Below.step c c.s ((gJ _ _).drew.trans a);exact Below.step d d.s b
def adi(t s n b c:Nat)(g:t<=1)(f:s<4096)(d:n<=4096)(w:cS)(a:eT cq w (bX (cu ⟨b,0,cw⟩) 3 3) [1,2,2])(hc:(w.cell? ⟨c,0,cw⟩=cu (.int ct t)/\w.cell? ⟨c,1,cw⟩=cu (.int ct s)/\w.cell? ⟨c,2,cw⟩=cu (.int ct n))/\c<w.h.s):
 CP_ 73 #[bX (cu ⟨b,0,cw⟩) 3 3,bX (cu ⟨c,0,cw⟩) 3 3] w λe w'=>∃r,e=cj (cg #[r,bU cq 0])/\eT .u8 w' r [(t:Int),(s:Int)%256,(s:Int)/256,(n:Int)%256,(n:Int)/256]/\dR w w':=
 af4 b c t s n g f d w a hc.1 hc.2
section
attribute[local irreducible]wpList Code.wp Calls Oper.wp wpAnyH
def aaF(u:c7)(d:List kQ)(w:cS)(hu:tP w u d):
 CP_ 249 #[u] w λe w'=>∃r,e=cj (cg #[r,bU cq (PM (pB d))])/\eT .u8 w' r ((pB d).getD [])/\yI r/\dR w w':=by
 obtain⟨i0,hi,c6,a2,c8⟩:=oG K5;obtain⟨uo,e6,rfl,e3,c5,c4⟩:=hu;have HU:=cz c4;clear c4;have HW:=cz c5;clear c5;obtain⟨S,HS⟩:=yB (pB d);rw[<-HS.o];have d7:=gJ w.h.s w;by_cases F:¬d.n<=4096
 . have HN:Hid (S=cw):=by unfold Hid;rw[HS.o,TN F]
   have hl:(4096:Int)<(d.n:Int):=cN;go_enter func249,ntmps249;go_wp2;refine iH (v:=cg #[bX cw 0 0,bU cq 81]) (by simp[results,results249,go_sem]) ae ⟨_,by rw[HN.o];rfl,by rw[HN.o];exact I4 _ _,Eo,d7⟩
 have e1:d.n<=4096:=cN;have hl:¬(4096:Int)<(d.n:Int):=cN;clear F;go_enter func249,ntmps249
 go_wp2_with (refine LH (o:=⟨cu 16,_,_,_,_,_⟩) _ ae _ _ 22 ae w.h.s 5 i0 (bU .u8 0) 1 oT hi c6 a2 cq cq _ (5*d.n) ae ae cN (by rw[c8];omega) aN (eN _) ?_;intro w2 J q)
 have b4:dR w w2:=(gJ _ _).grown q (eN _) (λk e=>by cases e);clear q
 go_loopw [4,19] (λv i wr=>∃(k:Nat),k<=d.n/\i=bU cq k/\wr.ownsRow w.h.s 5 1 v ((d.take k).flatMap tp).n (((d.take k).flatMap tp).map (Value.int .u8))/\Hid (∀j(O:j<d.n),j<k->Wh d[j]=cx)/\dR w wr)
  (λ_ i _=>d.n-(intOf i).m)
 case atStart=>exact⟨0,gw _,ae,J,λj O h=>absurd h (wQ _),b4⟩
 case round=>
  clear J b4;obtain⟨k,hk,rfl,f,a4,hbel⟩:=hrel;have c3:=hbel.size;by_cases G:k<d.n
  . obtain⟨b,o,rfl,d9,D⟩:=HU.o (by intro h;simp[h] at G);obtain⟨h1,h2,h3⟩:=LC d9 D hbel G;clear D;have hw:=HW.o _ (mP G);have HT:Hid ((d.take (k+1)).flatMap tp=(d.take k).flatMap tp++tp d[k]):=adf G;have U:Hid (Wh d[k]=cy->S=cw):=λh=>by rw[HS.o,Xb G h]
    have A:Hid (Wh d[k]=cx->∀j(O:j<d.n),j<k+1->Wh d[j]=cx):=by
     intro h j O e8;by_cases b9:j=k
     . subst b9;exact h
     . exact a4.o j O cN
    obtain⟨⟨t,s,n⟩,hx⟩:∃x,x=d[k]:=⟨_,ae⟩;rw[<-hx] at h1 h2 h3 hw HT U A;clear hx;simp only at h1 h2 h3 hw;have d4:=cz hw;clear hw;obtain⟨c,HC⟩:=sO (ku s n);obtain⟨L,hL⟩:=fP ((d.take k).flatMap tp);rw[<-hL] at f HT;have B:L.n=5*k:=by rw[hL,yL,lP];omega
    clear hL;have b2:=cz B;clear B
    go_wp2_with fail
    obtain⟨V,g⟩:=fP (wr.alloc (.cells #[bZ t,bU cq s,bU cq n] 334));have p0:V.cell? ⟨wr.h.s,0,cw⟩=cu (.bool t):=by rw[g];exact aX
    have p1:V.cell? ⟨wr.h.s,1,cw⟩=cu (.int cq s):=by rw[g];exact aX
    have p2:V.cell? ⟨wr.h.s,2,cw⟩=cu (.int cq n):=by rw[g];exact aX
    have e2:V.h.s=wr.h.s+1:=by rw[g];simp
    have a7:dR w V:=by rw[g];exact hbel.alloc c3 _
    have I:=f.alloc (.cells #[bZ t,bU cq s,bU cq n] 334);rw[<-g] at I;rw[<-g];clear g hbel f h1 h2 h3;obtain⟨E,hE⟩:=fP wr.h.s;rw[<-hE] at p0 p1 p2 e2 c3|-;clear hE;refine(F5 t s n d4.o _).mono ?_;rw[HC.o];rintro e w4 ⟨rfl,l⟩;have a6:=Below.step a7 a7.s l;have c2:=me I l;have q0:=(l.cell (p:=⟨E,0,cw⟩) amI).trans p0;have q1:=(l.cell (p:=⟨E,1,cw⟩) amI).trans p1;have q2:=(l.cell (p:=⟨E,2,cw⟩) amI).trans p2;have e9:=l.s;clear p0 p1 p2 a7 I l;cases c with
    |false=>
     have HN:Hid (S=cw):=U.o HC.o;go_wp2;refine iH (v:=cg #[bX cw 0 0,bU cq 81]) (by simp[results,results249,go_sem]) ae ⟨_,by rw[HN.o];rfl,by rw[HN.o];exact I4 _ _,Eo,a6⟩
    |true=>
     obtain⟨g1,g2,g3,g4⟩:=(gg s n).1 HC.o;obtain⟨a,rfl⟩:∃a:Nat,s=(a:Int):=⟨s.m,cN⟩;obtain⟨m,rfl⟩:∃a:Nat,n=(a:Int):=⟨n.m,cN⟩;have e7:E<w4.h.s:=cN;have f1:IntKind.u64.wrap (a:Int)=(a:Int):=BX _ cN;have f2:IntKind.u64.wrap (m:Int)=(m:Int):=BX _ cN;have hA:a<4096:=cN;have hM:m<=4096:=cN;have d5:(0:Nat)<=1:=by decide
     have d6:(1:Nat)<=1:=by decide
     have e4:=World.new_ne w4 ⟨E,1,cw⟩ q1;have e5:=World.new_ne w4 ⟨E,2,cw⟩ q2;have d3:=cz (A.o HC.o);cases t
     all_goals
      go_wp2_with fail
      go_region_held3 (λW=>W.cell? ⟨E,1,cw⟩=cu (.int cq (a:Int))/\W.cell? ⟨E,2,cw⟩=cu (.int cq (m:Int)))
       (first|go_keep|(go_split_ands;exact TP C aQ aQ)|(go_split_ands;exact TP z aQ aQ))
       (first|(go_at_call 245;refine(LG _).mono ?_;rintro e w5 ⟨b5,rfl,M,-,z⟩)|(go_at_call 73;refine(adi 0 a m _ _ d5 hA hM _ ?_ ?_).mono ?_;(first|exact M|exact M.cP ((gJ _ _).alloc (eN _) _));(first|exact Es _ _ _ _ _|exact F' z);rintro e w6 ⟨r6,rfl,R,C⟩)|(go_at_call 73;refine(adi 1 a m _ _ d6 hA hM _ ?_ ?_).mono ?_;(first|exact M|exact M.cP ((gJ _ _).alloc (eN _) _));(first|exact Es _ _ _ _ _|exact F' z);rintro e w6 ⟨r6,rfl,R,C⟩))
      all_goals
       have a5:dR w4 w6:=by first|exact adg z C|exact adh z C
       have b6:=Below.step a6 a6.s a5;have a1:=me c2 a5;clear z C M a5
       first
        |(have K:eT .u8 w6 r6 (tp (cy,(a:Int),(m:Int))):=R
          generalize hN:tp (cy,(a:Int),(m:Int))=N at K HT;have Q:Hid (N.n=5):=by rw[<-hN];rfl)
        |(have K:eT .u8 w6 r6 (tp (cx,(a:Int),(m:Int))):=R
          generalize hN:tp (cx,(a:Int),(m:Int))=N at K HT;have Q:Hid (N.n=5):=by rw[<-hN];rfl)
       clear R hN;obtain⟨rb,ro,rc,rfl,H⟩:=Xc K (by intro h;have:=Q.o;simp[h] at this);clear K;have a3:=cz H;clear H;have Z:∀u∈N.map (Value.int .u8),u.oneCell'=cx:=by simp[Value.oneCell']
       have b3:=cz Z;clear Z;have b7:L.n+N.n<=maxLen:=by have:=b2.o;have:=Q.o;unfold maxLen;omega
       have b8:(L.n+N.n)*1<=140737488355328:=by have:=b2.o;have:=Q.o;omega
       have d1:=cz b7;clear b7;have d2:=cz b8;clear b8;have c9:=b6.s
       go_wp2_with (first|(at_builtin;refine yE _ ae (.tmp 45) (.tmp 46) 22 ae w.h.s 5 i0 (bU .u8 0) 1 1 oT hi c6 a2 c8 ae kB _ _ _ ae a1 ⟨rb,ro,cw⟩ N.n rc (N.map (Value.int .u8)) ae eQ a3.o b3.o d1.o d2.o c9 ?_;intro v7 w7 a8 y _))
       have d8:=b6.grown y c9 (λj h=>(a1.lt j h).1);clear y;go_roundw
       case rel=>
        refine⟨k+1,cN,by go_num,?_,d3.o,d8⟩;rw[HT.o,ji,nL];exact a8
       case measure=>exact pR
  . obtain rfl:k=d.n:=cN;have T:Hid (S=cu (d.flatMap tp)):=by unfold Hid;rw[HS.o,LO e1 (λj O=>a4.o j O O)]
    rw[qq] at f;have c1:∀x∈d,Wh x=cx:=by
     intro x hx;obtain⟨j,O,rfl⟩:=zF hx;exact a4.o j O O
    have Y:=qZ f (ah8 c1) (by rw[yL];omega);have X:=Wz f;have b1:=cz Y;clear Y f c1;have a9:=cz X;clear X;go_wp2;refine iH (v:=cg #[u4,bU cq 0]) (by simp[results,results249,go_sem]) ae ⟨_,by rw[T.o];rfl,by rw[T.o];exact b1.o,a9.o,hbel⟩
end
section
variable {a:Act}
def wx_(i dst:Nat)(v:c7)(f:ops[i]?=cu sP)(k:YieldsIf prog ops S sP v a)(hS:S w)(q:Q')(b:sP.dst=cu dst:=by rfl)(h:Q'->wpAnyH prog .any ops Q S fuel (listed.setIfInBounds i cx) (a.put (cu dst) v) w:=by intro q;simp only[Oq];exact q)(j:Region.noSelect ops=cx:=by kernel_rfl)(e:Region.free .any ops listed i=cx:=by kernel_rfl)(g:(Region.ready .any ops listed).contains i=cx:=by kernel_rfl)(d:∀c a w,Q (.panic c) (a.put (cu dst) v) w->Q (.panic c) a w:=by exact λ_ _ _ h=>h):wpAnyH prog .any ops Q S (fuel+1) listed a w:=
 wpAnyH_take f j e g (by rw[b];exact d) k hS (by rw[b];exact h q)
def GL(i dst:Nat)(v:c7)(hS:S w)(q:Q')(f:ops[i]?=cu sP:=by rfl)(k:YieldsIf prog ops S sP v a:=by exact Or.inl ⟨dC,λw l=>by go_simp⟩)(d:sP.dst=cu dst:=by rfl)(h:Q'->wpAnyH prog .any ops Q S fuel (listed.setIfInBounds i cx) (a.put (cu dst) v) w:=by intro q;simp only[Oq];exact q)(j:Region.noSelect ops=cx:=by kernel_rfl)(e:Region.free .any ops listed i=cx:=by kernel_rfl)(g:(Region.ready .any ops listed).contains i=cx:=by kernel_rfl)(b:∀c a w,Q (.panic c) (a.put (cu dst) v) w->Q (.panic c) a w:=by exact λ_ _ _ h=>h):wpAnyH prog .any ops Q S (fuel+1) listed a w:=
 wx_ i dst v f k hS q d h j e g b
end
def iM(p:cQ):cV:=qQ 4 p.1++(qQ 8 p.2.1++qQ 4 p.2.2)
theorem fY(p:cQ):(iM p).n=16:=by rfl
theorem pX(p:cQ):∀x∈iM p,x<256:=by intro x a;unfold iM at a;rcases gH.1 a with h|h;exact yG _ _ x h;rcases gH.1 h with h|h<;>exact yG _ _ x h
section
attribute[local irreducible]wpList Code.wp Calls Oper.wp wpAnyH
def JY(w:cS):CP_ 240 #[] w λe w'=>∃b,e=cj (bX (cu ⟨b,0,cw⟩) 3 3)/\eT cq w' (bX (cu ⟨b,0,cw⟩) 3 3) [4,8,4]/\b=w.h.s/\dR w w':=by go_enter func240,ntmps240;go_wp2;go_ret;exact⟨_,ae,Pz w [4,8,4] _ _ ae kB kB _ _ ae,ae,(gJ _ _).alloc (eN _) _⟩
theorem adj(p:cQ)(a:p.1<4294967296)(b:p.2.1<18446744073709551616)(c:p.2.2<4294967296):vR [4,8,4] [p.1,p.2.1,p.2.2]=cu (iM p):=by unfold vR;rw[df ⟨by decide,ae,by grind[fitAll]⟩];rfl
theorem wf_u64{x:Nat}(h:x<18446744073709551616):(Lit.int ct (x:Int)).wf=cx:=by grind[Lit.wf,IntKind.min,IntKind.max,IntKind.signed,IntKind.bits]
theorem af7(p:cQ)(f:p.1<4294967296)(g:p.2.1<18446744073709551616)(h:p.2.2<4294967296)(b c:Nat)(w:cS)(i:eT cq w (bX (cu ⟨b,0,cw⟩) 3 3) [4,8,4])(hc:(w.cell? ⟨c,0,cw⟩=cu (.int ct p.1)/\w.cell? ⟨c,1,cw⟩=cu (.int ct p.2.1)/\w.cell? ⟨c,2,cw⟩=cu (.int ct p.2.2))/\c<w.h.s):
 CP_ 73 #[bX (cu ⟨b,0,cw⟩) 3 3,bX (cu ⟨c,0,cw⟩) 3 3] w λe w'=>∃r,e=cj (cg #[r,bU cq 0])/\mN w' w.h.s r (iM p)/\dR w w':=by
 have l:eT cq w (bX (s_ b 0) 3 3) (dN [4,8,4]):=i;have k:eT ct w (bX (s_ c 0) 3 3) (dN [p.1,p.2.1,p.2.2]):=by refine⟨cu ⟨c,0,cw⟩,3,ae,by simp[dN],?_,λ_=>⟨c,0,ae,hc.2,?_⟩⟩;intro x d;simp[dN] at d;rcases d with rfl|rfl|rfl<;>exact wf_u64 cN;grind[dN]
 refine(GU _ _ [4,8,4] [p.1,p.2.1,p.2.2] kB w l k).mono ?_;rw[adj p f g h];rintro e w' ⟨r,rfl,j,a⟩;exact⟨r,ae,j,a⟩
def Ga(b:dR w w')(h:w.cell? ⟨E,0,cw⟩=cu x)(c:w.cell? ⟨E,1,cw⟩=cu y)(a:w.cell? ⟨E,2,cw⟩=cu z):
 w'.cell? ⟨E,0,cw⟩=cu x/\w'.cell? ⟨E,1,cw⟩=cu y/\w'.cell? ⟨E,2,cw⟩=cu z:=
 ⟨(b.cell (p:=⟨E,0,cw⟩) (rQ h)).trans h,(b.cell (p:=⟨E,1,cw⟩) (rQ c)).trans c,(b.cell (p:=⟨E,2,cw⟩) (rQ a)).trans a⟩
def dD(p:cQ):Prop:=p.1<4294967296/\p.2.1<18446744073709551616/\p.2.2<4294967296
def xU(p:cQ)(H:dD p)(w:cS):
 CP_ 233 #[mO p] w λe w'=>∃r,e=cj (cg #[r,bU cq (if ij p=cx then 0 else 51)])/\mN w' w.h.s r (if ij p=cx then iM p else [])/\dR w w':=by
 have⟨hp1,hp2,hp3⟩:=H;have⟨W0,HW0⟩:=yB (w.alloc (.cells #[bU cq p.1,bU ct p.2.1,bU .u32 p.2.2] 106));have h:dR w W0:=by rw[HW0.o];exact aR
 have q:W0.cell? ⟨w.h.s,0,cw⟩=cu (.int cq p.1):=by rw[HW0.o];exact aX
 have s:W0.cell? ⟨w.h.s,1,cw⟩=cu (.int ct p.2.1):=by rw[HW0.o];exact aX
 have t:W0.cell? ⟨w.h.s,2,cw⟩=cu (.int .u32 p.2.2):=by rw[HW0.o];exact aX
 have x:W0.h.s=w.h.s+1:=by rw[HW0.o];simp
 have⟨E,HE⟩:=yB w.h.s;rw[<-HE.o] at q s t x;have y:=cz q;clear q;have z:=cz s;clear s;have A:=cz t;clear t;have⟨r,HR⟩:=sO (ij p);rw[HR.o];have B:=cz (yK p);have k:=cz (af7 p hp1 hp2 hp3);have⟨a,b,c⟩:=p;simp only at hp1 hp2 hp3;unfold mO;simp only;go_enter func233,ntmps233;go_wp2_with fail
 rw[<-HW0.o,<-HE.o];refine(B.o _).mono ?_;rw[HR.o];rintro e w1 ⟨rfl,i⟩;have f:=Below.step h h.s i;have⟨q0,q1,q2⟩:=Ga i y.o z.o A.o;clear y z A i h HW0 B;have I:=f.s;have n:Hid (mN w1 w.h.s (bX cw 0 0) []):=iD w1 w.h.s 5 1;cases r with
 |false=>go_wp2;refine iH (v:=cg #[bX cw 0 0,bU cq 51]) (by simp[results,results233,go_sem]) ae ⟨_,ae,n.o,f⟩
 |true=>
  have K:IntKind.u64.wrap (a:Int)=(a:Int):=BX _ cN;have L:IntKind.u64.wrap (c:Int)=(c:Int):=BX _ cN;have C:=World.new_ne w1 ⟨E,0,cw⟩ q0;have D:=World.new_ne w1 ⟨E,1,cw⟩ q1;have F:=World.new_ne w1 ⟨E,2,cw⟩ q2;go_wp2_with fail
  go_region_held3 (λW=>W.cell? ⟨E,0,cw⟩=cu (.int cq (a:Int))/\W.cell? ⟨E,1,cw⟩=cu (.int ct (b:Int))/\W.cell? ⟨E,2,cw⟩=cu (.int .u32 (c:Int)))
   (first|go_keep|(go_split_ands;exact Ga g aQ aQ aQ)|(go_split_ands;exact Ga d aQ aQ aQ))
   (first|(go_at_call 240;refine(JY _).mono ?_;rintro e w5 ⟨M,rfl,j,-,d⟩)|(go_at_call 73;refine(k.o _ _ _ ?_ ?_).mono ?_;(first|exact j|exact j.cP ((gJ _ _).alloc (eN _) _));(first|exact Es _ _ _ _ _|exact F' d);rintro e w6 ⟨J,rfl,m,g⟩))
  all_goals
   have l:dR w1 w6:=by first|exact adg d g|exact adh d g
   have u:=Below.step f f.s l;have o:=cz (aay m (base':=w.h.s) (by have G:=d.s;simp at G|-;omega));clear d g j l m;go_wp2;refine iH (v:=cg #[J,bU cq 0]) (by simp[results,results233,go_sem]) ae ⟨_,ae,o.o,u⟩
theorem TQ{p:Tmp}(h:fn.results=#[.cell p ty])(j:tmps.getD p undef=bW (cu ⟨g,0,cw⟩))(c:cM w g t n f)(e:P.underlying ty=cu d)(b:(match d with| .struct _| .array _ _=>cx|_=>cy)=cx)(i:(P.info? ty).map (·.size)=cu n):
 (results fn tmps).run P w=.ok (bV (cL n f)) w:=by
 have a:tmps[p]?.getD undef=dE g 0:=by simp_all
 simp[results,h,a,asAddr,Ja w g t ty (cL n f) (0,0) d c e b aG]
theorem mD{p q:Tmp}(h:fn.results=#[.cell p ty,.tmp q])(j:tmps.getD p undef=bW (cu ⟨g,0,cw⟩))(c:cM w g t n f)(e:P.underlying ty=cu d)(b:(match d with| .struct _| .array _ _=>cx|_=>cy)=cx)(i:(P.info? ty).map (·.size)=cu n):
 (results fn tmps).run P w=.ok (cg #[bV (cL n f),tmps.getD q undef]) w:=by
 have a:tmps[p]?.getD undef=dE g 0:=by simp_all
 simp[results,h,a,asAddr,Ja w g t ty (cL n f) (0,0) d c e b aG,Result.andThen]
theorem OB{p q r:Tmp}(h:fn.results=#[.cell p ty,.tmp q,.tmp r])(j:tmps.getD p undef=bW (cu ⟨g,0,cw⟩))(c:cM w g t n f)(e:P.underlying ty=cu d)(b:(match d with| .struct _| .array _ _=>cx|_=>cy)=cx)(i:(P.info? ty).map (·.size)=cu n):
 (results fn tmps).run P w=.ok (cg #[bV (cL n f),tmps.getD q undef,tmps.getD r undef]) w:=by
 have a:tmps[p]?.getD undef=dE g 0:=by simp_all
 simp[results,h,a,asAddr,Ja w g t ty (cL n f) (0,0) d c e b aG,Result.andThen]
def dF(p:cQ):Nat->c7:=λi=>if i=0 then bU cq p.1 else if i=1 then bU ct p.2.1 else bU .u32 p.2.2
theorem dJ(p:cQ):∀i,(dF p i).oneCell'=cx:=by intro i;unfold dF;split;rfl;split<;>rfl
theorem zM(p:cQ):cL 3 (dF p)=#[bU cq p.1,bU ct p.2.1,bU .u32 p.2.2]:=rfl
theorem GX(p:cQ):Value.agg (cL 3 (dF p))=mO p:=rfl
def kx:(prog.info? 106).map (·.size)=cu 3:=dC
def Fb(w:cS)(b:Nat)(p:cQ):Prop:=cM w b 106 3 (dF p)
theorem Fb.new(w:cS)(p:cQ):Fb (w.alloc (.cells #[bU cq p.1,bU ct p.2.1,bU .u32 p.2.2] 106)) w.h.s p:=AI _ _
def AU(bs:cV):cQ:=(jL (bs.take 4),jL ((bs.drop 4).take 8),jL ((bs.drop 12).take 4))
def nZ(bs:cV):Option cQ:=if bs.n=16/\ij (AU bs)=cx then cu (AU bs) else cw
theorem Dt{l:cV}(h:∀x∈l,x<256)(a:l.n<=n):jL l<256^n:=
 by grind[Nat.lt_of_lt_of_le,LI,Nat.pow_le_pow_right]
theorem Gb{bs:cV}(h:∀x∈bs,x<256):dD (AU bs):=by refine⟨?_,?_,?_⟩;exact Dt (n:=4) (λx a=>h x (lQ a)) (length_take_le _ _);exact Dt (n:=8) (λx a=>h x (mS (lQ a))) (length_take_le _ _);exact Dt (n:=4) (λx a=>h x (mS (lQ a))) (length_take_le _ _)
theorem adk(bs:cV):sw [4,8,4] bs=if bs.n=16 then cu [(AU bs).1,(AU bs).2.1,(AU bs).2.2] else cw:=by unfold sw;simp_all[pz,AU,okW,sY]
theorem wX(u:c7)(bs:cV)(w:cS)(F:eT .u8 w u (dN bs))(A:yI u):
 tf 195 #[u] w (cg #[mO ((nZ bs).getD cX),bU cq (gi 51 (nZ bs))]):=by
 have U:∀x∈bs,x<256:=BV (by obtain⟨_,_,_,_,h,_⟩:=F;exact h);have H:=cz F;clear F;have I:=cz A;clear A;have⟨W0,hW0⟩:=fP (w.alloc (.cells #[bU cq 0,bU ct 0,bU .u32 0] 106));have B:dR w W0:=by rw[hW0];exact aR
 have Z:Fb W0 w.h.s cX:=by rw[hW0];exact Fb.new w cX
 have G:W0.h.s=w.h.s+1:=by rw[hW0];simp
 have F:eT .u8 W0 u (dN bs):=H.o.cP (by rw[hW0];exact aR);have R:=cz hW0;clear hW0;have N:=cz F;clear F;have K:=cz Z;clear Z;have⟨E,hE⟩:=fP w.h.s;rw[<-hE] at G;have G:w.h.s<=E:=cN;have X:=cz hE;clear hE;have V:∃a n c,u=bX a n c:=by obtain⟨a,c,h,_⟩:=H.o;exact⟨_,_,_,h⟩
 go_enter func195,ntmps195;go_wp2_with fail;rw[<-R.o,<-X.o];refine(JY _).mono ?_;rintro e w1 ⟨F,rfl,H,-,y⟩;have C:=Below.step B B.s y;have F:=cM.cP K.o y;have O:=cz (N.o.cP y);have L:=cz F;have Q:=cz H;clear F H K N y B R;obtain⟨a,n,c,rfl⟩:=V;go_wp2_with fail;refine(JX _ _ [4,8,4] bs bA _ Q.o O.o I.o).mono ?_;rw[adk];rintro e k ⟨F,rfl,b,D⟩;have t:=Below.step C C.s D;have j:=cM.cP L.o D;rw[<-X.o] at j;have s:=cz j;clear j L O Q D C;by_cases H:bs.n=16;case neg=>rw[cZ H];have F:nZ bs=cw:=cZ (λh=>H h.1);have J:=cz F;clear F b;have hc:gi 21 (cw:Option cV)=21:=rfl;rw[hc];clear hc;go_wp2_with (refine wpList_store_row (o:=⟨cw,.store 106 (.tmp 2) (.tmp 15),_,_,_,cw⟩) ae 106 (.tmp 2) (.tmp 15) ae E ae 3 (dF cX) _ ae (zM cX).symm 106 (dF cX) s.o kx (dJ _) ?_);refine iH (mD (p:=2) (q:=3) (ty:=106) ae ae (cM.setRow s.o (dF cX)) Al ae kx) ae ⟨by rw[J.o];rfl,Below.setRow t G _⟩
 rw[df H] at b|-;have hc:gi 21 (cu [(AU bs).1,(AU bs).2.1,(AU bs).2.2])=0:=rfl;rw[hc];clear hc;have F:=Gb U;have⟨hp1,hp2,hp3⟩:=F;have F:nZ bs=if ij (AU bs)=cx then cu (AU bs) else cw:=by unfold nZ;grind
 have m:=cz F;clear F U H;have⟨r,hr⟩:=dI (ij (AU bs));rw[hr] at m;have M:=cz hr;clear hr;have⟨p,hpd⟩:=dI (AU bs);rw[hpd] at m M b hp1 hp2 hp3;clear hpd;rcases b.2 with⟨_,I⟩|⟨g,d,F,rfl,F,H,_⟩;simp at I;have K:=I' b 0 eQ;have L:=I' b 1 eQ;have N:=I' b 2 eQ;simp at K L N;have I:g<k.h.s:=(rN.1 H).1;clear b H F;have O:IntKind.i64.wrap (p.1:Int)=(p.1:Int):=kS _ cN;have R:IntKind.u32.wrap (p.2.2:Int)=(p.2.2:Int):=IntWalk.u32_in _ cN;have V:=World.new_ne k ⟨g,0,cw⟩ K;have X:=World.new_ne k ⟨g,1,cw⟩ L;have Y:=World.new_ne k ⟨g,2,cw⟩ N;go_wp2_with fail;go_region_held3 (λW=>W.cell? ⟨g,0,cw⟩=cu (.int ct (p.1:Int))/\W.cell? ⟨g,1,cw⟩=cu (.int ct (p.2.1:Int))/\W.cell? ⟨g,2,cw⟩=cu (.int ct (p.2.2:Int))) (go_keep) (fail);have f:Fb (k.alloc (.cells #[bU cq p.1,bU ct p.2.1,bU .u32 p.2.2] 106)).drew k.h.s p:=Fb.new k p;have i:Fb (k.alloc (.cells #[bU cq p.1,bU ct p.2.1,bU .u32 p.2.2] 106)).drew E cX:=cM.alloc_old s.o _;have v:dR w (k.alloc (.cells #[bU cq p.1,bU ct p.2.1,bU .u32 p.2.2] 106)).drew:=(t.alloc t.s _).drew;have⟨w3,hw3⟩:=fP ((k.alloc (.cells #[bU cq p.1,bU ct p.2.1,bU .u32 p.2.2] 106)).drew);rw[<-hw3] at f i v|-;have⟨F,hF⟩:=fP k.h.s;rw[<-hF] at f|-;have I:=cz f;clear f;have H:=cz i;clear i hw3 hF s t K L N V X Y O R;go_wp2_with (refine tL (o:=⟨cu 28,.load 106 (.tmp 6),_,_,_,cw⟩) ae 106 (.tmp 6) ae F ae 3 106 _ I.o _ Al ae kx ?_;rw[zM]);refine(yK p _).mono ?_;rw[M.o];rintro e w4 ⟨rfl,z⟩;have T:=Below.step v v.s z;have K:=cz (show Fb w4 F p from cM.cP I.o z);have l:=cz (show Fb w4 E cX from cM.cP H.o z);clear z I H v;cases r with|false=>have J:Hid (nZ bs=cw):=m.o;go_wp2_with (refine wpList_store_row (o:=⟨cw,.store 106 (.tmp 2) (.tmp 31),_,_,_,cw⟩) ae 106 (.tmp 2) (.tmp 31) ae E ae 3 (dF cX) _ ae (zM cX).symm 106 (dF cX) l.o kx (dJ _) ?_);refine iH (mD (p:=2) (q:=3) (ty:=106) ae ae (cM.setRow l.o (dF cX)) Al ae kx) ae ⟨by rw[J.o];rfl,Below.setRow T G _⟩|true=>have J:Hid (nZ bs=cu p):=m.o;go_wp2_with (first|(refine tL (o:=⟨cu 32,.load 106 (.tmp 6),_,_,_,cw⟩) ae 106 (.tmp 6) ae F ae 3 106 _ K.o _ Al ae kx ?_;rw[zM])|refine wpList_store_row (o:=⟨cw,.store 106 (.tmp 2) (.tmp 32),_,_,_,cw⟩) ae 106 (.tmp 2) (.tmp 32) ae E ae 3 (dF p) _ ae (zM p).symm 106 (dF cX) l.o kx (dJ _) ?_);refine iH (mD (p:=2) (q:=3) (ty:=106) ae ae (cM.setRow l.o (dF p)) Al ae kx) ae ⟨by rw[J.o];rfl,Below.setRow T G _⟩
def qu(st:Nat->Nat)(s:Nat):Nat->Nat
 |0=>0
 |k+1=>qu st s k+if st (s+k)=1 then 1 else 0
def km(st:Nat->Nat)(k:Nat):Nat:=qu st (64*k) 64
def kC(st:Nat->Nat)(i v:Nat):Nat->Nat:=λj=>if j=i then v else st j
def GY(st:Nat->Nat):Nat->Nat
 |0=>0
 |k+1=>GY st k+km st k
def fR(st:Nat->Nat):Nat:=GY st 16
def sZ(st:Nat->Nat):Nat->Nat
 |0=>0
 |k+1=>if km st (sZ st k)<km st k then k else sZ st k
def LP(st:Nat->Nat):Nat:=sZ st 16
def mU(st:Nat->Nat)(s:Nat):Nat->Option Nat
 |0=>cw
 |k+1=>match mU st s k with
  |some i=>cu i
  |none=>if st (s+k)=1 then cu (s+k) else cw
def nG(st:Nat->Nat):Option Nat:=mU st (64*LP st) 64
def iI(st:Nat->Nat):Nat->cV×(Nat->Nat)
 |0=>([],st)
 |k+1=>match nG (iI st k).2 with
  |some i=>((iI st k).1++[i],kC (iI st k).2 i 2)
  |none=>iI st k
def qH(T:Int):Nat->Nat:=λi=>if 4<=i/\(i:Int)<T/\i<1024 then 1 else 0
def mV(st:Nat->Nat):Nat->Nat:=λi=>if st i=3 then 1 else st i
theorem BY(st:Nat->Nat)(s k:Nat):qu st s (k+1)=qu st s k+if st (s+k)=1 then 1 else 0:=rfl
theorem LQ(st:Nat->Nat)(s k:Nat):qu st s k<=k:=by induction k with|zero=>simp[qu]|succ k ih=>grind[qu]
def TR(st:Nat->Nat)(k:Nat):km st k<=64:=LQ _ _ _
theorem JZ{st a:Nat->Nat}{s k:Nat}(h:∀i,s<=i->i<s+k->st i=a i):qu st s k=qu a s k:=by induction k<;>grind[qu]
theorem aaH(st:Nat->Nat)(s k m:Nat):qu st s (k+m)=qu st s k+qu st (s+k) m:=by induction m with|zero=>rfl|succ m ih=>rw[show k+(m+1)=(k+m)+1 from ae,BY,BY,ih,FT s k m];omega
theorem Jb(st:Nat->Nat)(i v:Nat):kC st i v i=v:=by simp[kC]
theorem Gc(st:Nat->Nat){i j:Nat}(v:Nat)(h:j≠i):kC st i v j=st j:=by simp[kC,h]
theorem aaI{st:Nat->Nat}{i v:Nat}(h:st i=v):kC st i v=st:=by grind[kC]
theorem aaJ(st:Nat->Nat)(i v u:Nat):kC (kC st i v) i u=kC st i u:=by grind[kC]
theorem Fc(st:Nat->Nat){i s k:Nat}(v:Nat)(h:¬(s<=i/\i<s+k)):qu (kC st i v) s k=qu st s k:=
 by grind[JZ,Gc]
theorem PN(st:Nat->Nat){i s k:Nat}(v:Nat)(a:s<=i)(b:i<s+k):
 qu (kC st i v) s k+(if st i=1 then 1 else 0)=qu st s k+(if v=1 then 1 else 0):=by induction k<;>grind[qu,Fc,Jb,Gc]
theorem OC(st:Nat->Nat){i k:Nat}(v:Nat)(h:i/64≠k):km (kC st i v) k=km st k:=
 Fc st v cN
def aaK(st:Nat->Nat)(v:Nat)(h:i/64=k):
 km (kC st i v) k+(if st i=1 then 1 else 0)=km st k+(if v=1 then 1 else 0):=
 PN st v cN cN
theorem TS(st:Nat->Nat)(k:Nat):GY st k=qu st 0 (64*k):=by induction k with|zero=>rfl|succ k ih=>unfold GY;rw[ih,show 64*(k+1)=64*k+64 from by omega,aaH,oQ];rfl
theorem Et(st:Nat->Nat):fR st=qu st 0 1024:=TS st 16
theorem TT(st:Nat->Nat)(k:Nat):GY st k<=64*k:=by grind[TS,LQ]
theorem Xd(st:Nat->Nat)(v:Nat)(h:i<1024):
 fR (kC st i v)+(if st i=1 then 1 else 0)=fR st+(if v=1 then 1 else 0):=by grind[Et,PN]
theorem PO(st:Nat->Nat)(a:0<k):sZ st k<k:=by induction k with|zero=>omega|succ k ih=>unfold sZ;split;omega;rcases vK k with rfl|h;simp_all[sZ];omega
theorem adl(st:Nat->Nat):LP st<16:=PO st cN
theorem Xe(st:Nat->Nat)(k:Nat):∀j,j<k->km st j<=km st (sZ st k)/\(j<sZ st k->km st j<km st (sZ st k)):=by induction k with|zero=>omega|succ k ih=>intro j c;unfold sZ;by_cases b:km st (sZ st k)<km st k;grind;rw[cZ b];by_cases a:j=k;subst a;refine⟨cN,λh=>?_⟩;rcases vK j with rfl|h0;grind[sZ];have:=PO st h0;omega;grind
theorem aaL(st:Nat->Nat){j:Nat}(h:j<16):km st j<=km st (LP st):=(Xe st 16 j h).1
theorem yM{s:Nat}(h:mU st s k=cu i):s<=i/\i<s+k/\st i=1/\∀j,s<=j->j<i->st j≠1:=by
 have a:∀m,mU st s m=cw->∀j,s<=j->j<s+m->st j≠1:=by intro m;induction m<;>grind[mU]
 induction k<;>grind[mU]
theorem LR{s:Nat}(h:mU st s k=cw):qu st s k=0:=by induction k with|zero=>rfl|succ k ih=>unfold mU at h;split at h;cases h;simp_all[qu]
theorem Jc{s:Nat}(a:s<=i)(b:i<s+k)(h:st i=1):0<qu st s k:=by induction k with|zero=>omega|succ k ih=>unfold qu;grind
theorem Q9{s:Nat}(b:∀j,j<k->st (s+j)≠1)(h:st (s+k)=1)(m:Nat)(e:k<m):mU st s m=cu (s+k):=by
 have c:mU st s k=cw:=by cases a:mU st s k with|none=>rfl|some i=>have:=yM a;have d:=b (i-s) cN;grind
 induction m<;>grind[mU]
theorem Ra{s:Nat}(b:∀j,j<k->st (s+j)≠1):mU st s k=cw:=by cases a:mU st s k with|none=>rfl|some i=>have:=yM a;have c:=b (i-s) cN;grind
theorem qv(h:nG st=cu i):i<1024/\st i=1/\i/64=LP st/\∀j,64*LP st<=j->j<i->st j≠1:=by have:=yM h;grind[adl]
theorem CG(st:Nat->Nat):nG st=cw↔fR st=0:=by constructor;(intro h;have b:km st (LP st)=0:=LR h;have c:∀k,k<=16->GY st k=0:=by intro k;induction k<;>grind[GY,aaL]);simp_all[fR];intro h;cases a:nG st with|none=>rfl|some i=>have:=qv a;rw[Et] at h;have:=Jc (st:=st) (s:=0) (k:=1024) (i:=i) cN cN this.2.1;omega
theorem Gd(h:0<fR st):∃i,nG st=cu i:=by cases a:nG st with|none=>grind[CG]|some i=>grind
theorem Rb(h:nG st=cu i):fR (kC st i 2)+1=fR st:=by have:=qv h;have a:=Xd st 2 this.1;grind
theorem BZ(st:Nat->Nat)(h:nG (iI st k).2=cu i):iI st (k+1)=((iI st k).1++[i],kC (iI st k).2 i 2):=by rw[show iI st (k+1)=(match nG (iI st k).2 with|some i=>((iI st k).1++[i],kC (iI st k).2 i 2)|none=>iI st k) from ae,h]
theorem zN(st:Nat->Nat)(h:k<=fR st):fR (iI st k).2+k=fR st/\(iI st k).1.n=k:=by induction k with|zero=>exact aE|succ k ih=>have⟨h1,h2⟩:=ih cN;obtain⟨i,a⟩:=Gd (st:=(iI st k).2) cN;have:=Rb a;rw[BZ st a];grind
structure jX(b:Nat)(w w':cS):Prop where
 os:w'.os=w.os
 tape:w'.tape=w.tape
 output:w'.output=w.output
 size:w.h.s<=w'.h.s
 block:∀k,k<w.h.s->k≠b->w'.h[k]?=w.h[k]?
theorem jX.refl(b:Nat)(w:cS):jX b w w:=⟨ae,ae,ae,eN _,λ_ _ _=>ae⟩
theorem jX.trans{b:Nat}{w w1 d:cS}(h:jX b w w1)(k:jX b w1 d):jX b w d:=
 ⟨k.os.trans h.os,k.tape.trans h.tape,k.output.trans h.output,iE h.size k.size,λi c a=>(k.block i (pM c h.size) a).trans (h.block i c a)⟩
theorem jX.tq{b:Nat}{w w':cS}(h:dR w w'):jX b w w':=⟨h.os,h.tape,h.output,h.s,λk a _=>h.block k a⟩
theorem jX.drew(h:jX b w w'):jX b w w'.drew:=⟨h.os,h.tape,h.output,h.size,h.block⟩
def jX.setCell(h:jX b w w')(o:Nat)(v:c7):jX b w (w'.setCell ⟨b,o,cw⟩ v):=
 h.trans ⟨ae,ae,ae,by simp,λk _ a=>I6 w' ⟨b,o,cw⟩ k v a⟩
theorem jX.cP(h:jX b w w')(a:B<=b)(d:B<=w.heap.size):Below B w w':=
 ⟨h.os,h.tape,h.output,h.size,λk c=>h.block k cN cN⟩
def tR(st a:Nat->Nat):Nat->c7:=λi=>if i<1024 then bU .u8 (st i:Nat) else bU cq (a (i-1024):Nat)
theorem LS(st a:Nat->Nat){i:Nat}(h:i<1024):tR st a i=bU .u8 (st i:Nat):=df h
theorem PQ(st a:Nat->Nat)(k:Nat):tR st a (1024+k)=bU cq (a k:Nat):=by simp_all[tR]
def fB(w:cS)(b:Nat)(st:Nat->Nat):Prop:=cM w b 206 1040 (tR st (km st))
def fB.rS(h:fB w c st)(a:jX b w w')(hc:c≠b):fB w' c st:=by unfold fB cM;rw[a.block c (cM.lt h) hc];exact h
theorem fB.cP(h:fB w b st)(a:dR w w'):fB w' b st:=cM.cP h a
theorem fB.state(h:fB w b st)(a:i<1024):w.cell? ⟨b,i,cw⟩=cu (.int .u8 (st i:Nat)):=by have:=cM.cell h (i:=i) cN;grind[LS]
theorem fB.room(h:fB w b st)(a:k<16):w.cell? ⟨b,1024+k,cw⟩=cu (.int cq (km st k:Nat)):=by have:=cM.cell h (i:=1024+k) cN;grind[PQ]
theorem aaM(st a:Nat->Nat)(q r:Nat):∀j,(if j=1024+q then(bU cq r:c7) else tR st a j)=tR st (λk=>if k=q then r else a k) j:=by intro j;unfold tR;grind
theorem Du(b:Nat)(st:Nat->Nat)(i:Int)(s:Nat)(w:cS)(h:fB w b st)(f:fh i):
 CP_ 136 #[bW (cu ⟨b,0,cw⟩),bU cq i,bU .u8 s] w λe w'=>e=cj (bZ (decide (0<=i/\i<1024/\st i.m=s)))/\w=w':=by
 unfold fh at f;by_cases o:i<0;have a:decide (0<=i/\i<1024/\st i.m=s)=cy:=jG cN;rw[a];have c:decide (0<=i)=cy:=jG cN;clear a;rotate_left;by_cases p:¬i<1024;have a:decide (0<=i/\i<1024/\st i.m=s)=cy:=jG cN;rw[a];have c:decide (0<=i)=cx:=gM cN;have d:decide (i<1024)=cy:=jG cN;clear a;rotate_left;obtain⟨k,rfl⟩:∃k:Nat,i=(k:Int):=⟨i.m,cN⟩;have g:k<1024:=cN;have hc:=h.state g;have a:decide (0<=(k:Int)/\(k:Int)<1024/\st (k:Int).m=s)=((st k:Int)==(s:Int)):=by grind
 rw[a];have⟨x,hx⟩:=dI (st k);rw[hx] at hc|-;have⟨r,hr⟩:=dI (((x:Int)==(s:Int)));rw[hr];clear a hx;have j:decide ((0:Int)<=(k:Int))=cx:=gM cN;have l:decide ((k:Int)<1024)=cx:=gM cN;have m:(0:Int)<=(k:Int):=cN;have n:(k:Int)<1024:=cN
 all_goals
  go_enter func136,ntmps136;go_wp2;go_ret;exact aE
structure Head where
 n:Nat
 sb:Nat
 nb:Nat
 pv:c7
 ops:Nat
 left:Int
 di:Bool
def pP(h:Head):Nat->c7:=λi=>
 if i=0 then bX (cu ⟨h.sb,0,cw⟩) h.n h.n else if i=1 then bX (cu ⟨h.nb,0,cw⟩) h.n h.n else if i=2 then h.pv
 else if i=3 then bU cq h.ops else if i=4 then bU cq h.left else bZ h.di
def kD(w:cS)(D:Nat)(h:Head):Prop:=cM w D 127 6 (pP h)
theorem kD.cells{h:Head}(a:kD w D h):
 w.cell? ⟨D,0,cw⟩=cu (.slice (cu ⟨h.sb,0,cw⟩) h.n h.n)/\w.cell? ⟨D,1,cw⟩=cu (.slice (cu ⟨h.nb,0,cw⟩) h.n h.n)/\w.cell? ⟨D,2,cw⟩=cu h.pv/\
 w.cell? ⟨D,3,cw⟩=cu (.int cq h.ops)/\w.cell? ⟨D,4,cw⟩=cu (.int cq h.left)/\w.cell? ⟨D,5,cw⟩=cu (.bool h.di):=
 ⟨cM.cell a (i:=0) cN,cM.cell a (i:=1) cN,cM.cell a (i:=2) cN,cM.cell a (i:=3) cN,cM.cell a (i:=4) cN,cM.cell a (i:=5) cN⟩
theorem kD.set{h b:Head}(a:kD w D h)(i:Nat)(v:c7)(c:∀j,j<6->(if j=i then v else pP h j)=pP b j):kD (w.setCell ⟨D,i,cw⟩ v) D b:=
 (cM.set a i v).congr c
theorem sy(D:Nat)(w:cS)(i:Nat)(v:c7):jX D w (w.setCell ⟨D,i,cw⟩ v):=(jX.refl D w).setCell i v
def af8(D:Nat)(h:Head)(w:cS)(a:kD w D h):CP_ 84 #[bW (cu ⟨D,0,cw⟩)] w λe w'=>e=cj (bU cq h.n)/\w=w':=by obtain⟨b,-,-,-,-,-⟩:=a.cells;clear a;go_enter func84,ntmps84;go_wp2;go_ret;exact aE
def adm(D:Nat)(h:Head)(w:cS)(a:kD w D h):CP_ 82 #[bW (cu ⟨D,0,cw⟩)] w λe w'=>e=cj (bZ h.di)/\w=w':=by obtain⟨-,-,-,-,-,b⟩:=a.cells;clear a;go_enter func82,ntmps82;go_wp2;go_ret;exact aE
def AV(h:Head)(i:Int):Bool:=decide (0<=i/\i<(h.n:Int))
theorem Rc(D:Nat)(h:Head)(i:Int)(w:cS)(a:kD w D h):CP_ 182 #[bW (cu ⟨D,0,cw⟩),bU cq i] w λe w'=>e=cj (bZ (AV h i))/\w=w':=by
 obtain⟨f,-,-,-,-,-⟩:=a.cells;clear a;by_cases c:0<=i;have b:AV h i=decide (i<(h.n:Int)):=by unfold AV;grind
 rw[b];have d:decide (0<=i)=cx:=gM c;clear b;have⟨r,b⟩:=dI (decide (i<(h.n:Int)));rw[b];rotate_left;have b:AV h i=cy:=jG (λx=>c x.1);rw[b];have d:decide (0<=i)=cy:=jG c;clear b
 all_goals
  go_enter func182,ntmps182;go_wp2;go_ret;exact aE
def jB(h:Head):Head:=if h.ops<4611686018427387903 then {h with ops:=h.ops+1} else h
def AW(D:Nat)(h:Head)(w:cS)(a:kD w D h):CP_ 219 #[bW (cu ⟨D,0,cw⟩)] w λe w'=>e=cj (cg #[])/\kD w' D (jB h)/\jX D w w':=by
 obtain⟨-,-,-,k,-,-⟩:=a.cells;have m:=cM.frozen a 3;have f:=cz a;clear a;by_cases c:h.ops<4611686018427387903
 . (have hc:jB h= {h with ops:=h.ops+1}:=df c;rw[hc];have b:(h.ops:Int)<4611686018427387903:=cN;have l:∀j,j<6->(if j=3 then(bU cq ((h.ops:Int)+1):c7) else pP h j)=pP {h with ops:=h.ops+1} j:=by intro j n;by_cases d:j=3;subst d;rw[df ae];unfold pP;simp;rw[cZ d];unfold pP;simp[d]);have i:=cz (f.o.set 3 (bU cq ((h.ops:Int)+1)) l);have g:=cz (sy D w 3 (bU cq ((h.ops:Int)+1)));clear hc c l;have⟨o,HO⟩:=sO h.ops;rw[HO.o] at k b i g;go_enter func219,ntmps219;go_wp2;go_end0;exact⟨ae,by rw[HO.o];exact i.o,g.o⟩
 . have hc:jB h=h:=cZ c;rw[hc];have b:¬(h.ops:Int)<4611686018427387903:=cN;clear hc c;have⟨o,HO⟩:=sO h.ops;rw[HO.o] at k b;go_enter func219,ntmps219;go_wp2;go_end0;exact⟨ae,f.o,jX.refl _ _⟩
def lB(h:Head):Head×Bool:=
 if h.left=0 then({h with di:=cx},cy) else if h.di=cx then(h,cy) else if 0<h.left then({h with left:=h.left-1},cx) else(h,cx)
theorem PR(h:Head)(x:Int):∀j,j<6->(if j=4 then(bU cq x:c7) else pP h j)=pP {h with left:=x} j:=by intro j b;by_cases a:j=4;subst a;rfl;simp_all[pP]
theorem PT(h:Head)(x:Bool):∀j,j<6->(if j=5 then(bZ x:c7) else pP h j)=pP {h with di:=x} j:=by intro j b;by_cases a:j=5;subst a;rfl;rw[cZ a];grind[pP]
def Eu(D:Nat)(h:Head)(d: -1<=h.left/\h.left<=9223372036854775807)(w:cS)(a:kD w D h):CP_ 261 #[bW (cu ⟨D,0,cw⟩)] w λe w'=>e=cj (bZ (lB h).2)/\kD w' D (lB h).1/\jX D w w':=by
 obtain⟨-,-,-,-,j,p⟩:=a.cells;have q:=cM.frozen a 4;have r:=cM.frozen a 5;have n:=cz a;clear a;by_cases b:h.left=0
 . have hc:lB h=({h with di:=cx},cy):=df b;rw[hc];have i:=cz (n.o.set 5 (bZ cx) (PT h cx));have g:=cz (sy D w 5 (bZ cx));rw[b] at j;clear hc b d;go_enter func261,ntmps261;go_wp2;go_ret;exact⟨ae,i.o,g.o⟩
 by_cases c:h.di=cx;have hc:lB h=(h,cy):=by unfold lB;rw[cZ b,df c]
 rw[hc];rw[c] at p;have k:((h.left:Int)==0)=cy:=by rw[lR];exact b
 clear hc b c d;have⟨l,d⟩:=dI h.left;rw[d] at j k;have o:=cz d;clear d;rotate_left;have f:h.di=cy:=by simpa using c
 rw[f] at p;have k:((h.left:Int)==0)=cy:=by rw[lR];exact b
 by_cases m:0<h.left
 . (have hc:lB h=({h with left:=h.left-1},cx):=by unfold lB;rw[cZ b,cZ c,df m]);rw[hc];have i:=cz (n.o.set 4 (bU cq (h.left-1)) (PR h (h.left-1)));have g:=cz (sy D w 4 (bU cq (h.left-1)));clear hc b c f;have⟨l,hl2⟩:=dI h.left;rw[hl2] at j k m d i g;have o:=cz hl2;clear hl2;go_enter func261,ntmps261;go_wp2;go_ret;exact⟨ae,by rw[o.o];exact i.o,g.o⟩
 have hc:lB h=(h,cx):=by unfold lB;rw[cZ b,cZ c,cZ m]
 rw[hc];clear hc b c f;have⟨l,hl2⟩:=dI h.left;rw[hl2] at j k m d;clear hl2
 all_goals
  go_enter func261,ntmps261;go_wp2;go_ret;exact⟨ae,n.o,jX.refl _ _⟩
def dg(s:cV):Nat->c7:=λj=>bU .u8 (s.getD j 0:Nat)
def jC(s:cV):∀i,(dg s i).oneCell'=cx:=λ_=>ae
def ff:cV:=replicate 128 0
def uF(s:Nat->cV):Nat->c7:=λi=>bU .u8 ((s (i/128)).getD (i%128) 0:Nat)
def kK(w:cS)(b n:Nat)(s:Nat->cV):Prop:=cM w b 36 (n*128) (uF s)
theorem Y7(s:Nat->cV)(i j:Nat)(h:j<128):uF s (i*128+j)=dg (s i) j:=by grind[uF,dg]
def kK.range(h:kK w b n s)(c:i<n):w.rangeAt b (i*128) (cL 128 (dg (s i))).t:=by
 intro j v a;rw[mR,dy] at a;split at a;next hj=>cases a;rw[<-Y7 s i j hj];exact cM.cell h cN
 cases a
def pC:(prog.info? 36).map (·.size)=cu 128:=dC
theorem vU:zeroCells36=cL 128 (dg ff):=dC
structure zO(w:cS)(D:Nat)(h:Head)(st nw:Nat->cV):Prop where
 head:kD w D h
 k7:kK w h.sb h.n st
 lC:kK w h.nb h.n nw
 apart:h.sb≠h.nb
 q6:h.n<=1024
def GZ(h:Head)(nw:Nat->cV)(i:Int):cV×Int:=
 if AV h i=cx then(if h.di=cx then(ff,42) else(nw i.m,0)) else(ff,41)
theorem zO.but{w w':cS}{D:Nat}{h c:Head}{st nw:Nat->cV}(a:zO w D h st nw)(d:jX D w w')(g:kD w' D c)(e:c.n=h.n/\c.sb=h.sb/\c.nb=h.nb):zO w' D c st nw:=by
 have⟨e1,e2,e3⟩:=e;have f:∀{b:Nat},kK w b h.n st∨kK w b h.n nw->b≠D:=by intro b j e;have i:=a.head;grind[kD,cM,kK]
 refine⟨g,?_,?_,by rw[e2,e3];exact a.apart,by rw[e1];exact a.q6⟩;rw[e1,e2];have:=f (.inl a.k7);unfold kK cM;rw[d.block _ a.k7.lt this];exact a.k7;rw[e1,e3];have:=f (.inr a.lC);unfold kK cM;rw[d.block _ a.lC.lt this];exact a.lC
def zO.setRow{h:Head}{st:Nat->cV}(a:zO w D h st nw)(d:D≠E)(b:h.sb≠E)(c:h.nb≠E)(cs:gE):zO (w.setRow E cs) D h st nw:=
 ⟨cM.setRow_other a.head d cs,cM.setRow_other a.k7 b cs,cM.setRow_other a.lC c cs,a.apart,a.q6⟩
def jX.setRow(h:jX D w w1)(c:w.heap.size<=E)(cs:gE):jX D w (w1.setRow E cs):=
 ⟨h.os,h.tape,h.output,by rw[setRow_size];exact h.size,λk b a=>(setRow_other w1 E k cs cN).trans (h.block k b a)⟩
theorem nM(h:Head):(jB h).n=h.n/\(jB h).sb=h.sb/\(jB h).nb=h.nb/\(jB h).di=h.di/\(jB h).left=h.left/\(jB h).pv=h.pv:=by unfold jB;grind
def adn(D:Nat)(h:Head)(st nw:Nat->cV)(i:Int)(F:fh i)(w:cS)(a:zO w D h st nw):
 CP_ 165 #[bW (cu ⟨D,0,cw⟩),bU cq i] w λe w'=>∃A,e=cj (cg #[bV A,bU cq (GZ h nw i).2])/\A=cL 128 (dg (GZ h nw i).1)/\zO w' D (jB h) st nw/\jX D w w':=by
 have G:=cz F;clear F;have⟨W0,hW0⟩:=fP (w.alloc (.cells zeroCells36 36));have B:cM W0 w.h.s 36 128 (dg ff):=by rw[hW0,vU];exact bp
 have l:dR w W0:=by rw[hW0];exact aR
 have K:zO W0 D h st nw:=a.but (jX.tq l) (cM.cP a.head l) ⟨ae,ae,ae⟩;have X:D<w.h.s:=a.head.lt;have F:h.sb<w.h.s:=a.k7.lt;have Y:h.nb<w.h.s:=a.lC.lt;have⟨E,hE⟩:=fP w.h.s;rw[<-hE] at B X F Y;have F:w.h.s<=E:=cN;have r:jX D w W0:=jX.tq l;have G:=cz hE;clear hE;have I:=cz hW0;clear hW0;have s:=cz K;clear K a l;have t:=cz B;clear B;obtain⟨n,x,y,z,_,_⟩:=nM h;have⟨h2,hh2⟩:=dI (jB h);rw[hh2] at n x y z|-;have k:=cz (And.intro n (And.intro x y));have U:=cz z;have g:AV h2 i=AV h i:=by unfold AV;rw[n]
 clear n x y z;have T:=cz hh2;clear hh2;have⟨hs,hhs⟩:=dI (AV h i);rw[hhs] at g;have R:=cz g;clear g;have j:=cz hhs;clear hhs;go_enter func165,ntmps165;go_wp2_with fail;rw[<-I.o,<-G.o];refine(AW D h _ s.o.head).mono ?_;rw[T.o];rintro e w1 ⟨rfl,N,m⟩;have u:=r.trans m;have d:=cz (s.o.but m N k.o);have O:cM w1 E 36 128 (dg ff):=by unfold cM;rw[m.block E t.o.lt cN];exact t.o
 have f:=cz O;clear O N m t s I r;go_wp2_with fail
 refine(Rc D h2 i _ d.o.head).mono ?_;rw[R.o];rintro e G ⟨rfl,rfl⟩;cases hs with
 |false=>
  have c:GZ h nw i=(ff,41):=by unfold GZ;rw[j.o];rfl
  have b:=cz c;clear c;go_wp2_with (refine wpList_store_row (o:=⟨cw,.store 36 (.tmp 4) (.tmp 12),_,_,_,cw⟩) ae 36 (.tmp 4) (.tmp 12) ae E ae 128 (dg ff) zeroCells36 ae vU 36 (dg ff) f.o pC (jC _) ?_);exact iH (mD (p:=4) (q:=5) (ty:=36) ae ae (cM.setRow f.o (dg ff)) vV ae pC) ae<|⟨_,by rw[b.o];rfl,by rw[b.o],d.o.setRow cN amS amT _,u.setRow F _⟩
 |true=>
  have⟨hi0,hin⟩:=l6 (j.o:decide (0<=i/\i<(h.n:Int))=cx);obtain⟨-,I,-,-,-,V⟩:=d.o.head.cells;rw[U.o] at V;by_cases L:h.di=cx
  . (have c:GZ h nw i=(ff,42):=by unfold GZ;rw[j.o,L];rfl);have b:=cz c;clear c;rw[L] at V;clear L I hi0 hin;go_wp2_with (refine wpList_store_row (o:=⟨cw,.store 36 (.tmp 4) (.tmp 17),_,_,_,cw⟩) ae 36 (.tmp 4) (.tmp 17) ae E ae 128 (dg ff) zeroCells36 ae vU 36 (dg ff) f.o pC (jC _) ?_);exact iH (mD (p:=4) (q:=5) (ty:=36) ae ae (cM.setRow f.o (dg ff)) vV ae pC) ae<|⟨_,by rw[b.o];rfl,by rw[b.o],d.o.setRow cN amS amT _,u.setRow F _⟩
  . (have v:h.di=cy:=by simpa using L);(rw[v] at V;obtain⟨q,rfl⟩:∃q:Nat,i=(q:Int):=⟨i.m,cN⟩;have G:q<h.n:=cN;have c:GZ h nw (q:Int)=(nw q,0):=by unfold GZ;rw[j.o,v,tZ];rfl);(have b:=cz c;clear c L v;have C:=d.o.lC.range (i:=q) (by have:=k.o.1;omega);have Z:(q:Int)<(h2.n:Int):=by have:=k.o.1;omega);(have G:(0:Int)<=(q:Int):=cN;have M:=d.o.q6;have⟨A,hA⟩:=fP (cL 128 (dg (nw q)));rw[<-hA] at C;have J:A.t.n=128:=by rw[hA,mT,cW]);have Q:=cz hA;clear hA;have H:=cz C;clear C;have G:=cz J;clear J;have⟨nb,hnb⟩:=dI h2.nb;have⟨nn,hnn⟩:=dI h2.n;rw[hnb,hnn] at I;rw[hnn] at Z M;rw[hnb] at H;have I:=cz hnb;clear hnb;have I:=cz hnn;clear hnn;go_upto_region 6 with(fail);go_wp2_with (refine wpList_load_mid (op:=⟨cu 24,.load 36 (.tmp 23),_,_,_,cw⟩) ae 36 (.tmp 23) ae nb (q*128) ae A.t _ H.o vV ae (by rw[G.o];exact pC) ?_;rw[vx];refine wpList_store_row (o:=⟨cw,.store 36 (.tmp 4) (.tmp 24),_,_,_,cw⟩) ae 36 (.tmp 4) (.tmp 24) ae E ae 128 (dg (nw q)) A ae Q.o 36 (dg ff) f.o pC (jC _) ?_);exact iH (mD (p:=4) (q:=5) (ty:=36) ae ae (cM.setRow f.o (dg (nw q))) vV ae pC) ae<|⟨_,by rw[b.o];rfl,by rw[b.o],d.o.setRow cN amS amT _,u.setRow F _⟩
def ah9:(prog.info? 36).map (λi=>(i.zero,i.s,i.bytes))=cu (cu (bV zeroCells36),128,128):=dC
def rT(n:Nat):gE:=cL (n*128) (uF λ_=>ff)
theorem aaN(n:Nat):madeCells (Value.agg zeroCells36).cells (n*128)=rT n:=by
 have hc:(Value.agg zeroCells36).cells=cL 128 (dg ff):=by rfl
 rw[hc];apply yp;intro j;unfold rT;rw[dy];unfold madeCells;by_cases h:j<n*128;rw[df h];simp only[Array.getElem?_map,cW];have a:j%128<128:=cN;simp_all[dg,getElem!_def,dy,uF];grind
theorem Jd(n:Nat)(a:n<=1024)(W:cS):(Instr.makeSlice 124 (bU cq n) (bU cq n)).run prog W=.ok (bX (cu ⟨W.h.s,0,cw⟩) n n) (W.alloc (.cells (rT n) 36)):=by have⟨i0,hi,hz0,hz1,hz2⟩:=oG ah9;rw[run_make W 124 36 i0 (bV zeroCells36) underlying124 hi hz0 cq cq (n:Nat) (n:Nat) cN cN jv cN,hz1];grind[aaN]
def J0(s:Int):Nat:=(min (max s 0) 1024).m
def yN(n b a:Nat):Head:=⟨n,b,a,bX cw 0 0,0,-1,cy⟩
theorem TU(n b a:Nat):(#[Value.slice (cu ⟨b,0,cw⟩) n n,bX (cu ⟨a,0,cw⟩) n n,bX cw 0 0,bU cq 0,bU cq (-1),bZ cy]:gE)=cL 6 (pP (yN n b a)):=by rfl
theorem TV(w:cS)(n:Nat)(l:n<=1024)(W:cS)(h:W=(w.alloc (.cells (rT n) 36)).alloc (.cells (rT n) 36))(d c:Nat)(p:(d=w.h.s/\c=w.h.s+1)∨(d=w.h.s+1/\c=w.h.s))(g:cS)(e:g=(W.alloc (.cells #[bX (cu ⟨d,0,cw⟩) n n,bX (cu ⟨c,0,cw⟩) n n,bX cw 0 0,bU cq 0,bU cq (-1),bZ cy] 127)).drew):
 zO g (w.h.s+1+1) (yN n d c) (λ_=>ff) (λ_=>ff)/\dR w g:=by
 have r:kK (w.alloc (.cells (rT n) 36)) w.h.s n λ_=>ff:=cM.alloc _ _ _ _;have i:(w.alloc (.cells (rT n) 36)).h.s=w.h.s+1:=by simp
 have j:kK W (w.h.s+1) n λ_=>ff:=by rw[h,<-i];exact bp
 have o:Below (w.h.s+1) (w.alloc (.cells (rT n) 36)) W:=by rw[h];exact(gJ _ _).alloc cN _
 have q:W.h.s=w.h.s+1+1:=by simp_all
 have f:kK W w.h.s n λ_=>ff:=by grind[cM.alloc_old,kK]
 rw[TU] at e;have k:kD (W.alloc (.cells (cL 6 (pP (yN n d c))) 127)) (w.h.s+1+1) (yN n d c):=by grind[cM.alloc,kD]
 have a:kK (W.alloc (.cells (cL 6 (pP (yN n d c))) 127)) w.h.s n λ_=>ff:=cM.alloc_old f _;have b:kK (W.alloc (.cells (cL 6 (pP (yN n d c))) 127)) (w.h.s+1) n λ_=>ff:=cM.alloc_old j _;have m:dR w g:=by rw[e,h];exact((((gJ _ _).alloc (eN _) _).alloc cN _).alloc jv _).drew
 refine⟨?_,m⟩;rw[e];rcases p with⟨rfl,rfl⟩|⟨rfl,rfl⟩;exact⟨k,a,b,by grind[yN],l⟩;exact⟨k,b,a,by grind[yN],l⟩
def af9(s:Int)(g:fh s)(w:cS):
 CP_ 37 #[bU cq s] w λe w'=>∃D d c,e=cj (bW (cu ⟨D,0,cw⟩))/\(zO w' D (yN (J0 s) d c) (λ_=>ff) (λ_=>ff)/\dR w w')/\w.h.s<=D/\w.h.s<=d/\w.h.s<=c:=by
 have⟨n,hn⟩:=dI (J0 s);rw[hn];unfold fh at g;have f:n<=1024:=by unfold J0 at hn;omega
 have a:=cz (TV w n f _ ae);by_cases h:s<0;obtain rfl:n=0:=by unfold J0 at hn;omega
 have b:∀W:cS,(Instr.makeSlice 124 (bU cq 0) (bU cq 0)).run prog W=.ok (bX (s_ W.h.s 0) 0 0) (W.alloc (.cells (rT 0) 36)):=λW=>Jd 0 cN W;rotate_left;by_cases i:1024<s;obtain rfl:n=1024:=by unfold J0 at hn;omega
 have b:∀W:cS,(Instr.makeSlice 124 (bU cq 1024) (bU cq 1024)).run prog W=.ok (bX (s_ W.h.s 0) 1024 1024) (W.alloc (.cells (rT 1024) 36)):=λW=>Jd 1024 cN W;rotate_left;obtain rfl:s=(n:Int):=by unfold J0 at hn;omega
 have b:∀W:cS,(Instr.makeSlice 124 (bU cq n) (bU cq n)).run prog W=.ok (bX (s_ W.h.s 0) n n) (W.alloc (.cells (rT n) 36)):=λW=>Jd n cN W
 all_goals
  clear hn;go_enter func37,ntmps37;go_wp2
  go_region
  all_goals(go_wp2;go_ret;first|exact⟨_,_,_,ae,a.o _ _ amu _ ae,cN,by omega,cN⟩|exact⟨_,_,_,ae,a.o _ _ amv _ ae,cN,by omega,cN⟩)
structure qT(B:Nat)(l:cV)(w w':cS):Prop where
 os:w'.os=w.os
 tape:w'.tape=w.tape
 output:w'.output=w.output
 size:w.h.s<=w'.h.s
 block:∀k,k<B->k∉l->w'.h[k]?=w.h[k]?
theorem qT.trans{B:Nat}{l:cV}{w w1 c:cS}(h:qT B l w w1)(k:qT B l w1 c):qT B l w c:=
 ⟨k.os.trans h.os,k.tape.trans h.tape,k.output.trans h.output,iE h.size k.size,λi a b=>(k.block i a b).trans (h.block i a b)⟩
theorem qT.drew{l:cV}(h:qT B l w w'):qT B l w w'.drew:=⟨h.os,h.tape,h.output,h.size,h.block⟩
theorem qT.tq{B:Nat}{w w':cS}(h:Below B w w')(l:cV):qT B l w w':=⟨h.os,h.tape,h.output,h.s,λk a _=>h.block k a⟩
def qT.rS(h:jX b w w')(a:B<=w.heap.size){l:cV}(c:b∈l∨B<=b):qT B l w w':=
 ⟨h.os,h.tape,h.output,h.size,λk d e=>h.block k cN jv⟩
def qT.setCell{l:cV}(h:qT B l w w')(d:b∈l∨B<=b)(o:Nat)(v:c7):qT B l w (w'.setCell ⟨b,o,none⟩ v):=
 ⟨h.os,h.tape,h.output,by simpa using h.size,λk a c=>(I6 w' ⟨b,o,none⟩ k v jv).trans (h.block k a c)⟩
def cM.pY{l:cV}(h:cM w b t n f)(s:qT B l w w')(a:b<B)(c:b∉l):cM w' b t n f:=by unfold cM;rw[s.block b a c];exact h
theorem Rf{l:cV}{e:Nat}(h:w.ownsRow base e size v n xs)(s:qT B l w w')(a:∀b,v.ownBlock=cu b->b<B/\b∉l):w'.ownsRow base e size v n xs:=by refine⟨h.1,?_⟩;rcases h.2 with h2|⟨g,cap,cur,rfl,h1,h2,h3⟩;grind;have⟨hg,hgl⟩:=a g ae;exact .inr ⟨g,cap,cur,ae,h1,by rw[s.block g hg hgl];exact h2,h3⟩
def wY(ps:List (Nat×cV)):List c7:=ps.flatMap λp=>bU cq (p.1:Nat):: (cL 128 (dg p.2)).t
theorem Xf(ps:List (Nat×cV))(i:Nat)(s:cV):wY (ps++[(i,s)])=wY ps++(bU cq i:: (cL 128 (dg s)).t):=by grind[wY]
structure od(w:cS)(D:Nat)(h:Head)(st nw:Nat->cV)(ps:List (Nat×cV)):Prop extends zO w D h st nw where
 wZ:w.ownsRow 0 129 129 h.pv ps.n (wY ps)
 inside:∀p∈ps,p.1<h.n
def fS(D:Nat)(h:Head):cV:=D::h.sb::h.nb:: (match h.pv.ownBlock with|some b=> [b]|none=> [])
def od.pY{l:cV}{h:Head}{st:Nat->cV}(a:od w D h st nw ps)(s:qT B l w w')(c:∀k∈fS D h,k<B/\k∉l):od w' D h st nw ps:=by have d:=c D bE;have f:=c h.sb bE;have e:=c h.nb bE;refine⟨⟨cM.pY a.head s d.1 d.2,cM.pY a.k7 s f.1 f.2,cM.pY a.lC s e.1 e.2,a.apart,a.q6⟩,Rf a.wZ s λb g=>c b (by simp[fS,g]),a.inside⟩
theorem xb(h:Head):(lB h).1.n=h.n/\(lB h).1.sb=h.sb/\(lB h).1.nb=h.nb/\(lB h).1.pv=h.pv:=by unfold lB;grind
def G0(D:Nat)(h:Head)(z: -1<=h.left/\h.left<=9223372036854775807)(i:Int)(A:gE)(w:cS)(a:kD w D h)(b:AV h i=cy∨(lB (jB h)).2=cy):
 CP_ 227 #[bW (cu ⟨D,0,cw⟩),bU cq i,bV A] w λe w'=>
  (e=cj (bU cq (if AV h i=cx then 42 else 41)))/\kD w' D (if AV h i=cx then(lB (jB h)).1 else jB h)/\jX D w w':=by
 have⟨W0,HW0⟩:=yB (w.alloc (.cells A 36));have f:dR w W0:=by rw[HW0.o];exact aR
 have m:kD W0 D h:=cM.cP a f;have n:jX D w W0:=jX.tq f;have j:=cz m;clear m a f;obtain⟨s,-,-,-,t,-⟩:=nM h;have c:AV (jB h) i=AV h i:=by unfold AV;rw[s]
 have g: -1<=(jB h).left/\(jB h).left<=9223372036854775807:=by rw[t];exact z
 have k:=cz c;clear c s t z;have⟨h2,HH2⟩:=sO (jB h);rw[HH2.o] at b g|-;have B:=cz g;clear g;have⟨hs,HHS⟩:=sO (AV h i);rw[HHS.o] at b|-;have y:=cz b;clear b;go_enter func227,ntmps227;go_wp2_with fail;rw[<-HW0.o];refine(AW D h _ j.o).mono ?_;rw[HH2.o];rintro e w1 ⟨rfl,q,o⟩;have l:=cz (n.trans o);have d:=cz q;clear q o j n;go_wp2_with fail
 refine(Rc D h2 i _ d.o).mono ?_;rw[<-HH2.o,k.o,HHS.o];rintro e C ⟨rfl,rfl⟩;cases hs with
 |false=>go_wp2_with fail;go_ret;exact⟨by simp,by simpa using d.o,l.o⟩
 |true=>
  go_wp2_with fail;refine(Eu D h2 B.o _ d.o).mono ?_;have u:(lB h2).2=cy:=by have:=y.o;simpa using this
  rw[u];clear u;rintro e E ⟨rfl,r,p⟩;have x:=cz (l.o.trans p);have v:=cz r;clear r p;go_wp2_with fail;go_ret;exact⟨by simp,by simpa using v.o,x.o⟩
end
def KO(f:Nat->c7)(o n:Nat)(g:Nat->c7):Nat->c7:=λi=>if o<=i/\i<o+n then g (i-o) else f i
theorem cM.setCells{b:Nat}{t:dU}{n:Nat}:∀(vs:List c7)(o:Nat){w:cS}{f:Nat->c7},cM w b t n f->
 cM (w.setCells b o vs) b t n (KO f o vs.n λj=>vs.getD j (bU .u8 0))
 | [],o,w,f,h=>cM.congr h λj _=>by simp_all[KO,cZ]
 |v::r,o,w,f,h=>by
  rw[World.setCells];refine cM.congr (cM.setCells r (o+1) (cM.set h o v)) λj _=>?_;unfold KO
  grind
theorem jX.setCells(b:Nat):∀(vs:List c7)(o:Nat)(w:cS),jX b w (w.setCells b o vs)
 | [],_,w=>jX.refl b w
 |v::r,o,w=>by
  rw[World.setCells];exact(sy b w o v).trans (jX.setCells b r (o+1) _)
def jH(s:Nat->cV)(q:Nat)(x:cV):Nat->cV:=λi=>if i=q then x else s i
theorem kK.put(h:kK w b n s)(q:Nat)(x:cV):
 kK (w.setCells b (q*128) (cL 128 (dg x)).t) b n (jH s q x):=by
 refine cM.congr (cM.setCells (cL 128 (dg x)).t (q*128) h) λj _=>?_;unfold KO uF jH;rw[mT,cW];by_cases a:q*128<=j/\j<q*128+128;rw[df a,df (show j/128=q from cN),show j%128=j-q*128 from by omega];show(cL 128 (dg x)).t.getD (j-q*128) (bU .u8 0)=_;rw[zE,mR,dy,df cN];rfl
 grind
def kK.there{q:Nat}(h:kK w b n s)(c:q<n):w.there b (q*128) 128:=λj a=>
 ⟨by rw[cM.cell h cN];rfl,cM.frozen h _⟩
def Rg:(prog.info? 129).map (λi=>(i.zero,i.s,i.bytes))=cu (cu (bV zeroCells129),129,136):=dC
theorem aga(x:c7)(A:gE)(a:A.s=128):
 Array.foldl (λ(cs:gE)(y:c7×Nat)=>cs.setIfInBounds (1+y.snd) y.fst) (zeroCells129.setIfInBounds 0 x) A.zipIdx 0 128=#[x]++A:=by have d:zeroCells129.s=129:=dC;generalize zeroCells129=Z at d;rw[show 128=A.zipIdx.s from by simp[a],<-Array.foldl_toList,Array.toList_zipIdx];apply yp;intro k;have b:=λc=>(Great.foldl_set 1 A.t 0 c).2 k;rw[b];simp only[mT,a];by_cases e:k=0;grind;by_cases f:k<129;rw[df aF,Array.getElem?_append_right aF];simp;grind
end Go.Proofs.YtklligbjoplbgaaGreat