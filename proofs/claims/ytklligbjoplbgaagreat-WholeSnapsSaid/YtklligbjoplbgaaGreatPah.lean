/- Part 8 of the proof of WholeSnaps. No conditions. -/
import Derived.Test.YtklligbjoplbgaaGreatPag
set_option linter.all false
open List renaming length->List.n
open String renaming length->String.n
open Array renaming size->Array.s,toList->Array.t
open ByteArray renaming size->ByteArray.s
open Go.TypeInfo renaming size->Go.TypeInfo.s
open Go.RowKit.Below renaming size->Go.RowKit.Below.s
open Option renaming toList->Option.t,some->cu,none->cw
open Go.World renaming heap->Go.World.h
open Int renaming toNat->Int.m
open Go.Value renaming int->bU,agg->bV,pointer->bW,slice->bX,string->bY,bool->bZ,tuple->cg
open Go.Ending renaming returned->cj
open Go.IntKind renaming i64->cq,u64->ct
open Bool renaming true->cx,false->cy
namespace Go.Proofs.YtklligbjoplbgaaGreat
set_option maxRecDepth 100000
set_option maxHeartbeats 64000000
open Go.RowKit Lib List Nat _root_.Go.Proofs.Tryz Go.Shelf
variable {b:ee}{cT ir:fF}{d e:Dv}{x:GT}{g2 g3:iV}{dZ:cV}{O:List O4}{iP ps:List cQ}{L:List R4}{l ss:List dw}{G G2 K M2 N a base i k o top:Nat}{c:Nat×fF}{D E:Nat->cV}{A B:Nat->Prop}{s2 u:Pl}{r:Pl×(cQ×Int)}{p q q2 cO:cQ}{f g:cQ->Nat->cQ}{j j' s sn t v v' y:dw}{M:dw->Prop}{w w' w1 w2:cS}
def Ix(x:GT)(t:Pl×(cV×Int)):GT×(cV×Int):=
 if t.2.2≠0 then({x with s:=t.1},(ff,vD t.2.2)) else({x with s:=t.1},(t.2.1,0))
def EP(x:GT)(i:Int)(v:dw×Int):GT×(cV×Int):=
 if v.2≠0 then(x,(ff,v.2)) else Ix x (oV x.s v.1.cO i)
def ny(cT:fF)(i:Int)(x:GT):GT×(cV×Int):=if x.s.dv.di=cx then(x,(ff,42)) else EP x i (r8 x.b cT i)
def aeT(h:fG b)(cT:fF)(i:Int):vi (r8 b cT i).1:=by unfold r8;simp only;split;exact o8;split;exact o8;split;exact o8;exact Vs h.ok _
section
attribute[local irreducible]wpList Code.wp Calls Oper.wp wpAnyH
def yd(U D:Nat)(x:GT)(r:E0 x)(cT:fF)(N:cT.size<=140737488355328)(i:Int)(w:cS)(h:fA w U D x):
 CP_ 13 #[.pointer (some ⟨U,0,none⟩),.string cT,.int .i64 i] w λe w'=>∃B,e=.returned (.tuple #[.agg B,.int .i64 (ny cT i x).2.2])/\B=cL 128 (dg (ny cT i x).2.1)/\fA w' U D (ny cT i x).1/\Fr (some D) [] w w':=by
 obtain⟨G,g,M,h,u,j⟩:=h;have b:=cz j;obtain⟨s,Z⟩:=dI x.s;rw[Z] at h u;obtain rfl:=u;have S:=St.start w (some D) [] (kt U G g D M s) h.x;have E:=cz λW(X:vf W U G g D M s)=>Cp U G D M g s W X;have CP:=cz λW(X:dY W G g D M s)=>qz G D M g s W X;have C2:=cz λW(X:dY W G g D M s)=>lU G D M g s r.text.fit W X;have F:=cz λ(c:dW)(B:gE)(l:B=cL 2 (dO c))(hc:c.t=g.b.t)W(R:iT W c)=>(show CP_ 47 #[.agg B,.string cT,.int .i64 i] W λe w'=>∃B,e=.returned (.tuple #[.agg B,.int .i64 (r8 g.b.t cT i).2])/\zm w' W.heap.size B (r8 g.b.t cT i).1/\dR W w' from by rw[<-hc];exact Hx c B l (by rw[hc];exact r.text.fit) cT N i W R);have q:=cz λ(y:dL)(f:dD y.cO)W X=>U0 g.P D M s y.cO f i W X;have J:=cz (aeT r.text cT i).2.2.1;have a:=cz (show ny cT i (g.gt s)=if s.dv.di=true then(g.gt s,(ff,42)) else EP (g.gt s) i (r8 g.b.t cT i) from ae);obtain⟨T,L⟩:=dI (ny cT i (g.gt s));obtain⟨v,C⟩:=dI (r8 g.b.t cT i);obtain⟨dd,n⟩:=dI s.dv.di;rw[show(g.gt s).b=g.b.t from ae,C] at J;rw[L,C,n] at a;rw[L];rw[C] at F;rw[n] at E;obtain⟨t0,V⟩:=v;unfold EP at a;simp only at F J a;have H0:=cz h.row;clear h Z L C n r j;go_enter func13,ntmps13;cases dd with
 |true=>rw[df ae] at a;go_wp2_with first|(go_at_call 46;refine mY (E.o _ S.x.at) ?_;)|(refine mA ?_;rw[a.o];exact⟨_,ae,ae,⟨G,g,M,S.x.at,ae,b.o⟩,S.fr⟩)|refine fL ?_|refine fg λW S=>?_
 |false=>
  rw[cZ kB] at a
  go_upto_region 4 with(first|(go_at_call 46;refine mY (E.o _ S.x.at) ?_;)|((with_reducible refine Wj ?_);refine zC (v:=dE G 0) (cM.cell S.x.2 (i:=0) cN) ?_)|(go_at_call 43;refine Be S (C2.o _ S.x.at.KX) λW B z HB HC _ S=>?_)|(go_at_call 47;refine(F.o z B HB.o HC.o _ ⟨S.q0,λx r=>(S.x.2 x r).1⟩).mono ?_;rintro e Q ⟨B2,rfl,⟨y,l,hy,-⟩,hb⟩;have a2:=cz l;have O:=cz hy;replace S:=S.cP hb;clear l hy)|refine fg λW S=>?_)
  by_cases g2:V=0
  case neg=>
   have g3:(V !=0)=true:=fJ.2 g2;rw[df g2] at a;clear g2
   go_wp2_with first|(refine mA ?_;rw[a.o];exact amD)|refine fL ?_|refine fg λW S=>?_
  subst g2;rw[cZ aH,<-O.o] at a;have f:dD y.cO:=by have Y:=J.o;rw[<-O.o] at Y;exact Y
  have q:=cz (q.o y f);obtain⟨t,p⟩:=dI (oV s y.cO i);rw[show y.todw.cO=y.cO from ae,show(g.gt s).s=s from ae,p] at a;rw[p] at q;obtain⟨s1,a3,c⟩:=t;unfold Ix at a;simp only at q a;obtain⟨AQ,k⟩:=fP (cL 3 (dF y.cO));rw[dk k] at q;have H:=cz k;clear f p k
  go_upto_region 6 with(fail)
  refine eR S dC [⟨Q.heap.size,109,11,iw y⟩] CI λW S=>?_;refine dh 0 _ ?_;refine dh 1 (dE U 0) ?_;refine dh 2 (dE U 0) ?_;refine gZ 3 (dE G 0) ae (gO (λw h=>cM.cell (cM.fr H0.o h.fr aw (.inr eQ)) (i:=0) cN) ae Zv) ?_;refine dh 5 (dE Q.heap.size 7) ?_;refine gZ 6 (.agg AQ) ae (yKn aI (o:=7) (m:=3) ae (dF y.cO) (show 7+3<=11 by decide) (wj y) H.o fK) ?_;refine dh 7 _ ?_
  repeat' first|refine Te ?_|refine nA 9 _ ?_|refine nA 10 (.agg B3) ?_|refine nA 11 (.int .i64 c) ?_|refine nA 14 _ ?_|refine BE 4 12 (λK d=>?_) λK d=>?_|refine BE 8 12 (λK d=>?_) λK d=>?_|refine qg 4 λK d=>?_|refine qg 12 λK d=>?_|refine qg 8 λK d=>?_|refine qg 13 λK d=>?_|(go_wp2_with fail;refine mY (CP.o _ S.x.1.at.KX) ?_;refine gq d ?_)|(refine gl S zeroValue36 vU ae λa1 W S=>?_;refine gq d ?_)|(go_wp2_with fail;refine(q.o _ S.x.1.at.KX.lf).mono ?_;rintro e W ⟨B3,rfl,l,hp,A⟩;have I:=cz l;replace S:=(S.call (X':=λB w=>zy U G g D M s1 B w/\oL z.l B w) A ax eQ ((kt U G g D M s1).still (jn z.l)) (λB h=>⟨⟨h.1.1.pl A eQ hp,cM.fr h.1.2 A aw (.inr eQ)⟩,(jn z.l).fr h.2 A⟩));clear l;refine gq d ?_)|(refine kq S 0 ae ae ae I.o Cd (jC _) λW S=>?_;refine gq d ?_)
  all_goals(
   refine cz ?_;by_cases g2:c=0
   case neg=>
    have g3:(c !=0)=true:=fJ.2 g2;rw[df g2] at a;clear g2
    go_wp2_with first|(go_at_call 49;refine(sJ c _).mono ?_;rintro e W ⟨rfl,rfl⟩;)|(refine mA ?_;rw[a.o];exact amD)|refine fL ?_|refine fg λW S=>?_
   subst g2;rw[cZ aH] at a
   go_wp2_with first|(refine mA ?_;rw[a.o];exact amD)|refine fL ?_|refine fg λW S=>?_
   )
theorem St.ag5{D M:Nat}{g:iV}{s:Pl}{b n:Nat}{f:Nat->c7}(S:St w (cu D) [K] [⟨b,118,n,f⟩] [] (λB w=>zy K G g D M s B w/\qM G2 g2 D M2 s B w) w1)(m:(w.h.s<=G2/\w.h.s<=g2.P/\w.h.s<=M2)/\K<w.h.s/\G<w.h.s/\g.P<w.h.s/\M<w.h.s)(t:g3.P=g2.P)(j:dY w2 G2 g3 D M2 s2)(h:Fr (cu D) [G2,M2,g2.P] w1 w2):
 St w (cu D) [K] [⟨b,118,n,f⟩] [] (λB w=>zy K G g D M {s with dv:=s2.dv} B w/\qM G2 g3 D M2 s2 B w) w2:=by
 obtain⟨⟨v,x,y⟩,o,p,q,r⟩:=m;have a:∀k,k<w.h.s->k∉ [G2,M2,g2.P]:=λk c u=>by grind
 have d:=dY.beside S.x.1.1.at j h (a G p) (a M r) (a _ q);have l:cM w2 b 118 n f:=cM.fr S.k0 h aw aD;have i:∀k∈eS [⟨b,118,n,f⟩] [],k=b:=λk c=>by grind[eS]
 refine S.Nc h ax (λk c=>?_) ((kt K G g D M _).and (iz G2 g3 D M2 s2)) ⟨⟨d.xB λk c=>?_,cM.fr S.x.1.2 h aw (.inr (a K o))⟩,j.xB λk c=>?_⟩;grind;rw[i k c,cM.ty l];grind;rw[i k c,cM.ty l];grind
def zy.swap{D:Nat}{B:cV}{f:Nat->c7}(c:cM w K 101 1 f)(b:qM G2 g3 D M2 s2 B w)(j:jX K w w2)(d:cM w2 K 101 1 (λ_=>bW (cu ⟨G2,0,cw⟩))):zy K G2 g3 D M2 s2 B w2:=by have e:Fr cw [K] w w2:=Fr.rS j (cM.ty c) ae (fM.2 ae);have g:G2∉ [K]:=λa=>rI (cM.ty b.1.1.2) (cM.ty c) kB (fM.1 a);have i:g3.P∉ [K]:=λa=>rI (cM.ty b.1.1.1.row) (cM.ty c) kB (fM.1 a);have h:M2∉ [K]:=λa=>rI (cM.ty b.1.1.1.map) (cM.ty c) kB (fM.1 a);exact⟨b.pl e g (fc.fr b.1.1.1 e i h),d⟩
def St.ZK{D M:Nat}{g:iV}{s:Pl}(S:St w (cu D) [K] L [] (λB w=>zy K G g D M s B w/\qM G2 g3 D M2 s2 B w) w1)(a:jX K w1 w2)(b:cM w2 K 101 1 (λ_=>bW (cu ⟨G2,0,cw⟩))):
 St w (cu D) [K] L [] (zy K G2 g3 D M2 s2) w2:=
 S.wrote S.x.1.2 ae a (.inl (fM.2 ae)) (kt K G2 g3 D M2 s2) (zy.swap S.x.1.2 S.x.2 a b)
def pd(K D:Nat)(x:GT)(F:E0 x)(k:GT->GT×Int)(z:Nat)(Y:gE)(H:∀args w,(callFunc z args).run prog w=.ok (.enter z args) w)(w:cS)(h:fA w K D x)(hc:∀G M g W,Fr (cu D) [K] w W->dY W G g D M x.s->g.gt x.s=x->CP_ z (#[bV (cL 1 λ_=>bW (cu ⟨G,0,cw⟩))]++Y) W λe V=>zu W V G D M g (k x) e):
 CP_ 50 #[bW (cu ⟨K,0,cw⟩),.func (.func z) #[] Y] w λe w'=>e=cj (bU cq (dX x k).2)/\fA w' K D (dX x k).1/\Fr (cu D) [K] w w':=by
 obtain⟨G,g,M,h,a,o⟩:=h;have b:=cz o;clear o;obtain⟨s,O⟩:=dI x.s;rw[O] at h a hc;have d:g.b.t=x.b:=by rw[<-a];rfl
 have J:g.dK=x.dK:=by rw[<-a];rfl
 have S:=St.start w (cu D) [K] (kt K G g D M s) h.x;have Q:=cz λW(X:vf W K G g D M s)=>Cp K G D M g s W X;have R:=cz λW(X:dY W G g D M s)=>Kq G D M g s (by rw[d];exact F.text.fit) (by rw[J];exact iE F.q6 bA) W X;have H:=cz λG2 M2 g2(A:gE)(N:A=cL 1 λ_=>Value.pointer (cu ⟨G2,0,cw⟩))W d X(l:g2.gt s=g.gt s)=>(show CP_ z (#[bV A]++Y) W λe V=>zu W V G2 D M2 g2 (k x) e from by rw[N];exact hc G2 M2 g2 W d X (l.trans a));have f:=cz (show dX x k=if s.dv.di=cx then(x,42) else td x (k x) from by rw[<-O];rfl);obtain⟨T,Z⟩:=dI (dX x k);obtain⟨r,u⟩:=dI (k x);obtain⟨V,t⟩:=dI s.dv.di;rw[Z,u,t] at f;rw[Z];rw[u] at H;rw[t] at Q;have U:=cz O;have q:=cz a;have I:=cz h;clear h O a hc d J Z u t F;go_enter func50,ntmps50;cases V with
 |true=>rw[df ae] at f;go_wp2_with (first|(refine(Q.o _ S.x.at).mono ?_;rintro e W ⟨rfl,rfl⟩;));go_ret;rw[f.o];exact⟨ae,⟨G,g,M,by rw[U.o];exact S.x.at,by rw[U.o];exact⟨q.o,b.o⟩⟩,S.fr⟩
 |false=>
  rw[cZ bA] at f;obtain⟨y,c⟩:=r;obtain rfl:=q.o;clear q U;go_upto_region 5 with(first|refine jr 16 118 5 S 0 J.o ?_|(first|refine jb 5 118 S zeroValue118 ZI λW S=>?_|refine js 118 5 14 S 0 J.o (λ_=>rfl) λW S=>?_)|(refine(Q.o _ S.x.at).mono ?_;rintro e W ⟨rfl,rfl⟩;)|refine zC (cM.cell S.x.2 (i:=0) cN) ?_|(refine(R.o _ S.x.at.KX).mono ?_;rintro e W ⟨G2,g2,M2,rfl,B,E,C,l,a,d⟩;have U:=cz (And.intro (And.intro B (And.intro E C)) (And.intro (cM.lt I.o.row) (And.intro (cM.lt I.o.KX.row) (And.intro (cM.lt I.o.KX.lf.row) (cM.lt I.o.KX.lf.map)))));have m:=cz a;replace S:=(S.cP d).Yk ((kt K G g D M s).and (iz G2 g2 D M2 s)) ⟨(S.cP d).x,l.x⟩;clear B E C l a d;obtain⟨A,N⟩:=fP (cL 1 (λ_=>Value.pointer (cu ⟨G2,0,cw⟩)));have J:=cz N;clear N)|refine lE (cells:=A) ae (by rw[J.o];kernel_rfl) ?_|(show Calls _ _ _ _ _;refine(H.o G2 M2 g2 A J.o _ S.fr S.x.2.at m.o).mono ?_;rintro e F F;have v:=cz F;clear F;obtain⟨g3,J,rfl,H,l,n,F,I⟩:=v.o;clear v;have p:=cz n;have R:=cz F;clear F;have hS:=S.ag5 U.o H l I;clear S H l I n;have S:=hS;clear hS));by_cases L:c=0;case neg=>(have F:(c !=0)=cx:=fJ.2 L;unfold td at f;rw[df L] at f;clear L;go_wp2;go_ret;rw[f.o];have F:J.dv=y.s.dv:=by rw[<-p.o];rfl);have H:=S.x.1.at;rw[F] at H;exact⟨ae,⟨G,g,M,H,ae,b.o⟩,S.fr⟩
  subst L;unfold td at f;rw[cZ aH] at f;obtain rfl:=p.o;clear p;go_wp2_with (first|refine jl 23 69 22 S 0 0 (bW (cu ⟨G2,0,cw⟩)) ?_|(have F:=S.x.1.2;have l:∀j,j<1->(λ_=>Value.pointer (cu ⟨G2,0,cw⟩):Nat->c7) j=if j=0 then Value.pointer (cu ⟨G2,0,cw⟩) else(λ_=>Value.pointer (cu ⟨G,0,cw⟩):Nat->c7) j:=λj H=>(df (show j=0 from Nat.lt_one_iff.1 H)).symm;refine aeJ F 0 cN ae ae ae Zv (λ_=>Value.pointer (cu ⟨G2,0,cw⟩)) l ?_;clear F l;intro F d u;replace S:=S.ZK d u;clear d u));go_ret;rw[f.o];exact⟨ae,⟨G2,g3,M2,S.x.at,ae,R.o (by rw[show g2.dK=g.dK from gD GT.dK m.o];exact b.o)⟩,S.fr⟩
def zA(st:Nat->Nat)(l:List Int):Nat->Nat:=l.foldl (λst i=>sQ st i 1 2) st
theorem Vw(st:Nat->Nat){l:List Int}(a:k<l.n):zA st (l.take (k+1))=sQ (zA st (l.take k)) l[k] 1 2:=by grind[zA,take_succ_eq_append_getElem]
def ab2{l:List Int}{b n c M:Nat}(h:eT .i64 w (.slice (some ⟨b,0,none⟩) n c) l)(f:jX M w w')(q:b≠M):eT .i64 w' (.slice (some ⟨b,0,none⟩) n c) l:=by obtain⟨g,cap,a,i,k,m⟩:=h;refine⟨g,cap,a,i,k,λd=>?_⟩;obtain⟨s,o,e,h6,p⟩:=m d;rw[e] at a;simp only[ly,yz,Addr.mk.injEq] at a;obtain⟨⟨rfl,rfl,-⟩,-,-⟩:=a;exact⟨b,0,e,pM h6 f.size,λj r=>(show w'.cell? ⟨b,0+j,none⟩=w.cell? ⟨b,0+j,none⟩ from by simp[World.cell?,f.block b h6 q]).trans (p j r)⟩
def Vx(set:List (Int×Int))(v:c7)(M:Nat)(st:Nat->Nat)(w:cS)(Q:fm w v set)(g:fB w M st):
 CP_ 123 #[v,.func (.func 124) #[bW (cu ⟨M,0,cw⟩)] #[]] w λe w'=>e=cj (cg #[])/\fB w' M (zA st (nV set))/\Fr cw [M] w w':=by
 have eg:∀args w,(callFunc 124 args).run prog w=.ok (.enter 124 args) w:=enters_of func124 dC ae;have U:=cz g;have E:=cz (acU v set w Q);have R:=cz adC;have m:=cz (show∀x∈nV set,fh x from λx q=>by
  unfold nV at q;obtain⟨y,-,rfl⟩:=gI.1 q;have:=y.isLt;unfold fh;omega)
 obtain⟨l,N⟩:=dI (nV set);rw[N] at E m|-;have A:=cz (fB.lt g);clear g Q N;go_enter func123,ntmps123;go_upto_region 1 with(go_at_call 172;refine E.o.mono ?_;rintro e W ⟨r,rfl,K,⟨b,n,c,rfl,p⟩,B⟩;have G:=cz K;have t:=cz p;have F:=cz B;clear K p);obtain⟨rfl,O⟩:n=l.n/\l.n<=9223372036854775807:=by obtain⟨V,cap,f,s,-⟩:=G.o;simp only[ly] at f;exact⟨f.2.1,s⟩
 have C:Hid (b≠M):=cz (by have f:=t.o;have s:=A.o;omega);go_loopw [9] (λi wr=>∃k:Nat,k<=l.n/\i=bU cq k/\Hid (fB wr M (zA st (l.take k))/\eT cq wr (bX (s_ b 0) l.n c) l/\Fr cw [M] w wr)) (λi _=>l.n-(intOf i).m);exact⟨0,cN,ae,cz ⟨U.o.cP F.o,G.o,Fr.Ev F.o _⟩⟩;obtain⟨k,L,rfl,hS⟩:=hrel;by_cases a:k<l.n
 . have d:Hid (wr.cell? ⟨b,k,cw⟩=cu (.int cq l[k])):=cz (by
    obtain⟨V,cap,f,s,J,X⟩:=hS.o.2.1;obtain⟨b',o,Y,h6,Z⟩:=X (by intro h;rw[h] at a;exact absurd a eQ);rw[Y] at f;simp only[ly,yz,Addr.mk.injEq] at f;obtain⟨⟨rfl,rfl,-⟩,-,-⟩:=f;rw[<-Z k a];simp)
   have I:=cz (m.o l[k] (mP a));have H:=cz (Vw st a);obtain⟨x,q⟩:=dI (l[k]);rw[q] at d I H;clear q;have u:=cz a;go_wp2_with (first|((with_reducible refine xz 12 3 11 ?_);refine jF (by simpa using d.o) ae DG ?_)|(show Calls _ _ _ _ _;refine aj (R.o M _ x I.o _ hS.o.1) λW2⟨g,B⟩=>?_;have z:=cz g;have j:=cz B;clear g));go_roundw;exact⟨k+1,cN,by go_num,cz ⟨by rw[H.o];exact z.o,ab2 hS.o.2.1 j.o C.o,hS.o.2.2.step (Fr.rS j.o (cM.ty hS.o.1) ae (fM.2 ae)) (λD e=>by cases e) (λk L=>.inl L)⟩⟩;have:=u.o;simp[intOf];omega
 . obtain rfl:k=l.n:=cN;have T:=cz (show l.take l.n=l from qq);go_wp2;refine FY (vO ae _ _ _) ae ?_;obtain⟨f,s,J⟩:=hS.o;rw[T.o] at f;exact⟨ae,f,J⟩
def gF(d:Dv):GT:=⟨⟨1,[]⟩,[],mu,⟨d,qH d.n,1,0⟩⟩
def iY(d:Dv):GT×Int:=if(d.n:Int)<64 then(gF d,191) else ju (gF d)
def Ns:fG ⟨1,[]⟩:=⟨by decide,⟨by simp,λt h=>absurd h jK⟩,λs h=>absurd h jK⟩
def aeU(w:cS)(base D:Nat)(x:GT)(c:Int)(v:c7):Prop:=
 (c=0->∃G g M,v=bW (cu ⟨G,0,cw⟩)/\base<=G/\base<=g.P/\base<=M/\dY w G g D M x.s/\g.gt x.s=x/\fO g.dK)/\(c≠0->v=bW cw/\jN w D x.s.dv)
def Pk(D:Nat)(d:Dv)(ho:d.ops<=990000000)(w:cS)(a:jN w D d):
 CP_ 93 #[bW (cu ⟨D,0,cw⟩)] w λe w'=>∃v,e=cj (cg #[v,bU cq (iY d).2])/\aeU w' w.h.s D (iY d).1 (iY d).2 v/\Fr (cu D) [] w w':=by
 have S:=St.start w (cu D) [] (gU D d) a;have R:d.n<=1024:=by obtain⟨_,F,Z,pv,f⟩:=a;exact f.q6
 have A:=cz λW(X:jN W D d)=>Am D d W X;have E:=cz λW(i:w.h.s<=W.h.s)=>(Rp (d.n:Nat) aW W).mono λe w'(l:_/\_/\_)=>(show∃k,e=cj (dE k 0)/\w.h.s<=k/\fB w' k (qH d.n)/\dR W w' from⟨_,l.1,i,l.2.1,l.2.2⟩);have L:=cz λM2 W(i:w.h.s<=W.h.s)=>(zV D M2 1 0 W).mono λe w'(l:_/\_/\_)=>(show∃k,e=cj (dE k 0)/\w.h.s<=k/\mf w' k D M2 1 0/\dR W w' from⟨_,l.1,i,l.2.1,l.2.2⟩);have M:=cz λG m M2 W(X:dY W G ⟨m,⟨1,[],cw,0⟩,[],cw,0,mu⟩ D M2 (gF d).s)=>FB G D M2 ⟨m,⟨1,[],cw,0⟩,[],cw,0,mu⟩ (gF d).s Ns dS eQ ho W X;obtain⟨n,j⟩:=dI d.n;have q:=cz (show iY d=if(n:Int)<64 then(gF d,191) else ju (gF d) from by rw[<-j];rfl);obtain⟨T,J⟩:=dI (iY d);rw[J] at q|-;obtain⟨y,c⟩:=T;rw[j] at A E R;clear a J ho;go_enter func93,ntmps93;by_cases f:(n:Int)<64;case pos=>rw[df f] at q;have O:decide ((n:Int)<64)=cx:=gM f;clear f;go_wp2_with (refine mY (A.o _ S.x) ?_;);go_ret2;obtain⟨rfl,rfl⟩:=Prod.mk.inj q.o;exact⟨_,ae,⟨λh=>absurd (show(191:Int)=0 from h) kB,λ_=>⟨ae,S.x⟩⟩,S.fr⟩
 rw[cZ f] at q;have O:decide ((n:Int)<64)=cy:=jG f;clear f;have C:=cz j;clear j;go_upto_region 5 with(first|refine mY (A.o _ S.x) ?_|(refine ah (E.o _ S.fr.size) λM2 W⟨t,p,i⟩=>?_;have r:=cz t;have V:=cz p;replace S:=(S.cP i).wJ p ae;clear p i t)|(refine ah (L.o M2 _ S.fr.size) λm W⟨u,p,i⟩=>?_;have s:=cz u;replace S:=(S.cP i).wJ p ae;clear p i u)|((with_reducible refine zZ 14 99 ?_);refine lE (cells:=#[bU ct 1,bX cw 0 0]) ae dC ?_)|refine lE (cells:=cL 11 (wm ⟨m,⟨1,[],cw,0⟩,[],cw,0,mu⟩)) ae dC ?_|refine Ni S rfl rfl rfl λG W H S=>?_|(refine(M.o G m M2 _ ⟨S.x.2,⟨S.x.1.2,S.x.1.1.1,by rw[show(gF d).s.mp=qH n from by rw[<-C.o];rfl];exact S.x.1.1.2,⟨(show(1:Nat)<18446744073709551616 by decide),(show(0:Nat)<18446744073709551616 by decide)⟩⟩,⟨c8.nil _ _ _,λx U=>absurd U jK⟩,c8.nil _ _ _⟩).mono ?_;rintro e W ⟨g2,s2,rfl,I,o,b,g,Q⟩;have F:=S.fr.step Q ax (λk K=>by simp only[iZ,jK,uH] at K;rcases K with rfl|rfl|rfl;exact .inr H;exact .inr r.o;exact .inr s.o);have N:=cz I;clear I;rw[show(iV.gt ⟨m,⟨1,[],cw,0⟩,[],cw,0,mu⟩ (gF d).s)=gF d from ae,<-q.o] at b|-));by_cases g3:c=0;case neg=>have Y:(c !=0)=cx:=fJ.2 g3;have B:=cz g3;have z:=cz (And.intro o b);clear g3 o b g;go_wp2;go_ret2;exact⟨_,ae,⟨λh=>absurd h B.o,λ_=>⟨ae,by have f:=z.o.1.lf.dev;rw[show s2=y.s from by rw[<-show g2.gt s2=y from z.o.2];rfl] at f;exact f⟩⟩,F⟩
 subst g3;have z:=cz (And.intro o (And.intro b (g dS)));clear o b g;go_wp2;go_ret2;obtain⟨o,b,g⟩:=z.o;obtain rfl:g2.gt s2=y:=b;exact⟨_,ae,⟨λ_=>⟨G,g2,M2,ae,H,by rw[N.o];exact s.o,r.o,o,ae,g⟩,λh=>absurd ae h⟩,F⟩
end
def vm(d:Dv):GT:=⟨tF,[],mu,⟨d,λ_=>0,0,0⟩⟩
noncomputable def Bu(u:rC)(r:Pl×(ee×(List (Int×Int)×(List cQ×Int)))):GT×Int:=
 if r.2.2.2.2≠0 then(vm r.1.dv,r.2.2.2.2) else
 if 281474976710652<u.lT∨281474976710652<r.2.1.next∨281474976710652<u.cR then(vm r.1.dv,192) else
 (⟨r.2.1,r.2.2.2.1,u,⟨r.1.dv,zA r.1.mp (nV r.2.2.1),iR u.cR,u.cR⟩⟩,0)
noncomputable def ym(d:Dv)(o:Option rC):GT×Int:=
 if o.isSome=cy then(vm d,91) else
 if(o.getD mu).gm≠d.n then(vm d,91) else
 if(o.getD mu).len≠40 then(vm d,91) else
 Bu (o.getD mu) (ke ⟨d,qH d.n,0,0⟩ (o.getD mu).iL)
noncomputable def mM(d:Dv):GT×Int:=if d.di=cx then(vm d,42) else ym (fW d).1 (fW d).2
section
variable {w0:cS}{d:Option Nat}{l:cV}{X X':cV->cS->Prop}
theorem St.aiP(S:St w0 d l L O X w)(t:dU)(g:∀r∈L,r.t≠t)(h:∀o∈O,o.e≠t):∀b∈eS L O,iA w b≠cu t:=by intro b c e;rcases iB.1 c with⟨r,f,rfl⟩|⟨o,ho,a⟩;rw[cM.ty (S.row r f).1] at e;grind;rw[wC (S.own o ho).1 a] at e;grind
def St.Vy(S:St w0 d l L O X w){c:dW}{q:c7}(g:uZ w base c)(j:il w base q ps)(m:∀r∈L,r.t≠109)(h:∀r∈L,r.t≠106)(n:∀o∈O,o.e≠109)(i:∀o∈O,o.e≠106):
 St w0 d l L O (λB w=>(X B w/\rY c.sv c.l B w)/\yX 106 3 q ps.n (iS ps) B w) w:=
 (S.DN (fN c.sv c.l) ⟨⟨c8.jR g.1,λf b a e=>S.aiP 109 m n b e (c8.ty (c8.jR g.1) a f)⟩,
  λx k=>⟨(g.2 x k).1,λf b a e=>S.aiP 106 h i b e (c8.ty (g.2 x k).1 a f)⟩⟩).DN (fE 106 3 q _ _ ae ae) ⟨c8.jR j,λf b a e=>S.aiP 106 h i b e (c8.ty (c8.jR j) a f)⟩
end
section
attribute[local irreducible]wpList Code.wp Calls Oper.wp wpAnyH
def Pm(D:Nat)(d:Dv)(w:cS)(a:jN w D d):
 CP_ 60 #[bW (cu ⟨D,0,cw⟩)] w λe w'=>∃v,e=cj (cg #[v,bU cq (mM d).2])/\aeU w' w.h.s D (mM d).1 (mM d).2 v/\Fr (cu D) [] w w':=by
 have S:=St.start w (cu D) [] (gU D d) a;have C1:=cz λW(X:jN W D d)=>K8 D d W X;have C2:=cz λW(X:jN W D d)=>He D d W X;obtain⟨T,hT⟩:=dI (mM d);have f:=cz (show(if d.di=cx then(vm d,42) else ym (fW d).1 (fW d).2)=T from by rw[<-hT];rfl);have F:=(vh d a.1.nw).2.2;obtain⟨H,I⟩:=dI ((fW d).1);obtain⟨o,ho⟩:=dI ((fW d).2);obtain⟨dd,J⟩:=dI d.di;rw[hT];rw[I,ho,J] at f;rw[I,ho] at C2;rw[J] at C1;rw[ho] at F;clear a hT I ho J;go_enter func60,ntmps60;cases dd with
 |true=>rw[df rfl] at f;go_wp2_with (go_at_call 82;refine mY (C1.o _ S.x) ?_;);go_ret2;rw[<-f.o];exact⟨_,rfl,⟨λh=>absurd (show(42:Int)=0 from h) kB,λ_=>⟨rfl,S.x⟩⟩,S.fr⟩
 |false=>
  rw[cZ kB] at f;obtain⟨u,hu⟩:=dI (o.getD mu);obtain⟨th,a8⟩:=dI o.isSome;unfold ym at f;rw[hu,a8] at C2 f;rw[hu] at F;have HU:=cz F;clear hu a8 F
  go_upto_region 4 with(first|(go_at_call 82;refine mY (C1.o _ S.x) ?_;)|(go_at_call 83;refine(C2.o _ S.x).mono ?_;rintro e z ⟨U,rfl,hU,hd,C⟩;have a1:=cz hU;replace S:=S.call C (λD e=>e) eQ (gU D H) (λB h=>hd);clear hU hd)|refine fg λW S=>?_)
  have Q:=cz λW(X:jN W D H)=>Am D H W X;obtain⟨n,HN⟩:=sO H.n;have b6:n<=1024:=by rw[<-HN.o];obtain⟨_,sb,nb,pv,h1⟩:=S.x;exact h1.q6
  rw[HN.o] at Q f;cases th with
  |false=>
   rw[df rfl] at f;obtain rfl:=f.o;refine eu S dC λW S=>?_;refine dh 0 _ ?_;refine dh 1 (bZ cx) ?_;refine dh 2 _ ?_;refine pQ 3 ?_;refine pQ 4 ?_;refine pQ 5 ?_;refine pQ 6 ?_;refine pQ 7 ?_;refine dh 8 (bZ cx) ?_;refine dh 9 _ ?_;refine pQ 10 ?_;refine pQ 11 ?_;refine pQ 12 ?_;refine dh 13 (bZ cx) ?_;refine qx ?_;go_wp2;go_ret2;exact⟨_,rfl,⟨λh=>absurd (show(91:Int)=0 from h) kB,λ_=>⟨rfl,S.x⟩⟩,S.fr⟩
  |true=>
   rw[cZ kB] at f;by_cases q1:u.gm=n
   case neg=>
    have e1:((u.gm:Int)!=(n:Int))=cx:=by rw[fJ];omega
    rw[df q1] at f;obtain rfl:=f.o;clear q1;refine eu S dC λW S=>?_;refine dh 0 _ ?_;refine dh 1 (bZ cy) ?_;refine dh 2 _ ?_;refine dh 3 (dE z.h.s 6) ?_;refine dh 4 (bU cq u.gm) ?_;refine dh 5 _ ?_;refine kI 6 λK g=>?_
    go_wp2_with fail
    refine mY (Q.o _ S.x) ?_;refine gq g ?_;refine dh 7 (bZ cx) ?_;refine dh 8 (bZ cx) ?_;refine dh 9 _ ?_;refine pQ 10 ?_;refine pQ 11 ?_;refine pQ 12 ?_;refine dh 13 (bZ cx) ?_;refine qx ?_;go_wp2;go_ret2;exact⟨_,rfl,⟨λh=>absurd (show(91:Int)=0 from h) kB,λ_=>⟨rfl,S.x⟩⟩,S.fr⟩
   rw[cZ (λh=>h q1)] at f;have e1:((u.gm:Int)!=(n:Int))=cy:=by rw[vI,q1]
   clear q1;by_cases q2:u.len=40
   case neg=>
    have e2:((u.len:Int) !=40)=cx:=by rw[fJ];omega
    rw[df q2] at f;obtain rfl:=f.o;clear q2;refine eu S dC λW S=>?_;refine dh 0 _ ?_;refine dh 1 (bZ cy) ?_;refine dh 2 _ ?_;refine dh 3 (dE z.h.s 6) ?_;refine dh 4 (bU cq u.gm) ?_;refine dh 5 _ ?_;refine kI 6 λK g=>?_
    go_wp2_with fail
    refine mY (Q.o _ S.x) ?_;refine gq g ?_;refine dh 7 (bZ cy) ?_;refine dh 8 (bZ cy) ?_;refine dh 9 _ ?_;refine dh 10 (dE z.h.s 5) ?_;refine dh 11 (bU cq u.len) ?_;refine dh 12 (bZ cx) ?_;refine dh 13 (bZ cx) ?_;refine qx ?_;go_wp2;go_ret2;exact⟨_,rfl,⟨λh=>absurd (show(91:Int)=0 from h) kB,λ_=>⟨rfl,S.x⟩⟩,S.fr⟩
   rw[cZ (λh=>h q2)] at f;have e2:((u.len:Int) !=40)=cy:=by rw[vI,q2];rfl
   clear q2;refine eu S dC λW S=>?_;refine dh 0 _ ?_;refine dh 1 (bZ cy) ?_;refine dh 2 _ ?_;refine dh 3 (dE z.h.s 6) ?_;refine dh 4 (bU cq u.gm) ?_;refine dh 5 _ ?_;refine kI 6 λK g=>?_
   go_wp2_with fail
   refine mY (Q.o _ S.x) ?_;refine gq g ?_;refine dh 7 (bZ cy) ?_;refine dh 8 (bZ cy) ?_;refine dh 9 _ ?_;refine dh 10 (dE z.h.s 5) ?_;refine dh 11 (bU cq u.len) ?_;refine dh 12 (bZ cy) ?_;refine dh 13 (bZ cy) ?_;refine qx ?_;have C4:=cz λW(p:w.h.s<=W.h.s)=>(Rp (n:Nat) (by unfold fh;omega) W).mono λe w'(l:_/\_/\_)=>(show∃k,e=cj (dE k 0)/\w.h.s<=k/\fB w' k (qH n)/\dR W w' from⟨_,l.1,p,l.2.1,l.2.2⟩);have C5:=cz λM2(a b:Nat)W(p:w.h.s<=W.h.s)=>(zV D M2 a b W).mono λe w'(l:_/\_/\_)=>(show∃k,e=cj (dE k 0)/\w.h.s<=k/\mf w' k D M2 a b/\dR W w' from⟨_,l.1,p,l.2.1,l.2.2⟩);have C6:=cz λy M2 W(X:fc W y D M2 ⟨H,qH n,0,0⟩)=>Ip y D M2 ⟨H,qH n,0,0⟩ u.iL HU.o.2.2.1 W X;obtain⟨A,hA⟩:=fP (cL 3 (dF u.iL));rw[dk hA] at C6;have HA:=cz hA;obtain⟨r,hr⟩:=dI (ke ⟨H,qH n,0,0⟩ u.iL);rw[hr] at C6 f;obtain⟨s2,bk,sp,ps,c⟩:=r;simp only at C6;have a9:gy u.cR:=HU.o.2.1;have b4:=cz a9;obtain⟨n3,E⟩:=dI (iR u.cR);have w1:IntKind.u64.wrap ((u.cR:Int)+1)=((n3:Nat):Int):=by rw[<-E];exact wG _
   unfold Bu at f;simp only at f;rw[E] at f;have b1:=cz (show gy n3 by rw[<-E];exact Dz _);clear hA hr a9 E
   go_upto_region 7 with(first|(go_at_call 84;refine mY (Q.o _ S.x) ?_;)|(go_at_call 86;refine(C4.o _ S.fr.size).mono ?_;rintro e W ⟨M2,rfl,a2,t,p⟩;have Y:=cz a2;replace S:=(S.cP p).wJ t rfl;clear t p a2))
   refine eR S dC [⟨z.h.s,143,7,kV u⟩] CI λW S=>?_;refine dh 0 _ ?_;refine dh 1 _ ?_;refine dh 3 (dE z.h.s 2) ?_;refine gZ 4 (bV A) rfl (yKn (λw h=>h.row 0 rfl) (o:=2) (m:=3) rfl (dF u.iL) (show 2+3<=7 by decide) (λi hi=>DH i hi) HA.o fK) ?_
   repeat' first|refine Te ?_|refine nA 6 _ ?_|refine nA 7 (bV B) ?_|refine nA 8 (bX ra sp.n rc) ?_|refine nA 9 (bX qa ps.n qc) ?_|refine nA 10 (bU cq c) ?_|refine nA 13 _ ?_|refine nA 14 _ ?_|refine nA 15 _ ?_|refine BE 2 11 (λK g=>?_) λK g=>?_|refine qg 2 λK g=>?_|refine qg 5 λK g=>?_|refine qg 12 λK g=>?_|refine BE 5 11 (λK g=>?_) λK g=>?_|refine qg 11 λK g=>?_|(refine gl S sU ot rfl λE9 W S=>?_;refine gq g ?_)|(go_wp2_with fail;refine(C5.o M2 0 0 _ S.fr.size).mono ?_;rintro e W ⟨y,rfl,a3,t,p⟩;have b5:=cz a3;replace S:=((S.cP p).wJ t rfl).EY (X':=C' y D M2 ⟨H,qH n,0,0⟩) (λB w h=>⟨h.2,h.1.1,h.1.2,⟨(show(0:Nat)<18446744073709551616 by decide),(show(0:Nat)<18446744073709551616 by decide)⟩⟩) (dQ y D M2 _);clear t p a3;refine gq g ?_)|(go_wp2_with fail;refine(C6.o y M2 _ S.x).mono ?_;rintro e W ⟨B,r,q,rfl,⟨j,hB,hc,a6⟩,M,N,L,a7,hp,C⟩;have HB:=cz hB;have HC:=cz hc;have b3:=cz a7;have Z:=cz (And.intro (show∀x∈sp,fh x.1/\fh x.2 from by obtain⟨_,_,_,_,l,_⟩:=N;exact l) (show sp.n<=9223372036854775807 from by obtain⟨_,_,_,l,_⟩:=N;exact l));have R:=cz (dx M);have V:=cz (dx L);replace S:=(S.uh C (λD e=>e) eQ (dQ y D M2 s2) (λB h=>hp) M rfl rfl).Vy a6 L eQ eQ eQ eQ;clear hB hc a6 M N L a7;obtain⟨ra,rc,rfl⟩:=R.o;obtain⟨qa,qc,rfl⟩:=V.o;clear R V;refine gq g ?_)|(refine kq S 0 rfl rfl rfl HB.o nT (fT _) λW S=>?_;refine gq g ?_)
   all_goals(
    refine cz ?_;obtain rfl:=HC.o;clear HC;by_cases g2:c=0
    case neg=>
     have g3:(c !=0)=cx:=fJ.2 g2;have s:=cz g2;rw[df g2] at f;obtain rfl:=f.o;clear g2;go_wp2;go_ret2;exact⟨_,rfl,⟨λh=>absurd h s.o,λ_=>⟨rfl,S.x.1.1.dev⟩⟩,S.fr⟩
    subst g2;rw[cZ (show¬((0:Int)≠0) from λh=>h rfl)] at f;have s:Hid (¬(192:Int)=0):=cz kB;by_cases O:281474976710652<u.lT
    case pos=>
     have i1:decide ((281474976710652:Int)<(u.lT:Int))=cx:=gM cN;rw[df (.inl O)] at f;obtain rfl:=f.o;clear O
     go_wp2_with (with_reducible refine jl 50 82 49 S 1 0 (bU ct u.lT) ?_)
     go_ret2;exact⟨_,rfl,⟨λh=>absurd h s.o,λ_=>⟨rfl,S.x.1.1.dev⟩⟩,S.fr⟩
    have i1:decide ((281474976710652:Int)<(u.lT:Int))=cy:=jG cN;by_cases m2:281474976710652<j.next
    case pos=>
     have i2:decide ((281474976710652:Int)<(j.next:Int))=cx:=gM cN;rw[df (.inr (.inl m2))] at f;obtain rfl:=f.o;clear O m2
     go_wp2_with first|(with_reducible first|refine jl 50 82 49 S 1 0 (bU ct u.lT) ?_|refine jm 54 82 53 S 0 0 (bU ct j.next) ?_)
     go_ret2;exact⟨_,rfl,⟨λh=>absurd h s.o,λ_=>⟨rfl,S.x.1.1.dev⟩⟩,S.fr⟩
    have i2:decide ((281474976710652:Int)<(j.next:Int))=cy:=jG cN;by_cases m3:281474976710652<u.cR
    case pos=>
     have i3:decide ((281474976710652:Int)<(u.cR:Int))=cx:=gM cN;rw[df (.inr (.inr m3))] at f;obtain rfl:=f.o;clear O m2 m3
     go_wp2_with first|(with_reducible first|refine jl 50 82 49 S 1 0 (bU ct u.lT) ?_|refine jm 54 82 53 S 0 0 (bU ct j.next) ?_|refine jm 59 82 58 S 1 1 (bU ct u.cR) ?_)
     go_ret2;exact⟨_,rfl,⟨λh=>absurd h s.o,λ_=>⟨rfl,S.x.1.1.dev⟩⟩,S.fr⟩
    have i3:decide ((281474976710652:Int)<(u.cR:Int))=cy:=jG cN;rw[cZ (λh=>h.elim O λh=>h.elim m2 m3)] at f;obtain rfl:=f.o;clear O m2 m3;have C7:=cz λv W hv(X:fB W M2 s2.mp)=>Vx sp v M2 s2.mp W hv X
    go_upto_region 13 with(first|(with_reducible first|refine jl 50 82 49 S 1 0 (bU ct u.lT) ?_|refine jm 54 82 53 S 0 0 (bU ct j.next) ?_|refine jm 59 82 58 S 1 1 (bU ct u.cR) ?_)|(go_at_call 123;refine(C7.o _ _ (uK S.o0 Z.o.1 Z.o.2) S.x.1.1.map).mono ?_;rintro e W ⟨rfl,t,C⟩;have a5:y≠M2:=rI (cM.ty S.x.1.1.row) (cM.ty S.x.1.1.map) kB;replace S:=S.call (X':=λB w=>(C' y D M2 {s2 with mp:=zA s2.mp (nV sp)} B w/\rY j.sv j.l B w)/\yX 106 3 (bX qa ps.n qc) ps.n (iS ps) B w) C (λD e=>by cases e) (λk hk=>.inr (by rw[fM.1 hk];exact Y.o)) (((dQ y D M2 _).still (fN j.sv j.l)).still (fE 106 3 _ _ _ rfl rfl)) (λB h=>⟨⟨⟨cM.fr h.1.1.row C (.inl rfl) (.inr (λl=>a5 (fM.1 l))),h.1.1.dev.fr C,t,h.1.1.ok⟩,(fN j.sv j.l).fr h.1.2 C⟩,(fE 106 3 _ _ _ rfl rfl).fr h.2 C⟩);clear t a5))
    refine eR S dC [⟨E9,99,2,dO j⟩,⟨z.h.s,143,7,kV u⟩] CI λW S=>?_;refine dh 0 _ ?_;refine dh 1 _ ?_;refine dh 2 (dE z.h.s 1) ?_;refine dh 3 (bU ct u.cR) ?_;refine dh 4 (bU ct n3) ?_;refine dh 5 (dE z.h.s 1) ?_;refine dh 6 (bU ct u.cR) ?_;refine gZ 8 (bV B) rfl (rE (λw h=>h.row 0 rfl) rfl HB.o nT) ?_;refine dh 9 _ ?_;refine gZ 10 (bV U) rfl (rE (λw h=>h.row 1 rfl) rfl a1.o Fk) ?_;refine kI 7 λK g=>?_
    go_wp2_with fail
    refine(C5.o M2 n3 u.cR _ S.fr.size).mono ?_;rintro e W ⟨P3,rfl,a4,t,p⟩;have b2:=cz a4;replace S:=(S.cP p).wJ t rfl;clear t p a4;refine gq g ?_;refine gZ 11 (bV (cL 11 (wm ⟨P3,j,ps,qa,qc,u⟩))) rfl (y8 rfl (by rw[HB.o,a1.o];kernel_rfl)) ?_;refine kI 12 λK g=>?_;refine Vm S rfl rfl rfl λG W hG S=>?_;refine gq g ?_;refine dh 13 _ ?_;refine dh 14 _ ?_;refine qx ?_;go_wp2;go_ret2;exact⟨_,rfl,⟨λ_=>⟨G,⟨P3,j,ps,qa,qc,u⟩,M2,rfl,hG,b2.o,Y.o,⟨S.x.2,⟨S.x.1.2,S.x.1.1.1.1.dev,S.x.1.1.1.1.map,⟨b1.o,b4.o⟩⟩,S.x.1.1.1.2.sl,S.x.1.1.2.1⟩,rfl,b3.o⟩,λh=>absurd rfl h⟩,S.fr⟩)
def Vz(G D M:Nat)(g:iV)(s:Pl)(z:fG g.b.t)(Y:g.dK.length<=100000)(cT:fF)(L:cT.size<=140737488355328)(n:Int)(t j:Nat)(w:cS)(h:dY w G g D M s)(v:cM w t 9 1 (λ_=>.string cT))(y:cM w j 3 1 (λ_=>.int .i64 n)):
 CP_ 76 (#[.agg (cL 1 λ_=>.pointer (some ⟨G,0,none⟩))]++ #[.pointer (some ⟨t,0,none⟩),.pointer (some ⟨j,0,none⟩)]) w λe w'=>zu w w' G D M g (mB cT n (g.gt s)) e:=by
 show CP_ 76 #[.agg (cL 1 λ_=>dE G 0),dE t 0,dE j 0] w _;obtain⟨A,u⟩:=fP (cL 1 (λ_=>dE G 0));rw[<-u];have HA:=cz u;have S:=St.start w (some D) [G,M,g.P] (iz G g D M s) h.x;have U:=cz λW(X:dY W G g D M s)=>At G D M g s A u z.fit W X;have Z:=cz λW(X:dY W G g D M s)=>lU G D M g s z.fit W X;have C:=cz λ(c:dW)(B:gE)(k:B=cL 2 (dO c))(hc:c.t=g.b.t)W(R:iT W c)=>(show CP_ 77 #[.agg B,.string cT,.int .i64 n] W λe w'=>∃B,e=.returned (.tuple #[.agg B,.int .i64 (iK g.b.t cT n).2])/\lY w' W.heap.size B (iK g.b.t cT n).1/\dR W w' from by rw[<-hc];exact MA c B k (by rw[hc];exact z.fit) cT L n W R);have d:=CY z cT n;have f:=cz (show mB cT n (g.gt s)=if 281474976710651<g.b.next then(g.gt s,192) else pJ (g.gt s) (iK g.b.t cT n) from ae);obtain⟨T,I⟩:=dI (mB cT n (g.gt s));obtain⟨r,N⟩:=dI (iK g.b.t cT n);rw[I,N] at f;rw[I];rw[N] at C d;obtain⟨H,c⟩:=r;simp only at C d;have C4:=cz λ(j:dW)(B:gE)(k:B=cL 2 (dO j))(hc:j.t=H)W(X:dY W G g D M s)R=>tV G D M g s j B k (by rw[hc];exact d.fit) W X R;have C5:=cz λ(l:dW)(hc:l.t=H)W(X:dY W G {g with b:=l} D M s)=>(show tf 57 #[.agg A] W (.int .i64 (Bt (rK (g.gt s) H))) from by rw[<-hc];exact z7 G D M {g with b:=l} s A u (show fG l.t by rw[hc];exact d) W X (iE Y kB));have E:=cz v;have F:=cz y;clear h u z Y I N d v y;go_enter func76,ntmps76;by_cases m:281474976710651<g.b.next
 case pos=>rw[df m] at f;have dm:decide (281474976710651<g.b.next)=true:=gM m;clear m;go_wp2_with (first|refine je S (U.o _ S.x.at) λW S=>?_|refine fL ?_|refine fg λW S=>?_);go_ret;rw[f.o];exact aS
 rw[cZ m] at f;have dm:decide (281474976710651<g.b.next)=false:=jG m;clear m;go_upto_region 3 with(first|refine je S (U.o _ S.x.at) λW S=>?_|refine fL ?_|refine fg λW S=>?_);refine eR S dC [⟨w.heap.size,118,1,λ_=>dE G 0⟩] CI λW S=>?_;refine dh 0 (dE w.heap.size 0) ?_;refine dh 1 (dE G 0) ?_;refine gZ 3 (.string cT) ae (gO (λw h=>cM.cell (cM.fr E.o h.fr aw aD) (i:=0) cN) ae Gt) ?_;refine gZ 4 (.int .i64 n) ae (gO (λw h=>cM.cell (cM.fr F.o h.fr aw aD) (i:=0) cN) ae DG) ?_;repeat' first|refine Te ?_|refine nA 6 _ ?_|refine nA 7 (.agg Q) ?_|refine nA 8 (.int .i64 c) ?_|refine nA 11 _ ?_|refine BE 2 9 (λK a=>?_) λK a=>?_|refine qg 2 λK a=>?_|refine qg 5 λK a=>?_|refine qg 10 λK a=>?_|refine BE 5 9 (λK a=>?_) λK a=>?_|refine qg 9 λK a=>?_|(refine gl S sU ot ae λE9 W S=>?_;refine gq a ?_)|(go_wp2_with fail;refine ah (Z.o _ S.x.at) λB W⟨⟨t,k,hc,ho⟩,J⟩=>?_;have HB:=cz k;have HC:=cz hc;replace S:=S.kr J ho;clear k hc;refine gq a ?_)|(go_wp2_with fail;refine ah (C.o t B HB.o HC.o _ ⟨S.q0,λx O=>(S.x.2 x O).1⟩) λQ W⟨⟨j,k,hc,ho⟩,J⟩=>?_;have o:=cz k;have p:=cz hc;replace S:=S.kr J ho;clear k hc;refine gq a ?_)|(refine kq S 0 ae ae ae o.o nT (fT _) λW S=>?_;refine gq a ?_)
 all_goals(
  refine cz ?_;unfold pJ at f;simp only at f;by_cases g2:c=0
  case neg=>
   have g3:(c !=0)=true:=fJ.2 g2;rw[df g2] at f;clear g2;go_wp2;go_ret;rw[f.o];exact bH
  subst g2;rw[cZ aH] at f
  go_wp2_with first|(refine ah (C4.o j Q o.o p.o _ S.x.1.1.at ⟨S.q0,λx O=>(S.x.2 x O).1⟩) λl W⟨hc,V,ho,hf⟩=>?_;have q:=cz (hc.trans p.o);replace S:=(S.EY (λB w h=>h.1.1) (iz G g D M s)).Yg V ho hf aY;clear hc V)|refine je S (C5.o l q.o _ S.x.at) λW S=>?_|refine fL ?_
  go_ret;rw[f.o];exact⟨{g with b:=l},s,ae,ae,S.x.at,by unfold iV.gt rK;rw[<-q.o],id,S.fr⟩)
def Ym(G D M:Nat)(g:iV)(s:Pl)(z:fG g.b.t)(Z:g.dK.length<=100000)(cT a:fF)(L:cT.size<=140737488355328)(O:a.size<=140737488355328)(t k:Nat)(w:cS)(h:dY w G g D M s)(v:cM w t 9 1 (λ_=>.string cT))(y:cM w k 9 1 (λ_=>.string a)):
 CP_ 96 (#[.agg (cL 1 λ_=>.pointer (some ⟨G,0,none⟩))]++ #[.pointer (some ⟨t,0,none⟩),.pointer (some ⟨k,0,none⟩)]) w λe w'=>zu w w' G D M g (qN cT a (g.gt s)) e:=by
 show CP_ 96 #[.agg (cL 1 λ_=>dE G 0),dE t 0,dE k 0] w _;obtain⟨A,u⟩:=fP (cL 1 (λ_=>dE G 0));rw[<-u];have HA:=cz u;have S:=St.start w (some D) [G,M,g.P] (iz G g D M s) h.x;have V:=cz λW(X:dY W G g D M s)=>At G D M g s A u z.fit W X;have C2:=cz λW(X:dY W G g D M s)=>lU G D M g s z.fit W X;have C:=cz λ(c:dW)(B:gE)(l:B=cL 2 (dO c))(hc:c.t=g.b.t)W(R:iT W c)=>(show CP_ 97 #[.agg B,.string cT,.string a] W λe w'=>∃B,e=.returned (.tuple #[.agg B,.int .i64 (jy g.b.t cT a).2])/\lY w' W.heap.size B (jy g.b.t cT a).1/\dR W w' from by rw[<-hc];exact OS c B l (by rw[hc];exact z.fit) cT a L O W R);have f:=D6 z cT a;have j:=cz (show qN cT a (g.gt s)=if 281474976710651<g.b.next then(g.gt s,192) else pJ (g.gt s) (jy g.b.t cT a) from ae);obtain⟨T,I⟩:=dI (qN cT a (g.gt s));obtain⟨r,N⟩:=dI (jy g.b.t cT a);rw[I,N] at j;rw[I];rw[N] at C f;obtain⟨H,c⟩:=r;simp only at C f;have C4:=cz λ(k:dW)(B:gE)(l:B=cL 2 (dO k))(hc:k.t=H)W(X:dY W G g D M s)R=>tV G D M g s k B l amY W X R;have C5:=cz λ(m:dW)(hc:m.t=H)W(X:dY W G {g with b:=m} D M s)=>(show tf 57 #[.agg A] W (.int .i64 (Bt (rK (g.gt s) H))) from by rw[<-hc];exact z7 G D M {g with b:=m} s A u (show fG m.t by rw[hc];exact f) W X (iE Z kB));have E:=cz v;have F:=cz y;clear h u z Z I N f v y;go_enter func96,ntmps96;by_cases n:281474976710651<g.b.next
 case pos=>rw[df n] at j;have dm:decide (281474976710651<g.b.next)=true:=gM n;clear n;go_wp2_with (first|refine je S (V.o _ S.x.at) λW S=>?_|refine fL ?_|refine fg λW S=>?_);go_ret;rw[j.o];exact aS
 rw[cZ n] at j;have dm:decide (281474976710651<g.b.next)=false:=jG n;clear n;go_upto_region 3 with(first|refine je S (V.o _ S.x.at) λW S=>?_|refine fL ?_|refine fg λW S=>?_);refine eR S dC [⟨w.heap.size,118,1,λ_=>dE G 0⟩] CI λW S=>?_;refine dh 0 (dE w.heap.size 0) ?_;refine dh 1 (dE G 0) ?_;refine gZ 3 (.string cT) ae (gO (λw h=>cM.cell (cM.fr E.o h.fr aw aD) (i:=0) cN) ae Gt) ?_;refine gZ 4 (.string a) ae (gO (λw h=>cM.cell (cM.fr F.o h.fr aw aD) (i:=0) cN) ae Gt) ?_;repeat' first|refine Te ?_|refine nA 6 _ ?_|refine nA 7 (.agg U) ?_|refine nA 8 (.int .i64 c) ?_|refine nA 11 _ ?_|refine BE 2 9 (λK d=>?_) λK d=>?_|refine qg 2 λK d=>?_|refine qg 5 λK d=>?_|refine qg 10 λK d=>?_|refine BE 5 9 (λK d=>?_) λK d=>?_|refine qg 9 λK d=>?_|(refine gl S sU ot ae λE9 W S=>?_;refine gq d ?_)|(go_wp2_with fail;refine ah (C2.o _ S.x.at) λB W⟨⟨t,l,hc,ho⟩,J⟩=>?_;have HB:=cz l;have HC:=cz hc;replace S:=S.kr J ho;clear l hc;refine gq d ?_)|(go_wp2_with fail;refine ah (C.o t B HB.o HC.o _ ⟨S.q0,λx Q=>(S.x.2 x Q).1⟩) λU W⟨⟨k,l,hc,ho⟩,J⟩=>?_;have o:=cz l;have p:=cz hc;replace S:=S.kr J ho;clear l hc;refine gq d ?_)|(refine kq S 0 ae ae ae o.o nT (fT _) λW S=>?_;refine gq d ?_)
 all_goals(
  refine cz ?_;unfold pJ at j;simp only at j;by_cases g2:c=0
  case neg=>
   have g3:(c !=0)=true:=fJ.2 g2;rw[df g2] at j;clear g2;go_wp2;go_ret;rw[j.o];exact bH
  subst g2;rw[cZ aH] at j
  go_wp2_with first|(refine ah (C4.o k U o.o p.o _ S.x.1.1.at ⟨S.q0,λx Q=>(S.x.2 x Q).1⟩) λm W⟨hc,Y,ho,hf⟩=>?_;have q:=cz (hc.trans p.o);replace S:=(S.EY (λB w h=>h.1.1) (iz G g D M s)).Yg Y ho hf aY;clear hc Y)|refine je S (C5.o m q.o _ S.x.at) λW S=>?_|refine fL ?_
  go_ret;rw[j.o];exact⟨{g with b:=m},s,ae,ae,S.x.at,by unfold iV.gt rK;rw[<-q.o],id,S.fr⟩)
def SF(G D M:Nat)(g:iV)(s:Pl)(p:fG g.b.t)(cT:fF)(z:cT.s<=140737488355328)(m:Nat)(w:cS)(h:dY w G g D M s)(o:cM w m 9 1 (λ_=>bY cT)):
 CP_ 98 (#[bV (cL 1 λ_=>bW (cu ⟨G,0,cw⟩))]++ #[bW (cu ⟨m,0,cw⟩)]) w λe w'=>zu w w' G D M g (l9 cT (g.gt s)) e:=by
 show CP_ 98 #[bV (cL 1 λ_=>dE G 0),dE m 0] w _;obtain⟨A,L⟩:=yB (cL 1 (λ_=>dE G 0));rw[<-L.o];have S:=St.start w (cu D) [G,M,g.P] (iz G g D M s) h.x;have I:=cz λW(X:dY W G g D M s)=>lU G D M g s p.fit W X;have q:=cz λ(c:dW)(B:gE)(d:B=cL 2 (dO c))(hc:c.t=g.b.t)W(R:iT W c)=>(show CP_ 99 #[bV B,bY cT] W λe w'=>∃B,e=cj (cg #[bV B,bU cq (fQ g.b.t cT).2])/\lY w' W.h.s B (fQ g.b.t cT).1/\dR W w' from by rw[<-hc];exact KV c B d (by rw[hc];exact p.fit) cT z W R);have f:=Bq p cT;have j:=cz (show l9 cT (g.gt s)=if(fQ g.b.t cT).2≠0 then(g.gt s,(fQ g.b.t cT).2) else(rK (g.gt s) (fQ g.b.t cT).1,0) from ae);obtain⟨T,v⟩:=dI (l9 cT (g.gt s));obtain⟨r,C⟩:=dI (fQ g.b.t cT);rw[v,C] at j;rw[v];rw[C] at q f;obtain⟨Q,c⟩:=r;simp only at q f j;have J:=cz λ(n:dW)(B:gE)(d:B=cL 2 (dO n))(hc:n.t=Q)W(X:dY W G g D M s)R=>tV G D M g s n B d amY W X R;have u:=cz o;clear h p v C f o;go_enter func98,ntmps98
 go_upto_region 1 with(refine fg λW S=>?_);refine eR S dC [⟨w.h.s,118,1,λ_=>dE G 0⟩] CI λW S=>?_;refine dh 0 (dE w.h.s 0) ?_;refine dh 1 (dE G 0) ?_;refine gZ 3 (bY cT) ae (gO (λw h=>cM.cell (cM.fr u.o h.fr aw aD) (i:=0) cN) ae Gt) ?_;repeat' first|refine Te ?_|refine nA 5 _ ?_|refine nA 6 (bV F) ?_|refine nA 7 (bU cq c) ?_|refine nA 10 _ ?_|refine BE 2 8 (λK a=>?_) λK a=>?_|refine qg 2 λK a=>?_|refine qg 4 λK a=>?_|refine qg 9 λK a=>?_|refine BE 4 8 (λK a=>?_) λK a=>?_|refine qg 8 λK a=>?_|(refine gl S sU ot ae λY W S=>?_;refine gq a ?_)|(go_wp2_with fail;refine ah (I.o _ S.x.at) λB W⟨⟨m,d,hc,ho⟩,y⟩=>?_;have N:=cz d;have O:=cz hc;replace S:=S.kr y ho;clear d hc;refine gq a ?_)|(go_wp2_with fail;refine ah (q.o m B N.o O.o _ ⟨S.q0,λx E=>(S.x.2 x E).1⟩) λF W⟨⟨n,d,hc,ho⟩,y⟩=>?_;have k:=cz d;have l:=cz hc;replace S:=S.kr y ho;clear d hc;refine gq a ?_)|(refine kq S 0 ae ae ae k.o nT (fT _) λW S=>?_;refine gq a ?_)
 all_goals(
  refine cz ?_;by_cases g2:c=0
  case neg=>
   have g3:(c !=0)=cx:=fJ.2 g2;rw[df g2] at j;clear g2;go_wp2;go_ret;rw[j.o];exact bH
  subst g2;rw[cZ aH] at j
  go_wp2_with first|(go_at_call 55;refine ah (J.o n F k.o l.o _ S.x.1.1.at ⟨S.q0,λx E=>(S.x.2 x E).1⟩) λU W⟨hc,H,ho,V⟩=>?_;have t:=cz (hc.trans l.o);replace S:=(S.EY (λB w h=>h.1.1) (iz G g D M s)).Yg H ho V aY;clear hc H)|refine fL ?_
  go_ret;rw[j.o];exact⟨{g with b:=U},s,ae,ae,S.x.at,by unfold iV.gt rK;rw[<-t.o],id,S.fr⟩)
def fc.next{P D M:Nat}{s:Pl}(h:fc w P D M s)(d:mf w' P D M (iR s.cR) s.base)(b:jX P w w'):fc w' P D M (tS s)/\Fr cw [P] w w':=by have a:Fr cw [P] w w':=Fr.rS b (cM.ty h.row) ae (fM.2 ae);exact⟨⟨d,h.dev.fr a,h.map.fr a (λc=>rI (cM.ty h.map) (cM.ty h.row) kB (fM.1 c)),⟨Dz _,h.ok.2⟩⟩,a⟩
def ab3(G D M:Nat)(g:iV)(s:Pl)(E:fG g.b.t)(hl:g.dK.length<=100000)(cT:fF)(V:cT.size<=140737488355328)(u:Nat)(w:cS)(h:dY w G g D M s)(C:cM w u 9 1 (λ_=>.string cT)):
 CP_ 51 (#[.agg (cL 1 λ_=>.pointer (some ⟨G,0,none⟩))]++ #[.pointer (some ⟨u,0,none⟩)]) w λe w'=>zu w w' G D M g (qA cT (g.gt s)) e:=by
 show CP_ 51 #[.agg (cL 1 λ_=>dE G 0),dE u 0] w _;obtain⟨A,y⟩:=fP (cL 1 (λ_=>dE G 0));rw[<-y];have HA:=cz y;have S:=St.start w (some D) [G,M,g.P] (iz G g D M s) h.x;have N:=cz (qM.Pf h.x);have L:=cz λW s(X:dY W G g D M s)=>qz G D M g s W X;have CQ:=cz λj W(X:dY W G {g with b:=j} D M s)=>qz G D M {g with b:=j} s W X;have CN:=cz λW(X:mf W g.P D M s.cR s.base)=>Rt g.P D M s.cR s.base W X;have F:=cz λW(X:dY W G g D M s)=>wF g.P D M s.cR s.base W X.lf.row;have I:=cz λW(X:dY W G g D M s)=>At G D M g s A y E.fit W X;have C2:=cz λW(X:dY W G g D M s)=>lU G D M g s E.fit W X;obtain⟨st,o⟩:=dI s.cR;have J:=cz λ(c:dW)(B:gE)(l:B=cL 2 (dO c))(hc:c.t=g.b.t)W(R:iT W c)=>(show CP_ 54 #[.agg B,.string cT,.int .u64 st] W λe w'=>∃B,e=.returned (.tuple #[.agg B,.int .i64 (im g.b.t cT st).2])/\lY w' W.heap.size B (im g.b.t cT st).1/\dR W w' from by rw[<-hc];exact RS c B l (by rw[hc];exact E.fit) cT V st W R);have f:=FD E cT st;have a:=cz (show qA cT (g.gt s)=if 281474976710651<g.b.next∨281474976710651<st then(g.gt s,192) else if(im g.b.t cT st).2≠0 then(g.gt s,(im g.b.t cT st).2) else({rK (g.gt s) (im g.b.t cT st).1 with s:=tS s},Bt {rK (g.gt s) (im g.b.t cT st).1 with s:=tS s}) from by rw[<-o];rfl);obtain⟨T,U⟩:=dI (qA cT (g.gt s));obtain⟨r,Y⟩:=dI (im g.b.t cT st);rw[U,Y] at a;rw[U];rw[Y] at J f;rw[o] at F;obtain⟨Q,c⟩:=r;simp only at J f a;have C4:=cz λ(v:dW)(B:gE)(l:B=cL 2 (dO v))(hc:v.t=Q)W(X:dY W G g D M s)R=>tV G D M g s v B l amY W X R;have C5:=cz λ(j:dW)(hc:j.t=Q)W(X:dY W G {g with b:=j} D M (tS s))=>(show tf 57 #[.agg A] W (.int .i64 (Bt {rK (g.gt s) Q with s:=tS s})) from by rw[<-hc];exact z7 G D M {g with b:=j} (tS s) A y (show fG j.t by rw[hc];exact f) W X (iE hl kB));have O:=cz C;clear h y E hl U Y f C o;go_enter func51,ntmps51;by_cases m:281474976710651<g.b.next
 case pos=>rw[df (.inl m)] at a;have dm:decide (281474976710651<g.b.next)=true:=gM m;clear m;go_wp2_with (first|refine mY (L.o _ _ S.x.at) ?_|refine mY (F.o _ S.x.at) ?_|refine je S (I.o _ S.x.at) λW S=>?_|refine fL ?_|refine fg λW S=>?_);go_ret;rw[a.o];exact aS
 have dm:decide (281474976710651<g.b.next)=false:=jG m;by_cases H:281474976710651<st;case pos=>rw[df (.inr H)] at a;have ds:decide ((281474976710651:Int)<(st:Int))=true:=gM cN;clear m H;go_wp2_with (first|refine mY (L.o _ _ S.x.at) ?_|refine mY (F.o _ S.x.at) ?_|refine je S (I.o _ S.x.at) λW S=>?_|refine fL ?_|refine fg λW S=>?_);go_ret;rw[a.o];exact aS
 rw[cZ (λh=>h.elim m H)] at a;have ds:decide ((281474976710651:Int)<(st:Int))=false:=jG cN;clear m H;go_upto_region 4 with(first|refine mY (L.o _ _ S.x.at) ?_|refine mY (F.o _ S.x.at) ?_|refine je S (I.o _ S.x.at) λW S=>?_|refine fL ?_|refine fg λW S=>?_);refine eR S dC [⟨w.heap.size,118,1,λ_=>dE G 0⟩] CI λW S=>?_;refine dh 0 (dE w.heap.size 0) ?_;refine dh 1 (dE G 0) ?_;refine gZ 3 (.string cT) ae (gO (λw h=>cM.cell (cM.fr O.o h.fr aw aD) (i:=0) cN) ae Gt) ?_;refine dh 4 _ ?_;repeat' first|refine Te ?_|refine nA 6 _ ?_|refine nA 7 (.agg B2) ?_|refine nA 8 (.int .i64 c) ?_|refine nA 11 _ ?_|refine BE 2 9 (λK d=>?_) λK d=>?_|refine qg 2 λK d=>?_|refine qg 5 λK d=>?_|refine qg 10 λK d=>?_|refine BE 5 9 (λK d=>?_) λK d=>?_|refine qg 9 λK d=>?_|(refine gl S sU ot ae λE9 W S=>?_;refine gq d ?_)|(go_wp2_with fail;refine ah (C2.o _ S.x.at) λB W⟨⟨u,l,hc,ho⟩,z⟩=>?_;have HB:=cz l;have HC:=cz hc;replace S:=S.kr z ho;clear l hc;refine gq d ?_)|(go_wp2_with fail;refine ah (J.o u B HB.o HC.o _ ⟨S.q0,λx Z=>(S.x.2 x Z).1⟩) λB2 W⟨⟨v,l,hc,ho⟩,z⟩=>?_;have p:=cz l;have q:=cz hc;replace S:=S.kr z ho;clear l hc;refine gq d ?_)|(refine kq S 0 ae ae ae p.o nT (fT _) λW S=>?_;refine gq d ?_)
 all_goals(
  refine cz ?_;by_cases g2:c=0
  case neg=>
   have g3:(c !=0)=true:=fJ.2 g2;rw[df g2] at a;clear g2;go_wp2;go_ret;rw[a.o];exact bH
  subst g2;rw[cZ aH] at a
  go_upto_region 8 with(first|(refine ah (C4.o v B2 p.o q.o _ S.x.1.1.at ⟨S.q0,λx Z=>(S.x.2 x Z).1⟩) λj W⟨hc,hg,ho,hf⟩=>?_;have t:=cz (hc.trans q.o);replace S:=(S.EY (λB w h=>h.1.1) (iz G g D M s)).Yg hg ho hf aY;clear hc hg)|refine fL ?_)
  go_wp2_with first|refine mY (CQ.o _ _ S.x.at) ?_|(refine aj (CN.o _ S.x.at.lf.row) λW⟨hp,z⟩=>?_;have n:=fc.next S.x.at.lf hp z;replace S:=S.ahR n.2 (λD e=>by cases e) (λk hk=>.inl (by rw[fM.1 hk];simp)) (by rw[fM];exact N.o.1) n.1;clear n)|refine je S (C5.o j t.o _ S.x.at) λW S=>?_|refine fL ?_
  go_ret;rw[a.o];exact⟨{g with b:=j},tS s,ae,ae,S.x.at,by unfold iV.gt rK;rw[<-t.o],id,S.fr⟩)
def SG(G D M:Nat)(g:iV)(s:Pl)(ht:fG g.b.t)(cT:fF)(U:cT.size<=140737488355328)(t:Nat)(w:cS)(h:dY w G g D M s)(H:cM w t 9 1 (λ_=>.string cT)):
 CP_ 62 (#[.agg (cL 1 λ_=>.pointer (some ⟨G,0,none⟩))]++ #[.pointer (some ⟨t,0,none⟩)]) w λe w'=>zu w w' G D M g (kY cT (g.gt s)) e:=by
 show CP_ 62 #[.agg (cL 1 λ_=>dE G 0),dE t 0] w _;obtain⟨A,hA⟩:=fP (cL 1 (λ_=>dE G 0));rw[<-hA];have F:=cz hA;have S:=St.start w (some D) [G,M,g.P] (iz G g D M s) h.x;have a6:=cz (qM.Pf h.x);have C0:=cz λW=>tC cT U W;have C2:=cz λW(X:dY W G g D M s)=>lU G D M g s ht.fit W X;have d:=cz (show kY cT (g.gt s)=(eO cT).elim (g.gt s,141) λp=>if p.2=sG then oA (g.gt s) (fp g.b.t cT) else tW (g.gt s) (ez g.b.t cT) from ae);obtain⟨T,I⟩:=dI (kY cT (g.gt s));obtain⟨ns,F⟩:=dI (eO cT);rw[I,F] at d;rw[I];rw[F] at C0;have C:=cz H;clear h I F H;cases ns with
 |none=>rw[show gi 141 (none:Option (fF×fF))=141 from ae] at C0;simp only[Option.elim_none] at d;clear hA;go_enter func62,ntmps62;go_wp2_with (first|refine zC (cM.cell (cM.fr C.o S.fr aw aD) (i:=0) cN) ?_|refine je S (C0.o _) λW S=>?_|refine fg λW S=>?_);go_ret;rw[d.o];exact aS
 |some p=>
  obtain⟨F,sn⟩:=p;simp only[lx] at C0;rw[show gi 141 (some (F,sn))=0 from ae] at C0;simp only[BL] at d;by_cases O:sn=sG
  . have g1:sn.toList.isEmpty=true:=by rw[O,DL];rfl
    rw[df O] at d;have F:=cz λ(c:dW)(B:gE)(f:B=cL 2 (dO c))(hc:c.t=g.b.t)W(R:iT W c)=>(show CP_ 64 #[.agg B,.string cT] W λe w'=>∃B D,e=.returned (.tuple #[.agg B,.agg D,.int .i64 (fp g.b.t cT).2.2])/\lY w' W.heap.size B (fp g.b.t cT).1/\zm w' W.heap.size D (fp g.b.t cT).2.1/\dR W w' from by rw[<-hc];exact KU c B f (by rw[hc];exact ht.fit) cT U W R);obtain⟨n,Z⟩:=Br ht cT;obtain⟨r,u⟩:=dI (fp g.b.t cT);rw[u] at F n Z d;obtain⟨b2,V,c⟩:=r;simp only at F n Z;unfold oA at d;simp only at d;have C4:=cz λ(l:dW)(B:gE)(f:B=cL 2 (dO l))(hc:l.t=b2)(y:dL)(J:gE)(H:J=cL 11 (iw y))(I:y.todw=V)W X R=>FJ G D M g s ht l B f (by rw[hc];exact n.fit) y J H (by have O:=Z.2.2.1;rw[<-I] at O;exact O) A hA W X R;clear hA ht u n Z O;go_enter func62,ntmps62
    go_upto_region 5 with(first|refine zC (cM.cell (cM.fr C.o S.fr aw aD) (i:=0) cN) ?_|refine je S (C0.o _) λW S=>?_|refine fg λW S=>?_)
    refine eR S dC [⟨w.heap.size,118,1,λ_=>dE G 0⟩] CI λW S=>?_;refine dh 0 (dE w.heap.size 0) ?_;refine dh 1 (dE G 0) ?_;refine gZ 3 (.string cT) ae (gO (λw h=>cM.cell (cM.fr C.o h.fr aw aD) (i:=0) cN) ae Gt) ?_
    all_goals(first|refine rd3 (i:=2) (j:=9) (k:=10) dk_ ae ae ae dC dC dC (λK a=>?_) (λK a=>?_) (λK a=>?_))
    all_goals(first|(go_wp2_with fail;refine Be S (C2.o _ S.x.at) λW B t J L _ S=>?_;refine gq a ?_)|(refine gl S sU ot ae λZ W S=>?_;refine gq a ?_)|(refine gl S xO pS ae λY W S=>?_;refine gq a ?_))
    all_goals(clear a K)
    all_goals(first|(refine rd3 (i:=4) (j:=9) (k:=10) dk_ ae ae ae dC dC dC (λK a=>?_) (λK a=>?_) (λK a=>?_))|(refine BE 2 10 (λK a=>?_) λK a=>?_)|refine BE 2 9 (λK a=>?_) λK a=>?_)
    all_goals(first|(go_wp2_with fail;refine(F.o t B J.o L.o _ ⟨S.q0,λx E=>(S.x.2 x E).1⟩).mono ?_;rintro e W ⟨v,V,rfl,⟨l,f,hc,ho⟩,⟨y2,H,I,-⟩,Q⟩;have m:=cz f;have o:=cz hc;have z:=cz H;have N:=cz I;replace S:=S.kr Q ho;clear f hc H I;refine gq a ?_)|(refine gl S sU ot ae λZ W S=>?_;refine gq a ?_)|(refine gl S xO pS ae λY W S=>?_;refine gq a ?_)|(go_wp2_with fail;refine Be S (C2.o _ S.x.at) λW B t J L _ S=>?_;refine gq a ?_))
    all_goals(clear a K)
    all_goals(try(refine nA 5 _ ?_))
    all_goals(try(refine nA 6 (.agg v) ?_))
    all_goals(try(refine nA 7 (.agg V) ?_))
    all_goals(try(refine nA 8 (.int .i64 c) ?_))
    all_goals(first|(refine BE 9 10 (λK a=>?_) λK a=>?_)|(refine BE 4 10 (λK a=>?_) λK a=>?_)|(refine BE 4 9 (λK a=>?_) λK a=>?_)|refine qg 2 λK a=>?_)
    all_goals(first|(refine gl S sU ot ae λZ W S=>?_;refine gq a ?_)|(refine gl S xO pS ae λY W S=>?_;refine gq a ?_)|(go_wp2_with fail;refine(F.o t B J.o L.o _ ⟨S.q0,λx E=>(S.x.2 x E).1⟩).mono ?_;rintro e W ⟨v,V,rfl,⟨l,f,hc,ho⟩,⟨y2,H,I,-⟩,Q⟩;have m:=cz f;have o:=cz hc;have z:=cz H;have N:=cz I;replace S:=S.kr Q ho;clear f hc H I;refine gq a ?_)|(go_wp2_with fail;refine Be S (C2.o _ S.x.at) λW B t J L _ S=>?_;refine gq a ?_))
    all_goals(clear a K)
    all_goals(try(refine nA 5 _ ?_))
    all_goals(try(refine nA 6 (.agg v) ?_))
    all_goals(try(refine nA 7 (.agg V) ?_))
    all_goals(try(refine nA 8 (.int .i64 c) ?_))
    all_goals(first|(refine qg 10 λK a=>?_)|(refine qg 9 λK a=>?_)|refine qg 4 λK a=>?_)
    all_goals(first|(refine gl S xO pS ae λY W S=>?_;refine gq a ?_)|(refine gl S sU ot ae λZ W S=>?_;refine gq a ?_)|(go_wp2_with fail;refine(F.o t B J.o L.o _ ⟨S.q0,λx E=>(S.x.2 x E).1⟩).mono ?_;rintro e W ⟨v,V,rfl,⟨l,f,hc,ho⟩,⟨y2,H,I,-⟩,Q⟩;have m:=cz f;have o:=cz hc;have z:=cz H;have N:=cz I;replace S:=S.kr Q ho;clear f hc H I;refine gq a ?_))
    all_goals(clear a K)
    all_goals(try(refine nA 5 _ ?_))
    all_goals(try(refine nA 6 (.agg v) ?_))
    all_goals(try(refine nA 7 (.agg V) ?_))
    all_goals(try(refine nA 8 (.int .i64 c) ?_))
    all_goals(first|refine qg 11 λK a=>?_)
    all_goals(first|((first|(refine kq S 0 ae ae ae m.o nT (fT _) λW S=>?_)|refine kq S 1 rfl rfl rfl m.o nT (fT _) λW S=>?_);refine gq a ?_))
    all_goals(clear a K)
    all_goals(first|refine qg 12 λK a=>?_)
    all_goals(first|((first|(refine kq S 0 ae ae ae z.o uV (mI _) λW S=>?_)|refine kq S 1 rfl rfl rfl z.o uV (mI _) λW S=>?_);refine gq a ?_))
    all_goals(clear a K)
    all_goals(refine dh 13 _ ?_)
    all_goals(refine qx ?_)
    all_goals(
     first|(replace S:St w (some D) [G,M,g.P] [⟨Y,109,11,iw y2⟩,⟨Z,99,2,dO l⟩,⟨w.heap.size,118,1,λ_=>dE G 0⟩] _ _ _:=S)|(replace S:St w (some D) [G,M,g.P] [⟨Y,109,11,iw y2⟩,⟨Z,99,2,dO l⟩,⟨w.heap.size,118,1,λ_=>dE G 0⟩] _ _ _:=S.aeq)
     by_cases g2:c=0
     case neg=>
      have g3:(c !=0)=true:=fJ.2 g2;rw[df g2] at d;clear g2;go_wp2;go_ret;rw[d.o];exact bH
     subst g2;rw[cZ aH,<-o.o,<-N.o] at d
     go_wp2_with first|(refine(C4.o l v m.o o.o y2 V z.o N.o _ S.x.1.1.at ⟨S.q0,λx E=>(S.x.2 x E).1⟩).mono ?_;rintro e W a;have V:=cz a;clear a;obtain⟨g3,s3,rfl,hP,H,q,Y,I⟩:=V.o;clear V;have hF:=S.fr.step I ax (λk hk=>.inl hk);have V:=cz (And.intro hP (And.intro H (And.intro q Y)));clear hP H q Y;rw[<-d.o])|refine fL ?_
     go_ret;obtain⟨hP,H,q,Y⟩:=V.o;rw[<-d.o] at q;exact⟨g3,s3,ae,hP,H,q,Y,hF⟩)
  . have g1:sn.toList.isEmpty=false:=Ba O;rw[cZ O] at d;have F:=cz λ(c:dW)(B:gE)(f:B=cL 2 (dO c))(hc:c.t=g.b.t)W(R:iT W c)=>(show CP_ 66 #[.agg B,.string cT] W λe w'=>∃B r,e=.returned (.tuple #[.agg B,r,.int .i64 (ez g.b.t cT).2.2])/\lY w' W.heap.size B (ez g.b.t cT).1/\il w' W.heap.size r (ez g.b.t cT).2.1/\dR W w' from by rw[<-hc];exact Jy c B f (by rw[hc];exact ht.fit) cT U W R);obtain⟨n,V,U⟩:=Ac ht cT;obtain⟨r,u⟩:=dI (ez g.b.t cT);rw[u] at F n V U d;obtain⟨b2,jQ,c⟩:=r;simp only at F n V U;unfold tW at d;simp only at d;have Y:=cz λr W X(R:lk W r jQ)=>Cu G D M g s jQ V U r A hA W X R;have C6:=cz λ(l:dW)(B:gE)(f:B=cL 2 (dO l))(hc:l.t=b2)W(X:dY W G g D M (dM s jQ))R=>tV G D M g (dM s jQ) l B f (by rw[hc];exact n.fit) W X R;clear hA ht u n V U O;go_enter func62,ntmps62
    go_upto_region 9 with(first|refine zC (cM.cell (cM.fr C.o S.fr aw aD) (i:=0) cN) ?_|refine je S (C0.o _) λW S=>?_|refine fg λW S=>?_)
    refine eR S dC [⟨w.heap.size,118,1,λ_=>dE G 0⟩] CI λW S=>?_;refine dh 0 (dE w.heap.size 0) ?_;refine dh 1 (dE G 0) ?_;refine gZ 3 (.string cT) ae (gO (λw h=>cM.cell (cM.fr C.o h.fr aw aD) (i:=0) cN) ae Gt) ?_
    all_goals(first|refine BE 2 9 (λK a=>?_) λK a=>?_)
    all_goals(first|(go_wp2_with fail;refine Be S (C2.o _ S.x.at) λW B t J L _ S=>?_;refine gq a ?_)|(refine gl S sU ot ae λZ W S=>?_;refine gq a ?_))
    all_goals(clear a K)
    all_goals(first|(refine BE 4 9 (λK a=>?_) λK a=>?_)|refine qg 2 λK a=>?_)
    all_goals(first|(go_wp2_with fail;refine(F.o t B J.o L.o _ ⟨S.q0,λx E=>(S.x.2 x E).1⟩).mono ?_;rintro e W ⟨v,r,rfl,⟨l,f,hc,ho⟩,u,Q⟩;have m:=cz f;have o:=cz hc;have R:=cz (dx u);replace S:=S.Nq Q ho u;clear f hc u;obtain⟨U,V,rfl⟩:=R.o;clear R;refine gq a ?_)|(refine gl S sU ot ae λZ W S=>?_;refine gq a ?_)|(go_wp2_with fail;refine Be S (C2.o _ S.x.at) λW B t J L _ S=>?_;refine gq a ?_))
    all_goals(clear a K)
    all_goals(try(refine nA 5 _ ?_))
    all_goals(try(refine nA 6 (.agg v) ?_))
    all_goals(try(refine nA 7 (.slice U jQ.length V) ?_))
    all_goals(try(refine nA 8 (.int .i64 c) ?_))
    all_goals(first|(refine qg 9 λK a=>?_)|refine qg 4 λK a=>?_)
    all_goals(first|(refine gl S sU ot ae λZ W S=>?_;refine gq a ?_)|(go_wp2_with fail;refine(F.o t B J.o L.o _ ⟨S.q0,λx E=>(S.x.2 x E).1⟩).mono ?_;rintro e W ⟨v,r,rfl,⟨l,f,hc,ho⟩,u,Q⟩;have m:=cz f;have o:=cz hc;have R:=cz (dx u);replace S:=S.Nq Q ho u;clear f hc u;obtain⟨U,V,rfl⟩:=R.o;clear R;refine gq a ?_))
    all_goals(clear a K)
    all_goals(try(refine nA 5 _ ?_))
    all_goals(try(refine nA 6 (.agg v) ?_))
    all_goals(try(refine nA 7 (.slice U jQ.length V) ?_))
    all_goals(try(refine nA 8 (.int .i64 c) ?_))
    all_goals(first|refine qg 10 λK a=>?_)
    all_goals(first|(refine kq S 0 ae ae ae m.o nT (fT _) λW S=>?_;refine gq a ?_))
    all_goals(clear a K)
    all_goals(refine dh 11 _ ?_)
    all_goals(refine dh 12 _ ?_)
    all_goals(refine qx ?_)
    all_goals(
     by_cases F:c=131
     case pos=>
      subst F;rw[df ae] at d
      go_wp2_with (refine(sJ 131 _).mono ?_;rintro e W ⟨rfl,rfl⟩;)
      go_ret;rw[d.o];exact⟨g,s,ae,ae,S.x.1.1.1.at,ae,id,S.fr⟩
     have J:(c==131)=false:=lR.2 F;have J:decide (c=131)=false:=jG F;rw[cZ F] at d;clear F;by_cases g2:c=0
     case neg=>
      have g3:(c !=0)=true:=fJ.2 g2;rw[df g2] at d;clear g2;go_wp2;go_ret;rw[d.o];exact⟨g,s,ae,ae,S.x.1.1.1.at,ae,id,S.fr⟩
     subst g2;rw[cZ aH] at d
     go_wp2_with first|(refine aj (Y.o _ _ S.x.1.1.1.at S.x.2.1) λW⟨H,I⟩=>?_;replace S:=S.call (X':=λB w=>qM G g D M (dM s jQ) B w/\rY l.sv l.l B w) I ax (λk hk=>.inl (by rw[fM.1 hk];simp)) ((iz G g D M _).still (fN l.sv l.l)) (λB h=>⟨h.1.1.1.pl I (by rw[fM];exact a6.o.2.1) H.lf,(fN _ _).fr h.1.2 I⟩);clear H)|(refine ah (C6.o l v m.o o.o _ S.x.1.at S.x.2.sl) λJ W⟨hc,H,ho,I⟩=>?_;have F:=cz (hc.trans o.o);replace S:=(S.EY (λB w h=>h.1) (iz G g D M _)).Yg H ho I aY;clear hc H)|refine fL ?_
     go_ret;rw[d.o];exact⟨{g with b:=J},dM s jQ,ae,ae,S.x.at,by unfold iV.gt;rw[<-F.o],id,S.fr⟩)
def K0(w w':cS)(K D:Nat)(r:GT×Int)(e:Ending):Prop:=e=cj (bU cq r.2)/\fA w' K D r.1/\Fr (cu D) [K] w w'
def D8(K D:Nat)(x:GT)(i:E0 x)(cT:fF)(l:cT.s<=140737488355328)(n:Int)(w:cS)(h:fA w K D x):
 CP_ 33 #[bW (cu ⟨K,0,cw⟩),bY cT,bU cq n] w λe w'=>K0 w w' K D (dX x (mB cT n)) e:=by
 obtain⟨G,g,M,H,f,b⟩:=h;have v:=cz i;have m:=cz (And.intro f b);have S:=St.start w (cu D) [K] (kt K G g D M x.s) H.x;have p:∀args w,(callFunc 76 args).run prog w=.ok (.enter 76 args) w:=enters_of func76 dC ae;have s:=cz p;have t:=cz λG2 M2 g2(a:g2.gt x.s=x)(z A:Nat)W(X:dY W G2 g2 D M2 x.s)h0 c=>(show CP_ 76 _ W λe w'=>zu W w' G2 D M2 g2 (mB cT n x) e from by
  have I:fG g2.b.t:=by have c:=i.text;rw[<-a] at c;exact c
  have F:g2.dK.n<=100000:=by have c:=i.q6;rw[<-a] at c;exact c
  have q:=Vz G2 D M2 g2 x.s I F cT l n z A W X h0 c;rw[a] at q;exact q)
 obtain⟨T,o⟩:=sO (dX x (mB cT n));rw[o.o];clear f b i p;go_enter func33,ntmps33;go_wp2_with (first|(refine aj (pd K D x v.o (mB cT n) 76 _ s.o _ ⟨G,g,M,S.x.at,m.o.1,m.o.2⟩ (λG2 M2 g2 y r C a=>t.o G2 M2 g2 a _ _ y C (cM.fr S.k1 r aw aD) (cM.fr S.k0 r aw aD))) λJ⟨d,j⟩=>?_;have B:=S.fr.step j ax (λk E=>.inl E);rw[o.o] at d|-;have u:=cz d;clear d)|refine fg λW S=>?_);go_ret;exact⟨ae,u.o,B⟩
def Pn(K D:Nat)(x:GT)(j:E0 x)(cT b:fF)(m:cT.s<=140737488355328)(n:b.s<=140737488355328)(w:cS)(h:fA w K D x):
 CP_ 40 #[bW (cu ⟨K,0,cw⟩),bY cT,bY b] w λe w'=>K0 w w' K D (dX x (qN cT b)) e:=by
 obtain⟨G,g,M,I,i,c⟩:=h;have y:=cz j;have o:=cz (And.intro i c);have S:=St.start w (cu D) [K] (kt K G g D M x.s) I.x;have q:∀args w,(callFunc 96 args).run prog w=.ok (.enter 96 args) w:=enters_of func96 dC ae;have t:=cz q;have u:=cz λG2 M2 g2(a:g2.gt x.s=x)(A B:Nat)W(X:dY W G2 g2 D M2 x.s)h0 d=>(show CP_ 96 _ W λe w'=>zu W w' G2 D M2 g2 (qN cT b x) e from by
  have J:fG g2.b.t:=by have d:=j.text;rw[<-a] at d;exact d
  have H:g2.dK.n<=100000:=by have d:=j.q6;rw[<-a] at d;exact d
  have r:=Ym G2 D M2 g2 x.s J H cT b m n A B W X h0 d;rw[a] at r;exact r)
 obtain⟨T,p⟩:=sO (dX x (qN cT b));rw[p.o];clear i c j q;go_enter func40,ntmps40;go_wp2_with (first|(refine aj (pd K D x y.o (qN cT b) 96 _ t.o _ ⟨G,g,M,S.x.at,o.o.1,o.o.2⟩ (λG2 M2 g2 z s E a=>u.o G2 M2 g2 a _ _ z E (cM.fr S.k1 s aw aD) (cM.fr S.k0 s aw aD))) λL⟨f,l⟩=>?_;have C:=S.fr.step l ax (λk F=>.inl F);rw[p.o] at f|-;have v:=cz f;clear f)|refine fg λW S=>?_);go_ret;exact⟨ae,v.o,C⟩
def IA(K D:Nat)(x:GT)(i:E0 x)(cT:fF)(l:cT.s<=140737488355328)(w:cS)(h:fA w K D x):
 CP_ 14 #[bW (cu ⟨K,0,cw⟩),bY cT] w λe w'=>K0 w w' K D (dX x (qA cT)) e:=by
 obtain⟨G,g,M,E,f,b⟩:=h;have t:=cz i;have m:=cz (And.intro f b);have S:=St.start w (cu D) [K] (kt K G g D M x.s) E.x;have o:∀args w,(callFunc 51 args).run prog w=.ok (.enter 51 args) w:=enters_of func51 dC ae;have q:=cz o;have r:=cz λG2 M2 g2(a:g2.gt x.s=x)(v:Nat)W(X:dY W G2 g2 D M2 x.s)h0=>(show CP_ 51 _ W λe w'=>zu W w' G2 D M2 g2 (qA cT x) e from by
  have F:fG g2.b.t:=by have d:=i.text;rw[<-a] at d;exact d
  have C:g2.dK.n<=100000:=by have d:=i.q6;rw[<-a] at d;exact d
  have p:=ab3 G2 D M2 g2 x.s F C cT l v W X h0;rw[a] at p;exact p)
 obtain⟨T,n⟩:=sO (dX x (qA cT));rw[n.o];clear f b i o;go_enter func14,ntmps14;go_wp2_with (first|(refine aj (pd K D x t.o (qA cT) 51 _ q.o _ ⟨G,g,M,S.x.at,m.o.1,m.o.2⟩ (λG2 M2 g2 u z A a=>r.o G2 M2 g2 a _ u A (cM.fr S.k0 z aw aD))) λH⟨c,j⟩=>?_;have y:=S.fr.step j ax (λk B=>.inl B);rw[n.o] at c|-;have s:=cz c;clear c)|refine fg λW S=>?_);go_ret;exact⟨ae,s.o,y⟩
def K1(K D:Nat)(x:GT)(i:E0 x)(cT:fF)(l:cT.s<=140737488355328)(w:cS)(h:fA w K D x):
 CP_ 41 #[bW (cu ⟨K,0,cw⟩),bY cT] w λe w'=>K0 w w' K D (dX x (l9 cT)) e:=by
 obtain⟨G,g,M,C,f,b⟩:=h;have t:=cz i;have m:=cz (And.intro f b);have S:=St.start w (cu D) [K] (kt K G g D M x.s) C.x;have o:∀args w,(callFunc 98 args).run prog w=.ok (.enter 98 args) w:=enters_of func98 dC ae;have q:=cz o;have r:=cz λG2 M2 g2(a:g2.gt x.s=x)(v:Nat)W(X:dY W G2 g2 D M2 x.s)h0=>(show CP_ 98 _ W λe w'=>zu W w' G2 D M2 g2 (l9 cT x) e from by
  have E:fG g2.b.t:=by have d:=i.text;rw[<-a] at d;exact d
  have H:g2.dK.n<=100000:=by have d:=i.q6;rw[<-a] at d;exact d
  have p:=SF G2 D M2 g2 x.s E cT l v W X h0;rw[a] at p;exact p)
 obtain⟨T,n⟩:=sO (dX x (l9 cT));rw[n.o];clear f b i o;go_enter func41,ntmps41;go_wp2_with (first|(refine aj (pd K D x t.o (l9 cT) 98 _ q.o _ ⟨G,g,M,S.x.at,m.o.1,m.o.2⟩ (λG2 M2 g2 u z A a=>r.o G2 M2 g2 a _ u A (cM.fr S.k0 z aw aD))) λF⟨c,j⟩=>?_;have y:=S.fr.step j ax (λk B=>.inl B);rw[n.o] at c|-;have s:=cz c;clear c)|refine fg λW S=>?_);go_ret;exact⟨ae,s.o,y⟩
def SH(K D:Nat)(x:GT)(i:E0 x)(cT:fF)(l:cT.s<=140737488355328)(w:cS)(h:fA w K D x):
 CP_ 42 #[bW (cu ⟨K,0,cw⟩),bY cT] w λe w'=>K0 w w' K D (dX x (uA cT)) e:=by
 obtain⟨G,g,M,C,f,b⟩:=h;have t:=cz i;have m:=cz (And.intro f b);have S:=St.start w (cu D) [K] (kt K G g D M x.s) C.x;have o:∀args w,(callFunc 100 args).run prog w=.ok (.enter 100 args) w:=enters_of func100 dC ae;have q:=cz o;have r:=cz λG2 M2 g2(a:g2.gt x.s=x)(v:Nat)W(X:dY W G2 g2 D M2 x.s)h0=>(show CP_ 100 _ W λe w'=>zu W w' G2 D M2 g2 (uA cT x) e from by
  have E:fG g2.b.t:=by have d:=i.text;rw[<-a] at d;exact d
  have H:g2.dK.n<=100000:=by have d:=i.q6;rw[<-a] at d;exact d
  have p:=ab0 G2 D M2 g2 x.s E cT l v W X h0;rw[a] at p;exact p)
 obtain⟨T,n⟩:=sO (dX x (uA cT));rw[n.o];clear f b i o;go_enter func42,ntmps42;go_wp2_with (first|(refine aj (pd K D x t.o (uA cT) 100 _ q.o _ ⟨G,g,M,S.x.at,m.o.1,m.o.2⟩ (λG2 M2 g2 u z A a=>r.o G2 M2 g2 a _ u A (cM.fr S.k0 z aw aD))) λF⟨c,j⟩=>?_;have y:=S.fr.step j ax (λk B=>.inl B);rw[n.o] at c|-;have s:=cz c;clear c)|refine fg λW S=>?_);go_ret;exact⟨ae,s.o,y⟩
def K3(K D:Nat)(x:GT)(i:E0 x)(cT:fF)(l:cT.s<=140737488355328)(w:cS)(h:fA w K D x):
 CP_ 19 #[bW (cu ⟨K,0,cw⟩),bY cT] w λe w'=>K0 w w' K D (dX x (kY cT)) e:=by
 obtain⟨G,g,M,C,f,b⟩:=h;have t:=cz i;have m:=cz (And.intro f b);have S:=St.start w (cu D) [K] (kt K G g D M x.s) C.x;have o:∀args w,(callFunc 62 args).run prog w=.ok (.enter 62 args) w:=enters_of func62 dC ae;have q:=cz o;have r:=cz λG2 M2 g2(a:g2.gt x.s=x)(v:Nat)W(X:dY W G2 g2 D M2 x.s)h0=>(show CP_ 62 _ W λe w'=>zu W w' G2 D M2 g2 (kY cT x) e from by
  have E:fG g2.b.t:=by have d:=i.text;rw[<-a] at d;exact d
  have H:g2.dK.n<=100000:=by have d:=i.q6;rw[<-a] at d;exact d
  have p:=SG G2 D M2 g2 x.s E cT l v W X h0;rw[a] at p;exact p)
 obtain⟨T,n⟩:=sO (dX x (kY cT));rw[n.o];clear f b i o;go_enter func19,ntmps19;go_wp2_with (first|(refine aj (pd K D x t.o (kY cT) 62 _ q.o _ ⟨G,g,M,S.x.at,m.o.1,m.o.2⟩ (λG2 M2 g2 u z A a=>r.o G2 M2 g2 a _ u A (cM.fr S.k0 z aw aD))) λF⟨c,j⟩=>?_;have y:=S.fr.step j ax (λk B=>.inl B);rw[n.o] at c|-;have s:=cz c;clear c)|refine fg λW S=>?_);go_ret;exact⟨ae,s.o,y⟩
def FK(K D:Nat)(x:GT)(j:E0 x)(cT:fF)(q:cT.s<=140737488355328)(i:Int)(bs:cV)(m:Option Addr)(n:Nat)(w:cS)(h:fA w K D x)(o:lN w 5 (bX m bs.n n) bs):
 CP_ 34 #[bW (cu ⟨K,0,cw⟩),bY cT,bU cq i,bX m bs.n n] w λe w'=>K0 w w' K D (dX x (mL cT i bs)) e:=by
 obtain⟨G,g,M,L,f,b⟩:=h;have B:=cz j;have s:=cz (And.intro f b);have S:=St.start w (cu D) [K] (kt K G g D M x.s) L.x;have u:∀args w,(callFunc 78 args).run prog w=.ok (.enter 78 args) w:=enters_of func78 dC ae;have y:=cz u;have z:=cz λG2 M2 g2(a:g2.gt x.s=x)(E F d2:Nat)W(X:dY W G2 g2 D M2 x.s)hb h0 c h2=>(show CP_ 78 _ W λe w'=>zu W w' G2 D M2 g2 (mL cT i bs x) e from by
  have N:fG g2.b.t:=by have c:=j.text;rw[<-a] at c;exact c
  have J:g2.dK.n<=100000:=by have c:=j.q6;rw[<-a] at c;exact c
  have v:=Yl G2 D M2 g2 x.s N J j.ops cT q i bs m n E F d2 W X hb h0 c h2;rw[a] at v;exact v)
 obtain⟨T,t⟩:=sO (dX x (mL cT i bs));rw[t.o];clear f b j u;go_enter func34,ntmps34;go_wp2_with (first|(refine aj (pd K D x B.o (mL cT i bs) 78 _ y.o _ ⟨G,g,M,S.x.at,s.o.1,s.o.2⟩ (λG2 M2 g2 C l I a=>z.o G2 M2 g2 a _ _ _ C I (lN.fr o (S.fr.step l ax (λk r=>.inl r)) aw ae) (cM.fr S.k2 l aw aD) (cM.fr S.k1 l aw aD) (cM.fr S.k0 l aw aD))) λO⟨d,p⟩=>?_;have H:=S.fr.step p ax (λk r=>.inl r);rw[t.o] at d|-;have A:=cz d;clear d)|refine fg λW S=>?_);go_ret;exact⟨ae,A.o,H⟩
def SI(K D:Nat)(x:GT)(j:E0 x)(cT:fF)(m:cT.s<=140737488355328)(i:Int)(w:cS)(h:fA w K D x):
 CP_ 39 #[bW (cu ⟨K,0,cw⟩),bY cT,bU cq i] w λe w'=>K0 w w' K D (dX x (rL cT i)) e:=by
 obtain⟨G,g,M,H,f,b⟩:=h;have v:=cz j;have n:=cz (And.intro f b);have S:=St.start w (cu D) [K] (kt K G g D M x.s) H.x;have p:∀args w,(callFunc 94 args).run prog w=.ok (.enter 94 args) w:=enters_of func94 dC ae;have s:=cz p;have t:=cz λG2 M2 g2(a:g2.gt x.s=x)(z A:Nat)W(X:dY W G2 g2 D M2 x.s)h0 c=>(show CP_ 94 _ W λe w'=>zu W w' G2 D M2 g2 (rL cT i x) e from by
  have I:fG g2.b.t:=by have c:=j.text;rw[<-a] at c;exact c
  have F:g2.dK.n<=100000:=by have c:=j.q6;rw[<-a] at c;exact c
  have q:=ab1 G2 D M2 g2 x.s I F j.ops cT m i z A W X h0 c;rw[a] at q;exact q)
 obtain⟨T,o⟩:=sO (dX x (rL cT i));rw[o.o];clear f b j p;go_enter func39,ntmps39;go_wp2_with (first|(refine aj (pd K D x v.o (rL cT i) 94 _ s.o _ ⟨G,g,M,S.x.at,n.o.1,n.o.2⟩ (λG2 M2 g2 y r C a=>t.o G2 M2 g2 a _ _ y C (cM.fr S.k1 r aw aD) (cM.fr S.k0 r aw aD))) λJ⟨d,l⟩=>?_;have B:=S.fr.step l ax (λk E=>.inl E);rw[o.o] at d|-;have u:=cz d;clear d)|refine fg λW S=>?_);go_ret;exact⟨ae,u.o,B⟩
def Lg(w:cS)(base D:Nat)(x:GT)(c:Int)(v:c7):Prop:=
 (c=0->∃K,v=bW (cu ⟨K,0,cw⟩)/\base<=K/\fA w K D x)/\(c≠0->v=bW cw/\jN w D x.s.dv)
def VA(D:Nat)(d:Dv)(ho:d.ops<=990000000)(w:cS)(a:jN w D d):
 CP_ 38 #[bW (cu ⟨D,0,cw⟩)] w λe w'=>∃v,e=cj (cg #[v,bU cq (iY d).2])/\Lg w' w.h.s D (iY d).1 (iY d).2 v/\Fr (cu D) [] w w':=by
 have S:=St.start w (cu D) [] (gU D d) a;have j:=cz λW(X:jN W D d)=>Pk D d ho W X;obtain⟨T,o⟩:=dI (iY d);rw[o] at j|-;obtain⟨x,c⟩:=T;simp only at j|-;clear a o;go_enter func38,ntmps38;go_upto_region 2 with(refine ah (j.o _ S.x) λv W⟨p,y⟩=>?_;have l:=cz p;have k:=cz y;clear p);by_cases g2:c=0;case neg=>have g3:(c !=0)=cx:=fJ.2 g2;have n:=cz g2;clear g2;go_wp2;go_ret2;exact ans
 subst g2;obtain⟨G,g,M,rfl,r,u,t,f,i,b⟩:=l.o.1 ae;have m:=cz (And.intro i b);replace S:=S.Nc k.o ax eQ (iz G g D M x.s) f.x;clear r u t f i b l k;go_wp2_with (first|refine lE (cells:=cL 1 (λ_=>dE G 0)) ae dC ?_|refine Ni S rfl rfl rfl λK W s S=>?_);go_ret2;exact⟨_,ae,⟨λ_=>⟨K,ae,s,⟨G,g,M,⟨S.x.2,S.x.1.at⟩,m.o.1,by have q:g.dK=x.dK:=gD GT.dK m.o.1;rw[<-q];exact m.o.2⟩⟩,λh=>absurd ae h⟩,S.fr⟩
def IB(D:Nat)(d:Dv)(w:cS)(a:jN w D d):
 CP_ 17 #[bW (cu ⟨D,0,cw⟩)] w λe w'=>∃v,e=cj (cg #[v,bU cq (mM d).2])/\Lg w' w.h.s D (mM d).1 (mM d).2 v/\Fr (cu D) [] w w':=by
 have S:=St.start w (cu D) [] (gU D d) a;have j:=cz λW(X:jN W D d)=>Pm D d W X;obtain⟨T,o⟩:=dI (mM d);rw[o] at j|-;obtain⟨x,c⟩:=T;simp only at j|-;clear a o;go_enter func17,ntmps17;go_upto_region 2 with(refine ah (j.o _ S.x) λv W⟨p,y⟩=>?_;have l:=cz p;have k:=cz y;clear p);by_cases g2:c=0;case neg=>have g3:(c !=0)=cx:=fJ.2 g2;have n:=cz g2;clear g2;go_wp2;go_ret2;exact ans
 subst g2;obtain⟨G,g,M,rfl,r,u,t,f,i,b⟩:=l.o.1 ae;have m:=cz (And.intro i b);replace S:=S.Nc k.o ax eQ (iz G g D M x.s) f.x;clear r u t f i b l k;go_wp2_with (first|refine lE (cells:=cL 1 (λ_=>dE G 0)) ae dC ?_|refine Ni S rfl rfl rfl λK W s S=>?_);go_ret2;exact⟨_,ae,⟨λ_=>⟨K,ae,s,⟨G,g,M,⟨S.x.2,S.x.1.at⟩,m.o.1,by have q:g.dK=x.dK:=gD GT.dK m.o.1;rw[<-q];exact m.o.2⟩⟩,λh=>absurd ae h⟩,S.fr⟩
theorem St.ag6{D M:Nat}{g:iV}{s:Pl}(S:St w (cu D) [K] [] [] (λB w=>zy K G g D M s B w/\qM G2 g2 D M2 s B w) w1)(f:(w.h.s<=G2/\w.h.s<=g2.P/\w.h.s<=M2)/\K<w.h.s/\G<w.h.s/\g.P<w.h.s/\M<w.h.s)(d:dY w2 G2 g3 D M2 s2)(c:Fr (cu D) [G2,M2,g2.P] w1 w2):
 St w (cu D) [K] [] [] (λB w=>zy K G g D M {s with dv:=s2.dv} B w/\qM G2 g3 D M2 s2 B w) w2:=by
 obtain⟨⟨o,p,q⟩,i,j,l,m⟩:=f;have a:∀k,k<w.h.s->k∉ [G2,M2,g2.P]:=λk h n=>by grind
 have b:=dY.beside S.x.1.1.at d c (a G j) (a M m) (a _ l);refine S.Nc c ax (λk h=>?_) ((kt K G g D M _).and (iz G2 g3 D M2 s2)) ⟨⟨b.x,cM.fr S.x.1.2 c aw (.inr (a K i))⟩,d.x⟩;grind
def Cv(K D:Nat)(x:GT)(q:E0 x)(w:cS)(h:fA w K D x):
 CP_ 15 #[bW (cu ⟨K,0,cw⟩)] w λe w'=>K0 w w' K D (dX x iC) e:=by
 obtain⟨G,g,M,h,d,f⟩:=h;have b:=cz f;obtain⟨s,R⟩:=dI x.s;rw[R] at h d;obtain rfl:=d;have S:=St.start w (cu D) [K] (kt K G g D M s) h.x;have I:=cz λW(X:vf W K G g D M s)=>Cp K G D M g s W X;have U:=cz λW(X:dY W G g D M s)=>Kq G D M g s q.text.fit (iE q.q6 kB) W X;have N:=cz λG2 M2(g2:iV)W X(a:g2.gt s=g.gt s)=>(show CP_ 59 #[dE G2 0] W λe Y=>zu W Y G2 D M2 g2 (iC (g.gt s)) e from by
  have F:g2.b.t=g.b.t:=gD GT.b a;have O:g2.dK=g.dK:=gD GT.dK a;rw[<-a];exact Vl G2 D M2 g2 s (by rw[F];exact q.text) (by rw[O];exact f) (by rw[O];exact q.q6) q.ops W X)
 have k:=cz (show dX (g.gt s) iC=if s.dv.di=cx then(g.gt s,42) else td (g.gt s) (iC (g.gt s)) from ae);obtain⟨T,L⟩:=dI (dX (g.gt s) iC);obtain⟨r,p⟩:=dI (iC (g.gt s));obtain⟨Z,o⟩:=dI s.dv.di;rw[L,p,o] at k;rw[L];rw[p] at N;rw[o] at I;have E:=cz h;clear h R L p o q f;go_enter func15,ntmps15;cases Z with
 |true=>rw[df ae] at k;go_wp2_with (refine mY (I.o _ S.x.at) ?_;);go_ret;rw[k.o];exact⟨ae,⟨G,g,M,S.x.at,ae,b.o⟩,S.fr⟩
 |false=>
  rw[cZ kB] at k;obtain⟨y,c⟩:=r;go_upto_region 5 with(first|refine mY (I.o _ S.x.at) ?_|refine zC (v:=dE G 0) (cM.cell S.x.2 (i:=0) cN) ?_|(refine(U.o _ S.x.at.KX).mono ?_;rintro e W ⟨G2,g2,M2,rfl,u,A,z,a,d,H⟩;have V:=cz (And.intro (And.intro u (And.intro A z)) (And.intro (cM.lt E.o.row) (And.intro (cM.lt E.o.KX.row) (And.intro (cM.lt E.o.KX.lf.row) (cM.lt E.o.KX.lf.map)))));have l:=cz d;replace S:=(S.cP H).Yk ((kt K G g D M s).and (iz G2 g2 D M2 s)) ⟨(S.cP H).x,a.x⟩;clear u A z a d)|(refine(N.o G2 M2 g2 _ S.x.2.at l.o).mono ?_;rintro e F F;have t:=cz F;obtain⟨g3,R,rfl,F,a,m,B,I⟩:=t.o;clear t;have n:=cz m;have J:=cz B;have hS:=S.ag6 V.o a I;clear S F a m B;have S:=hS;clear hS));unfold td at k;by_cases F:c=0;case neg=>(have I:(c !=0)=cx:=fJ.2 F;rw[df F] at k;clear F;go_wp2;go_ret;rw[k.o];have I:R.dv=y.s.dv:=by rw[<-n.o];rfl);have C:=S.x.1.at;rw[I] at C;exact⟨ae,⟨G,g,M,C,ae,b.o⟩,S.fr⟩
  subst F;rw[cZ aH] at k;obtain rfl:=n.o;clear n;go_wp2_with (have Q:=S.x.1.2;have a:∀j,j<1->(λ_=>dE G2 0:Nat->c7) j=if j=0 then dE G2 0 else(λ_=>dE G 0:Nat->c7) j:=λj F=>(df (show j=0 from Nat.lt_one_iff.1 F)).symm;refine aeJ Q 0 cN ae ae ae Zv (λ_=>dE G2 0) a ?_;clear Q a;intro F H p;replace S:=S.ZK H p;clear p);go_ret;rw[k.o];exact⟨ae,⟨G2,g3,M2,S.x.at,ae,J.o (by rw[show g2.dK=g.dK from gD GT.dK l.o];exact b.o)⟩,S.fr⟩
end
structure tG(x:GT)(N:Nat):Prop where
 text:fG x.b
 q6:x.dK.n<=100000
 ops:x.s.dv.ops<=N
def tG.ok(h:tG x N)(a:N<=990000000):E0 x:=⟨h.text,h.q6,iE h.ops a⟩
theorem tG.le{x:GT}{N M:Nat}(h:tG x N)(a:N<=M):tG x M:=⟨h.text,h.q6,iE h.ops a⟩
theorem Cw{x:GT}{N:Nat}(h:tG x N){k:GT->GT×Int}(a:tG (k x).1 (N+20000)):tG (dX x k).1 (N+20000):=by unfold dX;split;exact br;unfold td;split;exact⟨h.text,h.q6,a.ops⟩;exact a
def VB(h:tG x N){r:ee×Int}(a:fG r.1):tG (pJ x r).1 N:=by unfold pJ;split;exact h;exact⟨a,h.q6,h.ops⟩
def QA(h:tG x N)(cT:fF)(n:Int):tG (mB cT n x).1 N:=by unfold mB;split;exact h;exact VB h (CY h.text _ _)
def aeV(h:tG x N)(f t:fF):tG (qN f t x).1 N:=by unfold qN;split;exact h;exact VB h (D6 h.text _ _)
def ZL(h:tG x N)(f:fF):tG (qA f x).1 N:=by unfold qA;split;exact h;split;exact h;exact⟨FD h.text _ _,h.q6,h.ops⟩
def Yn(h:tG x N)(f:fF):tG (l9 f x).1 N:=by unfold l9;split;exact h;exact⟨Bq h.text _,h.q6,h.ops⟩
theorem aeW{x:GT}{N:Nat}(h:tG x N){b:ee}(a:fG b)(iP:dw):tG (oM b iP x).1 (N+9):=by have c:=Vk x.s iP.cO (gj x.b.cU iP.id);have d:=h.ops;unfold oM vj;split;exact bQ;refine⟨a,h.q6,?_⟩;grind[qk]
theorem VC(h:tG x N){r:ee×(dw×Int)}(a:fG r.1):tG (oA x r).1 (N+9):=by unfold oA;split;exact br;grind[aeW]
theorem ag7{x:GT}{N:Nat}(h:tG x N)(f:fF):tG (uA f x).1 (N+9):=VC h (FE h.text f).1
theorem Yo{x:GT}{N:Nat}(h:tG x N)(f:fF):tG (kY f x).1 (N+9):=by unfold kY;cases eO f with|none=>exact br|some p=>simp only[BL];split;exact VC h (Br h.text f).1;have a:=Ac h.text f;unfold tW;split;exact br;split;exact br;refine⟨a.1,h.q6,?_⟩;show(dM x.s (ez x.b f).2.1).dv.ops<=_;rw[qk];exact iE h.ops (yu _ _)
theorem ag8{x:GT}{N:Nat}(h:tG x N)(id:Nat){q:cQ}(b:dD q){iP:List cQ}(ho:fO iP):tG (se id q iP x).1 N:=by have a:=FF (Iv h.text id b) id iP ho;unfold se zx;split;exact h;refine⟨a.1,h.q6,?_⟩;show(dM x.s _).dv.ops<=_;rw[qk];exact h.ops
theorem ZM{x:GT}{N:Nat}(h:tG x N)(id:Nat){t:Pl×(cQ×(List cQ×Int))}(a:t.1.dv.ops<=N+5)(c:dD t.2.1)(ho:fO t.2.2.1):tG (sV id x t).1 (N+5):=by have b:tG {x with s:=t.1} (N+5):=⟨h.text,h.q6,a⟩;grind[sV,ag8]
theorem VD(h:tG x N)(a:pD x.s.dv)(b:gy x.s.cR)(f:fF)(i:Int)(bs:cV):tG (mL f i bs x).1 (N+5):=by have c:=(Le h.text f i).2.2.1;have e:=FI a b c i bs;have ho:=Vi x.s (qL x.b f i).1.cO i bs;have d:=h.ops;unfold mL;split;exact br;split;exact br;grind[ZM]
theorem ag9(h:tG x N)(a:pD x.s.dv)(b:gy x.s.cR)(f:fF)(i:Int):tG (rL f i x).1 (N+5):=by have c:=(Le h.text f i).2.2.1;have e:=D7 a b c i;have ho:=Sv x.s (qL x.b f i).1.cO i;have d:=h.ops;unfold rL;split;exact br;grind[ZM]
theorem Nt{x:GT}{N:Nat}(h:tG x N):tG (ju x).1 (N+20000):=by have a:=Ir x.s x.b x.dK;have b:=Nh (gC x.s x.b x.dK).1.dv (qX x (gC x.s x.b x.dK));have c:=h.ops;unfold ju uy;split;exact bQ;split;exact bQ;exact⟨h.text,iE (FA _ _ _) kB,by show(eY _ _).1.ops<=_;omega⟩
theorem Nu{x:GT}{N:Nat}(h:tG x N):tG (iC x).1 (N+20000):=by have a:=h.le (yu N 20000);grind[iC,Nt]
theorem Nv(d:Dv):tG (iY d).1 (d.ops+20000):=by have h:tG (gF d) d.ops:=⟨Ns,gw _,eN _⟩;unfold iY;split;exact br;exact Nt h
def IC(d:Dv):tG (vm d) d.ops:=⟨Ct,gw _,eN _⟩
theorem Nw(d:Dv)(h:lX d.nw):tG (mM d).1 (d.ops+20004):=by obtain⟨g,i,-⟩:=vh d h;unfold mM;split;exact(IC d).le (yu _ _);unfold ym;have a:=(IC (fW d).1).le (show(fW d).1.ops<=d.ops+20004 by omega);split;exact a;split;exact a;split;exact a;have b:=zw ⟨(fW d).1,qH (fW d).1.n,0,0⟩ jv ((fW d).2.getD mu).iL;generalize ke ⟨(fW d).1,qH (fW d).1.n,0,0⟩ ((fW d).2.getD mu).iL=r at b|-;obtain⟨c,e,f,-⟩:=b;simp only at f;unfold Bu;split;exact(IC r.1.dv).le cN;split;exact(IC r.1.dv).le cN;exact⟨c,iE e kB,by grind⟩
def Nx(h:tG x N)(f:fF)(i:Int):tG (ny f i x).1 (N+3):=by have a:=h.le (yu N 3);have ho:=Vh x.s (r8 x.b f i).1.cO i;have b:=h.ops;unfold ny;split;exact a;unfold EP;split;exact a;unfold Ix;split;exact bQ;exact bQ
def fA.facts{D:Nat}(h:fA w K D x):pD x.s.dv/\gy x.s.cR:=by obtain⟨G,g,M,a,-,-⟩:=h;exact⟨a.KX.lf.dev.1,a.KX.lf.ok.1⟩
def Dv.al(d:Dv):Prop:=d.di=cy/\d.left= -1
def Wr(A:Nat->Prop)(d e:Dv):Prop:=∃l o f k,(∀p∈l,A p.1)/\e=⟨d.n,d.st,oe d.nw l,d.ps++l,o,f,k⟩/\(d.al->k=cy/\f= -1)
theorem Wr.refl{A:Nat->Prop}(d:Dv):Wr A d d:=⟨[],d.ops,d.left,d.di,by simp,by simp[oe],id⟩
theorem Wr.trans{A:Nat->Prop}{d e f:Dv}(h:Wr A d e)(g:Wr A e f):Wr A d f:=by obtain⟨l,o,f,k,j,rfl,a⟩:=h;obtain⟨i,o',f',c,m,rfl,b⟩:=g;exact⟨l++i,o',f',c,by grind,by grind[oe],λh=>b (a h)⟩
theorem Wr.mono(h:Wr A d e)(g:∀a,A a->B a):Wr B d e:=by grind[Wr]
def Wr.n(h:Wr A d e):e.n=d.n:=by obtain⟨l,o,f,k,_,rfl,_⟩:=h;rfl
def Wr.al(h:Wr A d e)(g:d.al):e.al:=by obtain⟨l,o,f,k,_,rfl,h⟩:=h;exact h g
theorem Ny{a:Nat}:∀(l:List (Nat×cV))(f:Nat->cV),(∀p∈l,p.1≠a)->oe f l a=f a
 | [],_,_=>rfl
 |p::l,f,h=>(Ny l (jH f p.1 p.2) λq b=>h q (lu _ b)).trans (cZ (pU (h p nC)))
theorem Wr.nw(h:Wr A d e)(c:¬A a):e.nw a=d.nw a:=by obtain⟨l,o,f,k,b,rfl,_⟩:=h;grind[Ny]
def D9(d:Dv):∃o,fC d= {d with ops:=o}:=by unfold fC;split<;>exact⟨_,ae⟩
def ZO(d:Dv)(i:Int):Wr A d (ik d i).1:=by obtain⟨o,h⟩:=D9 d;exact⟨[],o,d.left,d.di,by simp,by simp[ik,h,oe],id⟩
theorem GA(d:Dv):∃o f k,(j8 (fC d)).1=⟨d.n,d.st,d.nw,d.ps,o,f,k⟩/\(d.al->(j8 (fC d)).2=cx/\k=cy/\f= -1):=by obtain⟨o,h⟩:=D9 d;rw[h];unfold j8 Dv.al;split<;>grind
theorem Nz(d:Dv)(i:Int)(s:cV)(h:∀a:Nat,(a:Int)=i->A a):Wr A d (iq d i s).1/\((iq d i s).2=0->0<=i/\i<d.n/\(iq d i s).1.nw=jH d.nw i.m s)/\(d.al->0<=i->i<d.n->(iq d i s).2=0):=by obtain⟨o,f,k,e,j⟩:=GA d;obtain⟨o',l⟩:=D9 d;unfold iq Ri;by_cases c:0<=i/\i<(d.n:Int);rw[df jv,e];split;refine⟨⟨[(i.m,s)],o,f,k,?_,by rfl,λg=>(j g).2⟩,λ_=>⟨c.1,c.2,ae⟩,by simp⟩;grind;exact⟨⟨[],o,f,k,by simp,by simp[oe],λg=>(j g).2⟩,by simp,by grind⟩;rw[cZ jv,l];exact⟨⟨[],o',d.left,d.di,by simp,by simp[oe],id⟩,by simp,λ_ a b=>absurd ⟨a,b⟩ c⟩
structure PW(A:Nat->Prop)(s t:Pl):Prop where
 wr:Wr A s.dv t.dv
 st:t.cR=s.cR
 ba:t.base=s.base
theorem PW.refl{A:Nat->Prop}(s:Pl):PW A s s:=⟨.refl _,ae,ae⟩
theorem PW.trans{A:Nat->Prop}{s t u:Pl}(h:PW A s t)(g:PW A t u):PW A s u:=⟨h.wr.trans g.wr,g.st.trans h.st,g.ba.trans h.ba⟩
def PW.mono{s t:Pl}(h:PW A s t)(g:∀a,A a->B a):PW B s t:=⟨h.wr.mono g,h.st,h.ba⟩
theorem NA{A:Nat->Prop}(s:Pl)(q:cQ):PW A s (gr s q).1/\(gr s q).1.mp=s.mp:=by unfold gr;split;exact⟨.refl _,ae⟩;exact⟨⟨ZO _ q.1,ae,ae⟩,ae⟩
def GP(D:Nat->cV)(n:Nat)(q:cQ):Prop:=q=cX∨(q.1<n/\kU (D q.1)=q.2.2)
def Ea(D:Nat->cV)(q:cQ):cV:=if q=cX then ff else D q.1
theorem SJ{s:Pl}(h:s.dv.di=cy)(g:GP s.dv.nw s.dv.n q):(gr s q).2=(Ea s.dv.nw q,0):=by unfold gr Ea;split;rfl;rcases g with g|⟨g1,g2⟩<;>grind[ik,Ri]
theorem aiQ{s:Pl}(h:(gr s q).2.2=0):GP s.dv.nw s.dv.n q/\(gr s q).2.1=Ea s.dv.nw q:=by unfold gr Ea GP ik Ri at*;grind
theorem VE{A:Nat->Prop}(s:Pl)(i:Int)(b:cV)(h:∀a:Nat,(a:Int)=i->A a):PW A s (ky s i b).1/\(ky s i b).1.mp=s.mp/\((ky s i b).2.2=0->0<=i/\i<s.dv.n/\(ky s i b).2.1=(i.m,s.cR,kU (pF b))/\(ky s i b).1.dv.nw=jH s.dv.nw i.m (pF b))/\(s.dv.al->0<=i->i<s.dv.n->(ky s i b).2.2=0):=by have g:=Nz (A:=A) s.dv i (pF b) h;unfold ky;refine⟨⟨g.1,ae,ae⟩,ae,λe=>?_,λa b c=>?_⟩;grind;grind
structure Put(s:Pl)(b:cV)(r:Pl×(cQ×Int)):Prop where
 fr:s.mp r.2.1.1=1
 lt:r.2.1.1<s.dv.n
 q:r.2.1=(r.2.1.1,s.cR,kU (pF b))
 mp:r.1.mp=kC s.mp r.2.1.1 2
 nw:r.1.dv.nw=jH s.dv.nw r.2.1.1 (pF b)
theorem aeX(s:Pl)(b:cV):PW (λa=>s.mp a=1) s (tu s b).1/\((tu s b).2.2=0->Put s b (tu s b))/\(s.dv.al->b.n<=128->0<fR s.mp->(∀a,s.mp a=1->a<s.dv.n)->(tu s b).2.2=0):=by
 unfold tu;split;exact⟨.refl _,by simp,by grind⟩;split;next h=>exact⟨.refl _,by simp,λ_ _ c=>by grind [CG]⟩
 next i h=>(have d:=(qv h).2.1;have g:=VE (A:=λa=>s.mp a=1) s i b λa e=>by grind);split;(next h2=>refine⟨⟨g.1.wr,g.1.st,g.1.ba⟩,λ_=>?_,λ_ _ _ _=>h2⟩;refine⟨?_,?_,?_,?_,?_⟩<;>simp only[(g.2.2.1 h2).2.2.1]<;>grind);grind
theorem rh(w:Nat):∀n,n<256^w->jL (qQ w n)=n:=by
 induction w with
 |zero=>grind[qQ,jL]
 |succ w ih=>
  intro n h;have e:qQ (w+1) n=n%256::qQ w (n/256):=by simp_all[qQ,range_succ_eq_map,pow_succ',Nat.div_div_eq_div_mul]
  grind[jL]
theorem NC{p:cQ}(h:dD p):AU (iM p)=p:=by unfold AU iM;have a:=gh 4 p.1;have b:=gh 8 p.2.1;simp only[take_append,drop_append,a,b,gh];simp[nU,Df,a,b,gh];rw[rh 4 _ h.1,rh 8 _ h.2.1,rh 4 _ h.2.2]
theorem xp{p:cQ}(h:dD p)(r:ij p=cx):nZ (iM p)=cu p:=by simp_all[nZ,NC,fY]
theorem Kz{l:Nat->cQ}{b:cV}(a:mW l=cu b)(f:∀i,i<8->dD (l i))(d:∀i,8<=i->l i=cX):b.n=128/\pZ b=cu l:=by
 unfold mW at a;split at a
 . next ha=>
   cases a;have e:∀i,i<8->zT (mE l 8) i=iM (l i):=by
    intro i c;unfold zT mE;rcases(by omega:i=0∨i=1∨i=2∨i=3∨i=4∨i=5∨i=6∨i=7) with rfl|rfl|rfl|rfl|rfl|rfl|rfl|rfl<;>
     simp[range_succ,drop_append,take_append,(λi=>fY (l i)),Df,nU]
   (have g:∀i,i<8->nZ (zT (mE l 8) i)=cu (l i):=λi c=>by grind[xp,KP]);refine⟨q8 l 8,?_⟩;unfold pZ;rw[df (by grind[okN])];congr 1;grind[EX,NC]
 cases a
def nd(D:Nat->cV)(q:cQ):Nat->cQ:=if q=cX then mX else(pZ (D q.1)).getD mX
def pt(D:Nat->cV)(r:cQ)(k:Nat):cQ:=if k=0 then r else if k<9 then nd D r (k-1) else if k<73 then nd D (nd D r ((k-9)/8)) ((k-9)%8) else cX
def par(k:Nat):Nat:=if k<9 then 0 else(k-9)/8+1
theorem aeY(D:Nat->cV)(r:cQ)(h:0<k)(a:k<73):pt D r k=nd D (pt D r (par k)) (if k<9 then k-1 else(k-9)%8):=by grind[pt,par]
def ID(D:Nat->cV):nd D cX=mX:=df ae
theorem aha(D:Nat->cV)(q:cQ){i:Nat}(h:8<=i):nd D q i=cX:=by unfold nd pZ;split;rfl;split;exact cZ cN;rfl
theorem xq{D E:Nat->cV}{q:cQ}(h:q≠cX->E q.1=D q.1):nd E q=nd D q:=by grind[nd]
theorem aeZ{D:Nat->cV}(h:lX D)(q:cQ)(i:Nat):dD (nd D q i):=by unfold nd;split;exact dV;cases e:pZ (D q.1) with|none=>exact dV|some l=>exact zW (h _) e i
theorem ae0{r:cQ}(h:∀k,k<9->pt D r k≠cX->E (pt D r k).1=D (pt D r k).1)(k:Nat):pt E r k=pt D r k:=by
 have a:nd E r=nd D r:=xq (h 0 cN);unfold pt;rw[a];split;rfl;split;rfl;split;next h1 h2 h3=>have:=h ((k-9)/8+1) cN;rw[xq (D:=D)];unfold pt at this;grind
 rfl
def GN(D:Nat->cV)(n:Nat)(q:cQ):Prop:=GP D n q/\(q≠cX->(pZ (D q.1)).isSome=cx)
def ND:pZ ff=cu mX:=by
 unfold pZ;rw[df nz];congr 1;funext i;unfold EX mX;split;next h=>exact(show∀i:Fin 8,AU (zT ff i)=cX by decide+kernel) ⟨i,h⟩
 rfl
theorem ye(s:Pl)(q:cQ):PW A s (du s q).1/\(du s q).1.mp=s.mp:=by grind[NA,du]
theorem IE{s:Pl}(h:s.dv.di=cy)(g:GN s.dv.nw s.dv.n q):(du s q).2=(nd s.dv.nw q,0):=by unfold du nd;rw[SJ h g.1];unfold Ea;by_cases a:q=cX;simp[a,ND];have:=g.2 a;grind
theorem Lh{s:Pl}(h:(du s q).2.2=0):(du s q).2.1=nd s.dv.nw q:=by unfold du at*;unfold nd;by_cases a:(gr s q).2.2=0;have e:=(aiQ a).2;unfold Ea at e;simp only[a,ne_eq,xy,mq] at h|-;by_cases b:q=cX;simp_all[ND];grind;grind
def PW.nw{s t:Pl}(h:PW A s t)(a:Nat)(b:¬A a):t.dv.nw a=s.dv.nw a:=h.wr.nw b
def IF(s:Pl)(q:cQ)(i:Nat):PW A s (fi s q i).1/\(fi s q i).1.mp=s.mp:=by have h:=ye (A:=A) s q;have g:=ye (A:=A) (du s q).1 ((du s q).2.1 (i/8));unfold fi;split;exact h;split<;>exact⟨h.1.trans g.1,g.2.trans h.2⟩
def SK(s:Pl)(q:cQ):(du s q).1.dv.nw=s.dv.nw:=funext λa=>(ye (A:=λ_=>False) s q).1.nw a id
theorem ZP{s:Pl}(h:(fi s q i).2.2=0):(fi s q i).2.1=⟨nd s.dv.nw q,nd s.dv.nw (nd s.dv.nw q (i/8)),nd s.dv.nw (nd s.dv.nw q (i/8)) (i%8)⟩:=by unfold fi at*;by_cases a:(du s q).2.2=0;rw[cZ cN] at h|-;have b:=Lh a;by_cases c:(du (du s q).1 ((du s q).2.1 (i/8))).2.2=0;simp_all[Lh,SK];grind;grind
def Kp(i k:Nat):Prop:=k=0∨k=1+i/8∨k=9+i
structure NF(s t:Pl)(q:cQ):Prop where
 fr:s.mp q.1=1
 tk:t.mp q.1=2
 bi:q.2.1=s.cR
 su:kU (t.dv.nw q.1)=q.2.2
structure Ch(s t:Pl)(cO top:cQ)(i:Nat)(iP:List cQ):Prop where
 pw:PW (λa=>s.mp a=1) s t
 fI:∀k,¬Kp i k->pt t.dv.nw top k=pt s.dv.nw cO k
 new:∀k,Kp i k->pt t.dv.nw top k≠cX->NF s t (pt t.dv.nw top k)/\(k<9->(pZ (t.dv.nw (pt t.dv.nw top k).1)).isSome=cx)
 inj:∀k l,Kp i k->Kp i l->pt t.dv.nw top k≠cX->pt t.dv.nw top l≠cX->(pt t.dv.nw top k).1=(pt t.dv.nw top l).1->k=l
 mp2:∀a,s.mp a≠1->t.mp a=s.mp a
 ZQ:∀a,s.mp a=1->t.mp a=1∨(t.mp a=2/\∃k,Kp i k/\pt t.dv.nw top k≠cX/\(pt t.dv.nw top k).1=a)
 iP:∀q,q∈iP↔q≠cX/\∃k,Kp i k/\pt s.dv.nw cO k=q
def sW(n:Nat)(mp:Nat->Nat):Prop:=∀a,mp a<=3/\(mp a≠0↔4<=a/\a<n)
theorem ER(s:Pl)(l:Nat->cQ):PW (λa=>s.mp a=1) s (fD s l).1/\((fD s l).2.2=0->(∀i,i<8->dD (l i))->(∀i,8<=i->l i=cX)->∃b,Put s b (fD s l)/\pZ b=cu l/\pF b=b/\∀x∈pF b,x<256)/\(s.dv.al->KP l 8=cx->0<fR s.mp->(∀a,s.mp a=1->a<s.dv.n)->(fD s l).2.2=0):=by unfold fD;cases h:mW l with|none=>exact⟨.refl _,by simp,λ_ a=>by grind[mW]⟩|some b=>grind[aeX,mW,q8,mE,pX,Kz,Ji]
theorem Put.ne{s:Pl}{b:cV}(h:Put s b r)(g:∀a,s.mp a=1->4<=a/\a<s.dv.n):r.2.1≠cX:=λe=>by have:=h.fr;grind[cX]
theorem ae1{D:Nat->cV}{q:cQ}{b:cV}{l:Nat->cQ}(a:q≠cX)(h:pZ b=cu l):nd (jH D q.1 b) q=l:=by unfold nd jH;grind
theorem ae2{top bq:cQ}(j:i<64)(f:nd E top=jd (nd D cO) (i/8) q2)(g:nd E q2=jd (nd D (nd D cO (i/8))) (i%8) bq)(h:∀c,c<8->c≠i/8->nd E (nd D cO c)=nd D (nd D cO c))(k:Nat):
 pt E top k=if k=0 then top else if k=1+i/8 then q2 else if k=9+i then bq else pt D cO k:=by unfold pt;by_cases a:k=0;simp[a];by_cases b:k<9;rw[cZ a,df b,cZ a,f];unfold jd;grind;by_cases e:k<73;rw[cZ a,cZ b,df e,cZ a,cZ cN,f];by_cases d:(k-9)/8=i/8;rw[show jd (nd D cO) (i/8) q2 ((k-9)/8)=q2 from df d,g];unfold jd;grind;rw[show jd (nd D cO) (i/8) q2 ((k-9)/8)=nd D cO ((k-9)/8) from cZ d,h _ cN d,cZ cN,cZ a,cZ b,df e];grind
theorem ahT{s t:Pl}{top bq:cQ}(u:i<64)(b:PW (λa=>s.mp a=1) s t)(v:∀k,k<9->pt s.dv.nw cO k≠cX->s.mp (pt s.dv.nw cO k).1≠1)(r:nd t.dv.nw top=jd (nd s.dv.nw cO) (i/8) q2)(p:nd t.dv.nw q2=jd (nd s.dv.nw (nd s.dv.nw cO (i/8))) (i%8) bq)(w:top≠cX->NF s t top/\(pZ (t.dv.nw top.1)).isSome=cx)(x:q2≠cX->NF s t q2/\(pZ (t.dv.nw q2.1)).isSome=cx)(y:bq≠cX->NF s t bq)(f:top≠cX->q2≠cX->top.1≠q2.1)(g:top≠cX->bq≠cX->top.1≠bq.1)(j:q2≠cX->bq≠cX->q2.1≠bq.1)(mp:∀a,t.mp a=if(top≠cX/\top.1=a)∨(q2≠cX/\q2.1=a)∨(bq≠cX/\bq.1=a) then 2 else s.mp a):
 Ch s t cO top i (lI ⟨nd s.dv.nw cO,nd s.dv.nw (nd s.dv.nw cO (i/8)),nd s.dv.nw (nd s.dv.nw cO (i/8)) (i%8)⟩ cO i):=by
 have e:=ae2 (D:=s.dv.nw) (E:=t.dv.nw) u r p λc hc _=>xq λh=>b.nw _ (by
  have:=v (c+1) cN;unfold pt at this;grind)
 have m:pt t.dv.nw top 0=top:=by rw[e];simp
 have n:pt t.dv.nw top (1+i/8)=q2:=by grind
 have o:pt t.dv.nw top (9+i)=bq:=by grind
 have z:pt s.dv.nw cO 0=cO:=rfl;have A:pt s.dv.nw cO (1+i/8)=nd s.dv.nw cO (i/8):=by unfold pt;grind
 have B:pt s.dv.nw cO (9+i)=nd s.dv.nw (nd s.dv.nw cO (i/8)) (i%8):=by unfold pt;grind
 refine⟨b,λk h=>?_,?_,?_,λa d=>?_,λa d=>?_,λq=>?_⟩;simp_all[Kp];rintro k (rfl|rfl|rfl) h;grind;grind;grind;rintro k l (rfl|rfl|rfl) (rfl|rfl|rfl) h1 h2 h3<;>simp only[m,n,o] at h1 h2 h3<;>grind;rw[mp,cZ];rintro(⟨h,rfl⟩|⟨h,rfl⟩|⟨h,rfl⟩);exact d (w h).1.fr;exact d (x h).1.fr;exact d (y h).fr;rw[mp];split;(next h=>refine .inr ⟨ae,?_⟩;rcases h with h|h|h;exact⟨0,.inl ae,by grind⟩;exact⟨1+i/8,.inr aD,by grind⟩;exact⟨9+i,.inr aw,by grind⟩);omega;unfold lI Kp;grind
theorem Li{c:Nat}(a:lX D)(d:dD p)(hc:c<8):(∀i,i<8->dD (jd (nd D q) c p i))/\∀i,8<=i->jd (nd D q) c p i=cX:=by unfold jd;exact⟨λi _=>by grind[aeZ],λi b=>by rw[cZ cN];grind[aha]⟩
def Put.parts{s:Pl}{b:cV}(h:Put s b r)(d:gy s.cR)(e:∀a,s.mp a=1->4<=a/\a<s.dv.n)(f:s.dv.n<=1024)(c:∀x∈pF b,x<256):dD r.2.1:=by rw[h.q];exact⟨by have:=h.lt;omega,d,DE _ c⟩
def PW.nn{s t:Pl}(h:PW (λ_=>False) s t):t.dv.nw=s.dv.nw:=funext λa=>h.nw a id
theorem Put.fit{s:Pl}{b:cV}(h:Put s b r)(c:sW s.dv.n s.mp):sW s.dv.n r.1.mp:=by intro a;have:=c a;have:=c r.2.1.1;have:=h.fr;rw[h.mp];grind[kC]
theorem SL{s:Pl}(Q:lX s.dv.nw)(V:gy s.cR)(F:s.dv.n<=1024)(F:sW s.dv.n s.mp)(R:∀k,k<9->pt s.dv.nw cO k≠cX->s.mp (pt s.dv.nw cO k).1≠1){i:Int}{b:cV}(I:∀x∈b,x<256):
 PW (λa=>s.mp a=1) s (kZ s cO i b).1/\((kZ s cO i b).2.2.2=0->0<=i/\i<64/\Ch s (kZ s cO i b).1 cO (kZ s cO i b).2.1 i.m (kZ s cO i b).2.2.1/\(kZ s cO i b).1.dv.nw (pt (kZ s cO i b).1.dv.nw (kZ s cO i b).2.1 (9+i.m)).1=pF b):=by
 have r:=IF (A:=λa=>s.mp a=1) s cO i.m;have H:=(IF (A:=λ_=>False) s cO i.m).1.nn;have t:=ZP (s:=s) (q:=cO) (i:=i.m);have J:∀a,s.mp a=1->4<=a/\a<s.dv.n:=λa h=>(F a).2.1 cN;unfold kZ;split;exact bD
 next hi=>
 split
 . exact bD
 next hl=>
 generalize fi s cO i.m=W at*;obtain⟨w,y,c⟩:=W;simp only at r t H|-;split
 . grind
 next h0=>
 split
 . grind
 have F:w.dv.n=s.dv.n:=r.1.wr.n;have F:=r.1.st;have u:=aeX w b;rw[r.2] at u;generalize tu w b=P at*;obtain⟨s2,bq,F⟩:=P;simp only at u|-;have e:=r.1.trans u.1;split
 . grind
 next h2=>
 have g:=u.2.1 cN;have v:s2.mp=kC s.mp bq.1 2:=by have:=g.mp;grind
 obtain rfl:=t cN;have f:=ER s2 (jd (nd s.dv.nw (nd s.dv.nw cO (i.m/8))) (i.m%8) bq);simp only at f|-;generalize fD s2 (jd (nd s.dv.nw (nd s.dv.nw cO (i.m/8))) (i.m%8) bq)=U at*;obtain⟨d,q2,F⟩:=U;simp only at f|-;have n:=e.trans (f.1.mono λa h=>by rw[v] at h;grind[kC]);split
 . grind
 next h3=>
 have F:s2.dv.n=s.dv.n:=e.wr.n;have g2:=Li (q:=nd s.dv.nw cO (i.m/8)) Q (g.parts jv amk cN (G6 cN I).2) (c:=i.m%8) cN;obtain⟨z,j,F,l2,H⟩:=f.2.1 cN g2.1 g2.2;have I:d.mp=kC s2.mp q2.1 2:=j.mp;have m:sW s2.dv.n s2.mp:=by have:=g.fit jv;grind
 have G:=ER d (jd (nd s.dv.nw cO) (i.m/8) q2);generalize fD d (jd (nd s.dv.nw cO) (i.m/8) q2)=T at*;obtain⟨l,top,F⟩:=T;simp only at G|-;have o:=n.trans (G.1.mono λa h=>by rw[I,v] at h;grind[kC]);split
 . grind
 next h4=>
 have F:d.dv.n=s.dv.n:=n.wr.n;have g3:=Li (q:=cO) Q (j.parts (by rw[e.st];exact V) (λa h=>(m a).2.1 cN) cN H) (c:=i.m/8) (by grind[mz]);obtain⟨B,p,F,F,_⟩:=G.2.1 cN g3.1 g3.2;have F:sW d.dv.n d.mp:=by have:=j.fit m;grind
 have V:0<=i/\i<64:=by grind[mz]
 refine⟨o,λ_=>⟨V.1,V.2,?_⟩⟩
 have H:=j.fr;have J:=p.fr;have U:=g.ne amk;have U:=j.ne (λa h=>(m a).2.1 cN);have U:=p.ne (λa h=>(F a).2.1 cN);have w1:s2.dv.nw=jH s.dv.nw bq.1 (pF b):=by have:=g.nw;grind
 have w2:d.dv.nw=jH s2.dv.nw q2.1 z:=by have:=j.nw;grind
 have X:l.dv.nw=jH d.dv.nw top.1 B:=by have:=p.nw;grind
 have U:l.mp=kC d.mp top.1 2:=p.mp;have Z:bq.2.1=w.cR/\bq.2.2=kU (pF b):=⟨gD (·.2.1) g.q,gD (·.2.2) g.q⟩;have d2:q2.2.1=s2.cR/\q2.2.2=kU z:=⟨gD (·.2.1) j.q,by have:=gD (·.2.2) j.q;grind⟩;have M:top.2.1=d.cR/\top.2.2=kU B:=⟨gD (·.2.1) p.q,by have:=gD (·.2.2) p.q;grind⟩;simp only[v,I,kC] at H J;have J:q2.1≠bq.1:=by grind
 have K:top.1≠bq.1:=by grind
 have L:top.1≠q2.1:=by grind
 have C:s.mp q2.1=1:=by grind
 have E:s.mp top.1=1:=by grind
 have Y:l.dv.nw bq.1=pF b:=by rw[X,w2,w1];grind[jH]
 have H:l.dv.nw q2.1=z:=by rw[X,w2,w1];grind[jH]
 have V:l.dv.nw top.1=B:=by simp_all[jH]
 have O:nd l.dv.nw top=jd (nd s.dv.nw cO) (i.m/8) q2:=by grind[ae1]
 have N:nd l.dv.nw q2=jd (nd s.dv.nw (nd s.dv.nw cO (i.m/8))) (i.m%8) bq:=by
  simp_all[nd]
 have F:∀a,l.mp a=if top.1=a∨q2.1=a∨bq.1=a then 2 else s.mp a:=by intro a;rw[U,I,v];grind[kC]
 refine⟨ahT cN o R O N (λ_=>⟨⟨E,?_,?_,?_⟩,?_⟩) (λ_=>⟨⟨C,?_,?_,?_⟩,?_⟩) (λ_=>⟨(by have:=g.fr;grind),?_,?_,?_⟩) (λ_ _=>L) (λ_ _=>K) (λ_ _=>J) (λa=>?_),?_⟩
 . grind
 . exact M.1.trans n.st
 . rw[V,M.2]
 . grind
 . grind
 . exact d2.1.trans e.st
 . rw[H,d2.2]
 . grind
 . grind
 . omega
 . rw[Y,Z.2]
 . grind
 . rw[ae2 (D:=s.dv.nw) cN O N (λc hc _=>xq λh=>o.nw _ (by
    have:=R (c+1) cN;unfold pt at this;grind)),cZ cN,cZ cN,df ae,Y]
theorem QB{l:Nat->cQ}(h:rV l=cx)(g:∀i,8<=i->l i=cX):l=mX:=by funext i;by_cases a:i<8;simp_all[rV,Zc];simp_all[mX]
structure Sav(s t:Pl)(l:Nat->cQ)(q:cQ):Prop where
 pw:PW (λa=>s.mp a=1) s t
 nd:nd t.dv.nw q=l
 new:q≠cX->NF s t q/\(pZ (t.dv.nw q.1)).isSome=cx
 nw:∀a,¬(q≠cX/\q.1=a)->t.dv.nw a=s.dv.nw a
 mp:∀a,t.mp a=if q≠cX/\q.1=a then 2 else s.mp a
 parts:dD q
theorem Sav.map{s t:Pl}{l:Nat->cQ}(h:Sav s t l q)(c:sW s.dv.n s.mp):sW t.dv.n t.mp:=by
 intro a;have:=c a;rw[h.mp,h.pw.wr.n];split;next e=>obtain⟨b,rfl⟩:=e;have:=(h.new b).1.fr;grind
 omega
theorem aiR{s:Pl}:Sav s s mX cX:=⟨.refl _,ID _,by simp,by simp,by simp,dV⟩
theorem SM{s:Pl}(n:gy s.cR)(m:s.dv.n<=1024)(j:sW s.dv.n s.mp){l:Nat->cQ}(d:∀i,i<8->dD (l i))(f:∀i,8<=i->l i=cX)(h:(fD s l).2.2=0):Sav s (fD s l).1 l (fD s l).2.1:=by
 have g:=ER s l;obtain⟨b,p,r,e,x⟩:=g.2.1 h d f;have c:∀a,s.mp a=1->4<=a/\a<s.dv.n:=λa h=>(j a).2.1 cN;have k:=p.ne c;have w:=p.nw;rw[e] at w;have z:(fD s l).1.dv.nw (fD s l).2.1.1=b:=by rw[w];simp[jH]
 refine⟨g.1,by grind[ae1],λ_=>⟨⟨p.fr,by rw[p.mp];simp[kC],gD (·.2.1) p.q,?_⟩,by rw[z,r];rfl⟩,λa o=>?_,λa=>?_,p.parts n c m x⟩;rw[z];have:=gD (·.2.2) p.q;grind;rw[w];grind[jH];rw[p.mp];grind[kC]
def NF.on{s t:Pl}(h:NF s t q)(b:u.dv.nw q.1=t.dv.nw q.1)(a:u.mp q.1=t.mp q.1):NF s u q:=⟨h.fr,a.trans h.tk,h.bi,by rw[b];exact h.su⟩
def NF.back{s t:Pl}(h:NF t u q)(b:t.cR=s.cR)(a:s.mp q.1=1):NF s u q:=⟨a,h.tk,h.bi.trans b,h.su⟩
theorem ae3{s t:Pl}{top:cQ}(j:i<64)(l:∀k,k<9->pt s.dv.nw cO k≠cX->s.mp (pt s.dv.nw cO k).1≠1)(h:Sav s t (jd (nd s.dv.nw (nd s.dv.nw cO (i/8))) (i%8) cX) q2)(g:Sav t u (jd (nd s.dv.nw cO) (i/8) q2) top):
 Ch s u cO top i (lI ⟨nd s.dv.nw cO,nd s.dv.nw (nd s.dv.nw cO (i/8)),nd s.dv.nw (nd s.dv.nw cO (i/8)) (i%8)⟩ cO i):=by
 have d:top≠cX->q2≠cX->top.1≠q2.1:=λa b e=>by have f:=(g.new a).1.fr;rw[h.mp] at f;grind
 have c:∀a,t.mp a=1->s.mp a=1:=λa e=>by rw[h.mp] at e;grind
 have k:q2≠cX->u.dv.nw q2.1=t.dv.nw q2.1:=λb=>g.nw _ λe=>d e.1 b e.2;refine ahT (bq:=cX) j (h.pw.trans (g.pw.mono c)) l g.nd ((xq k).trans h.nd) (λa=>⟨(g.new a).1.back h.pw.st (c _ (g.new a).1.fr),(g.new a).2⟩)
  (λb=>⟨(h.new b).1.on (k b) ?_,by rw[k b];exact(h.new b).2⟩) eQ d eQ eQ λa=>?_
 rw[g.mp,cZ λe=>d e.1 b e.2];rw[g.mp,h.mp];grind
def Ch.quiet{s t:Pl}{top:cQ}(q:PW (λ_=>False) s t)(m:t.mp=s.mp)(h:Ch t u cO top i iP):Ch s u cO top i iP:=by have e:=q.nn;refine⟨(q.mono λa h=>h.elim).trans (m▸h.pw),λk c=>e▸h.fI k c,λk c b=>⟨(h.new k c b).1.back q.st (m▸(h.new k c b).1.fr),(h.new k c b).2⟩,h.inj,λa d=>m▸h.mp2 a (m▸d),λa d=>h.ZQ a (m▸d),λa=>e▸h.iP a⟩
theorem ab4{s:Pl}(x:lX s.dv.nw)(B:gy s.cR)(A:s.dv.n<=1024)(z:sW s.dv.n s.mp)(o:∀k,k<9->pt s.dv.nw cO k≠cX->s.mp (pt s.dv.nw cO k).1≠1)(n:i<64){y:Way}(r:y=⟨nd s.dv.nw cO,nd s.dv.nw (nd s.dv.nw cO (i/8)),nd s.dv.nw (nd s.dv.nw cO (i/8)) (i%8)⟩):
 PW (λa=>s.mp a=1) s (om s y cO i).1/\((om s y cO i).2.2.2=0->Ch s (om s y cO i).1 cO (om s y cO i).2.1 i (om s y cO i).2.2.1/\pt (om s y cO i).1.dv.nw (om s y cO i).2.1 (9+i)=cX):=by
 have j:∀{t u:Pl}{q2 top:cQ},Sav s t (jd (nd s.dv.nw (nd s.dv.nw cO (i/8))) (i%8) cX) q2->Sav t u (jd (nd s.dv.nw cO) (i/8) q2) top->Ch s u cO top i (lI y cO i)/\pt u.dv.nw top (9+i)=cX:=by
  intro t u q2 top h g;rw[r];refine⟨ae3 n o h g,?_⟩;have c:=ae3 n o h g;have d:q2≠cX->u.dv.nw q2.1=t.dv.nw q2.1:=λb=>g.nw _ λe=>by
   have l:=(g.new e.1).1.fr;rw[h.mp] at l;grind
  rw[ae2 (D:=s.dv.nw) n g.nd ((xq d).trans h.nd) (λC hc _=>xq λh=>c.pw.nw _ (by
   have:=o (C+1) cN;unfold pt at this;grind)),cZ cN,cZ cN,df ae]
 have v:y.first=nd s.dv.nw cO:=by rw[r]
 have E:y.mG=nd s.dv.nw (nd s.dv.nw cO (i/8)):=by rw[r]
 have g2:=Li (q:=nd s.dv.nw cO (i/8)) x dV (c:=i%8) cN;have w:=λq2(h:dD q2)=>Li (q:=cO) x h (c:=i/8) cN;have H:∀q2,jd (jd y.first (i/8) cX) (i/8) q2=jd (nd s.dv.nw cO) (i/8) q2:=λq2=>by rw[v];grind[jd]
 unfold om;simp only[E,H];rw[v];by_cases m:rV (jd (nd s.dv.nw (nd s.dv.nw cO (i/8))) (i%8) cX)=cx;(have s2:Sav s s (jd (nd s.dv.nw (nd s.dv.nw cO (i/8))) (i%8) cX) cX:=by grind[QB,aiR]);by_cases l:rV (jd (nd s.dv.nw cO) (i/8) cX)=cx;(have I:Sav s s (jd (nd s.dv.nw cO) (i/8) cX) cX:=by grind[QB,dV]);simp only[l,m,oR,wQ,mq,ne_eq,xy,ud,(by decide:¬(0:Nat)=2)];exact⟨.refl _,λ_=>j s2 I⟩;simp only[l,m,oR,mq,ne_eq,xy,zH,(by decide:¬(1:Nat)=2),Lp];split;exact bD;grind[ER,SM,dV];simp only[m,oR,mq,ne_eq,Lp,(by decide:(0:Nat)<2)];split;exact bD;have p:=ER s (jd (nd s.dv.nw (nd s.dv.nw cO (i/8))) (i%8) cX);split;grind;next h=>have f:=SM B A z g2.1 g2.2 cN;generalize fD s (jd (nd s.dv.nw (nd s.dv.nw cO (i/8))) (i%8) cX)=U at*;have F:=ER U.1 (jd (nd s.dv.nw cO) (i/8) U.2.1);have G:=p.1.trans (F.1.mono λa e=>by rw[f.mp] at e;grind);split;grind;next h=>exact⟨G,λ_=>j f (SM (by rw[f.pw.st];exact B) (by rw[f.pw.wr.n];exact A) (f.map z) (w _ f.parts).1 (w _ f.parts).2 cN)⟩
theorem Lj{s:Pl}(r:lX s.dv.nw)(o:gy s.cR)(v:s.dv.n<=1024)(u:sW s.dv.n s.mp)(t:∀k,k<9->pt s.dv.nw cO k≠cX->s.mp (pt s.dv.nw cO k).1≠1){i:Int}:
 PW (λa=>s.mp a=1) s (iF s cO i).1/\((iF s cO i).2.2.2=0->0<=i/\i<64/\(Ch s (iF s cO i).1 cO (iF s cO i).2.1 i.m (iF s cO i).2.2.1/\pt (iF s cO i).1.dv.nw (iF s cO i).2.1 (9+i.m)=cX∨
  (iF s cO i).1.mp=s.mp/\(iF s cO i).1.dv.nw=s.dv.nw/\(iF s cO i).2.1=cO/\(iF s cO i).2.2.1=[]/\pt s.dv.nw cO (9+i.m)=cX)):=by
 have b:=IF (A:=λa=>s.mp a=1) s cO i.m;have f:=(IF (A:=λ_=>False) s cO i.m).1;have j:=f.nn;have e:=ZP (s:=s) (q:=cO) (i:=i.m);unfold iF;split;exact bD
 next hi=>
 have l:0<=i/\i<64:=by grind[mz]
 generalize fi s cO i.m=W at*;obtain⟨⟨n,w,x,m⟩,y,c⟩:=W;simp only at b e j f|-;obtain rfl:=b.2;have d:=b.1.st;simp only at d;subst d;split;grind
 next h0=>
 obtain rfl:=e cN;have p:pt s.dv.nw cO (9+i.m)=nd s.dv.nw (nd s.dv.nw cO (i.m/8)) (i.m%8):=by unfold pt;grind
 split;grind;have g:=ab4 (s:=⟨n,s.mp,s.cR,m⟩) jv o (by have:=b.1.wr.n;omega) (by have:=b.1.wr.n;grind) (cO:=cO) jv (i:=i.m) cN (y:=⟨nd s.dv.nw cO,nd s.dv.nw (nd s.dv.nw cO (i.m/8)),nd s.dv.nw (nd s.dv.nw cO (i.m/8)) (i.m%8)⟩) jv;exact⟨b.1.trans g.1,λh=>⟨l.1,l.2,.inl ⟨(g.2 h).1.quiet f ae,(g.2 h).2⟩⟩⟩
def ahb(D:Nat->cV)(st:Nat)(q:cQ):List cQ:=if jV q st=cx then q:: (mr (nd D q)).filter (jV · st) else []
theorem ae4(st:Nat)(x:Pl×(List cQ×Int))(q:cQ):PW (λ_=>False) x.1 (jY st x q).1/\(jY st x q).1.mp=x.1.mp/\((jY st x q).2.2=0->x.2.2=0/\(jY st x q).2.1=x.2.1++ahb x.1.dv.nw st q)/\(x.1.dv.di=cy->GN x.1.dv.nw x.1.dv.n q->x.2.2=0->(jY st x q).2.2=0/\(jY st x q).1.dv.di=cy):=by
 have h:=ye (A:=λ_=>False) x.1 q;have g:=Lh (s:=x.1) (q:=q);have k:=λa=>IE (s:=x.1) (q:=q) a;have b:(du x.1 q).1.dv.di=x.1.dv.di:=by grind[du,gr,ik,fC]
 unfold jY ahb;split;next h0=>exact⟨.refl _,ae,λh=>absurd h h0,λ_ _ h=>absurd h h0⟩
 next h0=>
 split;next h1=>exact⟨.refl _,ae,λh=>⟨h,by simp[h1]⟩,λa _ c=>⟨c,a⟩⟩
 grind
theorem ae5(st:Nat):∀(l:List cQ)(x:Pl×(List cQ×Int)),PW (λ_=>False) x.1 (vA st l x).1/\(vA st l x).1.mp=x.1.mp/\((vA st l x).2.2=0->x.2.2=0/\(vA st l x).2.1=x.2.1++l.flatMap (ahb x.1.dv.nw st))/\(x.1.dv.di=cy->(∀q∈l,GN x.1.dv.nw x.1.dv.n q)->x.2.2=0->(vA st l x).2.2=0)
 | [],x=>⟨.refl _,ae,λh=>⟨h,by simp[vA]⟩,λ_ _ h=>h⟩
 |q::l,x=>by
  have h:=ae4 st x q;have g:=ae5 st l (jY st x q);have e:vA st (q::l) x=vA st l (jY st x q):=rfl;rw[e];refine⟨h.1.trans g.1,g.2.1.trans h.2.1,λa=>?_,λa b c=>?_⟩
  . have f:=g.2.2.1 a;have d:=h.2.2.1 f.1;exact⟨d.1,by rw[f.2,d.2,h.1.nn,BF,wP]⟩
  . have d:=h.2.2.2 a (b q nC) c;refine g.2.2.2 d.2 (λj i=>?_) d.1;rw[h.1.nn,h.1.wr.n];grind
def ae6(D:Nat->cV)(r:cQ):Prop:=∀k,0<k->k<73->pt D r k≠cX->(pt D r k).2.1<=(pt D r (par k)).2.1
theorem uB(q:cQ)(st:Nat):jV q st=cx↔q≠cX/\st<q.2.1:=by grind[jV]
theorem Bv(s:Pl)(cO:cQ)(st:Nat):PW (λ_=>False) s (gY s cO st).1/\(gY s cO st).1.mp=s.mp/\((gY s cO st).2.2=0->ae6 s.dv.nw cO->∀q,q∈(gY s cO st).2.1↔∃k,k<73/\pt s.dv.nw cO k=q/\q≠cX/\st<q.2.1)/\(s.dv.di=cy->(∀k,k<9->GN s.dv.nw s.dv.n (pt s.dv.nw cO k))->(gY s cO st).2.2=0):=by
 have h:=ye (A:=λ_=>False) s cO;have y:(du s cO).1.dv.di=s.dv.di:=by grind[du,gr,ik,fC]
 have g:=ae5 st (mr (du s cO).2.1) ((du s cO).1,([cO],0));have D:∀q,st<q.2.1->q≠cX->ae6 s.dv.nw cO->(∃k,k<73/\pt s.dv.nw cO k=q)->st<cO.2.1:=by rintro q o f m ⟨k,r,rfl⟩;rcases vK k with rfl|n;exact o;have a:=m k n r f;by_cases l:k<9;rw[show par k=0 from df l] at a;exact pM o a;(have v:par k=(k-9)/8+1:=cZ l;have i:pt s.dv.nw cO (par k)≠cX:=λe=>by rw[aeY _ _ n r,e,ID] at f;exact f ae);have b:=m (par k) cN cN i;rw[show par (par k)=0 from df cN] at b;have:pt s.dv.nw cO 0=cO:=rfl;grind
 unfold gY;split;next o=>refine⟨.refl _,ae,λ_ m q=>⟨by simp,?_⟩,λ_ _=>ae⟩;grind[uB,cX]
 next o=>
 have w:=(uB cO st).1 jv;split;next f=>exact⟨h.1,h.2,by simp[f],λa b=>by have:=IE a (b 0 cN);change(du s cO).2=_ at this;grind⟩
 next f=>have x:=Lh (s:=s) (q:=cO) cN;refine⟨h.1.trans g.1,g.2.1.trans h.2,λe m q=>?_,λa b=>?_⟩;rw[(g.2.2.1 e).2,x,h.1.nn];simp only[singleton_append,iZ,Dh,mr,gI,yo,ahb];constructor;rintro(rfl|⟨_,⟨c,hc,rfl⟩,d⟩);exact⟨0,cN,ae,w.1,w.2⟩;(have t:pt s.dv.nw cO (c+1)=nd s.dv.nw cO c:=by unfold pt;grind);split at d;(next i=>have z:=(uB _ _).1 i;rcases iZ.1 d with rfl|d;grind;obtain⟨d,p⟩:=AE.1 d;obtain⟨j,u,rfl⟩:=gI.1 d;have u:=yo.1 u;have p:=(uB _ _).1 p;refine⟨9+8*c+j,cN,?_,p.1,p.2⟩;unfold pt;grind);cases d;rintro⟨k,r,rfl,d,C⟩;by_cases n:k=0;subst n;exact .inl ae;right;by_cases B:k<9;(have t:pt s.dv.nw cO k=nd s.dv.nw cO (k-1):=by simp_all[pt]);refine⟨_,⟨k-1,cN,ae⟩,?_⟩;simp_all[uB];(have t:pt s.dv.nw cO k=nd s.dv.nw (nd s.dv.nw cO ((k-9)/8)) ((k-9)%8):=by simp_all[pt,cZ]);(refine⟨_,⟨(k-9)/8,cN,ae⟩,?_⟩;have v:pt s.dv.nw cO (par k)=nd s.dv.nw cO ((k-9)/8):=by unfold par pt;grind);(have i:nd s.dv.nw cO ((k-9)/8)≠cX:=λe=>by rw[t,e,ID] at d;exact d ae);have b:=m k cN r d;rw[v] at b;rw[df ((uB _ _).2 ⟨i,cN⟩)];grind[uB];refine g.2.2.2 (y.trans a) (λq d=>?_) ae;rw[x] at d;obtain⟨c,hc,rfl⟩:=gI.1 d;have hc:=yo.1 hc;have:=b (c+1) cN;rw[show pt s.dv.nw cO (c+1)=nd s.dv.nw cO c by unfold pt;grind] at this;show GN (du s cO).1.dv.nw (du s cO).1.dv.n _;rw[h.1.nn,h.1.wr.n];exact this
structure wL(base:Nat)(l:List cQ)(m m':Nat->Nat):Prop where
 two:∀a,m' a=2↔m a=2/\∀q∈l,q≠cX->q.1≠a
 one:∀a,m' a=1->m a=1∨(m a=2/\∃q∈l,q.1=a/\base<q.2.1)
 aiS:∀a,m a=1->m' a=1
 zero:∀a,m' a=0↔m a=0
 le:(∀a,m a<=3)->∀a,m' a<=3
theorem drop_one(s:Pl)(q:cQ)(h:q.1<1024):wL s.base [q] s.mp (qd s q).1.mp/\(qd s q).1.dv=s.dv/\(qd s q).1.base=s.base/\(qd s q).1.cR=s.cR:=by
 have e:∀v,sQ s.mp q.1 2 v=λa=>if a=q.1/\s.mp a=2 then v else s.mp a:=λv=>by
  funext a;have c:isB s.mp (q.1:Int) 2=decide (s.mp q.1=2):=by grind[isB]
  unfold sQ kC;rw[c];by_cases e:s.mp q.1=2<;>simp[e]<;>grind
 unfold qd;rw[e,e];split;next h0=>exact⟨⟨by grind,λ_ h=>.inl h,λ_ h=>h,λ_=>.rfl,id⟩,ae,ae,ae⟩
 split;exact anp;exact anp
theorem wL.trans{base:Nat}{l k:List cQ}{a b c:Nat->Nat}(h:wL base l a b)(g:wL base k b c):wL base (l++k) a c:=by refine⟨λx=>?_,λx e=>?_,λx e=>g.aiS x (h.aiS x e),λx=>(g.zero x).trans (h.zero x),λe=>g.le (h.le e)⟩;rw[g.two,h.two];simp_all[or_imp,forall_and,and_assoc];rcases g.one x e with e|⟨e,q,hq,h1⟩;rcases h.one x e with e|⟨e,q,hq,h1⟩<;>grind;exact .inr ⟨((h.two x).1 e).1,q,Dj _ hq,h1⟩
def rk:∀(l:List cQ)(s:Pl),(∀q∈l,q.1<1024)->wL s.base l s.mp (dM s l).mp/\(dM s l).dv=s.dv/\(dM s l).base=s.base/\(dM s l).cR=s.cR
 | [],s,_=>⟨⟨by simp[dM],λ_ h=>.inl h,λ_ h=>h,λ_=>.rfl,λh=>h⟩,ae,ae,ae⟩
 |q::l,s,h=>by
  have a:=drop_one s q (h q nC);have b:=rk l (qd s q).1 λp c=>h p (lu _ c);rw[a.2.2.1] at b;exact⟨a.1.trans b.1,b.2.1.trans a.2.1,b.2.2.1,b.2.2.2.trans a.2.2.2⟩
def Dc(top:Nat)(s:dw):Nat:=if s.dz=cx then s.cR else top
def Up(M:dw->Prop)(s:dw)(b:Nat):Prop:=∃p,M p/\p.id=s.dB/\b<=p.cR
structure TI(f:cQ->Nat->cQ)(top:Nat)(M:dw->Prop):Prop where
 id:∀{s t},M s->M t->s.id=t.id->s=t
 pos:∀{s},M s->s.id≠0
 st:∀{s},M s->s.dz=cx->s.cR<top
 bt:∀{s k},M s->f s.cO k≠cX->1<=(f s.cO k).2.1/\(f s.cO k).2.1<=Dc top s
 xr:∀{s t k l},M s->M t->f s.cO k≠cX->f t.cO l≠cX->(f s.cO k).1=(f t.cO l).1->k=l/\f s.cO k=f t.cO l
 GB:∀{s t k},M s->M t->s≠t->f s.cO k=f t.cO k->f s.cO k≠cX->Up M s (f s.cO k).2.1∨Up M t (f s.cO k).2.1
 pr:∀{s},M s->s.dB≠0->∃p,M p/\p.id=s.dB/\p.dz=cx/\p.cR<Dc top s
 iP:∀{s p k},M s->M p->p.id=s.dB->f s.cO k≠cX->(f s.cO k).2.1<=p.cR->f p.cO k=f s.cO k
 di:∀{s p q},M s->M p->p.id=s.dB->(q∈s.di↔q≠cX/\∃k,f p.cO k=q/\f s.cO k≠q)
 Ad:∀{s},M s->s.dB=0->s.di=[]
def Re(f:cQ->Nat->cQ)(M:dw->Prop)(a:Nat):Prop:=∃s k,M s/\f s.cO k≠cX/\(f s.cO k).1=a
section
def TI.up(T:TI f top M)(c:M s)(g:f s.cO k≠cX)(h:Up M s (f s.cO k).2.1):∃p,M p/\p.id=s.dB/\p.dz=cx/\p.cR<Dc top s/\f p.cO k=f s.cO k:=by obtain⟨p,a,e,l⟩:=h;obtain⟨m,b,d,i,j⟩:=T.pr c (by rw[<-e];exact T.pos a);obtain rfl:=T.id a b (e.trans d.symm);exact⟨p,a,e,i,j,T.iP c a e g l⟩
theorem TI.child(T:TI f top M)(b:M s)(a:f s.cO k≠cX)(m:¬Up M s (f s.cO k).2.1):∀(n:Nat)(t:dw),Dc top t<=n->M t->f t.cO k=f s.cO k->t≠s->∃c,M c/\c.dB=s.id/\f c.cO k=f s.cO k
 |0,t,hn,ht,e,hne=>by
  obtain h|h:=T.GB b ht (pU hne) e.symm a
  . grind
  . rw[<-e] at h a;obtain⟨p,_,_,_,g,_⟩:=T.up ht a h;omega
 |n+1,t,hn,ht,e,hne=>by
  obtain h|h:=T.GB b ht (pU hne) e.symm a
  . grind
  . rw[<-e] at h;obtain⟨p,l,o,d,g,i⟩:=T.up ht jv h;by_cases j:p=s
    . grind
    . refine T.child b a m n p ?_ l (i.trans e) j;have:Dc top p=p.cR:=df d;omega
def TI.alone(T:TI f top M)(a:M s)(q:s.dz=cy)(d:f s.cO k≠cX)(o:¬Up M s (f s.cO k).2.1)(i:M t){l:Nat}(j:f t.cO l≠cX)(e:(f t.cO l).1=(f s.cO k).1):t=s:=by obtain⟨rfl,e⟩:=T.xr i a j d e;apply Dk;intro b;obtain⟨c,hc,g,_⟩:=T.child a d o _ t (eN _) i e b;obtain⟨p,n,m,h,_⟩:=T.pr hc (by rw[g];exact T.pos a);rw[T.id n a (m.trans g),q] at h;cases h
end
section
def TI.akg(T:TI f top M)(h:s.dB=0)(b:Nat):¬Up M s b:=λ⟨p,hp,e,_⟩=>T.pos hp (e.trans h)
theorem TI.add(T:TI f top M){s:dw}(z:s.dz=cy)(r:s.id≠0)(v:∀t,M t->t.id≠s.id/\t.dB≠s.id)(w:s.dB≠s.id)(o:s.di=[])
 (h:(s.dB=0/\∀k,f s.cO k=cX)∨∃p,M p/\p.dz=cx/\p.id=s.dB/\s.cO=p.cO):TI f top (λt=>M t∨t=s):=by
 have up:∀t b,Up M t b->Up (λt=>M t∨t=s) t b:=λt b ⟨p,a,h⟩=>⟨p,.inl a,h⟩;have j:∀k,f s.cO k≠cX->∃p,M p/\p.dz=cx/\p.id=s.dB/\s.cO=p.cO/\(f s.cO k).2.1<=p.cR:=λk n=>by rcases h with⟨_,h⟩|⟨p,a,c,d,g⟩;grind;have:=T.bt a (k:=k) jv;unfold Dc at this;grind
 refine⟨?_,?_,?_,?_,?_,?_,?_,?_,?_,?_⟩;rintro x y (hx|rfl) (hy|rfl) e;exact T.id hx hy e;grind;grind;rfl;rintro x (hx|rfl);exact T.pos hx;exact r;rintro x (hx|rfl) hs;exact T.st hx hs;grind;rintro x k (hx|rfl) n;exact T.bt hx n;obtain⟨p,a,c,d,g,m⟩:=j k n;have:=T.bt a (k:=k) jv;rw[<-g] at this;have:=T.st a c;grind[Dc];rintro x y k l (hx|rfl) (hy|rfl) c d e;exact T.xr hx hy c d e;obtain⟨p,a,_,_,g,_⟩:=j l d;rw[g] at d e|-;exact T.xr hx a c d e;obtain⟨p,a,_,_,g,_⟩:=j k c;rw[g] at c e|-;exact T.xr a hy c d e;obtain⟨p,a,_,_,g,_⟩:=j k c;rw[g] at c d e|-;exact T.xr a a c d e;rintro x y k (hx|rfl) (hy|rfl) hne e c;exact(T.GB hx hy hne e c).imp (up _ _) (up _ _);grind[Up];grind[Up];grind;rintro x (hx|rfl) c;obtain⟨p,a,h⟩:=T.pr hx c;grind;rcases h with⟨h,_⟩|⟨p,a,d,g,m⟩;omega;refine⟨p,.inl a,g,d,?_⟩;have:=T.st a d;grind[Dc];rintro x p k (hx|rfl) (a|rfl) e c d;exact T.iP hx a e c d;grind;obtain⟨u,i,_,g,m,_⟩:=j k c;rw[T.id a i (e.trans g.symm),m];rfl;rintro x p q (hx|rfl) (a|rfl) e;exact T.di hx a e;grind;rw[o];rcases h with⟨h,_⟩|⟨u,i,d,g,m⟩;exact absurd (e.trans h) (T.pos a);obtain rfl:=T.id a i (e.trans g.symm);rw[m];simp;grind;rintro x (hx|rfl) c;exact T.Ad hx c;exact o
def AsP(g:dw->Nat)(M:dw->Prop):dw->Prop:=λt=>∃s,M s/\t= {s with cY:=g s}
def TI.aiT(T:TI f top M)(g:dw->Nat):TI f top (AsP g M):=by have up:∀s b,Up M s b->Up (AsP g M) {s with cY:=g s} b:=λs b ⟨p,j,h⟩=>⟨_,⟨p,j,ae⟩,h⟩;refine⟨?_,?_,?_,?_,?_,?_,?_,?_,?_,?_⟩;rintro _ _ ⟨x,a,rfl⟩ ⟨y,c,rfl⟩ e;rw[T.id a c e];rintro _ ⟨x,a,rfl⟩;exact(T.pos a:);rintro _ ⟨x,a,rfl⟩;exact(T.st a:);rintro _ k ⟨x,a,rfl⟩;exact(T.bt a:);rintro _ _ k l ⟨x,a,rfl⟩ ⟨y,c,rfl⟩;exact(T.xr a c:);rintro _ _ k ⟨x,a,rfl⟩ ⟨y,c,rfl⟩ i e d;exact(T.GB a c (λe=>i (by rw[e])) e d).imp (up _ _) (up _ _);rintro _ ⟨x,a,rfl⟩ d;obtain⟨p,j,h⟩:=T.pr a d;exact⟨_,⟨p,j,ae⟩,h⟩;rintro _ _ k ⟨x,a,rfl⟩ ⟨y,c,rfl⟩;exact(T.iP a c:);rintro _ _ k ⟨x,a,rfl⟩ ⟨y,c,rfl⟩;exact(T.di a c:);rintro _ ⟨x,a,rfl⟩;exact(T.Ad a:)
def ph(s:dw)(M:dw->Prop):dw->Prop:=λt=>M t/\t≠s
theorem TI.jQ(T:TI f top M)(k:M s)(hc:∀t,M t->t.dB≠s.id):TI f top (ph s M):=by have up:∀t b,M t->Up M t b->Up (ph s M) t b:=λt b ht ⟨p,i,e,h⟩=>⟨p,⟨i,λj=>hc t ht (by rw[<-e,j])⟩,e,h⟩;refine⟨λa c=>T.id a.1 c.1,λa=>T.pos a.1,λa=>T.st a.1,λa=>T.bt a.1,λa c=>T.xr a.1 c.1,λa c g e d=>(T.GB a.1 c.1 g e d).imp (up _ _ a.1) (up _ _ c.1),?_,λa c=>T.iP a.1 c.1,λa c=>T.di a.1 c.1,λa=>T.Ad a.1⟩;intro x a d;obtain⟨p,i,e,h⟩:=T.pr a.1 d;grind[ph]
end
section
def qp(v v':dw)(M:dw->Prop):dw->Prop:=λt=>ph v M t∨t=v'
structure ae7(f g:cQ->Nat->cQ)(top:Nat)(M:dw->Prop)(v v':dw):Prop where
 ir:v.dz=cy
 eq:v'.id=v.id/\v'.dB=v.dB/\v'.dz=v.dz
 same:∀t,M t->t≠v->∀k,g t.cO k=f t.cO k
 new:∀k,g v'.cO k=cX∨g v'.cO k=f v.cO k∨(∃p,M p/\p.id=v.dB/\g v'.cO k=f p.cO k)∨((g v'.cO k).2.1=top/\¬Re f M (g v'.cO k).1/\∀l,g v'.cO l≠cX->(g v'.cO k).1=(g v'.cO l).1->k=l)
 di:∀p q,M p->p.id=v.dB->(q∈v'.di↔q≠cX/\∃k,f p.cO k=q/\g v'.cO k≠q)
 Ad:v.dB=0->v'.di=[]
theorem TI.pK(T:TI f top M){p:dw}(h:M v)(b:M p)(e:p.id=v.dB):p.dz=cx/\p.cR<Dc top v/\p≠v:=by obtain⟨j,a,c,d,g⟩:=T.pr h (by rw[<-e];exact T.pos b);obtain rfl:=T.id b a (e.trans c.symm);refine⟨d,g,λi=>?_⟩;simp_all[Dc]
theorem TI.Yp(T:TI f top M)(u:1<=top)(j:M v)(C:ae7 f g top M v v'):TI g top (qp v v' M):=by
 have s:Dc top v'=top:=by unfold Dc;rw[C.eq.2.2,C.ir];rfl
 have up:∀t b,M t->Up M t b->Up (qp v v' M) t b:=λt b h ⟨p,a,e,m⟩=>by by_cases n:p=v;have:=(T.pK h a e).1;rw[n,C.ir] at this;cases this;exact⟨p,.inl ⟨a,n⟩,e,m⟩
 have r:∀b,Up M v b->Up (qp v v' M) v' b:=λb h=>by obtain⟨p,a,e,m⟩:=up v b j h;exact⟨p,a,by rw[C.eq.2.1];exact e,m⟩
 have w:∀p k,M p->p.id=v.dB->f p.cO k≠cX->(f p.cO k).2.1<=p.cR/\p.cR<top:=λp k a e h=>by have c:=(T.pK j a e).1;have:=T.bt a h;unfold Dc at this;rw[df c] at this;exact⟨this.2,T.st a c⟩
 have ne:∀t,M t->t.id=v.id->t=v:=λt h e=>T.id h j e;refine⟨?_,?_,?_,?_,?_,?_,?_,?_,?_,?_⟩;rintro x y (hx|rfl) (d|rfl) e;exact T.id hx.1 d.1 e;exact absurd (ne x hx.1 (e.trans C.eq.1)) hx.2;exact absurd (ne y d.1 (e.symm.trans C.eq.1)) d.2;rfl;rintro x (hx|rfl);exact T.pos hx.1;rw[C.eq.1];exact T.pos j;rintro x (hx|rfl) hs;exact T.st hx.1 hs;rw[C.eq.2.2,C.ir] at hs;cases hs;rintro x k (hx|rfl) hk;rw[C.same x hx.1 hx.2] at hk|-;exact T.bt hx.1 hk;rw[s];rcases C.new k with h|h|⟨p,a,e,h⟩|h;grind;rw[h] at hk|-;have:=T.bt j hk;unfold Dc at this;rw[C.ir] at this;exact this;rw[h] at hk|-;have:=T.bt a hk;grind;omega;(have o:∀y k l,ph v M y->g v'.cO k≠cX->g y.cO l≠cX->(g v'.cO k).1=(g y.cO l).1->k=l/\g v'.cO k=g y.cO l:=by intro y k l d c i e;rw[C.same y d.1 d.2] at i e|-;rcases C.new k with h|h|⟨p,a,_,h⟩|h;grind;rw[h] at c e|-;exact T.xr j d.1 c i e;rw[h] at c e|-;exact T.xr a d.1 c i e;exact absurd ⟨y,l,d.1,i,e.symm⟩ h.2.1);rintro x y k l (hx|rfl) (d|rfl) c i e;rw[C.same x hx.1 hx.2] at c e|-;rw[C.same y d.1 d.2] at i e|-;exact T.xr hx.1 d.1 c i e;grind;grind;rcases C.new k with h|h|⟨p,a,_,h⟩|h;grind;rcases C.new l with m|m|⟨p',hp',_,m⟩|m;grind;rw[h] at c e|-;rw[m] at i e|-;exact T.xr j j c i e;rw[h] at c e|-;rw[m] at i e|-;exact T.xr j hp' c i e;grind;rcases C.new l with m|m|⟨p',hp',_,m⟩|m;grind;rw[h] at c e|-;rw[m] at i e|-;exact T.xr a j c i e;rw[h] at c e|-;rw[m] at i e|-;exact T.xr a hp' c i e;grind;grind;(have o:∀y k,ph v M y->g v'.cO k=g y.cO k->g v'.cO k≠cX->Up (qp v v' M) v' (g v'.cO k).2.1∨Up (qp v v' M) y (g v'.cO k).2.1:=by intro y k d e c;rw[C.same y d.1 d.2] at e;rcases C.new k with h|h|⟨p,a,n,h⟩|h;grind;rw[h] at e c|-;exact(T.GB j d.1 (pU d.2) e c).imp (r _) (up _ _ d.1);grind[Up];exact absurd ⟨y,k,d.1,by grind,by rw[<-e]⟩ h.2.1);rintro x y k (hx|rfl) (d|rfl) hne e c;rw[C.same x hx.1 hx.2] at c e|-;rw[C.same y d.1 d.2] at e;exact(T.GB hx.1 d.1 hne e c).imp (up _ _ hx.1) (up _ _ d.1);grind;grind;grind;rintro x (hx|rfl) c;obtain⟨p,a,e,h⟩:=T.pr hx.1 c;exact⟨p,.inl ⟨a,λn=>by rw[n,C.ir] at h;cases h.1⟩,e,h⟩;rw[C.eq.2.1] at c|-;obtain⟨p,a,e,h⟩:=T.pr j c;exact⟨p,.inl ⟨a,λn=>by rw[n,C.ir] at h;cases h.1⟩,e,h.1,by rw[s];exact T.st a h.1⟩;rintro x p k (hx|rfl) (a|rfl) e c i;rw[C.same x hx.1 hx.2] at c i|-;rw[C.same p a.1 a.2];exact T.iP hx.1 a.1 e c i;have:=(T.pK hx.1 j (by rw[<-C.eq.1];exact e)).1;rw[C.ir] at this;cases this;rw[C.eq.2.1] at e;rw[C.same p a.1 a.2];rcases C.new k with h|h|⟨p',hp',n,h⟩|h;grind;rw[h] at c i|-;exact T.iP j a.1 e c i;rw[h,T.id a.1 hp' (e.trans n.symm)];have:=T.pK j a.1 e;have:=T.st a.1 this.1;omega;rfl;rintro x p q (hx|rfl) (a|rfl) e;rw[T.di hx.1 a.1 e];simp only[C.same x hx.1 hx.2,C.same p a.1 a.2];have:=(T.pK hx.1 j (by rw[<-C.eq.1];exact e)).1;rw[C.ir] at this;cases this;rw[C.eq.2.1] at e;rw[C.di p q a.1 e];simp only[C.same p a.1 a.2];rw[C.eq.2.1,C.eq.1] at e;exact absurd ae (T.pK j j e).2.2;rintro x (hx|rfl) c;exact T.Ad hx.1 c;exact C.Ad (by rw[<-C.eq.2.1];exact c)
def ahc(f g:cQ->Nat->cQ)(M:dw->Prop)(v:dw)(r:cQ)(q:cQ):Prop:=q≠cX/\∃k,f v.cO k=q/\g r k≠q/\¬Up M v q.2.1
def TI.QC(T:TI f top M)(c:M v)(C:ae7 f g top M v v')(h:ahc f g M v v'.cO q):¬Re g (qp v v' M) q.1:=by obtain⟨d,k,rfl,m,j⟩:=h;rintro⟨t,l,i|rfl,a,b⟩;rw[C.same t i.1 i.2] at a b;exact i.2 (T.alone c C.ir d j i.1 a b);rcases C.new l with h|h|⟨p,hp,e,h⟩|h;exact a h;rw[h] at a b;obtain⟨rfl,_⟩:=T.xr c c a d b;exact m h;rw[h] at a b;exact(T.pK c hp e).2.2 (T.alone c C.ir d j hp a b);exact h.2.1 ⟨v,k,c,d,b.symm⟩
theorem TI.QD(T:TI f top M)(s:M v)(C:ae7 f g top M v v')(h:Re f M a)(o:∀q,ahc f g M v v'.cO q->q.1≠a):Re g (qp v v' M) a:=by obtain⟨t,k,c,d,rfl⟩:=h;have i:∀t,M t->t≠v->f t.cO k≠cX->Re g (qp v v' M) (f t.cO k).1:=λt c b d=>⟨t,k,.inl ⟨c,b⟩,by rw[C.same t c b];exact d,by rw[C.same t c b]⟩;by_cases e:t=v;subst e;by_cases j:g v'.cO k=f t.cO k;exact⟨v',k,.inr ae,by grind,by rw[j]⟩;by_cases l:Up M t (f t.cO k).2.1;obtain⟨p,r,e,m,_,n⟩:=T.up c d l;rw[<-n];exact i p r (λe=>by rw[e,C.ir] at m;cases m) jv;exact absurd ae (o _ ⟨d,k,ae,j,l⟩);grind
end
section
theorem aiU(h:s.dz=cx->s.cR<top):Dc top s<=Dc (top+1) s:=by grind[Dc]
theorem TI.later(T:TI f top M):TI f (top+1) M:=
 ⟨T.id,T.pos,λh e=>lt_succ_of_lt (T.st h e),λh e=>⟨(T.bt h e).1,iE (T.bt h e).2 (aiU (T.st h))⟩,T.xr,T.GB,
  λh e=>by obtain⟨p,a,b,c,d⟩:=T.pr h e;grind[Dc],T.iP,T.di,T.Ad⟩
theorem TI.dz(T:TI f top M)(L:1<=top)(a:M v)(ir:v.dz=cy)(F:sn.id≠0)(j:∀t,M t->t.id≠sn.id/\t.dB≠sn.id)(e:sn.dz=cx/\sn.cR=top/\sn.dB=v.dB/\sn.cO=v.cO/\sn.di=v.di)(D:v'.id=v.id/\v'.dz=cy/\v'.dB=sn.id/\v'.cO=v.cO/\v'.di=[]):
 TI f (top+1) (λt=>qp v v' M t∨t=sn):=by
 obtain⟨B,H,s,m,A⟩:=e;obtain⟨n,I,u,w,C⟩:=D;have r:=T.later;have J:∀k,f v.cO k≠cX->(f v.cO k).2.1<=top:=λk h=>by have:=(T.bt a h).2;grind[Dc]
 have up:∀t b,M t->Up M t b->∃p,ph v M p/\p.id=t.dB/\b<=p.cR:=λt b h ⟨p,g,e,E⟩=>by by_cases K:p=v;have:=(T.pK h g e).1;grind;grind[ph]
 have i:∀t b,M t->Up M t b->Up (λt=>qp v v' M t∨t=sn) t b:=λt b h E=>by grind[Up,qp]
 have G:∀k,f v.cO k≠cX->Up (λt=>qp v v' M t∨t=sn) v' (f v.cO k).2.1:=λk h=>⟨sn,.inr ae,u.symm,by grind⟩;have o:∀b,Up M v b->Up (λt=>qp v v' M t∨t=sn) sn b:=λb h=>by grind[Up]
 have z:∀t,M t->t.dB≠v.id:=λt h e=>by have:=(T.pK h a e.symm).1;grind
 refine⟨?_,?_,?_,?_,?_,?_,?_,?_,?_,?_⟩;rintro x y ((hx|rfl)|rfl) ((hy|rfl)|rfl) e;exact T.id hx.1 hy.1 e;exact absurd (T.id hx.1 a (e.trans n)) hx.2;exact absurd e (j x hx.1).1;exact absurd (T.id hy.1 a (e.symm.trans n)) hy.2;rfl;grind;exact absurd e.symm (j y hy.1).1;grind;rfl;rintro x ((hx|rfl)|rfl);exact T.pos hx.1;rw[n];exact T.pos a;exact F;rintro x ((hx|rfl)|rfl) h;exact r.st hx.1 h;grind;omega;rintro x k ((hx|rfl)|rfl) h;exact r.bt hx.1 h;rw[w] at h|-;have:=r.bt a h;grind[Dc];rw[m] at h|-;refine⟨(T.bt a h).1,?_⟩;simp_all[Dc];rintro x y k l ((hx|rfl)|rfl) ((hy|rfl)|rfl)<;>(try simp only[m,w])<;>first|exact T.xr hx.1 hy.1|exact T.xr hx.1 a|exact T.xr a hy.1|exact T.xr a a
 (rintro x y k ((hx|rfl)|rfl) ((hy|rfl)|rfl) hne e h<;>try simp only[m,w] at e h|-);exact(T.GB hx.1 hy.1 hne e h).imp (i _ _ hx.1) (i _ _ hy.1);grind;exact(T.GB hx.1 a hx.2 e h).imp (i _ _ hx.1) (o _);grind;grind;grind;exact(T.GB a hy.1 (pU hy.2) e h).imp (o _) (i _ _ hy.1);grind;grind;rintro x ((hx|rfl)|rfl) h;obtain⟨p,g,c,d⟩:=r.pr hx.1 h;exact⟨p,.inl (.inl ⟨g,λe=>z x hx.1 (by rw[<-c,e])⟩),c,d⟩;exact⟨sn,.inr ae,u.symm,B,by simp_all[Dc]⟩;rw[s] at h;obtain⟨p,g,c,d,d2⟩:=T.pr a h;refine⟨p,.inl (.inl ⟨g,λe=>z v a (by rw[<-c,e])⟩),c.trans s.symm,d,?_⟩;simp_all[Dc];(rintro x p k ((hx|rfl)|rfl) ((g|rfl)|rfl) e h h2<;>try simp only[s,m,n,u,w] at e h h2|-);exact T.iP hx.1 g.1 e h h2;exact absurd e.symm (z x hx.1);exact absurd e.symm (j x hx.1).2;exact absurd e (j p g.1).1;exact T.iP a g.1 e h h2;(rintro x p q ((hx|rfl)|rfl) ((g|rfl)|rfl) e<;>try simp only[s,n,u] at e|-);exact T.di hx.1 g.1 e;exact absurd e.symm (z x hx.1);exact absurd e.symm (j x hx.1).2;exact absurd e (j p g.1).1;grind;grind;rw[A,m];exact T.di a g.1 e;grind;grind;rintro x ((hx|rfl)|rfl) h;exact T.Ad hx.1 h;rw[C];rw[A];exact T.Ad a cN
theorem ahd(g:M v)(e:sn.cO=v.cO)(d:v'.cO=v.cO)(a:Nat):Re f (λt=>qp v v' M t∨t=sn) a↔Re f M a:=by constructor;rintro⟨t,k,(b|rfl)|rfl,h⟩;exact⟨t,k,b.1,h⟩;grind[Re];grind[Re];rintro⟨t,k,b,h⟩;by_cases c:t=v;subst c;exact⟨sn,k,.inr ae,by grind⟩;exact⟨t,k,.inl (.inl ⟨b,c⟩),h⟩
theorem TI.cut(T:TI f top M)(m:M s)(B:s.dz=cx)(g:M j)(o:j.dB=s.id)(hc:∀t,M t->t.dB=s.id->t=j)(e:j'.id=j.id/\j'.dz=j.dz/\j'.cR=j.cR/\j'.dB=s.dB/\j'.cO=j.cO)(K:∀q,q∈j'.di↔(q∈j.di/\Up M s q.2.1)∨q∈s.di):
 TI f top (qp j j' (ph s M)):=by
 obtain⟨D,Q,J,E,A⟩:=e;have Z:=T.pK g m o.symm;have L:Dc top j'=Dc top j:=by grind[Dc]
 have N:∀p,M p->p≠s->∃w,qp j j' (ph s M) w/\w.id=p.id/\w.dz=p.dz/\w.cR=p.cR/\w.cO=p.cO:=λp a h=>by by_cases F:p=j;subst F;exact⟨j',.inr ae,D,Q,J,A⟩;exact⟨p,.inl ⟨⟨a,h⟩,F⟩,ae,ae,ae,ae⟩
 have up:∀t b,M t->t≠j->Up M t b->Up (qp j j' (ph s M)) t b:=λt b h hne ⟨p,a,e,h'⟩=>by obtain⟨w,u,c,_,d,_⟩:=N p a λF=>hne (hc t h (by rw[<-e,F]));grind[Up]
 have I:∀b,Up M s b->Up (qp j j' (ph s M)) j' b:=λb ⟨p,a,e,h'⟩=>by grind[Up]
 have O:∀p k,M p->p.id=s.dB->f p.cO k≠cX->(f p.cO k).2.1<=p.cR/\p.cR<s.cR:=λp k a e h=>by have n:=T.pK m a e;have:=T.bt a h;simp_all[Dc]
 refine⟨?_,?_,?_,?_,?_,?_,?_,?_,?_,?_⟩;rintro x y (hx|rfl) (i|rfl) e;exact T.id hx.1.1 i.1.1 e;exact absurd (T.id hx.1.1 g (e.trans D)) hx.2;exact absurd (T.id i.1.1 g (e.symm.trans D)) i.2;rfl;rintro x (hx|rfl);exact T.pos hx.1.1;rw[D];exact T.pos g;rintro x (hx|rfl) h;exact T.st hx.1.1 h;rw[J];exact T.st g jv;rintro x k (hx|rfl) h;exact T.bt hx.1.1 h;rw[A] at h|-;rw[L];exact T.bt g h;rintro x y k l (hx|rfl) (i|rfl)<;>(try simp only[A])<;>first|exact T.xr hx.1.1 i.1.1|exact T.xr hx.1.1 g|exact T.xr g i.1.1|exact T.xr g g
 (have v:∀y k,ph j (ph s M) y->f j.cO k=f y.cO k->f j.cO k≠cX->Up (qp j j' (ph s M)) j' (f j.cO k).2.1∨Up (qp j j' (ph s M)) y (f j.cO k).2.1:=by intro y k i e h;rcases T.GB g i.1.1 (pU i.2) e h with n|n;(have G:f s.cO k=f j.cO k:=by obtain⟨p,a,c,_,_,d⟩:=T.up g h n;rw[<-d,T.id a m (c.trans o)]);rw[<-G] at e h|-;exact(T.GB m i.1.1 (pU i.1.2) e h).imp (I _) (up _ _ i.1.1 i.2);grind[ph]);rintro x y k (hx|rfl) (i|rfl) hne e h;exact(T.GB hx.1.1 i.1.1 hne e h).imp (up _ _ hx.1.1 hx.2) (up _ _ i.1.1 i.2);grind;grind;grind;rintro x (hx|rfl) h;obtain⟨p,a,c,d,d2⟩:=T.pr hx.1.1 h;grind[qp,ph];rw[E] at h|-;obtain⟨p,a,c,d,d2⟩:=T.pr m h;obtain⟨w,u,R,U,V,_⟩:=N p a (T.pK m a c).2.2;refine⟨w,u,R.trans c,U.trans d,?_⟩;rw[V,L];unfold Dc at d2 Z;rw[df B] at d2;grind[Dc];(have v:∀p k,M p->p.id=s.dB->f j.cO k≠cX->(f j.cO k).2.1<=p.cR->f p.cO k=f j.cO k:=by intro p k a e h z;have C:=T.pK m a e;unfold Dc at C;rw[df B] at C;have G:=T.iP g m o.symm h cN;rw[<-G] at h z|-;exact T.iP m a e h z);rintro x p k (hx|rfl) (a|rfl) e h z;exact T.iP hx.1.1 a.1.1 e h z;rw[A];exact T.iP hx.1.1 g cN h cN;rw[E] at e;rw[A] at h z|-;exact v p k a.1.1 e h z;rfl;(have v:∀p,M p->p.id=s.dB->∀q,q∈j'.di↔q≠cX/\∃k,f p.cO k=q/\f j.cO k≠q:=by intro p a e q;rw[K,T.di g m o.symm,T.di m a e];have C:=T.pK m a e;unfold Dc at C;rw[df B] at C;constructor;rintro(⟨⟨r,k,rfl,n⟩,z⟩|⟨r,k,rfl,n⟩);obtain⟨w,u,X,_,_,d⟩:=T.up m r z;obtain rfl:=T.id a u (e.trans X.symm);grind;refine⟨r,k,ae,λH=>n ?_⟩;have:=O p k a e r;rw[<-H] at r this|-;exact T.iP g m o.symm r cN;rintro⟨r,k,rfl,n⟩;by_cases H:f s.cO k=f p.cO k;exact .inl ⟨⟨r,k,H,n⟩,p,a,e,(O p k a e r).1⟩;grind);rintro x p q (hx|rfl) (a|rfl) e;exact T.di hx.1.1 a.1.1 e;rw[A];exact T.di hx.1.1 g cN;rw[E] at e;rw[A];exact v p a.1.1 e q;grind;rintro x (hx|rfl) h;exact T.Ad hx.1.1 h;apply List.eq_nil_iff_forall_not_mem.2;intro q Y;rw[E] at h;rcases(K q).1 Y with⟨_,n⟩|n;exact T.akg h _ n;rw[T.Ad m h] at n;cases n
theorem TI.ae8(T:TI f top M)(i:M s)(v:M j)(g:j.dB=s.id)(hc:∀t,M t->t.dB=s.id->t=j)(e:j'.cO=j.cO)(w:q∈j.di)(x:¬Up M s q.2.1):¬Re f (qp j j' (ph s M)) q.1:=by
 obtain⟨n,k,rfl,y⟩:=(T.di v i g.symm).1 w;have m:∀t l,M t->t≠s->f t.cO l≠cX->(f t.cO l).1=(f s.cO k).1->False:=by intro t l a h b d;obtain⟨rfl,o⟩:=T.xr a i b n d;obtain⟨c,p,r,u⟩:=T.child i n x _ t (eN _) a o h;grind
 rintro⟨t,l,a|rfl,b,d⟩;exact m t l a.1.1 a.1.2 b d;grind
theorem TI.ae9(T:TI f top M)(w:M s)(v:M j)(i:j.dB=s.id)(e:j'.cO=j.cO)(h:Re f M a)(y:∀q,q∈j.di->¬Up M s q.2.1->q.1≠a):Re f (qp j j' (ph s M)) a:=by
 obtain⟨t,k,g,c,rfl⟩:=h;have m:∀t,M t->t≠s->f t.cO k≠cX->Re f (qp j j' (ph s M)) (f t.cO k).1:=λt g l c=>by by_cases b:t=j;subst b;exact⟨j',k,.inr ae,by grind,by rw[e]⟩;exact⟨t,k,.inl ⟨⟨g,l⟩,b⟩,c,ae⟩
 by_cases b:t=s;subst b;by_cases r:f j.cO k=f t.cO k;grind[Re,qp];have x:=(T.di v w i.symm).2 ⟨c,k,ae,r⟩;by_cases u:Up M t (f t.cO k).2.1;obtain⟨p,n,o,_,_,d⟩:=T.up g c u;rw[<-d];exact m p n (T.pK g n o).2.2 jv;grind;grind
end
def Da(l:List dw):Prop:=l.Pairwise λa b=>a.id<b.id
theorem kf{l:List dw}{k:Nat}(h:k<l.n):dH l k∈l/\l[k]?=cu (dH l k):=by grind[dH]
theorem kN{l:List dw}{id k:Nat}(h:fj l id=cu k):k<l.n/\dH l k∈l/\(dH l k).id=id:=by grind[fj,findIdx?_eq_some_iff_getElem,kf]
theorem NG{id:Nat}(h:fj l id=cw)(a:s∈l):s.id≠id:=by grind[fj]
theorem Da.inj(h:Da l)(a:s∈l)(b:t∈l)(e:s.id=t.id):s=t:=by obtain⟨i,c,rfl⟩:=zF a;obtain⟨j,d,rfl⟩:=zF b;have h:=Lw.1 h;grind
theorem Da.at(h:Da l){j:Nat}(c:i<l.n)(d:j<l.n)(e:dH l i=dH l j):i=j:=by
 have a:dH l i=l[i]:=by grind[dH]
 have b:dH l j=l[j]:=by grind[dH]
 rw[a,b] at e;have h:=Lw.1 h;grind
def Da.xP(h:Da l)(a:s∈l):∃k,fj l s.id=cu k/\dH l k=s:=by cases e:fj l s.id with|none=>exact absurd ae (NG e a)|some k=>have:=kN e;exact⟨k,ae,h.inj this.2.1 a this.2.2⟩
theorem Da.set(h:Da l)(c:k<l.n)(s:dw):s∈l.set k y↔qp (dH l k) y (·∈l) s:=by
 unfold qp ph;constructor;intro b;obtain⟨i,a,rfl⟩:=zF b;rw[getElem_set];split;grind;next hne=>(have a:i<l.n:=by grind);refine .inl ⟨mP _,λe=>hne ?_⟩;refine(h.at a c ?_).symm;grind[dH]
 rintro(⟨b,hne⟩|rfl);obtain⟨i,a,rfl⟩:=zF b;have:i≠k:=λe=>hne (by grind[dH]);exact vJ.2 ⟨i,by grind,by grind⟩;grind[mem_iff_getElem]
theorem Da.erase(h:Da l)(c:k<l.n)(s:dw):s∈l.eraseIdx k↔ph (dH l k) (·∈l) s:=by unfold ph;rw[mem_eraseIdx_iff_getElem];constructor;rintro⟨i,b,a,rfl⟩;refine⟨mP _,λe=>a ?_⟩;refine h.at b c ?_;grind[dH];rintro⟨d,a⟩;obtain⟨i,b,rfl⟩:=zF d;exact⟨i,b,λe=>a (by grind[dH]),ae⟩
theorem Da.ES(h:Da l)(e:y.id=(dH l k).id):Da (l.set k y):=by by_cases f:k<l.n;(have a:dH l k=l[k]:=by grind[dH]);have h:=Lw.1 h;refine Lw.2 λi j c d b=>?_;grind;grind[set_eq_of_length_le]
def Da.QE(h:Da l)(k:Nat):Da (l.eraseIdx k):=Pairwise.sublist (eraseIdx_sublist l k) h
theorem Da.snoc(h:Da l)(a:∀t∈l,t.id<s.id):Da (l++[s]):=by grind[Da]
theorem Da.map(h:Da l){g:dw->dw}(a:∀s,(g s).id=s.id):Da (l.map g):=by grind[Da]
theorem afa(h:Da l)(r:∀s∈l,s.id≠0)(q:s∈l){b:Nat}(t:1<=b)(a:s.dB≠0->∃p∈l,p.id=s.dB):b<=gj l s.id↔Up (·∈l) s b:=by obtain⟨k,d,f⟩:=h.xP q;unfold gj Up;rw[d];simp only[f];split;grind;next e=>obtain⟨p,a,g⟩:=a e;obtain⟨j,i,m⟩:=h.xP a;rw[<-g,i];simp only[m];constructor;grind;rintro⟨u,c,n,o⟩;rwa [h.inj c a n] at o
structure Db(next:Nat)(M:dw->Prop):Prop where
 id:∀{s t},M s->M t->s.id=t.id->s=t
 lt:∀{s},M s->1<=s.id/\s.id<next
 own:∀{s},M s->s.dz=cx->∃v,M v/\v.dz=cy/\v.id=s.cY
 nxt:∀{s},M s->s.dz=cx->∃c,M c/\c.dB=s.id/\c.cY=s.cY
 one:∀{s c d},M s->s.dz=cx->M c->M d->c.dB=s.id->d.dB=s.id->c.cY=s.cY->d.cY=s.cY->c=d
 ir:∀{s},M s->s.dz=cy->s.cY=s.id
 name:∀{s t},M s->M t->dG s=dG t->s=t
 pr:∀{s},M s->s.dB≠0->∃p,M p/\p.id=s.dB/\p.dz=cx/\(s.dz=cx->p.cR<s.cR)
def ab5(s t:dw):Prop:=t.id=s.id/\t.dz=s.dz/\t.cY=s.cY/\t.dB=s.dB/\t.name=s.name/\t.cR=s.cR
theorem ab5.called(h:ab5 s t):dG t=dG s:=by obtain⟨_,a,b,_,c,_⟩:=h;grind[dG]
section
variable {n:Nat}{N:dw->Prop}
def Db.alf(F:Db n M)(h:∀t,N t->∃s,M s/\ab5 s t)(g:∀s,M s->∃t,N t/\ab5 s t)(x:∀s t,N s->N t->s.id=t.id->s=t):Db n N:=by refine⟨fun {s t}=>x s t,?_,?_,?_,?_,?_,?_,?_⟩;intro t i;obtain⟨s,j,e⟩:=h t i;rw[e.1];exact F.lt j;intro t i f;obtain⟨s,j,e⟩:=h t i;obtain⟨v,A,a,b⟩:=F.own j amp;obtain⟨v',l,k⟩:=g v A;exact⟨v',l,k.2.1.trans a,k.1.trans (b.trans e.2.2.1.symm)⟩;intro t i f;obtain⟨s,j,e⟩:=h t i;obtain⟨v,A,a,b⟩:=F.nxt j amp;obtain⟨v',l,k⟩:=g v A;exact⟨v',l,k.2.2.2.1.trans (a.trans e.1.symm),k.2.2.1.trans (b.trans e.2.2.1.symm)⟩;intro t c d i f hc B m D E G;obtain⟨s,j,e⟩:=h t i;obtain⟨K,r,o⟩:=h c hc;obtain⟨d',w,q⟩:=h d B;have:=F.one j amp r w (o.2.2.2.1.symm.trans (m.trans e.1)) (q.2.2.2.1.symm.trans (D.trans e.1)) (o.2.2.1.symm.trans (E.trans e.2.2.1)) (q.2.2.1.symm.trans (G.trans e.2.2.1));exact x c d hc B (o.1.trans (this▸q.1.symm));intro t i f;obtain⟨s,j,e⟩:=h t i;rw[e.2.2.1,e.1];exact F.ir j amp;intro t u i C m;obtain⟨s,j,e⟩:=h t i;obtain⟨s',z,k⟩:=h u C;rw[e.called,k.called] at m;exact x t u i C (e.1.trans (F.name j z m▸k.1.symm));intro t i H;obtain⟨s,j,e⟩:=h t i;obtain⟨p,I,a,b,c⟩:=F.pr j (by rw[<-e.2.2.2.1];exact H);obtain⟨J,y,k⟩:=g p I;exact⟨J,y,k.1.trans (a.trans e.2.2.2.1.symm),k.2.1.trans b,λh=>by rw[k.2.2.2.2.2,e.2.2.2.2.2];exact c (by rw[<-e.2.1];exact h)⟩
theorem Db.sub(F:Db n M)(b:M v)(e:ab5 v v'):Db n (qp v v' M):=by refine F.alf ?_ ?_ ?_;rintro t (ht|rfl);exact⟨t,ht.1,ae,ae,ae,ae,ae,ae⟩;grind;intro s a;by_cases h:s=v;subst h;exact⟨v',.inr ae,e⟩;exact⟨s,.inl ⟨a,h⟩,ae,ae,ae,ae,ae,ae⟩;rintro s t (a|rfl) (ht|rfl) e1;exact F.id a.1 ht.1 e1;exact absurd (F.id a.1 b (e1.trans e.1)) a.2;exact absurd (F.id ht.1 b (e1.symm.trans e.1)) ht.2;rfl
theorem Db.add(F:Db n M){s:dw}(f:s.dz=cy)(j:s.id=n)(i:1<=n)(ho:s.cY=n)(k:∀t,M t->dG t≠dG s)(g:s.dB≠0->∃p,M p/\p.id=s.dB/\p.dz=cx):Db (n+1) (λt=>M t∨t=s):=by
 have m:∀{t},M t->t.dB≠n:=fun {t} ht e=>by obtain⟨p,g,a,_⟩:=F.pr ht cN;have:=(F.lt g).2;omega
 have l:∀{t},M t->t.dz=cx->t.cY≠n:=fun {t} ht hs e=>by obtain⟨v,f,_,b⟩:=F.own ht hs;have:=(F.lt f).2;omega
 refine⟨?_,?_,?_,?_,?_,?_,?_,?_⟩;rintro x y (hx|rfl) (hy|rfl) e;exact F.id hx hy e;have:=(F.lt hx).2;omega;have:=(F.lt hy).2;omega;rfl;rintro x (hx|rfl);have:=F.lt hx;omega;omega;rintro x (hx|rfl) h;obtain⟨v,f,h⟩:=F.own hx h;grind;grind;rintro x (hx|rfl) h;obtain⟨v,f,h⟩:=F.nxt hx h;grind;grind
 . rintro x c d (hx|rfl) h (hc|rfl) (hd|rfl) e1 e2 e3 e4;exact F.one hx h hc hd e1 e2 e3 e4;grind;grind;rfl;all_goals grind
 rintro x (hx|rfl) h;exact F.ir hx h;omega;rintro x y (hx|rfl) (hy|rfl) e;exact F.name hx hy e;grind;grind;rfl;rintro x (hx|rfl) h;obtain⟨p,g,h⟩:=F.pr hx h;grind;grind
theorem Db.dz(F:Db n M)(f:M v)(ir:v.dz=cy)(B:∀p,M p->p.id=v.dB->p.cR<sn.cR)(G:1<=n)(e:sn.dz=cx/\sn.dB=v.dB/\sn.id=n/\sn.cY=v.id)(A:v'.id=v.id/\v'.dz=cy/\v'.dB=n/\v'.cY=v.cY/\v'.name=v.name)(q:∀t,M t->dG t≠dG sn):
 Db (n+1) (λt=>qp v v' M t∨t=sn):=by
 obtain⟨C,j,k,w⟩:=e;obtain⟨i,l,z,D,E⟩:=A;have r:∀{t},M t->t.dB≠n:=fun {t} ht e=>by obtain⟨p,g,a,_⟩:=F.pr ht cN;have:=(F.lt g).2;omega
 have H:v.cY=v.id:=F.ir f ir;have o:dG v'=dG v:=by grind[dG]
 have s:∀{t},M t->t.dB≠v.id:=fun {t} ht e=>by obtain⟨p,g,a,b,_⟩:=F.pr ht (by have:=F.lt f;omega);rw[F.id g f (a.trans e),ir] at b;cases b
 refine⟨?_,?_,?_,?_,?_,?_,?_,?_⟩;rintro x y ((hx|rfl)|rfl) ((hy|rfl)|rfl) e;exact F.id hx.1 hy.1 e;exact absurd (F.id hx.1 f (e.trans i)) hx.2;have:=(F.lt hx.1).2;omega;exact absurd (F.id hy.1 f (e.symm.trans i)) hy.2;rfl;have:=(F.lt f).2;omega;have:=(F.lt hy.1).2;omega;have:=(F.lt f).2;omega;rfl;rintro x ((hx|rfl)|rfl);have:=F.lt hx.1;omega;have:=F.lt f;omega;omega;rintro x ((hx|rfl)|rfl) h;obtain⟨u,m,c,d⟩:=F.own hx.1 h;by_cases e:u=v;subst e;exact⟨v',.inl aw,l,i.trans d⟩;exact⟨u,.inl (.inl ⟨m,e⟩),c,d⟩;grind;exact⟨v',.inl aw,l,i.trans w.symm⟩;rintro x ((hx|rfl)|rfl) h;obtain⟨u,m,c,d⟩:=F.nxt hx.1 h;by_cases e:u=v;grind;exact⟨u,.inl (.inl ⟨m,e⟩),c,d⟩;grind;exact⟨v',.inl aw,z.trans k.symm,cN⟩;rintro x c d ((hx|rfl)|rfl) h ((hc|rfl)|rfl) ((hd|rfl)|rfl) e1 e2 e3 e4<;>first|rfl|exact F.one hx.1 h hc.1 hd.1 e1 e2 e3 e4|(rw[l] at h;cases h)|exact absurd (e2.trans k) (r hd.1)|exact absurd (e1.trans k) (r hc.1)|(have:=(F.lt hx.1).2;omega)|exact absurd (F.one hx.1 h hc.1 f e1 (j.symm.trans e2) e3 cN) hc.2|exact absurd (F.one hx.1 h hd.1 f e2 (j.symm.trans e1) e4 cN) hd.2|grind
 rintro x ((hx|rfl)|rfl) h;exact F.ir hx.1 h;omega;grind;rintro x y ((hx|rfl)|rfl) ((hy|rfl)|rfl) e;exact F.name hx.1 hy.1 e;rw[o] at e;exact absurd (F.name hx.1 f e) hx.2;exact absurd e (q x hx.1);rw[o] at e;exact absurd (F.name f hy.1 e).symm hy.2;rfl;grind;exact absurd e.symm (q y hy.1);grind;rfl;rintro x ((hx|rfl)|rfl) h;obtain⟨p,g,c⟩:=F.pr hx.1 h;exact⟨p,.inl (.inl ⟨g,λe=>s hx.1 jv⟩),c⟩;grind;rw[j] at h|-;obtain⟨p,g,c,d,_⟩:=F.pr f h;exact⟨p,.inl (.inl ⟨g,λe=>s f (by rw[<-c,e])⟩),c,d,λ_=>B p g c⟩
end
section
variable {n:Nat}
def Db.ne0(F:Db n M)(h:M s):s.id≠0:=by have:=F.lt h;omega
theorem Db.xQ(F:Db n M){p:dw}(d:M s)(b:M p)(e:p.id=s.dB):p.dz=cx/\(s.dz=cx->p.cR<s.cR)/\p≠s:=by obtain⟨h,a,c,f,g⟩:=F.pr d (by rw[<-e];exact F.ne0 b);obtain rfl:=F.id b a (e.trans c.symm);grind
theorem Db.last(F:Db n M)(d:M v)(b:∀s,M s->s.dz=cx->s.cR<top):∀(k:Nat)(s:dw),top-s.cR<=k->M s->s.dz=cx->s.cY=v.id->∃p,M p/\p.dz=cx/\p.cY=v.id/\p.id=v.dB
 |0,s,hk,hs,hn,_=>by grind
 |k+1,s,hk,hs,hn,ho=>by
  obtain⟨c,hc,e,a⟩:=F.nxt hs hn;cases h:c.dz with
  |true=>
   have:=(F.xQ hc hs e.symm).2.1 h;have:=b c hc h;exact F.last d b k c cN hc h (a.trans ho)
  |false=>
   have:=F.ir hc h;obtain rfl:=F.id hc d (this.symm.trans (a.trans ho))
   grind
theorem Db.jQ(F:Db n M)(ir:v.dz=cy)(k:M v)(h:∀t,M t->t.dz=cx->t.cY≠v.id):Db n (ph v M):=by refine⟨λd f=>F.id d.1 f.1,λd=>F.lt d.1,fun {x} d e=>?_,fun {x} d e=>?_,λd e hc j=>F.one d.1 e hc.1 j.1,λd=>F.ir d.1,λd f=>F.name d.1 f.1,fun {x} d e=>?_⟩;obtain⟨u,g,a,b⟩:=F.own d.1 e;grind[ph];obtain⟨u,g,a,b⟩:=F.nxt d.1 e;exact⟨u,⟨g,λi=>h x d.1 e (by rw[<-b,i];exact F.ir k ir)⟩,a,b⟩;obtain⟨p,l,a,b,c⟩:=F.pr d.1 e;grind[ph]
theorem Db.cut(F:Db n M)(D:M s)(L:s.dz=cx)(l:M j)(B:j.dB=s.id)(A:j.cY=s.cY)(hc:∀t,M t->t.dB=s.id->t=j)(e:j'.id=j.id/\j'.dz=j.dz/\j'.cR=j.cR/\j'.dB=s.dB/\j'.cY=j.cY/\j'.name=j.name):Db n (qp j j' (ph s M)):=by
 obtain⟨q,H,K,E,z,N⟩:=e;have R:=F.xQ l D B.symm;have J:dG j'=dG j:=by grind[dG]
 have ns:∀{p},M p->p.id=s.dB->p≠j:=fun {p} C e g=>by subst g;have h:=F.xQ D C e;grind
 refine⟨?_,?_,?_,?_,?_,?_,?_,?_⟩;rintro x y (f|rfl) (hy|rfl) e;exact F.id f.1.1 hy.1.1 e;exact absurd (F.id f.1.1 l (e.trans q)) f.2;exact absurd (F.id hy.1.1 l (e.symm.trans q)) hy.2;rfl;rintro x (f|rfl);exact F.lt f.1.1;rw[q];exact F.lt l;(have o:∀x,M x->x.dz=cx->∃v,qp j j' (ph s M) v/\v.dz=cy/\v.id=x.cY:=λx f h=>by obtain⟨u,O,a,b⟩:=F.own f h;by_cases g:u=j;subst g;exact⟨j',.inr ae,H.trans a,q.trans b⟩;grind[qp,ph]);rintro x (f|rfl) h;grind[ph];grind;rintro x (f|rfl) h;obtain⟨c,i,a,b⟩:=F.nxt f.1.1 h;by_cases g:c=s;subst g;exact⟨j',.inr ae,E.trans a,z.trans (A.trans b)⟩;by_cases k:c=j;subst k;exact absurd (F.id f.1.1 D (a.symm.trans B)) f.1.2;grind[qp,ph];rw[H] at h;obtain⟨c,i,a,b⟩:=F.nxt l h;refine⟨c,.inl ⟨⟨i,λg=>?_⟩,λg=>?_⟩,a.trans q.symm,b.trans z.symm⟩;grind;subst g;exact(F.xQ l l a.symm).2.2 ae;have o:∀x d,M x->x.dz=cx->ph j (ph s M) d->s.dB=x.id->d.dB=x.id->j.cY=x.cY->d.cY=x.cY->False:=λx d f h m g k r w=>m.1.2 (F.one f h m.1.1 D k g w (A.symm.trans r));have Q:∀{d},ph j (ph s M) d->d.dB≠s.id:=fun {d} m e=>m.2 (hc d m.1.1 e);rintro x c d (f|rfl) h (i|rfl) (m|rfl) g k r w;exact F.one f.1.1 h i.1.1 m.1.1 g k r w;exact(o x c f.1.1 h i (E.symm.trans k) g (z.symm.trans w) r).elim;exact(o x d f.1.1 h m (E.symm.trans g) k (z.symm.trans r) w).elim;rfl;rw[q] at g k;rw[z] at r w;exact F.one l jv i.1.1 m.1.1 g k r w;grind;grind;rfl;rintro x (f|rfl) h;exact F.ir f.1.1 h;rw[z,q];exact F.ir l jv;rintro x y (f|rfl) (hy|rfl) e;exact F.name f.1.1 hy.1.1 e;rw[J] at e;exact absurd (F.name f.1.1 l e) f.2;rw[J] at e;exact absurd (F.name l hy.1.1 e).symm hy.2;rfl;(have o:∀x p,M x->x≠j->M p->p.id=x.dB->∃G,qp j j' (ph s M) G/\G.id=x.dB/\G.dz=p.dz/\G.cR=p.cR:=λx p f I C e=>by by_cases g:p=j;subst g;exact⟨j',.inr ae,q.trans e,H,K⟩;exact⟨p,.inl ⟨⟨C,λk=>I (hc x f (by rw[<-e,k]))⟩,g⟩,e,ae,ae⟩);rintro x (f|rfl) h;obtain⟨p,C,a,b,c⟩:=F.pr f.1.1 h;grind[ph];rw[E] at h|-;obtain⟨p,C,a,b,c⟩:=F.pr D h;grind
end
inductive wu(M:dw->Prop)(o:Nat):dw->List dw->Nat->Prop
 |nil (s:dw):wu M o s [] s.dB
 |cons {s t:dw} {l:List dw} {q:Nat} (h:M t) (ho:t.cY=o) (e:t.id=s.dB) (w:wu M o t l q):wu M o s (t::l) q
theorem afb{l:List dw}(h:Da l)(id:Nat):∀(f:Nat)(c:cV)(s:dw),∃ss q,z6 l id f c s.dB=(c++ss.map dw.id,q)/\wu (·∈l) id s ss q/\(ss.n=f∨(ss.n<f/\∀t∈l,t.id=q->q≠0->t.cY≠id))
 |0,c,s=>⟨[],s.dB,by simp[z6],.nil s,.inl ae⟩
 |f+1,c,s=>by
  unfold z6;split
  . next e=>exact⟨[],s.dB,by simp,.nil s,.inr ⟨by simp,λ_ _ _ j=>absurd e j⟩⟩
  . cases d:fj l s.dB with
    |none=>exact⟨[],s.dB,by simp,.nil s,.inr ⟨by simp,λt b e=>absurd e (NG d b)⟩⟩
    |some i=>
     have a:=kN d;simp only;split
     . next e=>
       obtain⟨ss,q,m,k,n⟩:=afb h id f (c++[s.dB]) (dH l i);refine⟨dH l i::ss,q,by grind,.cons a.2.1 e a.2.2 k,?_⟩
       grind
     . next e=>exact⟨[],s.dB,by simp,.nil s,.inr ⟨by simp,λt b g _=>by rw[h.inj b a.2.1 (g.trans a.2.2.symm)];exact e⟩⟩
section
variable {n:Nat}{q:Nat}
theorem wu.mem(w:wu M o s ss q):∀t∈ss,M t/\t.cY=o:=by induction w<;>grind
theorem wu.next(w:wu M o s ss q):∀t∈s::ss,t.dB=q∨∃r∈ss,r.id=t.dB:=by induction w<;>grind
theorem wu.back(w:wu M o s ss q):∀t∈ss,∃r∈s::ss,r.dB=t.id:=by induction w<;>grind
theorem wu.suffix(w:wu M o s ss q){a b:List dw}(e:ss=a++t::b):wu M o t b q:=by induction w generalizing a with|nil=>simp at e|@cons s r l q' h ho e' t' ih=>cases a<;>grind
theorem wu.end(w:wu M o s ss q):∃t∈s::ss,t.dB=q/\∀r∈s::ss,r=t∨∃x∈ss,x.id=r.dB:=by induction w<;>grind
theorem wu.VF(F:Db n M)(w:wu M o s ss q)(b:M s):(∀t∈ss,t.dz=cx/\(s.dz=cx->t.cR<s.cR))/\∀x,M x->x.id=q->∀t∈s::ss,t.dz=cx->x.cR<t.cR:=by induction w with|nil s=>exact⟨by simp,λx d e t c h=>by rw[fM.1 c] at h|-;exact(F.xQ b d e).2.1 h⟩|@cons s r l q' h ho e t' ih=>have a:=F.xQ b h e;grind
theorem wu.all(F:Db n M)(w:wu M v.id v ss q)(j:M v)(i:∀t,M t->t.id=q->q≠0->t.cY≠v.id)(o:∀s,M s->s.dz=cx->s.cR<top):∀(k:Nat)(t:dw),top-t.cR<=k->M t->t.cY=v.id->t∈v::ss:=by
 have JA:∀t,M t->t.dz=cy->t.cY=v.id->t∈v::ss:=λt a f d=>by rw[F.id a j ((F.ir a f).symm.trans d)];grind
 intro k;induction k with|zero=>grind|succ k ih=>intro t m a d;cases h:t.dz with|false=>grind|true=>(obtain⟨c,hc,b,l⟩:=F.nxt a h;have e:c∈v::ss:=by cases g:c.dz with|false=>grind|true=>have:=(F.xQ hc a b.symm).2.1 g;grind);rcases w.next c e with h5|⟨r,hr,h5⟩;exact absurd d (i t a (b.symm.trans h5) (by rw[<-h5,b];exact F.ne0 a));rw[F.id a (w.mem r hr).1 (b.symm.trans h5.symm)];grind
theorem Db.ahe(F:Db n M)(q:∀s,M s->s.dz=cx->s.cR<top){u x:dw}(z:M v)(ir:v.dz=cy)(hu:M u)(a1:u.dz=cy)(L:M x)(xs:x.dz=cx){s1 r1 i:List dw}{O q2:Nat}(w1:wu M v.id v s1 O)(Y:∀t,M t->t.id=O->O≠0->t.cY≠v.id)(K:x.id=O)(w2:wu M u.id u (r1++x::i) q2)(e2:∀t,M t->t.id=q2->q2≠0->t.cY≠u.id)(hn:∀m∈x::i,∀t,M t->t.dz=cx->t.cY=v.id->t.name≠m.name)(g:dw->Nat)(w:∀t∈x::i,g t=v.id)(g2:∀t,t∉x::i->g t=t.cY):Db n (AsP g M):=by
 have V:x.cY=u.id:=(w2.mem x eQ).2;have Q:=w2.suffix ae;have I:∀t∈x::i,M t/\t.cY=u.id/\t.dz=cx:=λt h=>by have a:=w2.mem t (Dj _ h);exact⟨a.1,a.2,((w2.VF F hu).1 t (Dj _ h)).1⟩
 have P2:∀t∈x::i,∀p,M p->p.id=t.dB->p.cY=u.id->p∈i:=λt h p G e ho=>by rcases Q.next t h with j|⟨r,hr,j⟩;exact absurd ho (e2 p G (e.trans j) (by rw[<-j,<-e];exact F.ne0 G));rw[F.id G (Q.mem r hr).1 (e.trans j.symm)];exact hr
 have S2:∀t∈i,t.cR<x.cR:=λt h=>((Q.VF F L).1 t h).2 xs;obtain⟨w0,T,H,U⟩:=w1.end;have A:∀t,M t->t.cY=v.id->t∈v::s1:=λt h=>w1.all F z Y q _ t (eN _) h;have nm:∀t,M t->t.cY=v.id->t∉x::i:=λt _ h j=>(λe=>Y x L K jv (V.trans e)) ((I t j).2.1.symm.trans h);have N:M w0/\w0.cY=v.id:=by rcases iZ.1 T with rfl|h;exact⟨z,F.ir z ir⟩;exact w1.mem w0 h
 refine⟨?_,?_,?_,?_,?_,?_,?_,?_⟩;rintro _ _ ⟨s,f,rfl⟩ ⟨t,q,rfl⟩ e;rw[F.id f q e];rintro _ ⟨s,f,rfl⟩;exact(F.lt f:);rintro _ ⟨s,f,rfl⟩ h;by_cases l:s∈x::i;exact⟨_,⟨v,z,ae⟩,ir,(w s l).symm⟩;obtain⟨y,X,a,b⟩:=F.own f h;exact⟨_,⟨y,X,ae⟩,a,b.trans (g2 s l).symm⟩;rintro _ ⟨s,f,rfl⟩ h;by_cases l:s∈x::i;rcases iZ.1 l with rfl|hm2;exact⟨_,⟨w0,N.1,ae⟩,H.trans K.symm,(g2 w0 (nm w0 N.1 N.2)).trans (N.2.trans (w s l).symm)⟩;obtain⟨c,hc,e⟩:=Q.back s hm2;exact⟨_,⟨c,(I c hc).1,ae⟩,e,(w c hc).trans (w s l).symm⟩;obtain⟨c,hc,a,b⟩:=F.nxt f h;exact⟨_,⟨c,hc,ae⟩,a,(g2 c (λj=>l (lu _ (P2 c j s f a.symm (b.symm.trans (I c j).2.1))))).trans (b.trans (g2 s l).symm)⟩;rintro _ _ _ ⟨s,f,rfl⟩ h ⟨c,hc,rfl⟩ ⟨d,J,rfl⟩ B C D E;have h:s.dz=cx:=h;have B:c.dB=s.id:=B;have C:d.dB=s.id:=C;have D:g c=g s:=D;have E:g d=g s:=E;by_cases l:s∈x::i;(rw[w s l] at D E;have k:∀c,M c->c.dB=s.id->g c=v.id->(s=x/\c=w0)∨(s∈i/\c.cY=s.cY):=λc hc a b=>by by_cases o:c∈x::i;grind;rw[g2 c o] at b;rcases U c (A c hc b) with j|⟨y,X,j⟩;exact .inl ⟨F.id f L (a.symm.trans ((j▸H).trans K.symm)),j⟩;have:=w1.mem y X;rw[F.id this.1 f (j.trans a)] at this;grind);(have:c=d:=by rcases k c hc B D with⟨a,b⟩|⟨a,b⟩<;>rcases k d J C E with⟨a',R⟩|⟨a',R⟩;rw[b,R];grind;grind;exact F.one f h hc J B C b R);rw[this];(rw[g2 s l] at D E;have k:∀c,M c->c.dB=s.id->g c=s.cY->c.cY=s.cY:=λc hc a b=>by by_cases o:c∈x::i;rw[w c o] at b;have j:=(λt h f ho=>(w1.VF F z).2 x L K t (A t h ho) f) s f h b.symm;have Z:=(F.xQ hc f a.symm).2.1 (I c o).2.2;grind;grind);have:c=d:=F.one f h hc J B C (k c hc B D) (k d J C E);rw[this];rintro _ ⟨s,f,rfl⟩ h;exact(g2 s ((λt h j=>by grind) s h)).trans (F.ir f h)
 . (rintro _ _ ⟨s,f,rfl⟩ ⟨t,q,rfl⟩ e;have v0:=F.ne0 z;have k:∀s t,M s->M t->s∈x::i->t∉x::i->dG {s with cY:=g s}=dG {t with cY:=g t}->False:=λs t f q j Z e=>by unfold dG at e;grind);by_cases j:s∈x::i<;>by_cases Z:t∈x::i
   . have:s=t:=F.name f q (by
      unfold dG at e|-
      grind)
     rw[this]
   grind;grind;have:s=t:=F.name f q amk;rw[this]
 rintro _ ⟨s,f,rfl⟩ h;obtain⟨p,G,a⟩:=F.pr f h;exact⟨_,⟨p,G,ae⟩,a⟩
end
theorem NH{s:fF}(h:eo s=cx){k:Nat}(a:k<s.s):s[k]!≠64:=λe=>by unfold eo at h;have:=rz.1 (Bool.and_eq_true_iff.1 h).2 k (yo.2 a);rw[e] at this;revert this;decide
theorem Bw{s:fF}(h:eo s=cx):eO s=cu (s,sG):=by grind[atIdx,firstIdx,NH,x5,eO]
theorem NI{v s:fF}(h:eo v=cx)(g:eo s=cx):eO (v++yh++s)=cu (v,s):=by
 have f:(v++yh++s).s=v.s+1+s.s:=by simp[Lx];rfl
 have e:atIdx (v++yh++s)=v.s:=by
  unfold atIdx firstIdx;have:((range (v++yh++s).s).find? λi=>(v++yh++s)[i]! ==64)=cu v.s:=by rw[find?_range_eq_some];refine⟨?_,yo.2 cN,λk d=>?_⟩;(have b:v.s<(v++yh).s:=by grind);rw[getElem!_pos _ _ cN,ByteArray.getElem_append_left b,ByteArray.getElem_append_right (eN _)];simp;rfl;(have b:k<(v++yh).s:=by grind);have:=NH h d;grind[ByteArray.getElem_append_left]
  rw[this]
 have c:x5 (v++yh++s)=(v,s,cx):=by unfold x5;rw[e,df cN];simp only[tZ];rw[ByteArray.extract_append_eq_right (a:=v++yh) jv Lx,ByteArray.append_assoc,ByteArray.extract_append_eq_left ae]
 grind[eO]
def NJ{s:fF}(h:eo s=cx):s≠sG:=λe=>by rw[e] at h;revert h;decide
def xt(h:r5 l c=cu k):k<l.n/\dG (dH l k)=c:=by
 unfold r5 at h;obtain⟨a,b,_⟩:=IZ.1 h;have e:dH l k=l[k]:=by unfold dH;simp[getD,a]
 exact⟨a,by rw[e];simpa using b⟩
def Eb(h:r5 l c=cw)(a:t∈l):dG t≠c:=by unfold r5 at h;have:=List.findIdx?_eq_none_iff.1 h t a;simpa using this
def uC(l:List dw)(ir dz:fF)(t:dw):Prop:=if dz=sG then dG t=(0,ir) else ∃v∈l,dG v=(0,ir)/\dG t=(v.id,dz)
def oB(n:Da l){dz:fF}(s:eO cT=cu (ir,dz))(h:k8 l cT=cu k):k<l.n/\uC l ir dz (dH l k)/\nJ l cT=(cu k,0):=by
 unfold k8 at h;have g:∀i,i<l.n->fj l (dH l i).id=cu i:=λi f=>by obtain⟨j,m,o⟩:=n.xP (kf f).1;rw[m,n.at (kN m).1 f o]
 have d:∀r:Option Nat×Int,nJ l cT=r->∀i,r.1=cu i->i<l.n->i=k:=λr q i e p=>by rw[q,e] at h;simp only[xw] at h;rw[g i p] at h;exact wT h
 unfold nJ at*;rw[s] at*;simp only at*;unfold uC;cases hc:r5 l (0,ir) with
 |none=>rw[hc] at h;simp at h
 |some i=>
  have a:=xt hc;rw[hc] at d;simp only at d;split at d;next e=>obtain rfl:=d _ ae i ae a.1;exact⟨a.1,by rw[df e];exact a.2,by simp[e]⟩
  next e=>cases c:r5 l ((dH l i).id,dz) with|none=>rw[hc] at h;simp only at h;rw[cZ e,c] at h;simp at h|some j=>have b:=xt c;rw[c] at d;obtain rfl:=d _ ae j ae b.1;exact⟨b.1,by rw[cZ e];exact⟨_,(kf a.1).1,a.2,b.2⟩,by simp only;rw[cZ e,c]⟩
def Cx(n:Da l)(o:∀s t,s∈l->t∈l->dG s=dG t->s=t){dz:fF}(p:eO cT=cu (ir,dz))(h:k8 l cT=cw)(m:t∈l):¬uC l ir dz t:=by
 have c:∀i,i<l.n->fj l (dH l i).id≠cw:=λi g=>by obtain⟨j,d,f⟩:=n.xP (kf g).1;rw[d];simp
 unfold k8 nJ at h;rw[p] at h;simp only at h;unfold uC;cases hc:r5 l (0,ir) with
 |none=>split;exact Eb hc m;rintro⟨v,k,e,_⟩;exact Eb hc k e
 |some i=>
  have a:=xt hc;rw[hc] at h;simp only at h;split;next e=>rw[df e] at h;simp only[xw] at h;exact absurd h (c i a.1)
  next e=>rw[cZ e] at h;cases b:r5 l ((dH l i).id,dz) with|some j=>rw[b] at h;simp only[xw] at h;exact absurd h (c j (xt b).1)|none=>rintro⟨v,k,d,f⟩;rw[o v _ k (kf a.1).1 (d.trans a.2.symm)] at f;exact Eb b m f
def Rd(D:Nat->cV)(n:Nat)(r:cQ):Prop:=(∀k,k<9->GN D n (pt D r k))/\(∀k,GP D n (pt D r k))/\ae6 D r
structure Good(x:GT):Prop where
 inc:Da x.b.cU
 q6:x.b.cU.n<=32
 xE:Db x.b.next (·∈x.b.cU)
 ti:TI (pt x.s.dv.nw) x.s.cR (·∈x.b.cU)
 rd:∀s∈x.b.cU,Rd x.s.dv.nw x.s.dv.n s.cO
 map:sW x.s.dv.n x.s.mp
 n:64<=x.s.dv.n/\x.s.dv.n<=1024
 tk:∀a,Re (pt x.s.dv.nw) (·∈x.b.cU) a->x.s.mp a=2
 ac:∀a,x.s.mp a=2->Re (pt x.s.dv.nw) (·∈x.b.cU) a∨∃q∈x.dK,q.1=a
 hd:∀q∈x.dK,x.s.mp q.1=2/\¬Re (pt x.s.dv.nw) (·∈x.b.cU) q.1/\q.2.1<=x.s.base/\q≠cX
 nd:(x.dK.map Prod.fst).Nodup
 st:x.s.base<x.s.cR
 nx:1<=x.b.next
theorem ET(D:Nat->cV)(k:Nat):pt D cX k=cX:=by simp_all[pt,ID,mX]
theorem ahf(D:Nat->cV)(n:Nat):Rd D n cX:=
 ⟨λk _=>by rw[ET];exact⟨.inl ae,λh=>absurd ae h⟩,λk=>by rw[ET];exact .inl ae,λk _ _ h=>absurd (ET D k) h⟩
theorem Rd.congr{n:Nat}{r:cQ}(h:Rd D n r)(e:∀k,pt D r k≠cX->E (pt D r k).1=D (pt D r k).1):Rd E n r/\∀k,pt E r k=pt D r k:=by
 have a:=λk=>ae0 (D:=D) (E:=E) (λk _=>e k) k;have d:∀k,GP E n (pt E r k):=λk=>by rw[a];rcases h.2.1 k with c|c<;>grind[GP]
 refine⟨⟨λk i=>⟨d k,λb=>?_⟩,d,λk c g f=>?_⟩,a⟩;rw[a] at b|-;rw[e k b];exact(h.1 k i).2 b;rw[a] at f|-;rw[a];exact h.2.2 k c g f
def TI.GC(T:TI f top M)(e:∀s,M s->∀k,g s.cO k=f s.cO k):TI g top M:=by refine⟨T.id,T.pos,T.st,fun {s k} h=>?_,fun {s t k l} h h'=>?_,fun {s t k} h h'=>?_,T.pr,fun {s p k} h h'=>?_,fun {s p q} h h'=>?_,T.Ad⟩;rw[e s h];exact T.bt h;rw[e s h,e t h'];exact T.xr h h';rw[e s h,e t h'];exact T.GB h h';rw[e s h,e p h'];exact T.iP h h';simp only[e s h,e p h'];exact T.di h h'
theorem Re.GC(e:∀s,M s->∀k,g s.cO k=f s.cO k)(a:Nat):Re g M a↔Re f M a:=by grind[Re]
theorem Good.dev(G:Good x)(w:Wr (λa=>x.s.mp a=1) x.s.dv d):Good (asked x d):=by
 have k:∀s∈x.b.cU,∀k,pt x.s.dv.nw s.cO k≠cX->d.nw (pt x.s.dv.nw s.cO k).1=x.s.dv.nw (pt x.s.dv.nw s.cO k).1:=λs b k h=>w.nw (by
  have:=G.tk _ ⟨s,k,b,h,ae⟩;omega)
 have e:∀s∈x.b.cU,∀k,pt d.nw s.cO k=pt x.s.dv.nw s.cO k:=λs b=>((G.rd s b).congr (k s b)).2;have c:=λa=>Re.GC (M:=(·∈x.b.cU)) e a;refine⟨G.inc,G.q6,G.xE,G.ti.GC e,λs b=>?_,?_,?_,λa h=>G.tk a ((c a).1 h),λa h=>(G.ac a h).imp (c a).2 id,λq h=>?_,G.nd,G.st,G.nx⟩;show Rd d.nw d.n s.cO;rw[w.n];exact((G.rd s b).congr (k s b)).1
 show sW d.n x.s.mp;rw[w.n];exact G.map
 show 64<=d.n/\d.n<=1024;rw[w.n];exact G.n
 have:=G.hd q h;simp_all[asked]
theorem Good.leave(G:Good x){s:Pl}{jQ:List cQ}(f:s.dv.n=x.s.dv.n)(g:s.dv.nw=x.s.dv.nw)(v:s.base=x.s.base)(w:x.s.cR<=s.cR)(d:wL x.s.base jQ x.s.mp s.mp)(m:Da b.cU)(q6:b.cU.n<=32)(xE:Db b.next (·∈b.cU))(B:x.b.next<=b.next)(D:TI (pt x.s.dv.nw) s.cR (·∈b.cU))(o:∀t∈b.cU,t.cO=cX∨∃u∈x.b.cU,u.cO=t.cO)(y:∀q∈jQ,Re (pt x.s.dv.nw) (·∈x.b.cU) q.1/\¬Re (pt x.s.dv.nw) (·∈b.cU) q.1)(z:∀a,Re (pt x.s.dv.nw) (·∈x.b.cU) a->(∀q∈jQ,q.1≠a)->Re (pt x.s.dv.nw) (·∈b.cU) a):Good {x with b:=b,s:=s}:=by
 have sub:∀a,Re (pt x.s.dv.nw) (·∈b.cU) a->Re (pt x.s.dv.nw) (·∈x.b.cU) a:=by rintro a ⟨t,k,l,i,n⟩;rcases o t l with h|⟨u,hu,h⟩;rw[h,ET] at i;grind;grind[Re]
 have A:∀a,Re (pt x.s.dv.nw) (·∈x.b.cU) a->a≠0:=λa h e=>by have:=G.tk a h;have:=(G.map a).2.1 cN;omega
 refine⟨m,q6,xE,?_,λt l=>?_,?_,?_,λa h=>?_,λa h=>?_,λq h=>?_,G.nd,?_,iE G.nx B⟩;grind;(show Rd s.dv.nw s.dv.n t.cO;rw[g,f];rcases o t l with h|⟨u,hu,h⟩);grind[ahf];rw[<-h];exact G.rd u hu;show sW s.dv.n s.mp;rw[f];intro a;exact⟨d.le (λa=>(G.map a).1) a,by have:=(G.map a).2;have:=d.zero a;grind⟩
 show 64<=s.dv.n/\s.dv.n<=1024;rw[f];exact G.n
 have h:Re (pt s.dv.nw) (·∈b.cU) a:=h;rw[g] at h;exact(d.two a).2 ⟨G.tk a (sub a h),λq j _ e=>(y q j).2 jv⟩;(obtain⟨i,n⟩:=(d.two a).1 h;show Re (pt s.dv.nw) (·∈b.cU) a∨_;rw[g];rcases G.ac a i with c|c);exact .inl (z a c λq j e=>n q j (λr=>by rw[r] at e;exact A a c e.symm) e);grind;have c:=G.hd q h;refine⟨(d.two _).2 ⟨c.1,λp C _ e=>c.2.1 jv⟩,?_,by grind,c.2.2.2⟩;grind;show s.base<s.cR;rw[v];exact pM G.st w
def wL.nil(base:Nat)(m:Nat->Nat):wL base [] m m:=⟨by simp,λ_ h=>.inl h,λ_ h=>h,λ_=>.rfl,λh=>h⟩
theorem tH{s:Nat}(h:s<=281474976710655):iR s=s+1:=by grind[iR]
theorem GD(h:vC cT=cu ir):eO cT=cu (ir,sG):=by grind[vC]
theorem qB{dz:fF}(h:pG cT=cu (ir,dz)):eO cT=cu (ir,dz)/\dz≠sG:=by grind[pG]
theorem Ec{dz:fF}(h:eO cT=cu (ir,dz)):eo ir=cx:=by grind[eO]
def Good.names(G:Good x):∀s t,s∈x.b.cU->t∈x.b.cU->dG s=dG t->s=t:=λ_ _ h a e=>G.xE.name h a e
theorem VG:(·∈l++[s])=λt=>t∈l∨t=s:=by grind
def GW(x y:GT):Prop:=Good y/\Wr (λa=>x.s.mp a=1) x.s.dv y.s.dv
theorem uD{x:GT}(G:Good x){k:GT->GT×Int}(b:Wr (λa=>x.s.mp a=1) x.s.dv (k x).1.s.dv)(c:(k x).2=0->Good (k x).1):GW x (dX x k).1:=by unfold dX td;split;exact⟨G,.refl _⟩;split;exact⟨G.dev b,b⟩;grind[GW]
theorem Good.added(G:Good x)(u:x.b.next<=281474976710651)(v:x.b.cU.n<32)(g:s.dz=cy)(f:s.id=x.b.next)(ho:s.cY=x.b.next)(i:s.di=[])(j:∀t∈x.b.cU,dG t≠dG s)(h:(s.dB=0/\s.cO=cX)∨∃p∈x.b.cU,p.dz=cx/\p.id=s.dB/\s.cO=p.cO):Good (rK x ⟨iR x.b.next,x.b.cU++[s]⟩):=by
 have l:=G.nx;have e:iR x.b.next=x.b.next+1:=tH cN;have m:∀t∈x.b.cU,t.id≠s.id/\t.dB≠s.id:=λt b=>by have a:=G.xE.lt b;refine⟨cN,λe=>?_⟩;obtain⟨p,c,q,_⟩:=G.xE.pr b cN;have:=G.xE.lt c;omega
 have c:s.dB≠0->∃p,p∈x.b.cU/\p.id=s.dB/\p.dz=cx:=λr=>by grind
 have d:s.dB≠s.id:=λo=>by grind
 have n:∀a,Re (pt x.s.dv.nw) (·∈x.b.cU) a->Re (pt x.s.dv.nw) (·∈x.b.cU++[s]) a:=λa ⟨t,k,b,h1⟩=>⟨t,k,I3 _ b,h1⟩;refine G.leave (s:=x.s) (jQ:=[]) ae ae ae (eN _) (.nil _ _) (G.inc.snoc λt b=>by rw[f];exact(G.xE.lt b).2) sp_ ?_ jv ?_ ?_ eQ (λa h _=>n a h);show Db (iR x.b.next) (·∈x.b.cU++[s]);rw[e,VG];exact G.xE.add g f l ho j c
 (show TI _ _ (·∈x.b.cU++[s]);rw[VG];refine G.ti.add g cN m d i ?_);grind[ET];grind
theorem IG{x:GT}(G:Good x)(cT:fF)(n:Int):GW x (dX x (mB cT n)).1:=by refine uD G ?_ ?_<;>unfold mB pJ;split;exact .refl _;split<;>exact .refl _;split;simp;next h1=>split;omega;next h2=>intro _;unfold iK at h2|-;split at h2;simp at h2;next ir hvol=>split at h2;simp at h2;next hr=>split at h2;simp at h2;next hl=>split at h2;simp at h2;next hn=>simp only[hvol,hr,hl,hn,mq];refine G.added cN cN ae ae ae ae (λt a e=>?_) amu;refine Cx G.inc G.names (GD hvol) hn a ?_;unfold uC;rw[df ae,e];rfl
theorem Good.afc(G:Good x)(a:t∈x.b.cU){v:fF}(h:dG t=(0,v)):t.dz=cy/\t.name=v:=by unfold dG at h;cases e:t.dz with|false=>grind|true=>rw[e] at h;obtain⟨u,c,_,b⟩:=G.xE.own a e;have:=G.xE.lt c;grind
theorem Good.ZT(G:Good x){dz:fF}(f:dz≠sG)(h:uC x.b.cU ir dz t):t.dz=cx/\t.name=dz/\∃v∈x.b.cU,v.dz=cy/\v.name=ir/\t.cY=v.id:=by unfold uC at h;rw[cZ f] at h;obtain⟨v,c,d,b⟩:=h;have a:=G.afc c d;unfold dG at b;cases e:t.dz with|false=>rw[e] at b;have:=gD Prod.fst b;have:=G.xE.lt c;grind|true=>grind
theorem KA{x:GT}(G:Good x)(f t:fF):GW x (dX x (qN f t)).1:=by refine uD G ?_ ?_<;>unfold qN pJ;split;exact .refl _;split<;>exact .refl _;split;simp;next h1=>split;omega;next h2=>intro _;unfold jy at h2|-;split at h2;simp at h2;next fs hfs=>split at h2;simp at h2;next ir hvol=>split at h2;simp at h2;next i hi=>split at h2;simp at h2;next hl=>split at h2;simp at h2;next hn=>obtain⟨g,d⟩:=fs;have a:=qB hfs;have b:=oB G.inc a.1 hi;simp only[hfs,hvol,hi,hl,hn,mq];refine G.added cN cN ae ae ae ae (λt c e=>?_) (.inr ⟨_,(kf b.1).1,(G.ZT a.2 b.2.1).1,ae,ae⟩);refine Cx G.inc G.names (GD hvol) hn c ?_;unfold uC;rw[df ae,e];rfl
def Good.VH(G:Good x):1<=x.s.cR:=by have:=G.st;omega
theorem GF{x:GT}(G:Good x)(cT:fF):GW x (dX x (qA cT)).1:=by
 refine uD G ?_ ?_<;>unfold qA;split;exact .refl _;split<;>exact .refl _;split;simp
 next h1=>
 split
 . omega
 next h2=>
 intro _;unfold im at h2|-;split at h2
 . simp at h2
 next ir dz hfs=>
 split at h2
 . simp at h2
 next i hi=>
 split at h2
 . simp at h2
 next hl=>
 split at h2
 . simp at h2
 next hn=>
 split at h2
 . simp at h2
 next hst=>
 have a:=qB hfs;have b:=oB G.inc (Bw (Ec a.1)) hi;have d:=(kf b.1).1;have c:dG (dH x.b.cU i)=(0,ir):=by have:=b.2.1;unfold uC at this;grind
 have j:=G.afc d c;have e:iR x.b.next=x.b.next+1:=tH cN;have k:iR x.s.cR=x.s.cR+1:=tH cN;simp only[hfs,hi,hl,hn,hst,mq];generalize hv:dH x.b.cU i=v at*;have m:=G.xE.lt d;have mem:(·∈(x.b.cU++[{v with id:=x.b.next,name:=dz,dz:=cx,cY:=v.id,cR:=x.s.cR}]).set i {v with dB:=x.b.next,di:=[]})=λt=>qp v {v with dB:=x.b.next,di:=[]} (·∈x.b.cU) t∨t= {v with id:=x.b.next,name:=dz,dz:=cx,cY:=v.id,cR:=x.s.cR}:=by
  funext t;rw[set_append_left _ _ b.1,gH,fM,G.inc.set b.1,hv]
 have l:∀t∈x.b.cU,t.id≠x.b.next/\t.dB≠x.b.next:=λt f=>by
  have a:=G.xE.lt f;refine⟨cN,λe=>?_⟩;obtain⟨p,g,k,_⟩:=G.xE.pr f cN;have:=G.xE.lt g;omega
 show Good {x with b:=⟨iR x.b.next,(x.b.cU++[_]).set i _⟩,s:=tS x.s};refine G.leave (s:=tS x.s) (jQ:=[]) ae ae ae (by grind[tS]) (.nil _ _) ?_ sp_ ?_ jv ?_ ?_ eQ λa h _=>?_
 . rw[set_append_left _ _ b.1];refine(G.inc.ES (by rw[hv])).snoc λt f=>?_;rcases(G.inc.set b.1 t).1 f with h|rfl
   . exact(G.xE.lt h.1).2
   grind
 . rw[mem];simp only[e];exact G.xE.dz d j.1 (λp g e=>G.ti.st g (G.ti.pK d g e).1) G.nx ⟨ae,ae,ae,ae⟩ ⟨ae,j.1,ae,ae,ae⟩ (λt f n=>by
    refine Cx G.inc G.names a.1 hn f ?_;unfold uC;rw[cZ a.2];grind[dG])
 . rw[mem];show TI _ (iR _) _;rw[k];exact G.ti.dz G.VH d j.1 (show x.b.next≠0 by omega) l ⟨ae,ae,ae,ae,ae⟩ ⟨ae,j.1,ae,ae,ae⟩
 . grind
 . rw[mem];exact(ahd (M:=(·∈x.b.cU)) (v:=v) (sn:={v with id:=x.b.next,name:=dz,dz:=cx,cY:=v.id,cR:=x.s.cR}) (v':={v with dB:=x.b.next,di:=[]}) d ae ae a).2 h
theorem Good.xQ(G:Good x)(a:s∈x.b.cU)(e:pt x.s.dv.nw s.cO k=q)(b:q≠cX):q.2.1<=gj x.b.cU s.id↔Up (·∈x.b.cU) s q.2.1:=by subst e;refine afa G.inc (λs h=>G.ti.pos h) a (G.ti.bt a b).1 λh=>?_;obtain⟨p,c,e,_⟩:=G.ti.pr a h;grind
theorem Good.all(G:Good x)(b:s∈x.b.cU)(h:(gY x.s s.cO (gj x.b.cU s.id)).2.2=0)(q:cQ):q∈(gY x.s s.cO (gj x.b.cU s.id)).2.1↔q≠cX/\∃k,pt x.s.dv.nw s.cO k=q/\¬Up (·∈x.b.cU) s q.2.1:=by rw[(Bv x.s s.cO (gj x.b.cU s.id)).2.2.1 h (G.rd s b).2.2];constructor;rintro⟨k,_,e,a,c⟩;exact⟨a,k,e,λh=>by have:=(G.xQ b e a).2 h;omega⟩;rintro⟨a,k,e,c⟩;refine⟨k,?_,e,a,?_⟩;apply Dk;intro d;refine a (e.symm.trans ?_);unfold pt;grind;exact Nat.lt_of_not_le λh=>c ((G.xQ b e a).1 h)
theorem Good.left(G:Good x)(g:s∈x.b.cU)(c:Da b.cU)(q6:b.cU.n<=32)(xE:Db b.next (·∈b.cU))(y:b.next=x.b.next)(m:TI (pt x.s.dv.nw) x.s.cR (·∈b.cU))(j:∀t∈b.cU,t.cO=cX∨∃u∈x.b.cU,u.cO=t.cO)(v:∀q k,q≠cX->pt x.s.dv.nw s.cO k=q->¬Up (·∈x.b.cU) s q.2.1->¬Re (pt x.s.dv.nw) (·∈b.cU) q.1)(w:∀a,Re (pt x.s.dv.nw) (·∈x.b.cU) a->(∀q k,q≠cX->pt x.s.dv.nw s.cO k=q->¬Up (·∈x.b.cU) s q.2.1->q.1≠a)->Re (pt x.s.dv.nw) (·∈b.cU) a):
 Wr (λa=>x.s.mp a=1) x.s.dv (oM b s x).1.s.dv/\((oM b s x).2=0->Good (oM b s x).1):=by
 have p:=Bv x.s s.cO (gj x.b.cU s.id);have al:=G.all g;have i:=p.1.mono (B:=λa=>x.s.mp a=1) λ_ h=>h.elim;unfold oM vj;generalize gY x.s s.cO (gj x.b.cU s.id)=r at*;split;next h=>exact⟨i.wr,λn=>by grind[vD]⟩
 next h=>
 have l:∀q∈r.2.1,q.1<1024:=λq f=>by obtain⟨o,k,e,_⟩:=((al cN) q).1 f;have:=(G.rd s g).2.1 k;rw[e] at this;rcases this with h|h;grind;have:=G.n;omega
 have d:=rk r.2.1 r.1 l;rw[p.1.ba,p.2.1] at d;refine⟨by show Wr _ _ (dM _ _).dv;rw[d.2.1];exact i.wr,λ_=>?_⟩;refine G.leave (s:=dM r.1 r.2.1) (by rw[d.2.1];exact p.1.wr.n) (by rw[d.2.1];exact p.1.nn) d.2.2.1 (by rw[d.2.2.2,p.1.st];omega) d.1 c q6 xE cN (by rw[d.2.2.2,p.1.st];exact m) j ?_ ?_;intro q f;grind[Re];grind
theorem qO{x:GT}(G:Good x){cT:fF}{i:Nat}{c:Int}(h:nK x.b.cU cT=(cu i,c)):i<x.b.cU.n/\dH x.b.cU i∈x.b.cU/\(dH x.b.cU i).dz=cy:=by unfold nK at h;split at h;cases h;next ir hv=>split at h;cases h;next j hj=>cases h;have b:=oB G.inc (GD hv) hj;have:=b.2.1;unfold uC at this;rw[df ae] at this;exact⟨b.1,(kf b.1).1,(G.afc (kf b.1).1 this).1⟩
theorem NK{x:GT}(G:Good x)(cT:fF):GW x (dX x (uA cT)).1:=by
 have r:Wr (λa=>x.s.mp a=1) x.s.dv (uA cT x).1.s.dv/\((uA cT x).2=0->Good (uA cT x).1):=by
  unfold uA oA;split;next h=>exact⟨.refl _,λn=>absurd n h⟩
  next h2=>
  unfold jI at h2|-;split at h2;grind[nK]
  next i c hi=>
  split at h2;simp at h2
  next j hj=>
  simp only[hi,hj];have b:=qO G hi;have d:=kN hj;generalize hv:dH x.b.cU i=v at*;have up:=G.ti.pK b.2.1 d.2.1 d.2.2;have s:∀k,pt x.s.dv.nw (dH x.b.cU j).cO k≠cX->(pt x.s.dv.nw (dH x.b.cU j).cO k).2.1<=(dH x.b.cU j).cR:=λk h=>by have:=(G.ti.bt d.2.1 h).2;simp_all[Dc]
  have mem:(·∈x.b.cU.set i {v with cO:=(dH x.b.cU j).cO,di:=[]})=qp v {v with cO:=(dH x.b.cU j).cO,di:=[]} (·∈x.b.cU):=by funext t;rw[G.inc.set b.1,hv]
  have C:ae7 (pt x.s.dv.nw) (pt x.s.dv.nw) x.s.cR (·∈x.b.cU) v {v with cO:=(dH x.b.cU j).cO,di:=[]}:=
   ⟨b.2.2,⟨ae,ae,ae⟩,λ_ _ _ _=>ae,λk=>.inr (.inr (.inl ⟨_,d.2.1,d.2.2,ae⟩)),λp q o e=>by rw[G.ti.id o d.2.1 (e.trans d.2.2.symm)];simp,λ_=>ae⟩
  have m:∀q k,q≠cX->pt x.s.dv.nw v.cO k=q->¬Up (·∈x.b.cU) v q.2.1->ahc (pt x.s.dv.nw) (pt x.s.dv.nw) (·∈x.b.cU) v (dH x.b.cU j).cO q:=λq k l e f=>⟨l,k,e,λh=>f ⟨_,d.2.1,d.2.2,by grind⟩,f⟩;refine G.left b.2.1 (G.inc.ES (by rw[hv])) amd (by rw[mem];exact G.xE.sub b.2.1 ⟨ae,ae,ae,ae,ae,ae⟩) ae (by rw[mem];exact G.ti.Yp G.VH b.2.1 C) ?_ ?_ ?_;grind;intro q k l e f;rw[mem];exact G.ti.QC b.2.1 C (m q k l e f);intro a h g;rw[mem];exact G.ti.QD b.2.1 C h λq ⟨l,k,e,_,f⟩=>g q k l e f
 grind[uD]
theorem Good.way(G:Good x)(c:v∈x.b.cU)(ir:v.dz=cy):∃ss q,uX x.b.cU v.id=(ss.map dw.id,q)/\wu (·∈x.b.cU) v.id v ss q/\(ss.n=32∨∀t∈x.b.cU,t.id=q->q≠0->t.cY≠v.id):=by obtain⟨k,d,e⟩:=G.inc.xP c;obtain⟨ss,q,f,a,b⟩:=afb G.inc v.id 32 [] v;refine⟨ss,q,?_,a,b.imp id And.right⟩;grind[uX]
def Good.ZU(G:Good x)(d:v∈x.b.cU)(ir:v.dz=cy)(f:¬0<(uX x.b.cU v.id).1.n):∀t,t∈x.b.cU->t.dz=cx->t.cY≠v.id:=λt m l e=>by obtain⟨p,c,_,g,b⟩:=G.xE.last d (λs h i=>G.ti.st h i) _ t (eN _) m l e;obtain⟨ss,q,j,k,a⟩:=G.way d ir;rw[j] at f;cases ss with|cons=>simp at f|nil=>cases k;rcases a with a|a;simp at a;exact a p c b (by rw[<-b];exact G.ti.pos c) g
theorem IH{x:GT}(G:Good x)(cT:fF):Wr (λa=>x.s.mp a=1) x.s.dv (oA x (fp x.b cT)).1.s.dv/\((oA x (fp x.b cT)).2=0->Good (oA x (fp x.b cT)).1):=by
 unfold oA;split;next h=>exact⟨.refl _,λo=>absurd o h⟩
 next f=>
 unfold fp at f|-;split at f;grind[nK]
 next i c hi=>
 split at f;simp at f
 next hw=>
 simp only[hi,hw,mq];have b:=qO G hi;generalize hv:dH x.b.cU i=v at*;have mem:(·∈x.b.cU.eraseIdx i)=ph v (·∈x.b.cU):=by funext t;rw[G.inc.erase b.1,hv]
 have r:∀t,t∈x.b.cU->t.dB≠v.id:=λt d e=>by have:=(G.ti.pK d b.2.1 e.symm).1;grind
 refine G.left b.2.1 (G.inc.QE i) (iE (I1 _ _) G.q6) (by rw[mem];exact G.xE.jQ b.2.2 b.2.1 (G.ZU b.2.1 b.2.2 hw)) ae (by rw[mem];exact G.ti.jQ b.2.1 r) (λt d=>.inr ⟨t,BK d,ae⟩) ?_ ?_;rintro q k j rfl m;rw[mem];rintro⟨t,l,d,f,n⟩;exact d.2 (G.ti.alone b.2.1 b.2.2 j m d.1 f n);rintro a ⟨t,k,d,j,rfl⟩ g;rw[mem];by_cases e:t=v;subst e;by_cases m:Up (·∈x.b.cU) t (pt x.s.dv.nw t.cO k).2.1;obtain⟨p,s,e,_,_,n⟩:=G.ti.up d j m;grind[Re,ph];grind;exact⟨t,k,⟨d,e⟩,j,ae⟩
theorem yn:∀(a b r:List cQ),jP a b=cu r->∀q,q∈r↔q∈a∨q∈b
 | [],b,r,h,q=>by grind[jP]
 |p::a,[],r,h,q=>by grind[jP]
 |p::a,c::b,r,h,q=>by
  unfold jP at h;split at h
  . obtain⟨r',d,rfl⟩:=Ak.1 h;have:=yn a (c::b) r' d q;simp only[iZ,this];grind
  split at h
  . obtain⟨r',d,rfl⟩:=Ak.1 h;have:=yn (p::a) b r' d q;simp only[iZ] at this|-;rw[this];grind
  . cases h
termination_by a b=>a.n+b.n
theorem FM{x:GT}(G:Good x)(cT:fF):Wr (λa=>x.s.mp a=1) x.s.dv (tW x (ez x.b cT)).1.s.dv/\((tW x (ez x.b cT)).2=0->Good (tW x (ez x.b cT)).1):=by
 unfold tW;split;exact bD;split;next h=>exact⟨.refl _,λI=>absurd I h⟩
 next D f=>
 unfold ez at f|-;split at f;simp at f
 next vs hfs=>
 split at f;simp at f
 next i hi=>
 split at f;simp at f
 next hcl=>
 split at f;simp at f
 next j hj=>
 split at f;simp at f
 next all hall=>
 split at f;simp at f
 next hlen=>
 simp only[hfs,hi,hcl,hj,hall,hlen,mq];obtain⟨R,sn⟩:=vs;have a:=qB hfs;have b:=oB G.inc a.1 hi;have m:=(kf b.1).1;have p:=(G.ZT a.2 b.2.1).1;have l:=kN hj;generalize hs:dH x.b.cU i=s at*;obtain⟨O,E,F⟩:=G.inc.xP m;have o:(dH x.b.cU j).dB=s.id/\(dH x.b.cU j).cY=s.cY:=by have r:=l.2.2;unfold qV at r;rw[E] at r;simp only[F,p,oR] at r;cases A:(find? (λw=>decide (w.cY=s.cY)) (filter (λw=>decide (w.dB=s.id)) x.b.cU)) with|none=>rw[A] at r;exact absurd r (G.ti.pos l.2.1)|some c=>rw[A] at r;have M:=find?_some A;have H:=AE.1 (mem_of_find?_eq_some A);rw[G.ti.id l.2.1 H.1 r];grind
 have n:∀t,t∈x.b.cU->t.dB=s.id->t=dH x.b.cU j:=λt C e=>by
  have:t.cY=s.cY:=by apply Dk;intro K;simp_all[x6]
  exact G.xE.one m p C l.2.1 e o.1 this o.2
 generalize hjj:dH x.b.cU j=jr at*;have ne:s≠jr:=λe=>(G.ti.pK l.2.1 m o.1.symm).2.2 e;have L:i≠j:=λe=>ne jv;have mem:(·∈(x.b.cU.set j {jr with di:=all,dB:=s.dB}).eraseIdx i)=qp jr {jr with di:=all,dB:=s.dB} (ph s (·∈x.b.cU)):=by
  funext t;rw[(G.inc.ES (by rw[hjj])).erase jv];have:dH (x.b.cU.set j {jr with di:=all,dB:=s.dB}) i=s:=by simp_all[dH,pU]
  rw[this];have st:=G.inc.set l.1 (y:={jr with di:=all,dB:=s.dB}) t;rw[hjj] at st;unfold ph qp at*;simp only[st];have Q:({jr with di:=all,dB:=s.dB}:dw)≠s:=λe=>ne (G.ti.id m l.2.1 (by rw[<-e]));refine propext ⟨?_,?_⟩;rintro⟨h|rfl,f⟩;grind[ph];grind;rintro(h|rfl);grind[ph];grind
 have N:∀q,q∈jr.di->(jV q (gj x.b.cU s.id)=cx↔¬Up (·∈x.b.cU) s q.2.1):=λq v=>by obtain⟨B,k,e,_⟩:=(G.ti.di l.2.1 m o.1.symm).1 v;rw[uB,<-G.xQ m e B];grind
 have J:∀q,q∈all↔(q∈jr.di/\Up (·∈x.b.cU) s q.2.1)∨q∈s.di:=λq=>by rw[yn _ _ _ hall];unfold o5;grind
 have u:∀q,q∈jO jr.di (gj x.b.cU s.id)↔q∈jr.di/\¬Up (·∈x.b.cU) s q.2.1:=λq=>by grind[jO]
 have z:∀q,q∈jr.di->Re (pt x.s.dv.nw) (·∈x.b.cU) q.1:=λq v=>by obtain⟨B,k,rfl,_⟩:=(G.ti.di l.2.1 m o.1.symm).1 v;exact⟨s,k,m,B,ae⟩
 have d:=rk (jO jr.di (gj x.b.cU s.id)) x.s λq v=>by have:=G.tk _ (z q ((u q).1 v).1);have:=(G.map q.1).2.1 cN;have:=G.n;omega
 refine⟨by show Wr _ _ (dM _ _).dv;rw[d.2.1];exact .refl _,λ_=>?_⟩;refine G.leave (s:=dM x.s (jO jr.di (gj x.b.cU s.id))) (by rw[d.2.1]) (by rw[d.2.1]) d.2.2.1 cN d.1 ?_ ?_ ?_ (eN _) ?_ ?_ ?_ ?_;exact Da.QE (G.inc.ES (by rw[hjj])) i;exact iE (I1 _ _) amd;rw[mem];exact G.xE.cut m p l.2.1 o.1 o.2 n ⟨ae,ae,ae,ae,ae,ae⟩;rw[mem,d.2.2.2];exact G.ti.cut m p l.2.1 o.1 n ⟨ae,ae,ae,ae,ae⟩ J;intro t C;rcases vy (BK C) with h|rfl<;>grind;intro q v;have:=(u q).1 v;exact⟨z q this.1,by rw[mem];exact G.ti.ae8 (j':={jr with di:=all,dB:=s.dB}) m l.2.1 o.1 n ae this.1 this.2⟩;intro a h g;rw[mem];exact G.ti.ae9 (j':={jr with di:=all,dB:=s.dB}) m l.2.1 o.1 ae h λq D f=>g q ((u q).2 ⟨D,f⟩)
theorem FN{x:GT}(G:Good x)(cT:fF):GW x (dX x (kY cT)).1:=by
 refine uD G ?_ ?_<;>unfold kY;cases h:eO cT with|none=>exact .refl _|some p=>grind[IH,FM]
 cases h:eO cT with|none=>simp|some p=>simp only[Option.elim];split;exact(IH G cT).2;simp_all[FM]
theorem Kp.par{i k:Nat}(h:Kp i k)(a:0<k)(b:i<64):Kp i (par k):=by unfold Kp Go.Proofs.YtklligbjoplbgaaGreat.par at*;grind
theorem Ch.mono{s t:Pl}{top:cQ}(C:Ch s t cO top i iP)(h:i<64)(j:ae6 s.dv.nw cO)(l:∀k,pt s.dv.nw cO k≠cX->(pt s.dv.nw cO k).2.1<=s.cR):ae6 t.dv.nw top:=by
 intro k d f c;have g:pt t.dv.nw top (par k)≠cX:=λe=>by rw[aeY _ _ d f,e,ID] at c;exact c ae
 by_cases a:Kp i k;rw[(C.new k a c).1.bi,(C.new _ (a.par d h) g).1.bi];omega;rw[C.fI k a] at c|-;by_cases b:Kp i (par k);rw[(C.new _ b g).1.bi];grind;rw[C.fI _ b];exact j k d f c
theorem Good.aiV(G:Good x)(o:v∈x.b.cU)(ir:v.dz=cy){t:Pl}{top:cQ}(Z:i<64)(C:Ch x.s t v.cO top i iP)(R:k<x.b.cU.n)(D:dH x.b.cU k=v)(L:ab5 v v')(E:v'.cO=top){jQ:List cQ}(O:∀q,q∈v'.di↔q∈v.di∨(q∈iP/\q.2.1<=gj x.b.cU v.id))(Y:∀q,q∈jQ↔q∈iP/\gj x.b.cU v.id<q.2.1):
 Good {x with b:=⟨x.b.next,x.b.cU.set k v'⟩,s:=dM t jQ}:=by
 have two:∀s j,s∈x.b.cU->pt x.s.dv.nw s.cO j≠cX->x.s.mp (pt x.s.dv.nw s.cO j).1=2:=λs j h f=>G.tk _ ⟨s,j,h,f,ae⟩;have B:∀s∈x.b.cU,∀j,pt x.s.dv.nw s.cO j≠cX->t.dv.nw (pt x.s.dv.nw s.cO j).1=x.s.dv.nw (pt x.s.dv.nw s.cO j).1:=λs h j f=>C.pw.nw _ jv;have w:∀s∈x.b.cU,∀j,pt t.dv.nw s.cO j=pt x.s.dv.nw s.cO j:=λs h=>((G.rd s h).congr (B s h)).2;have U:∀j,pt x.s.dv.nw v.cO j≠cX->(pt x.s.dv.nw v.cO j).2.1<=x.s.cR:=λj h=>by have:=(G.ti.bt o h).2;grind[Dc]
 have mem:(·∈x.b.cU.set k v')=qp v v' (·∈x.b.cU):=by funext t;rw[G.inc.set R,D]
 have u:∀q,q∈iP->q≠cX/\∃j,Kp i j/\pt x.s.dv.nw v.cO j=q/\pt t.dv.nw top j≠q:=λq h=>by obtain⟨f,j,a,rfl⟩:=(C.iP q).1 h;refine⟨f,j,a,ae,λe=>?_⟩;have c:=(C.new j a jv).1.fr;grind
 have F:∀j,pt x.s.dv.nw v.cO j≠cX->pt t.dv.nw top j≠pt x.s.dv.nw v.cO j->pt x.s.dv.nw v.cO j∈iP:=λj f c=>(C.iP _).2 ⟨f,j,Dk λh=>c (C.fI j h),ae⟩;have I:∀j,pt x.s.dv.nw v.cO j≠cX->((pt x.s.dv.nw v.cO j).2.1<=gj x.b.cU v.id↔Up (·∈x.b.cU) v (pt x.s.dv.nw v.cO j).2.1):=λj h=>G.xQ o ae h;have T:ae7 (pt x.s.dv.nw) (pt t.dv.nw) x.s.cR (·∈x.b.cU) v v':=by refine⟨ir,⟨L.1,L.2.2.2.1,L.2.1⟩,λs h _ j=>w s h j,λj=>?_,λp q y e=>?_,λe=>?_⟩;rw[E];by_cases a:Kp i j;by_cases f:pt t.dv.nw top j=cX;grind;have n:=(C.new j a f).1;refine .inr (.inr (.inr ⟨n.bi,λh=>by have:=G.tk _ h;have:=n.fr;omega,λl c e=>?_⟩));by_cases b:Kp i l;exact C.inj j l a b f c e;rw[C.fI l b] at c e;have:=two v l o c;have:=n.fr;grind;exact .inr (.inl (C.fI j a));(have up:=G.ti.pK o y e;have H:∀j,pt x.s.dv.nw p.cO j≠cX->(pt x.s.dv.nw p.cO j).2.1<=p.cR:=λj h=>by have:=(G.ti.bt y h).2;simp_all[Dc]);(have:=G.ti.st y up.1;have H:∀j,pt x.s.dv.nw p.cO j≠cX->pt x.s.dv.nw v.cO j≠pt x.s.dv.nw p.cO j->pt t.dv.nw top j≠pt x.s.dv.nw p.cO j:=λj f c M=>by by_cases a:Kp i j;have:=(C.new j a jv).1.bi;grind;rw[C.fI j a] at M;exact c M);rw[O,E,G.ti.di o y e];constructor;rintro(⟨f,j,rfl,c⟩|⟨c,g⟩);grind;obtain⟨f,j,a,rfl,r⟩:=u q c;obtain⟨H,J,V,_,_,X⟩:=G.ti.up o f ((I j f).1 g);rw[G.ti.id y J (e.trans V.symm)];grind;rintro⟨f,j,rfl,c⟩;by_cases g:pt x.s.dv.nw v.cO j=pt x.s.dv.nw p.cO j;rw[<-g] at f c|-;exact .inr ⟨F j f c,(I j f).2 ⟨p,y,e,by grind⟩⟩;grind;apply List.eq_nil_iff_forall_not_mem.2;intro q z;rcases(O q).1 z with h|⟨c,g⟩;rw[G.ti.Ad o e] at h;cases h;obtain⟨f,j,a,rfl,_⟩:=u q c;exact G.ti.akg e _ ((I j f).1 g)
 have F:∀q,q∈jQ↔ahc (pt x.s.dv.nw) (pt t.dv.nw) (·∈x.b.cU) v v'.cO q:=λq=>by rw[Y,E];constructor;rintro⟨c,g⟩;obtain⟨f,j,a,rfl,r⟩:=u q c;exact⟨f,j,ae,r,λh=>by grind⟩;rintro⟨f,j,rfl,c,g⟩;grind
 have H:∀a,Re (pt x.s.dv.nw) (·∈x.b.cU) a->x.s.mp a=2:=G.tk;have d:=rk jQ t λq z=>by obtain⟨f,j,e,_⟩:=(F q).1 z;have:=two v j o jv;rw[e] at this;have:=(G.map q.1).2.1 cN;have:=G.n;omega
 have H:t.dv.n=x.s.dv.n:=C.pw.wr.n;have N:∀j,GP t.dv.nw t.dv.n (pt t.dv.nw top j):=λj=>by by_cases f:pt t.dv.nw top j=cX;exact .inl f;by_cases a:Kp i j;have n:=(C.new j a f).1;exact .inr ⟨by rw[H];exact((G.map _).2.1 (by have:=n.fr;omega)).2,n.su⟩;rw[C.fI j a] at f|-;rcases(G.rd v o).2.1 j with h|h<;>grind[GP]
 have I:Rd t.dv.nw t.dv.n top:=by refine⟨λj Q=>⟨N j,λf=>?_⟩,N,C.mono Z (G.rd v o).2.2 U⟩;by_cases a:Kp i j;exact(C.new j a f).2 Q;rw[C.fI j a] at f|-;rw[B v o j f];exact((G.rd v o).1 j Q).2 f
 have I:∀a,t.mp a=2->x.s.mp a=2∨∃j,pt t.dv.nw top j≠cX/\(pt t.dv.nw top j).1=a:=λa h=>by by_cases c:x.s.mp a=1;rcases C.ZQ a c with g|⟨_,j,_,g⟩<;>grind;rw[C.mp2 a c] at h;omega
 have U:∀a,x.s.mp a=2->t.mp a=2:=λa h=>by rw[C.mp2 a cN];exact h
 have K:∀a,Re (pt t.dv.nw) (qp v v' (·∈x.b.cU)) a->t.mp a=2:=by rintro a ⟨s,j,A|rfl,c,g⟩;rw[w s A.1] at c g;rw[<-g];exact U _ (two s j A.1 c);rw[E] at c g;by_cases b:Kp i j;rw[<-g];exact(C.new j b c).1.tk;rw[C.fI j b] at c g;grind
 refine⟨G.inc.ES (by rw[D];exact L.1),by simp;exact G.q6,?_,?_,λs A=>?_,λa=>?_,?_,λa h=>?_,λa h=>?_,λq h=>?_,G.nd,?_,G.nx⟩;show Db x.b.next (·∈x.b.cU.set k v');rw[mem];exact G.xE.sub o L
 show TI (pt (dM t jQ).dv.nw) (dM t jQ).cR (·∈x.b.cU.set k v');rw[mem,d.2.1,d.2.2.2,C.pw.st];exact G.ti.Yp G.VH o T
 (show Rd (dM t jQ).dv.nw (dM t jQ).dv.n s.cO;rw[d.2.1];rcases(G.inc.set R s).1 A with h|rfl);rw[H];exact((G.rd s h.1).congr (B s h.1)).1;grind;(show(dM t jQ).mp a<=3/\((dM t jQ).mp a≠0↔4<=a/\a<(dM t jQ).dv.n);rw[d.2.1,H];have m:∀a,t.mp a<=3/\(t.mp a≠0↔4<=a/\a<x.s.dv.n):=λa=>by have:=G.map a;by_cases c:x.s.mp a=1;rcases C.ZQ a c with g|⟨g,_⟩<;>rw[g]<;>rw[c] at this<;>simp at this ⊢<;>exact this;rw[C.mp2 a c];exact this);exact⟨d.1.le (λa=>(m a).1) a,by have:=(m a).2;have:=d.1.zero a;grind⟩;show 64<=(dM t jQ).dv.n/\_;rw[d.2.1,H];exact G.n
 have h:Re (pt (dM t jQ).dv.nw) (·∈x.b.cU.set k v') a:=h;rw[d.2.1,mem] at h;exact(d.1.two a).2 ⟨K a h,λq z _ e=>G.ti.QC o T ((F q).1 z) jv⟩;(show Re (pt (dM t jQ).dv.nw) (·∈x.b.cU.set k v') a∨_;rw[d.2.1,mem];obtain⟨c,g⟩:=(d.1.two a).1 h;rcases I a c with r|⟨j,r,X⟩);rcases G.ac a r with h5|h5;exact .inl (G.ti.QD o T h5 λq z=>g q ((F q).2 z) z.1);grind;exact .inl ⟨v',j,.inr ae,by grind,by grind⟩;have r:=G.hd q h;refine⟨(d.1.two _).2 ⟨U _ r.1,λp y _ e=>?_⟩,?_,by show q.2.1<=(dM t jQ).base;rw[d.2.2.1,C.pw.ba];omega,r.2.2.2⟩;obtain⟨f,j,rfl,_⟩:=(F p).1 y;exact r.2.1 ⟨v,j,o,f,e⟩;(show¬Re (pt (dM t jQ).dv.nw) (·∈x.b.cU.set k v') q.1;rw[d.2.1,mem];rintro⟨s,j,A|rfl,c,g⟩);rw[w s A.1] at c g;exact r.2.1 ⟨s,j,A.1,c,g⟩;rw[E] at c g;by_cases b:Kp i j;have:=(C.new j b c).1.fr;grind;rw[C.fI j b] at c g;exact r.2.1 ⟨v,j,o,c,g⟩;show(dM t jQ).base<(dM t jQ).cR;rw[d.2.2.1,d.2.2.2,C.pw.ba,C.pw.st];exact G.st
theorem ahg{l r:List cQ}(h:rF l p=cu r)(q:cQ):q∈r↔q∈l∨q=p:=by grind[rF,take_append_drop]
theorem II(b:Nat):∀(l:List cQ)(s r:List cQ×List cQ),wi b l s=cu r->∀q,(q∈r.1↔q∈s.1∨(q∈l/\q.2.1<=b))/\(q∈r.2↔q∈s.2∨(q∈l/\b<q.2.1))
 | [],s,r,h,q=>by cases h<;>grind
 |p::l,s,r,h,q=>by
  unfold wi at h;split at h
  . next hp=>
    have:=II b l _ r h q;simp only[gH,fM,iZ] at this|-;rw[this.1,this.2];grind
  next hp=>
  split at h
  . cases h
  next m hm=>
  split at h
  . cases h
  . have:=II b l _ r h q;have a:=ahg hm q;simp only[iZ] at this|-;rw[this.1,this.2,a];grind
theorem tI(b:ee)(id r:Nat)(cO:cQ):fj (gK b id cO).cU r=fj b.cU r:=by unfold fj gK;rw[findIdx?_map];congr 1;grind
theorem Bx{l:List dw}{g:dw->dw}{k:Nat}(h:k<l.n):dH (l.map g) k=g (dH l k):=by grind[dH]
theorem Po(id r:Nat)(cO:cQ):gj (gK b id cO).cU r=gj b.cU r:=by
 unfold gj;rw[tI];cases h:fj b.cU r with
 |none=>rfl
 |some i=>
  have e:(dH (gK b id cO).cU i).dB=(dH b.cU i).dB:=by grind[gK,Bx,kN]
  grind[tI,gK,Bx,kN]
theorem Ed(a:Da b.cU)(d:k<b.cU.n)(cO:cQ)(y:dw):(gK b (dH b.cU k).id cO).cU.set k y=b.cU.set k y:=by unfold gK;apply xK;intro j;simp only[BI,mQ,rO];split;rfl;next hne=>cases h:b.cU[j]? with|none=>rfl|some s=>(obtain⟨c,g⟩:=nB.1 h;have e:dH b.cU j=s:=by grind[dH]);simp only[Ln];rw[cZ];intro f;refine hne (a.at d c ?_);exact a.inj (kf d).1 (kf c).1 (by rw[e,f])
theorem Good.Yp(G:Good x)(f:v∈x.b.cU)(ir:v.dz=cy){t:Pl}{top:cQ}(l:i<64)(C:Ch x.s t v.cO top i iP)(o:Wr (λa=>x.s.mp a=1) x.s.dv t.dv):
 Wr (λa=>x.s.mp a=1) x.s.dv (se v.id top iP {x with s:=t}).1.s.dv/\((se v.id top iP {x with s:=t}).2=0->Good (se v.id top iP {x with s:=t}).1):=by
 unfold se zx;split;grind[vD]
 next h2=>
 unfold jT at h2|-;split at h2;simp at h2
 next k hk=>
 split at h2;simp at h2
 next d g hkill=>
 simp only[hk,hkill];rw[tI] at hk;have c:=kN hk;have e:dH x.b.cU k=v:=G.ti.id c.2.1 f c.2.2;have h:dH (gK x.b v.id top).cU k= {v with cO:=top}:=by unfold gK;rw[Bx c.1,e,df ae]
 rw[h,Po] at hkill;have m:=II _ _ _ _ hkill;have j:(gK x.b v.id top).cU.set k {dH (gK x.b v.id top).cU k with di:=d}=x.b.cU.set k {v with cO:=top,di:=d}:=by have:=Ed G.inc c.1 top {v with cO:=top,di:=d};grind
 have n:(dM t g).dv=t.dv:=qk g t;refine⟨by grind,λ_=>?_⟩;have:=G.aiV f ir l C c.1 e (v':={v with cO:=top,di:=d}) ⟨ae,ae,ae,ae,ae,ae⟩ ae (jQ:=g) (λq=>(m q).1) (λq=>by grind);show Good {x with b:=⟨x.b.next,_⟩,s:=dM t g};rw[j];exact this
theorem Good.JA(G:Good x){i:Int}(h:(qL x.b cT i).2=0):(qL x.b cT i).1∈x.b.cU/\(qL x.b cT i).1.dz=cy:=by
 unfold qL at*;cases e:eO cT with
 |none=>grind
 |some p=>
  rw[e] at h;simp only[Option.elim] at h|-;split at h;next e0=>rw[df e0];unfold r8 at*;simp only at h|-;split at h;simp at h;split at h;omega;split at h;simp at h;next h1 h2 h3=>rw[cZ h1,cZ h2,cZ h3];simp only;unfold nJ at*;obtain⟨ir,dz⟩:=p;simp only at e0;subst e0;rw[e] at h2|-;simp only[oR] at h2|-;cases hc:r5 x.b.cU (0,ir) with|none=>grind|some k=>have a:=xt hc;have m:=(kf a.1).1;exact⟨m,(G.afc m a.2).1⟩
  omega
def Good.two(G:Good x)(a:v∈x.b.cU):∀k,k<9->pt x.s.dv.nw v.cO k≠cX->x.s.mp (pt x.s.dv.nw v.cO k).1≠1:=λk _ h=>by have:=G.tk _ ⟨v,k,a,h,ae⟩;omega
theorem KB{x:GT}(G:Good x)(e:lX x.s.dv.nw)(f:gy x.s.cR)(cT:fF)(i:Int)(bs:cV)(d:∀y∈bs,y<256):GW x (dX x (mL cT i bs)).1:=by
 have g:Wr (λa=>x.s.mp a=1) x.s.dv (mL cT i bs x).1.s.dv/\((mL cT i bs x).2=0->Good (mL cT i bs x).1):=by
  unfold mL;split;next h=>exact⟨.refl _,λb=>absurd b h⟩
  next h=>
  split;exact bD;have v:=G.JA bL;have c:=SL e f G.n.2 G.map (G.two v.1) (i:=i) d;unfold sV;split;next h=>exact⟨c.1.wr,λb=>by grind[vD]⟩
  next h=>exact G.Yp v.1 v.2 cN (c.2 cN).2.2.1 c.1.wr
 grind[uD]
theorem NL{x:GT}(G:Good x)(A:lX x.s.dv.nw)(B:gy x.s.cR)(cT:fF)(i:Int):GW x (dX x (rL cT i)).1:=by
 have C:Wr (λa=>x.s.mp a=1) x.s.dv (rL cT i x).1.s.dv/\((rL cT i x).2=0->Good (rL cT i x).1):=by
  unfold rL;split;next h=>exact⟨.refl _,λl=>absurd l h⟩
  next h=>
  have v:=G.JA bL;have c:=Lj A B G.n.2 G.map (G.two v.1) (i:=i);unfold sV;split;next h=>exact⟨c.1.wr,λl=>by grind[vD]⟩
  next h1=>obtain⟨_,F,q|⟨m,w,n,p,_⟩⟩:=c.2 cN;exact G.Yp v.1 v.2 cN q.1 c.1.wr;generalize iF x.s (qL x.b cT i).1.cO i=T at*;obtain⟨t,r,o,E⟩:=T;simp only at n p m w c|-;subst n p;unfold se zx;split;(next h=>exact⟨c.1.wr,λl=>by grind[vD]⟩);next h2=>unfold jT at h2|-;split at h2;simp at h2;next k hk=>(simp only[hk,wi];rw[tI] at hk;have f:=kN hk;have g:dH x.b.cU k=(qL x.b cT i).1:=G.ti.id f.2.1 v.1 f.2.2;have u:dH (gK x.b (qL x.b cT i).1.id (qL x.b cT i).1.cO).cU k=(qL x.b cT i).1:=by unfold gK;rw[Bx f.1,g,df ae]);(have y:(gK x.b (qL x.b cT i).1.id (qL x.b cT i).1.cO).cU.set k {dH (gK x.b (qL x.b cT i).1.id (qL x.b cT i).1.cO).cU k with di:=(dH (gK x.b (qL x.b cT i).1.id (qL x.b cT i).1.cO).cU k).di}=x.b.cU:=by have a:=Ed G.inc f.1 (qL x.b cT i).1.cO (qL x.b cT i).1;rw[g] at a;rw[u];refine a.trans ?_;apply xK;intro j;rw[BI];split;(next e=>subst e;rw[df f.1,(kf f.1).2,g]);rfl);(refine⟨c.1.wr,λ_=>?_⟩;have:=G.dev c.1.wr;show Good {x with b:=⟨x.b.next,_⟩,s:=t};rw[y];have z:t= {x.s with dv:=t.dv}:=by obtain⟨a,b,D,d⟩:=t;simp only at m;subst m;have:=c.1.st;have:=c.1.ba;grind);rw[z];exact this
 grind[uD]
theorem aiW{a b:cV}(h:a.Nodup)(g:∀n∈a,n∈b):a.n<=b.n:=by induction a generalizing b with|nil=>simp|cons x a ih=>rw[yx] at h;have:=ih (b:=b.erase x) h.2 λn c=>(mem_erase_of_ne (λe=>by grind)).2 (g n (lu _ c));grind
theorem wu.nodup{n:Nat}(F:Db n M){q:Nat}(w:wu M o s ss q)(c:M s):((s::ss).map dw.id).Nodup:=by induction w with|nil s=>simp|@cons s t l q h ho e w ih=>rw[yq,yx];refine⟨λf=>?_,ih h⟩;obtain⟨r,b,d⟩:=gI.1 f;have a:=((wu.cons h ho e w).VF F c).1 r b;rw[F.id ((wu.cons h ho e w).mem r b).1 c d] at a;grind
theorem Good.aki(G:Good x)(d:v∈x.b.cU)(ir:v.dz=cy):∃ss q,uX x.b.cU v.id=(ss.map dw.id,q)/\wu (·∈x.b.cU) v.id v ss q/\(∀t,t∈x.b.cU->t.id=q->q≠0->t.cY≠v.id):=by
 obtain⟨ss,q,e,a,f⟩:=G.way d ir;refine⟨ss,q,e,a,f.resolve_left λh=>?_⟩;have b:=aiW (a.nodup G.xE d) (b:=x.b.cU.map dw.id) λn g=>by obtain⟨t,c,rfl⟩:=gI.1 g;refine gI.2 ⟨t,?_,ae⟩;rcases iZ.1 c with rfl|c;exact d;exact(a.mem t c).1
 have:=G.q6;grind
theorem ZV{l:List dw}(f:Da l)(id:Nat):∀(d b:cV)(r:List dw),zq l id d (l.map λt=>{t with cY:=if t.id∈b then id else t.cY})=cu r->r=l.map (λt=>{t with cY:=if t.id∈b∨t.id∈d then id else t.cY})/\∀t∈l,t.id∈d->∀u∈l,u.dz=cx->u.cY=id->u.name≠t.name
 | [],b,r,h=>by cases h<;>grind
 |m::d,b,r,h=>by
  unfold zq at h;split at h
  . cases h
  next j hj=>
  have p:=kN hj;split at h
  . cases h
  next hany=>
  have e:(l.map λt=>{t with cY:=if t.id∈b then id else t.cY}).set j {dH (l.map λt=>{t with cY:=if t.id∈b then id else t.cY}) j with cY:=id}=l.map λt=>{t with cY:=if t.id∈b++[m] then id else t.cY}:=by
   rw[Bx p.1];apply xK;intro i;simp only[BI,rO,mQ];split
   . next e=>subst e;rw[df p.1,(kf p.1).2];simp[p.2.2]
   . next hne=>
     cases h:l[i]? with
     |none=>rfl
     |some s=>
      obtain⟨c,w⟩:=nB.1 h;have e:dH l i=s:=by grind[dH]
      have:s.id≠m:=λn=>hne (f.at p.1 c (f.inj p.2.1 (kf c).1 jv));simp[this]
  rw[e] at h;have a:=ZV f id d (b++[m]) r h;refine⟨by grind,λt k g u x o q v=>?_⟩;rcases iZ.1 g with rfl|g
  . rw[f.inj p.2.1 k p.2.2] at hany
    grind[Kd]
  grind
theorem Cy(G:Good x)(d:¬(fQ x.b cT).2≠0):∃v∈x.b.cU,∃p:cV,(fQ x.b cT).1=⟨x.b.next,x.b.cU.map λt=>{t with cY:=if t.id∈p then v.id else t.cY}⟩/\(∀t∈x.b.cU,t.id∈p->t.dz=cx)/\Db x.b.next (·∈(fQ x.b cT).1.cU)/\TI (pt x.s.dv.nw) x.s.cR (·∈(fQ x.b cT).1.cU):=by
 unfold fQ at d|-;split at d;grind[nK]
 next i c hi=>
 split at d;simp at d
 next o ho=>
 split at d;simp at d
 next r hr=>
 simp only[hi,ho,hr];have b:=qO G hi;have op:=kN ho;generalize hv:dH x.b.cU i=v at*;generalize hx:dH x.b.cU o=y at*;obtain⟨V,U,w1,w2,Q⟩:=G.aki b.2.1 b.2.2;rw[w1] at op;have C:y.dz=cx:=by obtain⟨t,a,e,_⟩:=w2.end;refine(G.xE.xQ (s:=t) ?_ op.2.1 (op.2.2.trans e.symm)).1;rcases iZ.1 a with rfl|a;exact b.2.1;exact(w2.mem t a).1
 obtain⟨u,z,H,F⟩:=G.xE.own op.2.1 C;obtain⟨s2,q2,T,w,I⟩:=G.aki z H;have R:y∈s2:=by rcases iZ.1 (w.all G.xE z I (λs h A=>G.ti.st h A) _ y (eN _) op.2.1 F.symm) with h|h<;>grind
 have l:∃E f,s2=E++y::f/\yk x.b.cU y=(y::f).map dw.id:=by unfold yk abp;rw[<-F,T];simp only;cases M:(s2.map dw.id).findIdx? (λn=>decide (n=y.id)) with|none=>grind|some k=>(obtain⟨j,d,_⟩:=IZ.1 M;have B:k<s2.n:=by grind);have e:s2[k]=y:=G.ti.id (w.mem _ (mP B)).1 op.2.1 jv;refine⟨s2.take k,s2.drop (k+1),?_,?_⟩;grind[getElem_cons_drop,take_append_drop];grind[map_drop,getElem_cons_drop]
 obtain⟨E,f,J,K⟩:=l;rw[K] at hr;have N:(x.b.cU.map λt=>({t with cY:=if t.id∈([]:cV) then v.id else t.cY}:dw))=x.b.cU:=by simp
 have D:=ZV G.inc v.id ((y::f).map dw.id) [] r jv;have g:∀t∈y::f,t∈x.b.cU:=λt a=>(w.mem t jv).1;have q:∀t,t∈x.b.cU->(t.id∈(y::f).map dw.id↔t∈y::f):=λt a=>by constructor;intro h;obtain⟨O,j,d⟩:=gI.1 h;rw[<-G.ti.id (g O j) a d];exact j;grind
 have mem:(·∈r)=AsP (λt=>@ite _ (t∈y::f) (Classical.propDecidable _) v.id t.cY) (·∈x.b.cU):=by funext t;rw[D.1,gI];unfold AsP;apply propext;constructor;grind;grind
 refine⟨v,b.2.1,(y::f).map dw.id,by simp_all,λt a h=>?_,?_,?_⟩;have:=(q t a).1 h;rcases iZ.1 this with rfl|h;exact C;exact((w.VF G.xE z).1 t jv).1;show Db _ (·∈r);rw[mem];refine G.xE.ahe (λs h A=>G.ti.st h A) b.2.1 b.2.2 z H op.2.1 C w2 Q op.2.2 (J▸w) I (λm l t a j d L=>D.2 m (g m l) ((q m (g m l)).2 l) t a j d L) _ (λt a=>df a) (λt a=>cZ a)
 show TI _ _ (·∈r);rw[mem];exact G.ti.aiT _
theorem FP{x:GT}(G:Good x)(cT:fF):GW x (dX x (l9 cT)).1:=by
 refine uD G ?_ ?_<;>unfold l9;split<;>exact .refl _;split;omega
 next h2=>
 intro _;obtain⟨v,i,c,e,_,xE,f⟩:=Cy G h2;rw[e] at xE f|-;have g:∀a,Re (pt x.s.dv.nw) (·∈x.b.cU) a->Re (pt x.s.dv.nw) (·∈x.b.cU.map λt=>{t with cY:=if t.id∈c then v.id else t.cY}) a:=λa ⟨t,k,d,h⟩=>⟨_,k,gI.2 ⟨t,d,ae⟩,h⟩;show Good {x with b:=⟨x.b.next,_⟩,s:=x.s};refine G.leave (s:=x.s) (jQ:=[]) ae ae ae (eN _) (.nil _ _) (G.inc.map λ_=>ae) amd xE (eN _) f (λt d=>?_) eQ (λa h _=>g a h)
 grind
theorem By(s:Pl)(i:Nat)(b:cV):PW (λa=>a=i/\s.mp a=2) s (eW s i b).1/\(eW s i b).1.mp=s.mp/\((eW s i b).2.2=0->s.mp i=2/\i<s.dv.n/\(eW s i b).2.1=(i,s.cR,kU (pF b))/\(eW s i b).1.dv.nw=jH s.dv.nw i (pF b))/\(s.dv.al->b.n<=128->s.mp i=2->i<1024->i<s.dv.n->(eW s i b).2.2=0):=by unfold eW;split;exact⟨.refl _,ae,by simp,cN⟩;split;grind[VE];next h=>exact⟨.refl _,ae,by simp,λ_ _ c d _=>absurd ⟨cN,cN,c⟩ h⟩
theorem NM{dZ:cV}(a:Pl×(List cQ×Int))(b:cV)(d:a.1.mp 0≠2):PW (·∈dZ) a.1 (ib dZ a b).1/\(ib dZ a b).1.mp=a.1.mp:=by
 have g:=By a.1 (dZ.getD a.2.1.n 0) b;have k:PW (·∈dZ) a.1 (eW a.1 (dZ.getD a.2.1.n 0:Nat) b).1:=g.1.mono λc ⟨h1,h2⟩=>by grind
 unfold ib;split;exact⟨.refl _,ae⟩;grind
def SN{α:Type}{A:Nat->Prop}{m:Nat->Nat}{f:Pl×(List cQ×Int)->α->Pl×(List cQ×Int)}(h:∀a x,a.1.mp=m->PW A a.1 (f a x).1/\(f a x).1.mp=a.1.mp):∀(l:List α)(a:Pl×(List cQ×Int)),a.1.mp=m->PW A a.1 (l.foldl f a).1/\(l.foldl f a).1.mp=m
 | [],a,e=>⟨.refl _,e⟩
 |x::l,a,e=>by
  have g:=h a x e;have k:=SN h l (f a x) (g.2.trans e);exact⟨g.1.trans k.1,k.2⟩
theorem Ee(dZ:cV)(a:Pl×(List cQ×Int))(b:List cQ):gQ dZ a b=(match mW (λi=>b.getD i cX) with|none=>if a.2.2≠0 then a else(a.1,([],51))|some sec=>ib dZ a sec):=by grind[gQ,ib]
theorem VI(a:Pl×(List cQ×Int))(b:List cQ)(c:a.1.mp 0≠2):PW (·∈dZ) a.1 (gQ dZ a b).1/\(gQ dZ a b).1.mp=a.1.mp:=by rw[Ee];split;split<;>exact⟨.refl _,ae⟩;grind[NM]
theorem NN{dZ:cV}:∀(ps:List cV)(f d post:cV)(s:Pl)(b:List cQ),d.n=b.n->f.n=ps.n->dZ=d++(f++post)->f.Nodup->
 ((ps.foldl (ib dZ) (s,(b,0))).2.2=0->(ps.foldl (ib dZ) (s,(b,0))).2.1=b++zipWith (λa p=>(a,s.cR,kU (pF p))) f ps/\PW (·∈f) s (ps.foldl (ib dZ) (s,(b,0))).1/\(∀j(h:j<f.n)(A:j<ps.n),(ps.foldl (ib dZ) (s,(b,0))).1.dv.nw f[j]=pF ps[j])/\∀a∈f,a<s.dv.n)/\
 (s.dv.al->(∀a∈f,s.mp a=2/\a<1024/\a<s.dv.n)->(∀p∈ps,p.n<=128)->(ps.foldl (ib dZ) (s,(b,0))).2.2=0)
 | [],f,d,post,s,b,h1,h2,h3,h4=>by
  have:f=[]:=by grind
  subst this;exact⟨λ_=>⟨by simp,.refl _,λj h=>by simp at h,by simp⟩,λ_ _ _=>ae⟩
 |p::ps,[],d,post,s,b,h1,h2,h3,h4=>by simp at h2
 |p::ps,a::f,d,post,s,b,h1,h2,h3,h4=>by
  have z:dZ.getD b.n 0=a:=by grind
  have g:=By s a p;have st:ib dZ (s,(b,0)) p=if(eW s a p).2.2≠0 then((eW s a p).1,([],(eW s a p).2.2)) else((eW s a p).1,(b++[(eW s a p).2.1],0)):=by
   grind[ib]
  have k:∀(l:List cV)(x:Pl)c,c≠0->l.foldl (ib dZ) (x,([],c))=(x,([],c)):=λl x c hc=>by
   induction l<;>grind[H']
  rw[zG,st];rw[yx] at h4;by_cases e:(eW s a p).2.2=0
  . rw[cZ cN];have w:=g.2.2.1 e;obtain⟨r,t⟩:=NN (dZ:=dZ) ps f (d++[a]) post (eW s a p).1 (b++[(eW s a p).2.1]) (by simp[h1]) jv (by simp[h3]) h4.2;refine⟨λh=>?_,λm y n=>?_⟩
    . obtain⟨u,i,C,v⟩:=r h;refine⟨?_,(g.1.mono λc hc=>by grind).trans (i.mono λc hc=>lu _ hc),?_,?_⟩
      . rw[u,w.2.2.1,g.1.st];simp
      . intro j B h6;cases j with
        |zero=>
         simp only[getElem_cons_zero];rw[i.nw a h4.1,w.2.2.2];simp[jH]
        |succ j=>grind
      . intro c hc;rcases iZ.1 hc with rfl|hc
        . exact w.2.1
        . have:=v c hc;rw[g.1.wr.n] at this;exact this
    . refine t (g.1.wr.al m) (λc hc=>?_) λq o=>n q (lu _ o);rw[g.2.1,g.1.wr.n];grind
  grind
def FQ(p:List cQ):cV:=(mW λi=>p.getD i cX).getD []
theorem JB{dZ:cV}:∀(ps:List (List cQ))(a:Pl×(List cQ×Int)),((ps.foldl (gQ dZ) a).2.2=0∨∀p∈ps,(mW λi=>p.getD i cX).isSome=cx)->ps.foldl (gQ dZ) a=(ps.map FQ).foldl (ib dZ) a/\(a.2.2=0->(ps.foldl (gQ dZ) a).2.2=0->∀p∈ps,(mW λi=>p.getD i cX)=cu (FQ p))
 | [],a,_=>⟨ae,by simp⟩
 |p::ps,a,h=>by
  have d:∀(l:List (List cQ))(a:Pl×(List cQ×Int)),a.2.2≠0->l.foldl (gQ dZ) a=a:=λl a hc=>by
   induction l with
   |nil=>rfl
   |cons q l ih=>simp_all[gQ]
  have c:∀(l:List cV)(a:Pl×(List cQ×Int)),a.2.2≠0->l.foldl (ib dZ) a=a:=λl a hc=>by
   induction l with
   |nil=>rfl
   |cons q l ih=>simp_all[ib]
  by_cases j:a.2.2=0
  . rw[zG,yq,zG] at*;have b:=Ee dZ a p;cases e:mW (λi=>p.getD i cX) with
    |none=>
     simp_all
    |some sec=>
     rw[e] at b;simp only at b;have f:FQ p=sec:=by grind[FQ]
     rw[b] at h|-;rw[f];obtain⟨k,m⟩:=JB ps (ib dZ a sec) (h.imp id λh q g=>h q (lu _ g))
     grind
  grind