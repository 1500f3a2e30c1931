/- Part 4 of the proof of WholeAudit. No conditions. -/
import Derived.Test.YtklligbjoplbgaaGreatRac
import Derived.Lib.ConvBytes
import Derived.Lib.BufferRead
import Derived.Sort.CutIn
set_option linter.all false
open List renaming length->List.n
open String renaming length->String.n
open Array renaming size->Array.s,toList->Array.t
open ByteArray renaming size->ByteArray.s
open Go.TypeInfo renaming size->Go.TypeInfo.s
open Go.RowKit.Below renaming size->Go.RowKit.Below.s
open Option renaming toList->Option.t,some->cu,none->cw
open Go.World renaming heap->Go.World.h
open Int renaming toNat->Int.m
open Go.Value renaming int->bU,agg->bV,pointer->bW,slice->bX,string->bY,bool->bZ,tuple->cg
open Go.Ending renaming returned->cj
open Go.IntKind renaming i64->cq,u64->ct
open Bool renaming true->cx,false->cy
namespace Go.Proofs.YtklligbjoplbgaaGreat
set_option maxRecDepth 100000
set_option maxHeartbeats 64000000
open Go.RowKit Lib List Nat _root_.Go.Proofs.Tryz Go.Shelf
variable {A Z args tmps:gJ}{F:gJ->c7}{a:Act}{K:Act->cS->Prop}{parts:Array (Nat×Operand)}{af:Array Edge}{ops:Array Oper}{cT:fM}{R:Ending->cS->Prop}{Q:Exit->Act->cS->Prop}{fn:Func}{B bs l r:cV}{X X' Y:cV->cS->Prop}{ps:List (c7×cV)}{ts:List cV}{O:List O4}{rest:List Oper}{L rs:List R4}{m:List dL}{vs xs:List c7}{D G M b base by' c dst g i j k n own y z:Nat}{f:Nat->c7}{o:O4}{q:Operand}{gd:Option (Nat×Bool)}{ao:Option Addr}{d:Option Nat}{P:oN}{s:Pl}{p pp:String}{T dT e src t2 ty u:dW}{α β:Type}{v zv:c7}{W W' w w' w0:cS}{SS:cS->Prop}
section
variable {f:α->List β}
theorem MG(c:∀x,(f x).n=z)(l:List α)(o:k<l.n)(y:α){m:List β}(p:m.n=l.n*z)(n:∀j,j<z->m[k*z+j]?=(f y)[j]?)(d:∀i j,i≠k->j<z->m[i*z+j]?=(l.flatMap f)[i*z+j]?):m=(l.set k y).flatMap f:=by apply xL;intro t;by_cases h:t<l.n*z;rcases vM z with rfl|hz;omega;(have e:t=t/z*z+t%z:=by grind[div_add_mod]);(have a:t%z<z:=mod_lt _ hz;have g:t/z<l.n:=by rw[div_lt_iff_lt_mul hz];exact h);rw[e,flat_get c (l.set k y) jH a];by_cases b:t/z=k;grind;rw[d _ _ b a,flat_get c l g a,getElem_set_ne (pU b)];grind[xp,length_set]
end
section
variable {x:Nat}
theorem AY(h:w.ownsRow base e z (bX (cu ⟨g,0,cw⟩) n c) n xs):∃(m:Nat)(f:Nat->c7),cL w g e m f/\n*z<=m:=by rcases h.2 with⟨b,_⟩|⟨j,cap,a,b,k,d,l,o,h6,p⟩;cases b;simp only[lX,yq,Addr.mk.injEq] at b;obtain⟨⟨rfl,-,-⟩,-,rfl⟩:=b;refine⟨a.s,λi=>a.getD i undef,?_,by simp_all[I0]⟩;unfold cL;rw[d];simp[cM]
theorem u0{w w':cS}{b:Nat}(h:jZ b w w'):w.grownBy w' (some b):=⟨h.os,h.tape,h.output,h.size,λk a c=>h.block k a (λe=>c (by rw[e]))⟩
def ad7(S:St w0 d l L O X w)(j:Nat)(r:O[j]?=cu o)(hv:o.v=bX (cu ⟨g,0,cw⟩) o.n c)(i:Nat)(z:i<o.n*o.z)(u:a.eval (.tmp x)=bW (cu ⟨g,i,cw⟩))(y:a.eval q=v)(e:v.oneCell'=cx)(t:lD P ty)(h:∀W,St w0 d l L (O.set j ⟨o.e,o.z,o.v,o.n,o.xs.set i v⟩) X W->wpList P ops Q rest (a.put cw undef) W):wpList P ops Q (⟨cw,.store ty (.tmp x) q,t2,p,af,cw⟩::rest) a w:=by
 have b:=S.uV r;rw[hv] at b;obtain⟨m,f,s,A⟩:=AY b;refine BX (nT s (n:=1) cN) u y e t (h _ ?_);have k:o.v.ownBlock=cu g:=by rw[hv];rfl
 exact ans
theorem ad8(S:St w0 d l L O X w)(j:Nat)(k:O[j]?=cu o)(hv:o.v=bX (cu ⟨g,0,cw⟩) o.n c)(i:Nat)(v:i*o.z+o.z<=o.n*o.z)(s:a.eval (.tmp x)=bW (cu ⟨g,i*o.z,cw⟩))(t:a.eval (.tmp y)=bV A)(q:A=cM o.z f)(r:ky P ty o.z)(n:∀i,(f i).oneCell'=cx)(h:∀W,St w0 d l L (O.set j ⟨o.e,o.z,o.v,o.n,Dp o.xs (i*o.z) (cM o.z f).t⟩) X W->wpList P ops Q rest (a.put cw undef) W):wpList P ops Q (⟨cw,.store ty (.tmp x) (.tmp y),t2,p,af,cw⟩::rest) a w:=by
 subst q;have b:=S.uV k;rw[hv] at b;obtain⟨m,u,B,z⟩:=AY b;refine wpList_store_mid (op:=⟨cw,.store ty (.tmp x) (.tmp y),t2,p,af,cw⟩) ae ty (.tmp x) (.tmp y) ae g (i*o.z) (cM o.z f) s t (by grind[cW,nT]) (by rw[cW];exact r.2) (oD f n) (h _ ?_);have e:o.v.ownBlock=cu g:=by rw[hv];rfl
 exact S.grow k (by grind[u0,jZ.setCells]) (by grind[tB]) e (.inl e)
theorem ahR(S:St w0 d l L O X w){r:Operand}(A:xm P ty e z by')(v:a.eval q=bU cq n)(x:a.eval r=bU cq n)(F:by'*n<=281474976710656)(u:n<=maxLen)(m:gZ e=cy)(o:lQ e=cy)(j:∀i zv,P.info? e=cu i->i.zero=cu zv->(madeCells zv.cells (n*z)).t=xs)(h:∀g W,St w0 d l L (⟨e,z,bX (cu ⟨g,0,cw⟩) n n,n,xs⟩::O) X W->wpList P ops Q rest (a.put (cu dst) (bX (cu ⟨g,0,cw⟩) n n)) W):
 wpList P ops Q (⟨cu dst,.makeSlice ty q r,t2,p,af,cw⟩::rest) a w:=by
 obtain⟨B,zv,t,G,E⟩:=A;obtain⟨i,c,f,k,D⟩:=oH t;have b:=run_make w ty e i zv B c f cq cq (n:Nat) (n:Nat) cN cN jH bN;simp only[uI,k] at b;have C:=j i zv c f;refine mz ae λK s=>?_;unfold Oper.wp execOp;simp only[lx,v,x,b,nX];have y:(madeCells zv.cells (n*z)).s=n*z:=by rw[size_madeCells]
 refine s _ _ (h _ _ (S.iw ((gK _ _).alloc (eN _) _) ⟨by grind,.inr ⟨w.h.s,n,_,ae,eN _,AA w _,eN _,u,y,?_⟩⟩ m o));rw[C,nV];grind
end
structure ej where
 next:Nat
 cU:List du
structure dY where
 next:Nat
 l:List dL
 ee:Option Addr
 cap:Nat
def dY.t(b:dY):ej:=⟨b.next,ez b.l⟩
def dY.sv(b:dY):c7:=bX b.ee b.l.n b.cap
def dO(b:dY):Nat->c7:=λi=>if i=0 then bU ct b.next else b.sv
def fW(b:dY):∀i,(dO b i).oneCell'=cx:=by intro i;unfold dO;split<;>rfl
instance in5bfc3(x:dY):OF (dO x):=⟨fW x⟩
instance in4a6b3(b:dY):CV (dO b) 0 (bU ct b.next):=⟨rfl⟩
instance inbb8f1(b:dY):CV (dO b) 1 b.sv:=⟨rfl⟩
def jd(w:cS)(b:dY):Prop:=gC w b.sv b.l
def u9(w:cS)(base:Nat)(b:dY):Prop:=Ca w base b.sv b.l
def lV(w':cS)(base:Nat)(B:gJ)(t:ej):Prop:=∃c:dY,B=cM 2 (dO c)/\c.t=t/\u9 w' base c
def zf(b:ej):Prop:=b.cU.n<=1000000/\ajT b.cU
theorem zf.len{b:dY}(h:zf b.t):b.l.n<=1000000:=by have:=h.1;grind[dY.t,iv]
def nU:ky prog 99 2:=⟨⟨_,underlying99,ae⟩,dC⟩
instance in70724 :s7 99 2:=⟨nU⟩
def sQ:lD prog 97:=⟨⟨_,underlying97,ae⟩,dC⟩
instance in7ce2d :rk 97:=⟨sQ⟩
def xr:dY:=⟨0,[],cw,0⟩
def ot:(#[bU ct 0,bX cw 0 0]:gJ)=cM 2 (dO xr):=rfl
instance in159c4 :ZR 99 2 (dO xr):=⟨_,sR,ot⟩
def RK:(prog.info? 109).map (λi=>(i.zero,i.s,i.bytes))=cu (cu (bV #[bU ct 0,bY ⟨#[]⟩,bZ cy,bU ct 0,bU ct 0,bU ct 0,bU cq 0,bU cq 0,bU ct 0,bU .u32 0,bX cw 0 0]),11,112):=dC
def Jp:xm prog 97 109 11 112:=⟨underlying97,_,RK,ae,cN⟩
theorem abi(n:Nat):(madeCells (cM 11 (iz nj)) (n*11)).t=ju (replicate n nj):=by apply xL;intro t;by_cases b:t<n*11;have e:t=t/11*11+t%11:=cN;have a:t%11<11:=mod_lt _ cN;unfold ju;(conv=>rhs;rw[e]);rw[flat_get AV (replicate n nj) sp_ a];rw[getElem_replicate];unfold madeCells UC;rw[nL,Array.getElem?_map,Array.getElem?_range,c8 b,nL,dy,c8 a];simp only[Lw,cW,yq];rw[Array.getElem!_eq_getD,Array.getD_eq_getD_getElem?,dy,c8 a];rfl;grind[size_madeCells,oA]
section
def St.DH(S:St w0 d l L O X w)(a:vD Y)(b:Y (eM L O) w):St w0 d l L O (λB w=>X B w/\Y B w) w:=
 ⟨S.fr,S.row,S.own,S.lo,S.nd,⟨S.x,b⟩,S.me.still a⟩
def St.A6(S:St w0 d l L O X w)(a:dS w w'){y:dL}(c:ir w' w.h.s y.dv y.df):St w0 d l L O (λB w=>X B w/\Ke y B w) w':=
 (S.cP a).DH (B8 y) ((sG.of c).x λb h=>S.lt b h)
def St.EH(S:St w0 d l L O X w)(h:∀B w,X B w->X' B w)(a:lN d X'):St w0 d l L O X' w:=
 ⟨S.fr,S.row,S.own,S.lo,S.nd,h _ _ S.x,a⟩
end
def Zr(n:Nat)(b:TypeInfo)(zv:c7)(h:prog.info? 109=cu b)(c:b.zero=cu zv):(madeCells zv.cells (n*11)).t=ju (replicate n nj):=by have a:=RK;rw[h] at a;simp only[Lw,c,yq,LA] at a;rw[a.1];exact abi n
theorem UI(c:k<m.n)(y:dL):Dp (ju m) (k*11) (cM 11 (iz y)).t=ju (m.set k y):=by refine MG AV m c y (by rw[zN,oA]) (λj b=>?_) λi j a b=>?_;rw[yJ _ _ _ _ amt,c8 aG,show k*11+j-k*11=j by omega];rfl;rw[yJ _ _ _ _ amt,cX aG];rfl
theorem q7(m:List α)(a:k<m.n)(y:α):(m.set k y).take (k+1)=m.take k++[y]:=by simp_all[yl,take_set_of_le]
theorem Fj(l:List dL)(a:k<l.n):ez (l.take (k+1))=ez (l.take k)++[l[k].todu]:=by grind[ez,take_succ_eq_append_getElem]
def RM(k:Int)(a:Option Addr)(n c:Nat):prog.built 99 [(0,bU ct k),(1,bX a n c)]=cu #[bU ct k,bX a n c]:=dC
def rD(base:Nat)(x:dL):Prop:=0<x.df.n->∀b,x.dv.ownBlock=cu b->base<=b
def oL(m:List dL):cV->cS->Prop:=λB w=>∀x∈m,Ke x B w
def jy(m:List dL):vD (oL m):=Jq m λx _=>B8 x
def MH(e:m.n=n)(h:w.ownsRow w0.h.s 109 11 (bX (cu ⟨g,0,cw⟩) n c) n (ju m))(b:oL m B w)(d:∀x∈m,rD w0.h.s x):Ca w w0.h.s (bX (cu ⟨g,0,cw⟩) m.n c) m:=by subst e;exact⟨h,λx a=>⟨(b x a).1,d x a⟩⟩
section
attribute[local irreducible]wpList Code.wp Calls Oper.wp wpAnyH
def qH(b:dY)(A:gJ)(U:A=cM 2 (dO b))(O:zf b.t)(w:cS)(R:jd w b):CP_ 112 #[bV A] w λe w'=>∃B,e=cj (bV B)/\lV w' w.h.s B b.t/\dS w w':=by
 have Z:=O.len;have X:rC b.l:=O.2;obtain⟨E,l,ao,cap⟩:=b;change gC w (bX ao l.n cap) l at R;simp only at Z X;obtain⟨n,r⟩:=dG l.n;have f:=(dQ R.1);have R:=cz R;have HA:=cz U;have G:dO ⟨E,l,ao,cap⟩ 1=bX ao n cap:=by rw[<-r];rfl
 have u:=cz G;have N:=cz r;rw[r] at R Z;have S:=qP w;obtain⟨a2,T,Y,H,f⟩:=f;simp only[lX] at Y;obtain⟨rfl,-,rfl⟩:=Y;rw[r] at H f;have f:=cz f;clear U G r O;go_enter func112,ntmps112;go_upto_region 3 with(first|refine yT S rfl HA.o rfl λW1 S=>?_|refine Ey S 1 ae 1 (v:=bX ao n cap) u.o ?_|(refine ahR S (n:=n) Jp ae ae cN xY ae ae (Zr n) λg W S=>?_;replace S:=S.EH (X':=oL []) (λ_ _ _ x t=>by cases t) (jy []).me)|refine fu λW S=>?_);have S:=cz S;go_loopw [12] (λi wr=>∃(k:Nat)(m:List dL),k<=n/\i=bU cq k/\Hid (m.n=n/\ez (m.take k)=ez (l.take k)/\(∀x∈m.take k,rD w.h.s x)/\St w cw [] [⟨W1.h.s,99,2,dO xr⟩,⟨w.h.s,99,2,dO ⟨E,l,ao,cap⟩⟩] [⟨109,11,bX (s_ g 0) n n,n,ju m⟩] (oL (m.take k)) wr)) (λi _=>n-(intOf i).m);exact anA;clear S;obtain⟨k,m,hk,rfl,hS⟩:=hrel;obtain⟨d,a,c,S⟩:=hS.o;clear hS;by_cases I:k<n
 . (obtain⟨b,o,rfl⟩:=f.o cN;have j:k<l.n:=by rw[N.o];exact I);obtain⟨x,t⟩:=dG (l[k]);obtain⟨D,q⟩:=fU (cM 11 (iz x));have J:=cz (nC l j (A:=D) (by rw[t];exact q));have K:=cz q;have M:=mP j;rw[t] at M;have C9:=cz λW(s:dS w W)=>qv x D K.o (X.at M).1 W ((R.o.cP s).2 x M);have HX:=cz t;have C:=cz (And.intro d (And.intro a c));have p:k<m.n:=cN;have R1:Hid (dg w 109 11 (bX (s_ b o) n cap) n (ju l)):=cz (by have:=R.o.1;rwa [N.o] at this);clear q M t d a c;go_wp2_with (first|(first|refine Ey S 1 ae 1 (v:=bX (s_ b o) n cap) u.o ?_|refine CB (R1.o.cP S.b) I (vx K) J.o ?_)|(refine(C9.o _ S.b).mono ?_;rintro e W ⟨B,y,rfl,V,L,s⟩;have HB:=cz V;have HF:=cz (show rD w.h.s y from λr b s=>ik S.fr.size ((sG.of L.2).2 r b s));replace S:=S.A6 s L.2;have HY:=cz L.1;clear s V L)|refine ad8 S 0 rfl rfl k (by show k*11+11<=n*11;omega) rfl rfl HB.o uX (mI _) λW S=>?_);go_roundw;obtain⟨d,a,c⟩:=C.o;refine⟨k+1,m.set k y,cN,by go_num,cz ⟨by rw[xM];exact d,?_,?_,?_⟩⟩;rw[q7 m p,Fj l j,<-a,HX.o,<-HY.o];unfold ez;rw[nM];rfl;rw[q7 m p];intro z Q;rcases gH.1 Q with h|h;exact c z h;rw[fS.1 h];exact HF.o;rw[q7 m p,<-UI p y];refine S.EH (λB w h z Q=>?_) (jy _).me;rcases gH.1 Q with h2|h2;exact h.1 z h2;rw[fS.1 h2];exact h.2;exact qN
 . (obtain rfl:k=n:=cN;rw[nV cN] at a c S;rw[nV (by rw[N.o];exact eN _)] at a;have C:=cz (And.intro d (And.intro a c));obtain⟨D,q⟩:∃D:gJ,D=#[bU ct E,bX (s_ g 0) k k]:=⟨_,ae⟩;have F:D=cM 2 (dO ⟨E,m,s_ g 0,k⟩):=by rw[q,<-d];rfl);have K:=cz q;have a1:=cz F;clear q F d a c;go_wp2_with first|refine lE (cells:=D) ae (by rw[K.o];exact RM _ _ _ _) ?_|(refine mu ?_;exact⟨_,ae,⟨⟨E,m,s_ g 0,k⟩,ae,by unfold dY.t;rw[C.o.2.1],MH C.o.1 S.o0 S.x C.o.2.2⟩,S.b⟩)|refine fO ?_|refine fu λW S=>?_
def Fk(p:du->Bool)(l:List dL)(v:c7)(L:l.n<=1000000)(g:Nat)(E:gJ)(w:cS)(I:∀args w,(callFunc g args).run prog w=.ok (.enter g args) w)(R:gC w v l)(hc:∀(k:Nat)x A W,l[k]?=cu x->A=cM 11 (iz x)->dS w W->CP_ g (#[bV A]++E) W λe w'=>e=cj (bZ (p x.todu))/\dS W w'):
 sW 176 #[v,.func (.func g) #[] E] w (bU cq (lF ((ez l).findIdx? p))):=by
 obtain⟨ao,cap,rfl,F,m⟩:=dQ R.1;have G:=cz hc;clear hc;have R:=cz R;have m:=cz m;have S:=cz (qP w);go_enter func176,ntmps176;go_upto_region 2 with(fail);go_loopw [8] (λi wr=>∃k:Nat,k<=l.n/\i=bU cq k/\Hid ((∀(j:Nat)y,(ez l)[j]?=cu y->j<k->p y=cy)/\St w cw [] [] [] (λ_ _=>True) wr)) (λi _=>l.n-(intOf i).m);exact amo;clear S;obtain⟨k,K,rfl,hS⟩:=hrel;obtain⟨a,S⟩:=hS.o;clear hS;by_cases d:k<l.n
 . (obtain⟨b,o,rfl⟩:=m.o cN;obtain⟨x,u⟩:=dG (l[k]);obtain⟨A,s⟩:=fU (cM 11 (iz x));have f:=cz (nC l d (A:=A) (by rw[u];exact s));have n:l[k]?=cu x:=by rw[jG d,u]);have r:=cz λW H=>G.o k x A W n s H;have B:=cz s;have D:=cz n;have C:=cz a;clear s u n a;cases c:p x.todu with|true=>have q:=cz c;rw[c] at r;clear c;go_wp2_with (first|((with_reducible refine aQ_ ?_);refine CB (R.o.cP S.b).1 d (vx B) f.o ?_)|(show Calls _ _ _ _ _;refine je S (r.o _ S.b) λW S=>?_));go_ret;have c:(ez l).findIdx? p=cu k:=Cb (by rw[mZ,D.o];rfl) q.o C.o;exact⟨by rw[c];rfl,S.b⟩|false=>have q:=cz c;rw[c] at r;clear c;go_wp2_with (first|((with_reducible refine aQ_ ?_);refine CB (R.o.cP S.b).1 d (vx B) f.o ?_)|(show Calls _ _ _ _ _;refine je S (r.o _ S.b) λW S=>?_));go_roundw;refine⟨k+1,cN,by go_num,cz ⟨λj y z J=>?_,S⟩⟩;by_cases t:j=k;subst t;rw[mZ,D.o] at z;cases z;exact q.o;exact C.o j y z cN;exact qN
 . obtain rfl:k=l.n:=cN;have c:(ez l).findIdx? p=cw:=Cc (by rw[iv];exact a);have q:=cz c;clear c a;go_wp2;go_ret;exact⟨by rw[q.o];rfl,S.b⟩
theorem OM(x:dL)(A:gJ)(a:A=cM 11 (iz x))(id E:Nat)(w:cS)(h:cL w E 82 1 (λ_=>bU ct id)):sW 177 #[bV A,bW (cu ⟨E,0,cw⟩)] w (bZ (decide (x.id=id))):=by
 have d:=cz a;have H:=cz h;clear a h;have b:(((x.id:Nat):Int)==((id:Nat):Int))=decide (x.id=id):=by grind
 have c:=cz b;clear b;have S:=qP w;go_enter func177,ntmps177;go_wp2_with (first|((with_reducible refine aQ_ ?_);refine zw (cL.cell (H.o.cP S.b) (i:=0) cN) ?_)|refine fO ?_|refine fu λW S=>?_);go_ret;exact ane
def wK(l:List dL)(v:c7)(id:Nat)(h:l.n<=1000000)(w:cS)(R:gC w v l):sW 131 #[v,bU ct id] w (bU cq (lF (fp (ez l) id))):=by have R:=cz R;have b:∀args w,(callFunc 177 args).run prog w=.ok (.enter 177 args) w:=enters_of func177 dC ae;have d:=cz λ(f:gJ)W hR hc=>Fk (λx=>decide (x.id=id)) l v h 177 f W b hR hc;clear b;have S:=qP w;go_enter func131,ntmps131;go_wp2_with (first|(go_at_call 176;have c:=λ(k:Nat)(x:dL)(A:gJ)W'(_:l[k]?=cu x)(g:A=cM 11 (iz x))a=>OM x A g id _ W' (cL.cP S.k0 a);refine(d.o #[dF _ 0] _ (R.o.cP S.b) c).mono ?_;clear c;rintro e W ⟨rfl,a⟩;replace S:=S.cP a)|refine fu λW S=>?_);go_ret;exact az
def vE(cT:fM):Option fM:=
 match eW cT with
 |none=>cw
 |some (v,s)=>if s=tp then cu v else cw
def pF(cT:fM):Option (fM×fM):=
 match eW cT with
 |none=>cw
 |some (v,s)=>if s=tp then cw else cu (v,s)
def DI(s:fM)(d:s.s<=140737488355328)(w:cS):sW 140 #[bY s] w (cg #[bY ((vE s).getD tp),bU cq (gq 141 (vE s))]):=by
 have b:=cz (tG s d);have S:=qP w;rcases hn:eW s with _|p;have c:Hid (vE s=cw):=cz (by unfold vE;rw[hn]);rw[hn] at b;clear hn;rotate_left;obtain⟨v,t⟩:=p;rw[hn] at b;by_cases a:t=tp;have c:Hid (vE s=cu v):=cz (by unfold vE;rw[hn];simp only[a,oQ]);subst a;unfold tp at b;clear hn;rotate_left;have c:Hid (vE s=cw):=cz (by unfold vE;rw[hn];simp only[a,mS]);have e:=AU a;clear hn a
 all_goals
  rw[c.o];go_enter func140,ntmps140
  go_wp2_with refine je S (b.o _) λW S=>?_
  go_ret2;exact az
def Cd(s:fM)(d:s.s<=140737488355328)(w:cS):sW 111 #[bY s] w (cg #[bY ((pF s).getD (tp,tp)).1,bY ((pF s).getD (tp,tp)).2,bU cq (gq 141 (pF s))]):=by
 have b:=cz (tG s d);have S:=qP w;rcases hn:eW s with _|p;have c:Hid (pF s=cw):=cz (by unfold pF;rw[hn]);rw[hn] at b;clear hn;rotate_left;obtain⟨v,t⟩:=p;rw[hn] at b;by_cases a:t=tp;have c:Hid (pF s=cw):=cz (by unfold pF;rw[hn];simp only[a,oQ]);subst a;unfold tp at b;clear hn;rotate_left;have c:Hid (pF s=cu (v,t)):=cz (by unfold pF;rw[hn];simp only[a,mS]);have e:=AU a;clear hn a
 all_goals
  rw[c.o];go_enter func111,ntmps111
  go_wp2_with refine je S (b.o _) λW S=>?_
  go_ret3;exact az
def mi(s:List du)(cT:fM):Option Nat:=(nJ s cT).1.bind λk=>fp s (dH s k).id
theorem RN(s:List du)(cT:fM):(∃c:Int,c≠0/\nJ s cT=(cw,c))∨∃k,k<s.n/\nJ s cT=(cu k,0):=by unfold nJ;split;grind;split;grind;next i h1=>have a:i<s.n:=(I4.1 h1).1;split;grind;split;grind;next j h2=>exact .inr ⟨j,(I4.1 h2).1,ae⟩
def yb(b:dY)(A:gJ)(n:A=cM 2 (dO b))(j:zf b.t)(cT:fM)(l:cT.s<=140737488355328)(w:cS)(R:jd w b):sW 113 #[bV A,bY cT] w (bU cq (lF (mi b.t.cU cT))):=by
 have o:=j.len;have t:=cz n;have R:=cz R;have g:=cz λW(a:dS w W)=>Ho b.l b.sv cT l o j.2 W (R.o.cP a);have p:=cz λid W(a:dS w W)=>wK b.l b.sv id o W (R.o.cP a);have S:=qP w;clear n j;show Calls _ _ _ _ λe w'=>e=cj (bU cq (lF (mi (ez b.l) cT)))/\_;rcases RN (ez b.l) cT with⟨c,hc,d⟩|⟨k,u,d⟩
 . have i:Hid (mi (ez b.l) cT=cw):=cz (by unfold mi;rw[d];rfl);rw[d] at g;have s:(c !=0)=cx:=fK.2 hc;clear d hc;rw[i.o];go_enter func113,ntmps113;go_wp2_with (first|(refine ah (g.o _ S.b) λB W⟨⟨y,f,h,ho⟩,a⟩=>?_;have q:=cz f;replace S:=S.cP a;clear a f h)|refine fO ?_|refine fu λW S=>?_);go_ret;exact az
 . obtain⟨x,m⟩:=sV ((dH (ez b.l) k).id);have i:Hid (mi (ez b.l) cT=fp (ez b.l) x):=cz (by unfold mi;rw[d,<-m.o];rfl);rw[d] at g;rw[i.o];clear d;go_enter func113,ntmps113;go_wp2_with (first|(refine ah (g.o _ S.b) λB W⟨⟨y,f,h,ho⟩,a⟩=>?_;have q:=cz f;have r:Hid (Value.int ct y.id=bU ct x):=cz (by rw[<-m.o];show Value.int ct y.todu.id=_;rw[h];rfl);replace S:=S.cP a;clear a f h)|refine Ey S 0 ae 0 (v:=bU ct x) r.o ?_|refine je S (p.o x _ S.b) λW S=>?_|refine fO ?_|refine fu λW S=>?_);go_ret;exact az
def nK(s:List du)(cT:fM):Option Nat×Int:=
 match vE cT with
 |none=>(cw,141)
 |some _=>match mi s cT with
  |none=>(cw,172)
  |some i=>(cu i,0)
def Jr(b:dY)(A:gJ)(f:A=cM 2 (dO b))(g:zf b.t)(cT:fM)(c:cT.s<=140737488355328)(w:cS)(R:jd w b):sW 127 #[bV A,bY cT] w (cg #[bU cq (lF (nK b.t.cU cT).1),bU cq (nK b.t.cU cT).2]):=by
 have k:=cz f;have R:=cz R;have d:=cz (DI cT c);have a:=cz λW(h:dS w W)=>yb b A f g cT c W (R.o.cP h);have S:=qP w;clear f g;rcases hv:vE cT with _|vv;have e:Hid (nK b.t.cU cT=(cw,141)):=cz (by unfold nK;rw[hv]);rw[hv] at d;rotate_left;rw[hv] at d;rcases hi:mi b.t.cU cT with _|i;have e:Hid (nK b.t.cU cT=(cw,172)):=cz anU;rw[hi] at a;simp only[lF] at a;rotate_left;have e:Hid (nK b.t.cU cT=(cu i,0)):=cz anU;rw[hi] at a;simp only[lF] at a;have j:¬((i:Int)<0):=cN
 all_goals
  first|clear hv hi|clear hv
  rw[e.o];go_enter func127,ntmps127
  go_wp2_with first|refine je S (d.o _) λW S=>?_|refine je S (a.o _ S.b) λW S=>?_|refine fu λW S=>?_|refine fO ?_
  go_ret2;exact az
theorem St.DJ(S:St w0 d l L O X w)(h:dS w w')(ho:Ca w' w.h.s v m):
 St w0 d l L (⟨109,11,v,m.n,ju m⟩::O) (λB w=>X B w/\oL m B w) w':=by refine(S.iw h ho.1 ae ae).DH (jy m) λx f=>⟨(ho.2 x f).1,λg b c i=>?_⟩;have p:=(ho.2 x f).2 g b c;have k:=(ho.2 x f).1.ty c g;rcases iu.1 i with⟨r,j,e⟩|⟨o,a,e⟩;have:=S.lt b (iu.2 (.inl ⟨r,j,e⟩));omega;rcases iX.1 a with rfl|a;have n:=uR ho.1 e;grind;have:=S.lt b (iu.2 (.inr ⟨o,a,e⟩));omega
def u'(b:ej)(s:du):ej:=⟨iR b.next,b.cU++[s]⟩
def abj(n:Nat):IntKind.u64.wrap ((n:Int)+1)=((iR n:Nat):Int):=by rfl
def Js(b:dY)(A:gJ)(p:A=cM 2 (dO b))(q:zf b.t)(s:dL)(D:gJ)(t:D=cM 11 (iz s))(w:cS)(R:jd w b):
 CP_ 116 #[bV A,bV D] w λe w'=>∃(B:gJ)(m:List dL)(ao:Option Addr)(c:Nat),e=cj (bV B)/\B=cM 2 (dO ⟨iR b.next,m++[s],ao,c⟩)/\ez m=ez b.l/\
  w'.ownsRow w.h.s 109 11 (bX ao (m.n+1) c) (m.n+1) (ju (m++[s]))/\(∀x∈m,sG w' w.h.s x)/\dS w w':=by have G:=q.len;have J:=cz p;have L:=cz t;have R:=cz R;have u:=cz λW(g:dS w W)=>qH b A p q W (R.o.cP g);have S:=qP w;obtain⟨z,l,N,O⟩:=b;have Q:=abj z;simp only at G;clear p q t;go_enter func116,ntmps116;go_wp2_with first|(refine ah (u.o _ S.b) λB W⟨⟨⟨k,m,C,F⟩,r,hc,ho⟩,g⟩=>?_;obtain⟨d,a⟩:=ej.mk.inj hc;simp only at d a;subst d;have K:=cz r;have y:=cz a;have H:m.n<=1000000:=(by have o:=gQ length a;rw[iv,iv] at o;omega);have v:=cz (show∀x∈m,rD w.h.s x from λx h I b o=>ik S.fr.size ((ho.2 x h).2 I b o));replace S:=S.DJ g ho;change St _ _ _ _ (⟨109,11,bX C m.n F,m.n,ju m⟩::_) _ _ at S;clear g r hc a)|refine tE S 0 rfl 0 rfl rfl rfl rfl Jp (mI _) CU xY λn i W S=>?_|refine xD S 1 rfl 1 (dO ⟨k,m++[s],s_ n 0,i⟩) (λj f=>by have f:j<2:=f;rcases j with(_|_|j);rfl;show Value.slice _ (m++[s]).n _=_;rw[jv];rfl;omega) rh rfl rfl rfl sQ λW S=>?_|(refine xD S 1 ae 0 (dO ⟨iR k,m++[s],s_ n 0,i⟩) (λj f=>by have f:j<2:=f;rcases j with(_|_|j);rfl;rfl;omega) rh ae ae ae gi λW S=>?_;obtain⟨E,M⟩:=yw (cM 2 (dO ⟨iR k,m++[s],s_ n 0,i⟩)))|(refine mu ?_;exact⟨_,m,_,_,ae,ae,y.o,by rw[xq,UD];exact S.o0,λx h=>⟨(S.x.2 x h).1,v.o x h⟩,S.b⟩)|refine fO ?_|refine fu λW S=>?_
end
section
theorem St.MI(S:St w0 d l L O X w)(h:dS w w')(ho:w'.ownsRow w.h.s 109 11 v m.n (ju m))(f:∀x∈m,za w' x)(p:∀x∈m,0<x.df.n->∀b,x.dv.ownBlock=cu b->b∉eM L O):
 St w0 d l L (⟨109,11,v,m.n,ju m⟩::O) (λB w=>X B w/\oL m B w) w':=by refine(S.iw h ho ae ae).DH (jy m) λx g=>⟨f x g,λj b c i=>?_⟩;have k:=(f x g).ty c j;rcases iu.1 i with⟨r,q,e⟩|⟨o,a,e⟩;grind[iu];rcases iX.1 a with rfl|a;have n:=uR ho e;grind;grind[iu]
def St.kq(S:St w0 d l L O X w)(a:dS w w'){c:dY}(ho:u9 w' w.h.s c):
 St w0 d l L (⟨109,11,c.sv,c.l.n,ju c.l⟩::O) (λB w=>X B w/\oL c.l B w) w':=S.DJ a ho
def St.fresh(S:St w0 d l L O X w){c:dY}(ho:u9 w' w.h.s c):∀x∈c.l,rD w0.h.s x:=
 λx f e b a=>ik S.fr.size ((ho.2 x f).2 e b a)
def St.jK{c:dY}(S:St w0 d l L (⟨109,11,c.sv,c.l.n,ju c.l⟩::O) (λB w=>X B w/\oL c.l B w) w)(b:∀x∈c.l,rD w0.h.s x):u9 w w0.h.s c:=
 ⟨S.o0,λx a=>⟨(S.x.2 x a).1,b x a⟩⟩
end
def A7{n:Fi_}{t:ej}(S:St w0 d l L O X w)(C:CP_ n args w λe w'=>∃B,e=cj (F B)/\lV w' w.h.s B t/\dS w w')(h:∀W B c,Hid (B=cM 2 (dO c))->Hid (c.t=t)->Hid (∀x∈c.l,rD w0.h.s x)->St w0 d l L (⟨109,11,c.sv,c.l.n,ju c.l⟩::O) (λB w=>X B w/\oL c.l B w) W->R (cj (F B)) W):CP_ n args w R:=
 C.mono λe W ⟨B,he,⟨c,hB,hc,ho⟩,hb⟩=>by subst he;exact h W B c hB hc (S.fresh ho) (S.kq hb ho)
def Hq(w:cS)(x:dL)(a:x.df=[])(b:x.ee=cw)(c:x.cap=0):za w x:=by unfold za dL.dv;rw[a,b,c];exact dg.nil _ _ _
def iO(b:ej)(cT:fM)(a:Int):ej×Int:=
 match vE cT with
 |none=>(b,141)
 |some iK=>if a<1∨64<a then(b,176) else if 32<=b.cU.n then(b,175) else
  match mi b.cU cT with
  |some _=>(b,171)
  |none=>(u' b ⟨b.next,iK,cy,b.next,0,0,a.m,cY,[]⟩,0)
section
attribute[local irreducible]wpList Code.wp Calls Oper.wp wpAnyH
theorem MJ(b:dY)(A:gJ)(o:A=cM 2 (dO b))(u:zf b.t)(cT:fM)(q:cT.s<=140737488355328)(a:Int)(w:cS)(R:jd w b):
 CP_ 77 #[bV A,bY cT,bU cq a] w λe w'=>∃B,e=cj (cg #[bV B,bU cq (iO b.t cT a).2])/\lV w' w.h.s B (iO b.t cT a).1/\dS w w':=by
 have Q:=cz o;have R:=cz R;have G:=cz (DI cT q);have l:=cz λW(d:dS w W)=>yb b A o u cT q W (R.o.cP d);have I:=cz λW(d:dS w W)=>qH b A o u W (R.o.cP d);have z:=cz λs D p W(d:dS w W)=>Js b A o u s D p W (R.o.cP d);have S:=qP w;have E:b.l.n=b.t.cU.n:=(iv _).symm;clear o u;obtain⟨T,j⟩:=sV (iO b.t cT a);rw[j.o];go_enter func77,ntmps77;go_upto_region 2 with(first|refine je S (G.o _) λW S=>?_|refine fu λW S=>?_);rcases hv:vE cT with _|iK;obtain rfl:(b.t,141)=T:=by rw[<-j.o];unfold iO;rw[hv]
 rotate_left;by_cases r:a<1∨64<a;obtain rfl:(b.t,176)=T:=by rw[<-j.o];unfold iO;rw[hv];simp only[r,oQ]
 rotate_left;have U:¬a<1:=cN;have V:¬64<a:=cN;by_cases y:32<=b.t.cU.n;obtain rfl:(b.t,175)=T:=by rw[<-j.o];unfold iO;rw[hv];simp only[r,y,oQ,mS]
 have N:(32:Int)<=(b.l.n:Int):=cN;rotate_left;have N:¬(32:Int)<=(b.l.n:Int):=cN;rcases f:mi b.t.cU cT with _|i;obtain⟨n,rfl⟩:∃n:Nat,a=n:=⟨a.m,cN⟩;obtain rfl:(u' b.t ⟨b.next,iK,cy,b.next,0,0,n,cY,[]⟩,0)=T:=by rw[<-j.o];unfold iO;rw[hv];simp only[r,y,mS,f];rfl
 rw[f] at l;simp only[lF] at l;obtain⟨D,p⟩:=fU (cM 11 (iz ⟨⟨b.next,iK,cy,b.next,0,0,n,cY,[]⟩,cw,0⟩));have H:=cz (z.o _ D p);have L:=cz p;clear p z;rotate_left;obtain rfl:(b.t,171)=T:=by rw[<-j.o];unfold iO;rw[hv];simp only[r,y,mS,f]
 rw[f] at l;simp only[lF] at l
 all_goals
  go_wp2_with first|refine jl 29 97 28 S 1 1 (bX b.ee b.l.n b.cap) ?_|refine A7 S (I.o _ S.b) λW B c J K v S=>?_|refine je S (l.o _ S.b) λW S=>?_|refine lE (cells:=D) ae (by rw[L.o];kernel_rfl) ?_|(refine(H.o _ S.b).mono ?_;rintro e W ⟨B,m,ao,c,rfl,C,F,ho,t,d⟩;have J:=cz C;have M:=cz F;have v:=cz (show∀x∈m,rD w.h.s x from λx g f b k=>ik S.fr.size ((t x g).2 f b k));replace S:=S.MI d (m:=m++[_]) (by rw[jv];exact ho) (λx g=>by rcases gH.1 g with h|h;exact(t x h).1;rw[fS.1 h];exact Hq _ _ ae ae ae) (λx g f b k O=>by rcases gH.1 g with h|h;have:=(t x h).2 f b k;have:=S.lt b O;omega;grind);clear d C t F)|refine fO ?_|refine fu λW S=>?_|(refine mu ?_;exact⟨_,ae,⟨c,ae,K.o,S.jK v.o⟩,S.b⟩)|(refine mu ?_;exact⟨_,ae,⟨_,ae,by unfold dY.t u' ez;rw[nM];simp only;rw[show map dL.todu m=ez m from ae,M.o];rfl,by have k:=S.o0;exact⟨by unfold dY.sv;rw[jv] at k|-;exact k,λx g=>⟨(S.x.2 x g).1,by rcases gH.1 g with h|h;exact v.o x h;grind⟩⟩⟩,S.b⟩)
def SE1(w0:cS)(d:Option Nat)(l:cV)(rs:List R4):cS->Prop:=λW=>∃L O X,St w0 d l L O X W/\∀r∈rs,r∈L
theorem SE1.row(h:SE1 w0 d l rs W)(k:Nat){r:R4}(a:rs[k]?=cu r):cL W r.b r.t r.n r.f:=by obtain⟨L,O,X,S,b⟩:=h;exact(S.row r (b r (lu a))).1
theorem SE1.fr{w0 W:cS}{d:Option Nat}{l:cV}{rs:List R4}(h:SE1 w0 d l rs W):Fr d l w0 W:=by obtain⟨L,O,X,S,a⟩:=h;exact S.fr
def eR(S:St w0 d l L O X w){id:Nat}(b:P.follows .mixedOrders=cx)(rs:List R4)(c:∀r∈rs,r∈L)(h:∀W,St w0 d l L O X W->wpAnyH P .any ops Q (SE1 w0 d l rs) ops.s (Array.replicate ops.s cy) a W):(Code.region id ops cx).wp P Q a w:=
 wp_region_held_drew b ⟨L,O,X,S.drew,c⟩ λ_=>h _ S.drew
theorem wi{l:List dL}(h:mi (ez l) cT=cu k):∃x,l[k]?=cu x:=by unfold mi at h;cases a:(nJ (ez l) cT).1 with|none=>grind|some j=>grind[kP,dH,ez]
theorem UJ{x:Nat}{o:Nat}{s:dL}(e:∀w,SS w->nD w b o s)(k:a.eval (.tmp x)=bW (cu ⟨b,o+7,cw⟩))(d:A=cM 3 (dE s.cO))(i:Region.wanted ⟨cu dst,.load 106 (.tmp x),t2,pp,af,gd⟩ (yielded ops a.tmps)=cx:=by kernel_rfl):YieldsIf prog ops SS ⟨cu dst,.load 106 (.tmp x),t2,pp,af,gd⟩ (bV A) a:=by obtain⟨⟨c,g,f⟩,l⟩:=fL;have h:=yieldsIf_load_mid (P:=prog) (S:=SS) (op:=⟨cu dst,.load 106 (.tmp x),t2,pp,af,gd⟩) (ops:=ops) i 106 (.tmp x) ae b (o+7) k A.t c (λw h=>?_) g f aG;omega;intro j v hv;rw[d,nL (xs:=cM 3 _),dy] at hv;split at hv;(next hj=>cases hv;rw[FP,e w h (7+j) cN];unfold iz;grind);cases hv
def jA(b:ej)(a c:fM):ej×Int:=
 match pF a with
 |none=>(b,141)
 |some _=>match vE c with
  |none=>(b,141)
  |some iK=>match mi b.cU a with
   |none=>(b,172)
   |some i=>if 32<=b.cU.n then(b,175) else match mi b.cU c with
    |some _=>(b,171)
    |none=>(u' b ⟨b.next,iK,cy,b.next,(dH b.cU i).id,0,(dH b.cU i).blocks,(dH b.cU i).cO,[]⟩,0)
theorem ON(b:dY)(A:gJ)(C:A=cM 2 (dO b))(J:zf b.t)(a d:fM)(L:a.size<=140737488355328)(M:d.size<=140737488355328)(w:cS)(R:jd w b):
 CP_ 97 #[.agg A,.string a,.string d] w λe w'=>∃B,e=.returned (.tuple #[.agg B,.int .i64 (jA b.t a d).2])/\lV w' w.heap.size B (jA b.t a d).1/\dS w w':=by
 have HA:=cz C;have N:=cz R;have C1:=cz (Cd a L);have C5:=cz (DI d M);have C2:=cz λW(o:dS w W)=>yb b A C J a L W (N.o.cP o);have t:=cz λW(o:dS w W)=>yb b A C J d M W (N.o.cP o);have E:=cz λW(o:dS w W)=>qH b A C J W (N.o.cP o);have Z:=cz λs D F W(o:dS w W)=>Js b A C J s D F W (N.o.cP o);have S:=qP w;have a3:b.l.length=b.t.cU.length:=(iv _).symm;obtain⟨ao,cap,-,a1,a5⟩:=dQ R.1;clear C J;obtain⟨T,Y⟩:=dG (jA b.t a d);have y:=cz Y;rw[Y];clear Y;go_enter func97,ntmps97;go_upto_region 2 with(first|refine je S (C1.o _) λW S=>?_|refine fu λW S=>?_)
 cases hv:pF a with
 |none=>
  obtain rfl:(b.t,141)=T:=by rw[<-y.o];unfold jA;rw[hv]
  go_wp2_with first|refine A7 S (E.o _ S.b) λW B c u p g S=>?_|(refine mu ?_;exact⟨_,ae,⟨c,ae,p.o,S.jK g.o⟩,S.b⟩)|refine fO ?_|refine fu λW S=>?_
 |some vv=>
  go_upto_region 5 with(refine je S (C5.o _) λW S=>?_)
  cases l:vE d with
  |none=>
   obtain rfl:(b.t,141)=T:=by rw[<-y.o];unfold jA;rw[hv];simp only[l]
   go_wp2_with first|refine A7 S (E.o _ S.b) λW B c u p g S=>?_|(refine mu ?_;exact⟨_,ae,⟨c,ae,p.o,S.jK g.o⟩,S.b⟩)|refine fO ?_|refine fu λW S=>?_
  |some iK=>
   go_upto_region 8 with(first|refine je S (C2.o _ S.b) λW S=>?_|refine fO ?_)
   cases q:mi b.t.cU a with
   |none=>
    obtain rfl:(b.t,172)=T:=by rw[<-y.o];unfold jA;rw[hv];simp only[l,q]
    simp only[lF]
    go_wp2_with (first
   |refine A7 S (E.o _ S.b) λW B c u p g S=>?_
   |(refine mu ?_;exact⟨_,ae,⟨c,ae,p.o,S.jK g.o⟩,S.b⟩)
   |refine fO ?_
   |refine fu λW S=>?_)
   |some i=>
    simp only[lF];have a6:¬((i:Int)<0):=cN;by_cases X:32<=b.t.cU.length
    . obtain rfl:(b.t,175)=T:=by rw[<-y.o];unfold jA;rw[hv];simp only[l,q,X,oQ]
      have h5:(32:Int)<=(b.l.length:Int):=cN
      go_wp2_with first|(first|refine jl 44 97 43 S 1 1 (.slice b.ee b.l.length b.cap) ?_)|refine A7 S (E.o _ S.b) λW B c u p g S=>?_|(refine mu ?_;exact⟨_,ae,⟨c,ae,p.o,S.jK g.o⟩,S.b⟩)|refine fO ?_|refine fu λW S=>?_
    . have h5:¬(32:Int)<=(b.l.length:Int):=cN
      go_upto_region 12 with(refine jl 44 97 43 S 1 1 (.slice b.ee b.l.length b.cap) ?_)
      cases r:mi b.t.cU d with
      |some j=>
       obtain rfl:(b.t,171)=T:=by rw[<-y.o];unfold jA;rw[hv];simp only[l,q,X,mS,r]
       rw[r] at t;simp only[lF] at t
       go_wp2_with first|refine je S (t.o _ S.b) λW S=>?_|refine A7 S (E.o _ S.b) λW B c u p g S=>?_|(refine mu ?_;exact⟨_,ae,⟨c,ae,p.o,S.jK g.o⟩,S.b⟩)|refine fO ?_|refine fu λW S=>?_
      |none=>
       rw[r] at t;simp only[lF] at t;obtain⟨x,f⟩:=wi q;have a7:=(oF.1 f).1;have a2:(i:Int)<(b.l.length:Int):=cN;have hg:dH b.t.cU i=x.todu:=lG f;obtain rfl:(u' b.t ⟨b.next,iK,false,b.next,x.id,0,x.blocks,x.cO,[]⟩,0)=T:=by rw[<-y.o];unfold jA;rw[hv];simp only[l,q,X,mS,r,hg];rfl
       obtain⟨D,F⟩:=fU (cM 11 (iz ⟨⟨b.next,iK,false,b.next,x.id,0,x.blocks,x.cO,[]⟩,none,0⟩));obtain⟨G,hG⟩:=fU (cM 3 (dE x.cO));have C4:=cz (Z.o _ D F);have HD:=cz F;have HG:=cz hG;obtain⟨k,n,I⟩:∃k n,b.ee=s_ k n:=by
        obtain⟨_,_,V,_,h⟩:=dQ R.1;unfold dY.sv at V;simp only[lX] at V;obtain⟨h1,o1,h2⟩:=h cN;exact⟨h1,o1,by rw[V.1];exact h2⟩
       have Q:Hid (dO b 1=.slice (s_ k n) b.l.length b.cap):=cz (by rw[<-I];rfl);have R9:gC w (.slice (s_ k n) b.l.length b.cap) b.l:=by have:=R;unfold jd dY.sv at this;rwa [I] at this
       have U:=cz (R9.at f);clear F Z hG
       go_upto_region 15 with(first|refine je S (t.o _ S.b) λW S=>?_|refine Ey S 1 ae 1 (v:=.slice (s_ k n) b.l.length b.cap) Q.o ?_|refine fO ?_)
       refine eR S dC [⟨w.heap.size,99,2,dO b⟩] Cz λW S=>?_;refine ij 0 (.agg A) ae (rA bf ae HA.o nU) ?_;refine dh 1 (dF w.heap.size 0) ?_;refine dh 2 (.int .u64 b.next) ?_;refine dh 3 _ ?_;refine dh 4 (dF w.heap.size 0) ?_;refine dh 5 (.int .u64 b.next) ?_;refine dh 6 _ ?_;refine dh 7 (dF k (n+i*11)) ?_;refine dh 8 (dF k (n+i*11)) ?_;refine ij 9 (.int .u64 x.id) ae (gW (λw h=>(U.o.cP h.fr.cP).c0) ae gi) ?_;refine dh 10 _ ?_;refine dh 11 (dF k (n+i*11)) ?_;refine dh 12 (dF k (n+i*11+6)) ?_;refine ij 13 (.int .i64 x.blocks) ae (gW (λw h=>(U.o.cP h.fr.cP).c6) ae Dy) ?_;refine dh 14 _ ?_;refine dh 15 (dF k (n+i*11)) ?_;refine dh 16 (dF k (n+i*11+7)) ?_;refine ij 17 (.agg G) ae (UJ (λw h=>U.o.cP h.fr.cP) ae HG.o) ?_;refine ij 18 (.agg D) ae (yU ae (by rw[HD.o,HG.o];kernel_rfl)) ?_;refine kK 19 λK H=>?_
       go_wp2_with fail
       refine(C4.o _ S.b).mono ?_;rintro e W ⟨B,m,a4,c,rfl,hB,hm,ho,O,o⟩;have u:=cz hB;have HM:=cz hm;have g:=cz (show∀x∈m,rD w.heap.size x from λx f q b z=>ik S.fr.size ((O x f).2 q b z));replace S:=S.MI o (m:=m++[_]) (by rw[jv];exact ho) (λx f=>by rcases gH.1 f with h|h;exact(O x h).1;rw[fS.1 h];exact Hq _ _ ae ae ae) (λx f q b z h8=>by rcases gH.1 f with h|h;have:=(O x h).2 q b z;have:=S.lt b h8;omega;grind);clear o hB ho O hm;refine gy H ?_;clear H K;refine kK 20 λK H=>?_;refine km S 0 ae ae ae u.o nU (fW _) λW S=>?_;refine gy H ?_;clear H K;refine dh 21 _ ?_;refine qG ?_
       go_wp2_with (refine mu ?_;exact⟨_,ae,⟨_,ae,by unfold dY.t u' ez;rw[nM];simp only;rw[show map dL.todu m=ez m from ae,HM.o];rfl,by have z:=S.o0;exact⟨by unfold dY.sv;rw[jv] at z|-;exact z,λx f=>⟨(S.x.2 x f).1,by rcases gH.1 f with h|h;exact g.o x h;grind⟩⟩⟩,S.b⟩)
end
section
variable {x:Nat}
theorem Zt(c:w.there b i 1)(m:a.eval (.tmp x)=bW (cu ⟨b,i,cw⟩))(n:a.eval q=v)(hv:v.oneCell'=cx)(e:lD P ty)(h:K (a.put cw undef) (w.setCell ⟨b,i,cw⟩ v)):Oper.wp P ⟨cw,.store ty (.tmp x) q,t2,p,af,cw⟩ a w K Q:=by
 have d:=Mo (P:=P) b i [v] 0 w (λj g=>by simpa using(c j cN).1) (λj g=>by simpa using(c j cN).2) (λu o=>by grind);have hc:v.cells=#[v]:=by cases v<;>first|rfl|cases hv
 have f:(storeVar ty ⟨b,i,cw⟩ v).run P w=.ok () (w.setCell ⟨b,i,cw⟩ v):=by cases k:P.info? ty with|none=>have:=e.2;grind|some it=>(have l:it.s=1:=by have:=e.2;grind);simp only[xK] at d;simp[storeVar,sizeOf,typeInfo,k,hc,l,d];rfl
 unfold Oper.wp execOp;simp only[m,n,Instr.storeAt,Instr.sureAddr,lx,rN,nX,f];exact h
def MK(S:St w0 d l L O X w)(j:Nat)(r:O[j]?=cu o)(hv:o.v=bX (cu ⟨g,0,cw⟩) o.n c)(i:Nat)(z:i<o.n*o.z)(u:a.eval (.tmp x)=bW (cu ⟨g,i,cw⟩))(y:a.eval q=v)(e:v.oneCell'=cx)(t:lD P ty)(h:∀W,St w0 d l L (O.set j ⟨o.e,o.z,o.v,o.n,o.xs.set i v⟩) X W->K (a.put cw undef) W):Oper.wp P ⟨cw,.store ty (.tmp x) q,t2,p,af,cw⟩ a w K Q:=by
 have b:=S.uV r;rw[hv] at b;obtain⟨m,f,s,A⟩:=AY b;refine Zt (nT s (n:=1) cN) u y e t (h _ ?_);have k:o.v.ownBlock=cu g:=by rw[hv];rfl
 exact ans
end
theorem wj(c:k<m.n){x:dL}(e:m[k]=x)(j:Nat)(f:j<11)(v:c7)(y:dL)(h:∀i,i<11->iz y i=if i=j then v else iz x i):(ju m).set (k*11+j) v=ju (m.set k y):=by refine MG AV m c y (by grind[oA]) (λi b=>?_) λi r d g=>?_;unfold UC;rw[nL (xs:=cM 11 _),dy,c8 b,h i b];by_cases a:i=j;subst a;rw[getElem?_set_self (by rw[oA];omega),c8 ae];rw[getElem?_set_ne cN,cX a,nC m c (A:=cM 11 (iz x)) (by rw[e]) i b,dy,c8 b];grind[ju]
theorem xF{cT iK dz:fM}(h:eW cT=cu (iK,dz)):ff iK=cx:=by grind[eW]
theorem RO{iK dz:fM}(h:pF cT=cu (iK,dz)):iK.s<=140737488355328:=by grind[pF,mH,xF]
def iH(b:ej)(cT:fM)(cR:Nat):ej×Int:=
 match pF cT with
 |none=>(b,141)
 |some (iK,dz)=>match mi b.cU iK with
  |none=>(b,172)
  |some i=>if 32<=b.cU.n then(b,175) else match mi b.cU cT with
   |some _=>(b,171)
   |none=>if cR<1∨281474976710655<cR∨cR<=gr b.cU (dH b.cU i).id then(b,176) else
    (⟨iR b.next,(b.cU++[{dH b.cU i with id:=b.next,name:=dz,dz:=cx,cZ:=(dH b.cU i).id,cR:=cR}]).set i {dH b.cU i with dB:=b.next,df:=[]}⟩,0)
theorem ad9{l:List dL}{s a x:dL}{p q:du}(b:ez m=ez l)(c:s.todu=p)(d:a.todu=q):ez ((m++[s]).set i a)=(ez l++[p]).set i q:=by grind[ez,map_set]
theorem Jt{y x:dL}(h:y.todu=x.todu):y.id=x.id/\y.name=x.name/\y.dz=x.dz/\y.cZ=x.cZ/\y.dB=x.dB/\y.cR=x.cR/\y.blocks=x.blocks/\y.cO=x.cO/\y.df=x.df:=
 by grind
section
attribute[local irreducible]wpList Code.wp Calls Oper.wp wpAnyH
def RQ (b:dY)(A:gJ)(hA:A=cM 2 (dO b))(hf:zf b.t)(cT:fM)(hfu:cT.s<=140737488355328)(cR:Nat)(w:cS)(R:jd w b):
 CP_ 54 #[bV A,bY cT,bU ct cR] w λe w'=>∃B,e=cj (cg #[bV B,bU cq (iH b.t cT cR).2])/\lV w' w.h.s B (iH b.t cT cR).1/\dS w w':=by
 have HA:=cz hA;have HR:=cz R;have C1:=cz (Cd cT hfu);have C2:=cz λcT hfu W (hb:dS w W)=>yb b A hA hf cT hfu W (HR.o.cP hb);have C7:=cz λid W (hb:dS w W)=>EF b.l b.sv id hf.len W (HR.o.cP hb);have C9:=cz λW (hb:dS w W)=>qH b A hA hf W (HR.o.cP hb);have C3:=cz λs D hD W (hb:dS w W)=>Js b A hA hf s D hD W (HR.o.cP hb);have hd:rC b.l:=hf.2;have S:=qP w;have HL:=cz (show b.l.n=b.t.cU.n from(iv _).symm);obtain⟨ao,cap,-,hcap,hao⟩:=dQ R.1;clear hA hf;obtain⟨T,hT⟩:=dG (iH b.t cT cR);have HT:=cz hT;rw[hT];clear hT;go_enter func54,ntmps54
 go_upto_region 2 with(first|(first|refine jx 3 99 0 S HA.o λW S=>?_|refine jb 6 99 S sR ot λW S=>?_)|(refine je S (C1.o _) λW S=>?_))
 cases hv:pF cT with
 | none=>
  obtain rfl: (b.t,141)=T:=by rw[<-HT.o];unfold iH;rw[hv]
  go_wp2_with (first|(refine jr 23 99 3 S 1 HA.o ?_)|refine js 99 6 24 S 0 HB.o (fW _) λW S=>?_|(refine A7 S (C9.o _ S.b) λW B c HB HC HF S=>?_)|((with_reducible refine s6 ?_);go_must (refine oW S 0 rfl rfl rfl nU rfl ?_;exact⟨_,rfl,⟨c,rfl,HC.o,S.jK HF.o⟩,S.b⟩)))
 | some vv=>
  obtain⟨iK,dz⟩:=vv;have hvs:=RO hv
  go_upto_region 5 with(first|(with_reducible refine jr 26 99 3 S 1 HA.o ?_)|(go_at_call 113;refine je S (C2.o iK hvs _ S.b) λW S=>?_))
  cases hn:mi b.t.cU iK with
  | none=>
   obtain rfl: (b.t,172)=T:=by rw[<-HT.o];unfold iH;rw[hv];simp only[hn]
   simp only[lF]
   go_wp2_with (first|(with_reducible refine jr 31 99 3 S 1 HA.o ?_)|with_reducible refine js 99 6 32 S 0 HB.o (fW _) λW S=>?_|(go_at_call 112;refine A7 S (C9.o _ S.b) λW B c HB HC HF S=>?_)|((with_reducible refine s6 ?_);go_must (refine oW S 0 rfl rfl rfl nU rfl ?_;exact⟨_,rfl,⟨c,rfl,HC.o,S.jK HF.o⟩,S.b⟩)))
  | some i=>
   simp only[lF];have hi0: ¬((i:Int)<0):=cN;by_cases h4:32<=b.t.cU.n
   . obtain rfl: (b.t,175)=T:=by rw[<-HT.o];unfold iH;rw[hv];simp only[hn,h4,oQ]
     have h5: (32:Int)<=(b.l.n:Int):=by have:=HL.o;omega
     go_wp2_with (first|(with_reducible first|refine jl 34 97 33 S 1 1 (bX b.ee b.l.n b.cap) ?_|refine jr 37 99 3 S 1 HA.o ?_)|with_reducible refine js 99 6 38 S 0 HB.o (fW _) λW S=>?_|(go_at_call 112;refine A7 S (C9.o _ S.b) λW B c HB HC HF S=>?_)|((with_reducible refine s6 ?_);go_must (refine oW S 0 rfl rfl rfl nU rfl ?_;exact⟨_,rfl,⟨c,rfl,HC.o,S.jK HF.o⟩,S.b⟩)))
   . have h5: ¬(32:Int)<=(b.l.n:Int):=by have:=HL.o;omega
     go_upto_region 9 with(first|(with_reducible refine jl 34 97 33 S 1 1 (bX b.ee b.l.n b.cap) ?_))
     have C6:=cz (C2.o cT hfu);cases hn2:mi b.t.cU cT with
     | some j=>
      obtain rfl: (b.t,171)=T:=by rw[<-HT.o];unfold iH;rw[hv];simp only[hn,h4,mS,hn2]
      rw[hn2] at C6;simp only[lF] at C6
      go_wp2_with (first|(with_reducible first|refine jr 39 99 3 S 1 HA.o ?_|refine jr 43 99 3 S 1 HA.o ?_)|with_reducible refine js 99 6 44 S 0 HB.o (fW _) λW S=>?_|(go_at_call 113;refine je S (C6.o _ S.b) λW S=>?_)|(go_at_call 112;refine A7 S (C9.o _ S.b) λW B c HB HC HF S=>?_)|((with_reducible refine s6 ?_);go_must (refine oW S 0 rfl rfl rfl nU rfl ?_;exact⟨_,rfl,⟨c,rfl,HC.o,S.jK HF.o⟩,S.b⟩)))
     | none=>
      rw[hn2] at C6;simp only[lF] at C6;obtain⟨x,hx⟩:=wi hn;have hil:=(oF.1 hx).1;have hil2: (i:Int)< (b.l.n:Int):=cN;have hg:dH b.t.cU i=x.todu:=lG hx;obtain⟨bb,oo,hbo⟩: ∃bb oo,b.ee=s_ bb oo:=by
       obtain⟨_,_,e1,_,h⟩:=dQ R.1;unfold dY.sv at e1;simp only[lX] at e1;obtain⟨h1,o1,h2⟩:=h cN;exact⟨h1,o1,by rw[e1.1];exact h2⟩
      have HBV:Hid (dO b 1=bX (s_ bb oo) b.l.n b.cap):=cz (by rw[<-hbo];rfl);have R9:gC w (bX (s_ bb oo) b.l.n b.cap) b.l:=by have:=R;unfold jd dY.sv at this;rwa [hbo] at this
      have HX:=cz (R9.at hx);have HR9:=cz R9;have C8:=cz (C7.o x.id);have hsv:b.sv=bX (s_ bb oo) b.l.n b.cap:=by unfold dY.sv;rw[hbo]
      rw[hsv] at C8;obtain⟨fl,hfl⟩:=dG (gr (ez b.l) x.id);rw[hfl] at C8
      go_upto_region 12 with(first|(with_reducible first|refine jr 39 99 3 S 1 HA.o ?_|refine jo 50 82 49 ((HX.o.cP S.b).c0) ?_)|(go_at_call 113;refine je S (C6.o _ S.b) λW S=>?_)|((with_reducible refine aQ_ ?_);refine Ey S 1 rfl 1 (v:=bX (s_ bb oo) b.l.n b.cap) HBV.o ?_))
      by_cases h6:cR<1∨281474976710655<cR∨cR<=gr b.t.cU (dH b.t.cU i).id
      . obtain rfl: (b.t,176)=T:=by rw[<-HT.o];unfold iH;rw[hv];simp only[hn,h4,mS,hn2,h6,oQ]
        rw[hg] at h6;rw[show gr b.t.cU x.id=fl from hfl] at h6;by_cases h7:cR<1
        . have h8: ((cR:Int)<1):=cN
          go_wp2_with (first|(with_reducible refine jr 65 99 3 S 1 HA.o ?_)|with_reducible refine js 99 6 66 S 0 HB.o (fW _) λW S=>?_|(go_at_call 112;refine A7 S (C9.o _ S.b) λW B c HB HC HF S=>?_)|((with_reducible refine s6 ?_);go_must (refine oW S 0 rfl rfl rfl nU rfl ?_;exact⟨_,rfl,⟨c,rfl,HC.o,S.jK HF.o⟩,S.b⟩)))
        . have h8: ¬((cR:Int)<1):=cN;by_cases h9:281474976710655<cR
          . have h10: ((281474976710655:Int)< (cR:Int)):=cN
            go_wp2_with (first|(with_reducible refine jr 65 99 3 S 1 HA.o ?_)|with_reducible refine js 99 6 66 S 0 HB.o (fW _) λW S=>?_|(go_at_call 112;refine A7 S (C9.o _ S.b) λW B c HB HC HF S=>?_)|((with_reducible refine s6 ?_);go_must (refine oW S 0 rfl rfl rfl nU rfl ?_;exact⟨_,rfl,⟨c,rfl,HC.o,S.jK HF.o⟩,S.b⟩)))
          . have h10: ¬((281474976710655:Int)< (cR:Int)):=cN;have h11: ((cR:Int)<=(fl:Int)):=cN
            go_wp2_with (first|(with_reducible refine jr 65 99 3 S 1 HA.o ?_)|with_reducible refine js 99 6 66 S 0 HB.o (fW _) λW S=>?_|((with_reducible refine aQ_ ?_);refine Ey S 1 rfl 1 (v:=bX (s_ bb oo) b.l.n b.cap) HBV.o ?_)|(go_at_call 114;refine je S (C8.o _ S.b) λW S=>?_)|(go_at_call 112;refine A7 S (C9.o _ S.b) λW B c HB HC HF S=>?_)|((with_reducible refine s6 ?_);go_must (refine oW S 0 rfl rfl rfl nU rfl ?_;exact⟨_,rfl,⟨c,rfl,HC.o,S.jK HF.o⟩,S.b⟩)))
      . rw[hg] at h6;obtain rfl: (⟨iR b.next,(ez b.l++[{x.todu with id:=b.next,name:=dz,dz:=cx,cZ:=x.id,cR:=cR}]).set i {x.todu with dB:=b.next,df:=[]}⟩,0)=T:=by
         rw[<-HT.o];unfold iH;rw[hv];simp only[hn,h4,mS,hn2,hg,h6];rfl
        rw[show gr b.t.cU x.id=fl from hfl] at h6;have h8: ¬((cR:Int)<1):=cN;have h10: ¬((281474976710655:Int)< (cR:Int)):=cN;have h11: ¬((cR:Int)<=(fl:Int)):=cN;obtain⟨E,hE⟩:=fU (cM 11 (iz x));have hxx:=(oF.1 hx).2;have hsub:=cz (nC b.l hil (A:=E) (by rw[hxx];exact hE));have hm:=lu hx;have CC:=cz λW (hb:dS w W)=>qv x E hE (hd.at hm).1 W ((HR.o.cP hb).2 x hm);have HE:=cz hE;have HXE:Hid (b.l[i]'hil=x):=cz hxx;clear hE hxx hm hx hg hn hn2 hv hfl h6
        go_upto_region 17 with(first|(with_reducible first|refine jl 74 82 73 S 2 0 (bU ct b.next) ?_|refine jr 83 99 3 S 2 HA.o ?_|refine jr 84 109 13 S 0 HE2.o ?_)|(with_reducible first|refine jb 13 109 S xP pS λW S=>?_|refine js 109 13 72 S 0 HB.o (mI _) λW S=>?_|refine jb 14 99 S sR ot λW S=>?_|refine js 99 14 85 S 0 HB3.o (fW _) λW S=>?_)|((with_reducible refine aQ_ ?_);first | refine Ey S 1 rfl 1 (v:=bX (s_ bb oo) b.l.n b.cap) HBV.o ?_ | refine CB (HR9.o.cP S.b).1 hil (vx HE) hsub.o ?_)|(go_at_call 114;refine je S (C8.o _ S.b) λW S=>?_)|(go_at_call 115;refine(CC.o _ S.b).mono ?_;rintro e W5 ⟨B,y,rfl,hB,hY,hb⟩;have HB:=cz hB;have HFy:=cz (show rD w.h.s y from λhn b hb=>ik S.fr.size ((sG.of hY.2).2 hn b hb));replace S:=S.A6 hb hY.2;have HY:=cz hY.1;clear hb hB hY)|((with_reducible refine wI 82 78 74 ?_);refine vC S 0 rfl 0 (v:=bU ct b.next) rh rfl rfl rfl gi λW S=>?_)|((with_reducible refine wI 9 79 75 ?_);refine vC S 0 rfl 1 (v:=bY dz) rh rfl rfl rfl Gr λW S=>?_)|((with_reducible refine adK 4 80 ?_);refine vC S 0 rfl 2 (v:=bZ cx) rh rfl rfl rfl tX λW S=>?_)|((with_reducible refine wI 82 81 76 ?_);refine vC S 0 rfl 3 (v:=bU ct x.id) rh rfl rfl rfl gi λW S=>?_)|((with_reducible refine wI 82 82 77 ?_);refine vC S 0 rfl 5 (v:=bU ct cR) rh rfl rfl rfl gi λW S=>?_;obtain⟨ys,hys⟩: ∃ys:dL,ys=⟨⟨b.next,dz,cx,x.id,y.dB,cR,y.blocks,y.cO,y.df⟩,y.ee,y.cap⟩:=⟨_,rfl⟩;have HYS:=cz hys;replace S:=S.xO (k:=0) rfl (g:=iz ys) (λi hi=>by have hi:i<11:=hi;rw[hys];rcases i with(_|_|_|_|_|_|_|_|_|_|_|i) <;> first | rfl);obtain⟨E2,hE2⟩:=fU (cM 11 (iz ys));have HE2:=cz hE2;have C4:=cz (C3.o ys E2 hE2);clear hys hE2)|(go_at_call 116;refine(C4.o _ S.b).mono ?_;rintro e W8 ⟨B3,m,ao2,c,rfl,hB,hm,ho,hd2,hb⟩;obtain⟨g,c',hgc⟩:=DC ho (succ_pos _);simp only[lX] at hgc;obtain⟨rfl,-,rfl⟩:=hgc;obtain⟨M5,hM5⟩:=fU (m++[ys]);have hKl:m.n+1=M5.n:=(by rw[hM5,jv];rfl);rw[<-hM5,hKl] at ho;rw[<-hM5] at hB;have HB3:=cz hB;have HM:=cz hm;have HF:=cz (show ∀x∈m,rD w.h.s x from λx hx hn b h9=>ik S.fr.size ((hd2 x hx).2 hn b h9));have hyd:ys.dv=y.dv/\ys.df=y.df:=(by rw[HYS.o];exact⟨rfl,rfl⟩);have hyx:Ke ys _ _:=(by have:=S.x.2;unfold Ke at this ⊢;rwa [<-hyd.1,<-hyd.2] at this);replace S:=S.MI hb ho (λx hx=>by rw[hM5] at hx;rcases gH.1 hx with h | h;exact(hd2 x h).1;rw[fS.1 h];exact hyx.1.cP hb) (λx hx hn b h9 h8=>by rw[hM5] at hx;rcases gH.1 hx with h | h;have:=(hd2 x h).2 hn b h9;have:=S.lt b h8;omega;rw[fS.1 h] at hn h9;exact hyx.2 hn b h9 h8);have HK:=cz hM5;have HKL:=cz hKl;clear hb hB ho hd2 hm hM5 hKl hyd hyx))
        have hml:m.n=b.l.n:=by have:=gQ length HM.o;rwa [iv,iv] at this
        have him:i<m.n:=cN;obtain⟨z,hz⟩:=dG (m[i]);have hzx:z.todu=x.todu:=by
         have h9: (ez m)[i]? =(ez b.l)[i]?:=by rw[HM.o]
         rw[mZ,mZ,jG him,hz,jG hil,HXE.o] at h9;exact wW h9
        have HZX:=cz hzx;have hKi:i<M5.n:=by have:=HKL.o;omega
        have hKz:M5[i]=z:=by
         have h9:M5[i]? =cu z:=by rw[HK.o,I1 him,jG him,hz]
         rw[jG hKi] at h9;exact wW h9
        have HKZ:=cz hKz;have hiK: (i:Int)< (M5.n:Int):=cN;clear hzx hKz hz hml him;refine eR S dC [⟨W8.h.s,99,2,dO ⟨iR b.next,M5,s_ g 0,c⟩⟩,⟨W5.h.s,109,11,iz ys⟩] Cz λW S=>?_;refine dh 0 (dF W8.h.s 1) ?_;refine dh 1 (bX (s_ g 0) M5.n c) ?_;refine dh 2 _ ?_;refine dh 3 (dF W8.h.s 1) ?_;refine dh 4 (bX (s_ g 0) M5.n c) ?_;refine dh 5 _ ?_;refine dh 6 (dF W5.h.s 0) ?_;refine ij 7 (bU ct b.next) rfl (gW (λw h=>by have h9:=cL.cell (h.row 1 rfl) (i:=0) rh;rw[HYS.o] at h9;exact h9) rfl gi) ?_;refine dh 8 (dF g (i*11)) ?_;refine dh 9 (dF g (i*11+4)) ?_;refine kK 10 λK hK=>?_;refine MK S 0 rfl rfl (i*11+4) (v:=bU ct b.next) (by show i*11+4<M5.n*11;omega) rfl rfl rfl gi λW S=>?_;refine gy hK ?_;clear hK K;refine dh 11 (dF g (i*11)) ?_;refine dh 12 (dF g (i*11+10)) ?_;refine kK 13 λK hK=>?_;refine MK S 0 rfl rfl (i*11+10) (v:=bX cw 0 0) (by show i*11+10<M5.n*11;omega) rfl rfl rfl ox λW S=>?_;refine gy hK ?_;clear hK K;refine qG ?_;obtain⟨y1,hy1⟩: ∃y1:dL,y1=⟨⟨z.id,z.name,z.dz,z.cZ,b.next,z.cR,z.blocks,z.cO,z.df⟩,z.ee,z.cap⟩:=⟨_,rfl⟩;obtain⟨y2,hy2⟩: ∃y2:dL,y2=⟨⟨z.id,z.name,z.dz,z.cZ,b.next,z.cR,z.blocks,z.cO,[]⟩,cw,0⟩:=⟨_,rfl⟩;have hput: ((ju M5).set (i*11+4) (bU ct b.next)).set (i*11+10) (bX cw 0 0)=ju (M5.set i y2):=by
         rw[wj hKi HKZ.o 4 cN _ y1 (λj hj=>by rw[hy1];rcases j with(_|_|_|_|_|_|_|_|_|_|_|j) <;> first | rfl),
          wj (x:=y1) (by rw[xM];exact hKi) (by rw[getElem_set_self]) 10 cN _ y2 (λj hj=>by rw[hy1,hy2];rcases j with(_|_|_|_|_|_|_|_|_|_|_|j) <;> first | rfl | omega),set_set]
        have HPUT:=cz hput;have HY2:=cz hy2;obtain⟨B4,hB4⟩:=fU (cM 2 (dO ⟨iR b.next,M5.set i y2,s_ g 0,c⟩));have hB5:B4=cM 2 (dO ⟨iR b.next,M5,s_ g 0,c⟩):=by rw[hB4];unfold dO dY.sv;simp only[xM]
        have HB4:=cz hB4;have HB5:=cz hB5;have hT1:ez (M5.set i y2)=(ez b.l++[{x.todu with id:=b.next,name:=dz,dz:=cx,cZ:=x.id,cR:=cR}]).set i {x.todu with dB:=b.next,df:=[]}:=by
         rw[HK.o];obtain⟨-,-,-,-,e5,-,e7,e8,e9⟩:=Jt HY.o;obtain⟨f1,f2,f3,f4,-,f6,f7,f8,-⟩:=Jt HZX.o;exact ad9 (x:=z) HM.o (by rw[HYS.o,e5,e7,e8,e9]) (by rw[hy2,f1,f2,f3,f4,f6,f7,f8])
        have hfr: ∀v∈M5.set i y2,rD w.h.s v:=λv hv=>by
         rcases vB hv with h | h
         . rw[HK.o] at h;rcases gH.1 h with h | h
           . exact HF.o v h
           . rw[fS.1 h,HYS.o];exact HFy.o
         . rw[h,hy2];exact λhn=>absurd hn (ug _)
        have hdl: ∀v∈M5.set i y2,v∈M5∨v=y2:=λv hv=>vB hv;have HFR:=cz hfr;have HDL:=cz hdl;have HT1:=cz hT1;clear hput hy1 hy2 hB4 hB5 hT1 hfr hdl
        go_wp2_with (first|(with_reducible refine jr 98 99 14 S 0 HB5.o ?_)|with_reducible refine js 99 6 98 S 2 HB4.o (fW _) λW S=>?_|((with_reducible refine s6 ?_);go_must (refine oW S 2 rfl rfl rfl nU rfl ?_;exact⟨_,rfl,⟨_,rfl,by unfold dY.t;rw[HT1.o],by have h9:=S.o0;simp only at h9;rw[HPUT.o] at h9;exact⟨by unfold dY.sv;rw[xM];exact h9,λv hv=>⟨by rcases HDL.o v hv with h | h;exact(S.x.2 v h).1;rw[h];exact Hq _ _ (by rw[HY2.o]) (by rw[HY2.o]) (by rw[HY2.o]),HFR.o v hv⟩⟩⟩,S.b⟩)))
theorem abk(l:List dL)(i:Nat):(ju l).take (i*11)=ju (l.take i):=by grind[oA,take_append_drop,xq]
theorem abl(l:List dL)(i:Nat):(ju l).drop (i*11)=ju (l.drop i):=by rcases Nat.lt_or_ge l.n i with h|h;grind[drop_of_length_le,ju,oA];(conv=>lhs;rw[<-Ac i l,xq]);grind[oA]
theorem XX(l:List dL)(c:l.n=n)(d:i<n)(b:List c7)(e:b.n=11):
 (Dp (Dp (ju l) (i*11) ((ju l).drop ((i+1)*11))) ((n-1)*11) b).take ((n-1)*11)=ju (l.eraseIdx i):=by
 have a:(ju l).n=n*11:=by rw[oA,c]
 rw[eraseIdx_eq_take_drop_succ,xq,<-abk,<-abl];apply xL;intro t;rw[getElem?_take];split;next ht=>rw[yJ _ _ _ _ (by grind[zN]),cX cN,yJ _ _ _ _ jH,uf,a,LB,lO,a];grind
 grind
theorem OO(w:cS)(b o c:Nat)(ty:dW)(d:w.there b o 11):(Builtin.clear_ #[97] ty #[bX (cu ⟨b,o,cw⟩) 1 c]).run prog w=.ok (cg #[]) (w.setCells b o (cM 11 (iz nj)).t):=by
 have hv:∀w,(zeroValue 109).run prog w=.ok (bV (cM 11 (iz nj))) w:=xP;have f:(cM 11 (iz nj)).t.n=11:=rfl;have e:=Mo (P:=prog) b o (cM 11 (iz nj)).t 0 w (λj a=>by rw[f] at a;simpa using(d j a).1) (λj a=>by rw[f] at a;simpa using(d j a).2) (λv hv=>by
  grind[oD,mI,Array.all_eq_true_iff_forall_mem])
 simp only[xK] at e;have g:Builtin.zeroCells (Value.agg (cM 11 (iz nj))).cells 1=cM 11 (iz nj):=dC;simp_all[Builtin.clear_]
theorem DK(l:List dL)(g c n i j base:Nat)(H:l.n=n)(M:i<n)(O:j=i+1)(w:cS)(ho:w.ownsRow base 109 11 (bX (cu ⟨g,0,cw⟩) n c) n (ju l)):
 CP_ 129 #[bX (cu ⟨g,0,cw⟩) n c,bU cq i,bU cq j] w λe w'=>e=cj (bX (cu ⟨g,0,cw⟩) (n-1) c)/\w'.ownsRow base 109 11 (bX (cu ⟨g,0,cw⟩) (n-1) c) (n-1) (ju (l.eraseIdx i))/\jZ g w w':=by
 obtain⟨V,G,I,J,I⟩:=oH RK;have z:n<=c/\c<=maxLen:=by rcases ho.2 with⟨p,_⟩|⟨T,cap,x,p,_,_,X,L,_⟩;cases p;grind
 obtain⟨I,I⟩:=z;obtain⟨a,C⟩:=yw ((ju l).drop (j*11));have b:a.n=(n-j)*11:=by rw[C.o,uf,oA,H,Nat.sub_mul]
 have I:i<=c:=cN;have I:j<=c:=cN;have I:j<=n:=cN;have I:((i:Int)==(j:Int))=cy:=by rw[lr];omega
 have mixed:prog.follows .mixedOrders=cx:=dC;have N:(i:Int)<=(j:Int):=cN;have I:¬c=i+(n-j):=cN;obtain⟨A,I,B⟩:∃A:Addr,(if c=j then cu (⟨g,0,cw⟩:Addr) else cu ⟨g,j*11,cw⟩)=cu A/\Hid (∀t u,a[t]?=cu u->w.drew.cell? (A.add t)=cu u):=by by_cases h:c=j;refine⟨⟨g,0,cw⟩,by simp[h],λt u v=>?_⟩;grind;refine⟨⟨g,j*11,cw⟩,by simp[h],λt u v=>?_⟩;rw[C.o,getElem?_drop] at v;have F:=ho.cells (g:=g) ae _ u v;rw[Addr.add_lit] at F|-;rw[pM] at F;exact F
 have s1:Hid (a.n=(n-j)*11):=b;have s2:Hid (∀u∈a,u.oneCell'=cx):=λu v=>by rw[C.o] at v;exact abg l u (mR v)
 obtain⟨m,f,Q,N⟩:=AY ho;have s3:Hid (∀t,t<a.n->(w.drew.cell? ⟨g,0+i*11+t,cw⟩).isSome=cx/\w.drew.frozen? ⟨g,0+i*11+t,cw⟩=cy):=by intro t R;rw[b] at R;rw[pM];exact nT Q (o:=i*11) (n:=(n-j)*11) cN t R
 obtain⟨s,d⟩:=fU (w.drew.setCells g (0+i*11) a);have q:s.ownsRow base 109 11 (bX (s_ g 0) n c) n (Dp (ju l) (i*11) a):=by rw[d,pM];exact tB a (i*11) (w:=w.drew) ho
 have y:jZ g w s:=by rw[d];exact(show jZ g w w.drew from⟨ae,ae,ae,eN _,λ_ _ _=>ae⟩).trans (jZ.setCells _ _ _ _)
 have I:∀ty,(Builtin.clear_ #[97] ty #[bX (s_ g ((i+(n-j))*11)) (n-(i+(n-j))) (c-(i+(n-j)))]).run prog s=.ok (cg #[]) (s.setCells g ((i+(n-j))*11) (cM 11 (iz nj)).t):=λty=>by obtain⟨I,I,I,U⟩:=AY q;rw[show n-(i+(n-j))=1 by omega];exact OO s g _ _ ty (nT I cN)
 have Z:Hid (s=w.drew.setCells g (0+i*11) a):=d;have E:=cz q;have D:=cz y;have K:=cz O;clear q y d Q N b ho O;go_enter func129,ntmps129;go_wp2_with fail;go_region_law_o (refine step_append_room ae (.tmp 22) (.tmp 25) 97 ae 109 V 11 underlying97 G J g 0 i c (by simp[Act.eval,Act.put]) A (n-j) (c-j) a (by simp[Act.eval,Act.put]) s1.o B.o s2.o cN s3.o ?_;rw[<-Z.o]);go_wp2;go_ret;have k:i+(n-j)=n-1:=by have:=K.o;omega
 have r:=tB (cM 11 (iz nj)).t ((i+(n-j))*11) E.o;refine⟨by rw[<-k];rfl,?_,D.o.trans (jZ.setCells _ _ _ _)⟩;rw[k] at r|-;have hc:=XX l H M (cM 11 (iz nj)).t ae;rw[C.o,K.o] at r;refine⟨by rw[oA,length_eraseIdx,H,c8 M],?_⟩;rcases r.2 with⟨p,_⟩|⟨T,cap,x,p,U,V,X,L,h6,Y⟩;cases p;simp only[lX,yq,Addr.mk.injEq] at p;obtain⟨⟨rfl,-,-⟩,-,rfl⟩:=p;refine .inr ⟨g,c,x,ae,U,V,cN,L,h6,?_⟩;rw[<-hc,<-Y,take_take,show min ((n-1)*11) (n*11)=(n-1)*11 by omega]
end
section
variable {ty2:dW}
theorem MM(S:St w0 d l L O X w)(k x:Nat){r b:R4}{p f q:Tmp}(n:L[k]?=cu r)(c:L[x]?=cu b)(h:fn.results=#[.cell p ty,.cell f ty2,.tmp q])(C:a.tmps.getD p undef=bW (cu ⟨r.b,0,cw⟩))(s:a.tmps.getD f undef=bW (cu ⟨b.b,0,cw⟩))(t:ky P ty r.n)(e:ky P ty2 b.n)(B:a.defers=[])(A:R (cj (cg #[bV (cM r.n r.f),bV (cM b.n b.f),a.tmps.getD q undef])) w):bodyPost P fn R .ret a w:=by
 obtain⟨⟨i,m,y⟩,z⟩:=t;obtain⟨⟨j,v,D⟩,E⟩:=e;have o:a.tmps[p]?.getD undef=dF r.b 0:=by simp_all
 have g:a.tmps[f]?.getD undef=dF b.b 0:=by simp_all
 have hv:=Jd (P:=P) w r.b r.t ty (cM r.n r.f) (0,0) i (S.pE n) m jH aG;have u:=Jd (P:=P) w b.b b.t ty2 (cM b.n b.f) (0,0) j (S.pE c) v jH aG;simp_all[iI,results,asAddr]
def St.erased(S:St w0 d l L O X w){a:Nat}{b:List dL}(h:O[j]?=cu ⟨109,11,bX (cu ⟨g,0,cw⟩) n c,n,ju m⟩)(e:w'.ownsRow w0.h.s 109 11 (bX (cu ⟨g,0,cw⟩) a c) a (ju b))(f:jZ g w w'):
 St w0 d l L (O.set j ⟨109,11,bX (cu ⟨g,0,cw⟩) a c,a,ju b⟩) X w':=
 S.grow h (u0 f) e ae aD
end
theorem DL(s:List du)(cT:fM):(∃c:Int,(c !=0)=cx/\nK s cT=(cw,c))∨∃i,mi s cT=cu i/\nK s cT=(cu i,0):=by unfold nK;split;grind;split<;>grind
theorem A8{b:dY}(R:jd w b)(h:0<b.l.n):∃a c,b.ee=cu ⟨a,c,cw⟩:=by obtain⟨_,_,d,_,e⟩:=dQ R.1;grind[dY.sv]
theorem jd.cU{b:dY}(R:jd w b){a c:Nat}(h:b.ee=cu ⟨a,c,cw⟩):gC w (bX (cu ⟨a,c,cw⟩) b.l.n b.cap) b.l:=by grind[jd,dY.sv]
theorem vd{c:dY}(R:u9 w base c)(h:0<c.l.n):∃g,c.ee=cu ⟨g,0,cw⟩:=by obtain⟨g,a,e⟩:=DC R.1 h;grind[dY.sv]
def fx(b:ej)(cT:fM):ej×du×Int:=
 match nK b.cU cT with
 |(cw,c)=>(b,oI,c)
 |(cu i,_)=>if 0<(uZ b.cU (dH b.cU i).id).1.n then(b,oI,173) else(⟨b.next,b.cU.eraseIdx i⟩,dH b.cU i,0)
theorem Qb(l:List dL)(i:Nat):ez (l.eraseIdx i)=(ez l).eraseIdx i:=by grind[ez,eraseIdx_eq_take_drop_succ,map_take,map_drop]
section
attribute[local irreducible]wpList Code.wp Calls Oper.wp wpAnyH
def K3(b:dY)(A:gJ)(X:A=cM 2 (dO b))(C:zf b.t)(cT:fM)(a3:cT.s<=140737488355328)(w:cS)(R:jd w b):
 CP_ 64 #[bV A,bY cT] w λe w'=>∃B D,e=cj (cg #[bV B,bV D,bU cq (fx b.t cT).2.2])/\lV w' w.h.s B (fx b.t cT).1/\ze w' w.h.s D (fx b.t cT).2.1/\dS w w':=by
 have HA:=cz X;have V:=cz R;have F:=cz λW(a:dS w W)=>Jr b A X C cT a3 W (V.o.cP a);have C2:=cz λid W(a:dS w W)=>Qa b.l b.sv id C.len W (V.o.cP a);have C9:=cz λW(a:dS w W)=>qH b A X C W (V.o.cP a);have hd:rC b.l:=C.2;have a5:=C.len;have S:=qP w;clear X C;obtain⟨T,HT⟩:=sV (fx b.t cT);rw[HT.o];go_enter func64,ntmps64;rcases DL b.t.cU cT with⟨cd,hc,hv⟩|⟨i,hn,hv⟩;obtain rfl:(b.t,oI,cd)=T:=by rw[<-HT.o];unfold fx;rw[hv]
 rw[hv] at F;clear hv;rotate_left;obtain⟨x,Q⟩:=wi hn;have L:=(oF.1 Q).1;have a4:(i:Int)<(b.l.n:Int):=cN;have hg:dH b.t.cU i=x.todu:=lG Q;obtain⟨l,o,d⟩:=A8 R cN;have R9:=R.cU d;have a2:=cz R9;have HX:=cz (R9.at Q);have H:=cz Q;have p:Hid (dO b 1=bX (cu ⟨l,o,cw⟩) b.l.n b.cap):=cz (by rw[<-d];rfl);have Z:=cz (C2.o x.id);rw[show b.sv=bX (s_ l o) b.l.n b.cap by unfold dY.sv;rw[d]] at Z;obtain⟨z,t⟩:=dG ((uZ (ez b.l) x.id).1);rw[t] at Z;have n:T=if 0<z.n then(b.t,oI,173) else(⟨b.next,(ez b.l).eraseIdx i⟩,x.todu,0):=by rw[<-HT.o,<-t];unfold fx;rw[hv];simp only[hg];rfl
 have k:=cz n;rw[hv] at F;simp only[lF] at F;clear hv hn hg Q d t n;go_upto_region 4 with(first|refine je S (F.o _ S.b) λW S=>?_|refine fO ?_|refine fu λW S=>?_);refine eO S dC λW S=>?_;refine dh 0 (dF w.h.s 1) ?_;refine ij 1 (bX (s_ l o) b.l.n b.cap) ae (uq S 2 (λ_ h=>h) ae 1 p.o rh ae sQ) ?_;refine dh 2 (dF w.h.s 1) ?_;refine ij 3 (bX (s_ l o) b.l.n b.cap) ae (uq S 2 (λ_ h=>h) ae 1 p.o rh ae sQ) ?_;refine dh 4 _ ?_;refine dh 5 (dF l (o+i*11)) ?_;refine dh 6 (dF l (o+i*11)) ?_;refine ij 7 (bU ct x.id) ae (gW (λw h=>by obtain⟨_,S⟩:=h;exact(HX.o.cP S.b).c0) ae gi) ?_;refine kK 8 λK s=>?_;go_wp2_with fail;refine ah (Z.o _ S.b) λr W⟨ho,a⟩=>?_;obtain⟨ra,rc,rfl⟩:=dx ho;replace S:=S.cP a;clear a;refine gy s ?_;refine dh 9 (bU cq z.n) ?_;refine dh 10 (bZ (decide (0<(z.n:Int)))) ?_;refine qG ?_;by_cases h0:0<z.n;obtain rfl:T=(b.t,oI,173):=by rw[k.o,c8 h0]
 have h1:(0:Int)<(z.n:Int):=cN;rotate_left
 . (obtain rfl:T=(⟨b.next,(ez b.l).eraseIdx i⟩,x.todu,0):=by rw[k.o,cX h0]);(have h1:¬(0:Int)<(z.n:Int):=cN;have w1:IntKind.i64.wrap ((i:Int)+1)=((i+1:Nat):Int):=by rw[kX _ cN];omega);obtain⟨E,Y⟩:=fU (cM 11 (iz x));have U:=(oF.1 H.o).2;have O:=cz (nC b.l L (A:=E) (by rw[U];exact Y));have hm:=lu H.o;have CC:=cz λW(a:dS w W)=>qv x E Y (hd.at hm).1 W ((V.o.cP a).2 x hm);have HE:=cz Y;clear Y U hm h0;go_upto_region 8 with(first|(refine ah (C9.o _ S.b) λB W5⟨⟨⟨cn,m,ca,u⟩,hB,hc,ho⟩,a⟩=>?_;obtain⟨J,f⟩:=ej.mk.inj hc;simp only at J f;subst J;have N:m.n=b.l.n:=(by have h9:=gQ length f;rwa [iv,iv] at h9);obtain⟨g,I⟩:=vd ho amP;simp only at I;subst I;have q:=cz N;have HB:=cz hB;have HM:=cz f;have HF:=cz (S.fresh ho);replace S:=S.kq a ho;clear N;change St _ _ _ _ (⟨109,11,bX (s_ g 0) m.n u,m.n,ju m⟩::_) _ _ at S;clear a hB hc f)|(refine aj (DK m g u m.n i (i+1) w.h.s ae (by have:=q.o;omega) ae _ S.o0) λW6⟨ho,a⟩=>?_;replace S:=S.erased (j:=0) ae ho a;clear a)|(refine xD S 0 ae 1 (dO ⟨b.next,m.eraseIdx i,s_ g 0,u⟩) (λj hj=>by have hj:j<2:=hj;rcases j with(_|_|j);rfl;show Value.slice _ (m.eraseIdx i).n _=_;rw[length_eraseIdx,c8 (by have:=q.o;omega)];rfl;omega) rh ae ae ae sQ λW S=>?_;obtain⟨G,HG⟩:=yw (cM 2 (dO ⟨b.next,m.eraseIdx i,s_ g 0,u⟩)))|refine fO ?_|refine fu λW S=>?_);refine eR S dC [⟨W5.h.s,99,2,dO ⟨b.next,m.eraseIdx i,s_ g 0,u⟩⟩,⟨w.h.s,99,2,dO b⟩] Cz λW S=>?_;refine ij 0 (bV G) ae (rA bf ae HG.o nU) ?_;refine dh 1 (dF w.h.s 1) ?_;refine ij 2 (bX (s_ l o) b.l.n b.cap) ae (gW (λw h=>by rw[cL.cell (h.row 1 ae) (i:=1) rh];exact gQ cu p.o) ae sQ) ?_;refine dh 3 _ ?_;refine dh 4 (dF l (o+i*11)) ?_;refine ij 5 (bV E) ae (ySl (λw h=>(a2.o.cP h.fr.cP).1) L ae (vx HE) O.o uX) ?_;refine kK 6 λK s=>?_;go_wp2_with fail;(refine(CC.o _ S.b).mono ?_;rintro e W ⟨D,y,rfl,hD,hY,a⟩;have HD:=cz hD;have HY:=cz (And.intro hY.1 iC);replace S:=S.iw a hY.2 ae ae;clear a hD hY;refine gy s ?_;refine kK 7 λK s=>?_;refine km S 2 ae ae ae HG.o nU (fW _) λW S=>?_;refine gy s ?_;refine kK 8 λK s=>?_;refine km S 1 ae ae ae HD.o uX (mI _) λW S=>?_;refine gy s ?_;refine dh 9 _ ?_;refine qG ?_;have M:(m.eraseIdx i).n=m.n-1:=by rw[length_eraseIdx,c8 (by have:=q.o;omega)]);have a1:=cz M;clear M;go_wp2_with (refine MM S 2 1 ae ae ae ae ae nU uX ae ?_;exact⟨_,_,ae,⟨⟨b.next,m.eraseIdx i,s_ g 0,u⟩,ae,by unfold dY.t;rw[Qb,HM.o],⟨by have h9:=S.o1;unfold dY.sv;rw[a1.o];exact h9,λv hv=>⟨(S.x.2 v (Bz hv)).1,HF.o v (Bz hv)⟩⟩⟩,⟨y,ae,HY.o.1,S.o0⟩,S.b⟩)
 all_goals
  go_wp2_with first|refine je S (F.o _ S.b) λW S=>?_|refine A7 S (C9.o _ S.b) λW B c HB HC HF S=>?_|refine fO ?_|refine fu λW S=>?_|(refine MM S 1 0 ae ae ae ae ae nU uX ae ?_;exact⟨_,_,ae,⟨c,ae,HC.o,S.jK HF.o⟩,sH _ _,S.b⟩)
end
section
variable {x:Nat}
def gu(S:St w0 d l L O X w)(hv:∀w,(zeroValue ty).run P w=.ok (bV Z) w)(b:Z=cM n f)(ho:gZ ty=cy)(h:∀E W,St w0 d l (⟨E,ty,n,f⟩::L) O X W->K (a.put (cu dst) (bW (cu ⟨E,0,cw⟩))) W):Oper.wp P ⟨cu dst,.alloc ty,t2,p,af,cw⟩ a w K Q:=
 Hc S hv b ho λW hS=>h _ W hS
theorem aea(S:St w0 d l L O X w)(j:Nat)(b:O[j]?=cu o)(hv:o.v=bX (cu ⟨g,0,cw⟩) o.n c)(i:Nat)(H:i+z<=o.n*o.z)(D:a.eval (.tmp x)=bW (cu ⟨g,i,cw⟩))(E:a.eval (.tmp y)=bV A)(v:A=cM z f)(s:ky P ty z)(G:∀i,(f i).oneCell'=cx)(h:∀W,St w0 d l L (O.set j ⟨o.e,o.z,o.v,o.n,Dp o.xs i (cM z f).t⟩) X W->K (a.put cw undef) W):Oper.wp P ⟨cw,.store ty (.tmp x) (.tmp y),t2,p,af,cw⟩ a w K Q:=by
 subst v;have k:=S.uV b;rw[hv] at k;obtain⟨m,F,B,I⟩:=AY k;have e:=nT B (o:=i) (n:=z) cN;have r:(cM z f).t.n=z:=by grind[cW]
 have C:=Mo (P:=P) g i (cM z f).t 0 w (λj b=>by rw[r] at b;simpa using(e j b).1) (λj b=>by rw[r] at b;simpa using(e j b).2) (λu N=>by
  grind[oD,Array.all_eq_true_iff_forall_mem])
 have t:(storeVar ty ⟨g,i,cw⟩ (bV (cM z f))).run P w=.ok () (w.setCells g i (cM z f).t):=by cases J:P.info? ty with|none=>have:=s.2;grind|some it=>(have M:it.s=z:=by have:=s.2;grind);have hc:(Value.agg (cM z f)).cells=cM z f:=rfl;simp_all[storeVar,sizeOf,typeInfo]
 unfold Oper.wp execOp;simp only[D,E,Instr.storeAt,Instr.sureAddr,lx,rN,nX,t];have q:o.v.ownBlock=cu g:=by rw[hv];rfl
 exact h _ (S.grow b (by grind[u0,jZ.setCells]) (by grind[tB]) q (.inl q))
end
theorem Qc(c:k<m.n){x:dL}(f:m[k]=x)(q:cQ)(y:dL)(h:∀i,i<11->iz y i=if 7<=i/\i<10 then dE q (i-7) else iz x i):Dp (ju m) (k*11+7) (cM 3 (dE q)).t=ju (m.set k y):=by refine MG AV m c y (by rw[zN,oA]) (λi b=>?_) λi r d g=>?_;unfold UC;rw[nL (xs:=cM 11 _),dy,c8 b,h i b,yJ _ _ _ _ amt,nA,cW];by_cases a:7<=i/\i<10;rw[c8 cN,c8 a,nL (xs:=cM 3 _),dy,c8 cN,show k*11+i-(k*11+7)=i-7 by omega];rw[cX cN,cX a,nC m c (A:=cM 11 (iz x)) (by rw[f]) i b,dy,c8 b];rw[yJ _ _ _ _ amt,nA,cW,cX (λe=>?_)];rfl;omega
def cL.setAt{x:dL}(h:cL w b 109 11 (iz x)):nD w b 0 x:=λk a=>by rw[pM];exact cL.cell h a
def jI(b:ej)(cT:fM):ej×du×Int:=
 match nK b.cU cT with
 |(cw,c)=>(b,oI,c)
 |(cu i,_)=>match fp b.cU (dH b.cU i).dB with
  |none=>(b,oI,174)
  |some j=>(⟨b.next,b.cU.set i {dH b.cU i with cO:=(dH b.cU j).cO,df:=[]}⟩,dH b.cU i,0)
section
attribute[local irreducible]wpList Code.wp Calls Oper.wp wpAnyH
def RS (b:dY)(A:gJ)(hA:A=cM 2 (dO b))(hf:zf b.t)(cT:fM)(hfu:cT.s<=140737488355328)(w:cS)(R:jd w b):
 CP_ 101 #[bV A,bY cT] w λe w'=>∃B D,e=cj (cg #[bV B,bV D,bU cq (jI b.t cT).2.2])/\lV w' w.h.s B (jI b.t cT).1/\ze w' w.h.s D (jI b.t cT).2.1/\dS w w':=by
 have HA:=cz hA;have HR:=cz R;have C1:=cz λW (hb:dS w W)=>Jr b A hA hf cT hfu W (HR.o.cP hb);have C2:=cz λid W (hb:dS w W)=>Ki b.l b.sv id hf.len hf.2 W (HR.o.cP hb);have C9:=cz λW (hb:dS w W)=>qH b A hA hf W (HR.o.cP hb);have hd:rC b.l:=hf.2;have hlen:=hf.len;have S:=qP w;clear hA hf;obtain⟨T,hT⟩:=dG (jI b.t cT);have HT:=cz hT;rw[hT];clear hT;go_enter func101,ntmps101;rcases DL b.t.cU cT with⟨cd,hc,hv⟩ | ⟨i,hn,hv⟩
 . obtain rfl: (b.t,oI,cd)=T:=by rw[<-HT.o];unfold jI;rw[hv]
   rw[hv] at C1;clear hv
   go_wp2_with (first|(refine je S (C1.o _ S.b) λW S=>?_)|(refine A7 S (C9.o _ S.b) λW B c HB HC HF S=>?_)|(refine MM S 1 0 rfl rfl rfl rfl rfl nU uX rfl ?_;exact⟨_,_,rfl,⟨c,rfl,HC.o,S.jK HF.o⟩,sH _ _,S.b⟩)|refine fO ?_|refine fu λW S=>?_)
 . obtain⟨x,hx⟩:=wi hn;have hil:=(oF.1 hx).1;have hil2: (i:Int)< (b.l.n:Int):=cN;have hg:dH b.t.cU i=x.todu:=lG hx;obtain⟨bb,oo,hbo⟩:=A8 R cN;have R9:=R.cU hbo;have HR9:=cz R9;have HX:=cz (R9.at hx);have HXI:=cz hx;have HBV:Hid (dO b 1=bX (cu ⟨bb,oo,cw⟩) b.l.n b.cap):=cz (by rw[<-hbo];rfl);have C3:=cz (C2.o x.dB);rw[show b.sv=bX (s_ bb oo) b.l.n b.cap by unfold dY.sv;rw[hbo]] at C3;obtain⟨pn,hpn⟩:=dG (fp (ez b.l) x.dB);rw[hpn] at C3;obtain⟨pb,hpb⟩:=dG pn.isSome;rw[hpb] at C3;have HPB:=cz hpb;have hres:T=pn.elim (b.t,oI,174) λj=>(⟨b.next,(ez b.l).set i {x.todu with cO:=(dH (ez b.l) j).cO,df:=[]}⟩,x.todu,0):=by
    rw[<-HT.o,<-hpn];unfold jI;rw[hv];simp only[hg];rw[show b.t.cU=ez b.l from rfl];cases fp (ez b.l) x.dB <;> rfl
   have HRES:=cz hres;rw[hv] at C1;simp only[lF] at C1;clear hv hn hg hx hbo hpn hres hpb;obtain⟨E,hE⟩:=fU (cM 11 (iz x));have hxx:b.l[i]'hil=x:=(oF.1 HXI.o).2;have hsub:=cz (nC b.l hil (A:=E) (by rw[hxx];exact hE));have hm:=lu HXI.o;have CC:=cz λW (hb:dS w W)=>qv x E hE (hd.at hm).1 W ((HR.o.cP hb).2 x hm);have HE:=cz hE;have HXX:=cz hxx;clear hE hxx hm
   go_upto_region 4 with(first|(refine je S (C1.o _ S.b) λW4 S=>?_)|refine fO ?_|refine fu λW S=>?_)
   refine eR S dC [⟨w.h.s,99,2,dO b⟩] Cz λW S=>?_;refine dh 0 (dF w.h.s 1) ?_;refine ij 1 (bX (s_ bb oo) b.l.n b.cap) rfl (gW (λw h=>by rw[cL.cell (h.row 0 rfl) (i:=1) rh];exact gQ cu HBV.o) rfl sQ) ?_;refine dh 2 (dF w.h.s 1) ?_;refine ij 3 (bX (s_ bb oo) b.l.n b.cap) rfl (gW (λw h=>by rw[cL.cell (h.row 0 rfl) (i:=1) rh];exact gQ cu HBV.o) rfl sQ) ?_;refine dh 4 _ ?_;refine dh 5 (dF bb (oo+i*11)) ?_;refine dh 6 (dF bb (oo+i*11+4)) ?_;refine ij 7 (bU ct x.dB) rfl (gW (λw h=>(HX.o.cP h.fr.cP).c4) rfl gi) ?_
   repeat' first|refine Th ?_|refine nz 9 _ ?_|refine nz 10 (bV B) ?_|refine nz 11 (bZ pb) ?_|refine nz 14 _ ?_|refine Bt 8 12 (λK hK=>?_) λK hK=>?_|refine qf 8 λK hK=>?_|refine qf 13 λK hK=>?_|refine qf 12 λK hK=>?_|(refine gu S xP pS rfl λE9 W S=>?_;refine gy hK ?_;clear hK K)|(go_wp2_with fail;refine(C3.o _ S.b).mono ?_;rintro e W6 ⟨B,rfl,⟨pv,hB,hpv,hpo⟩,hb⟩;have HB:=cz hB;have HPV:=cz hpv;replace S:=S.cP hb;clear hb hB hpv hpo;refine gy hK ?_;clear hK K)|(refine km S 0 rfl rfl rfl HB.o uX (mI _) λW S=>?_;refine gy hK ?_;clear hK K)
   all_goals (
    refine cz ?_;cases pb with
    | false=>
     obtain rfl:T=(b.t,oI,174):=by
      have h9:=HRES.o;cases pn with
      | none=>exact h9
      | some j=>exact absurd HPB.o eQ
     go_wp2_with (first|(refine A7 S (C9.o _ S.b) λW B c HB HC HF S=>?_)|(refine MM S 2 1 rfl rfl rfl rfl rfl nU uX rfl ?_;exact⟨_,_,rfl,⟨c,rfl,HC.o,S.jK HF.o⟩,sH _ _,S.b⟩)|refine fO ?_|refine fu λW S=>?_)
    | true=>
     obtain⟨j,rfl⟩: ∃j,pn=cu j:=by
      cases pn with
      | none=>exact absurd HPB.o eQ
      | some j=>exact⟨j,rfl⟩
     obtain rfl:T=(⟨b.next,(ez b.l).set i {x.todu with cO:=(dH (ez b.l) j).cO,df:=[]}⟩,x.todu,0):=HRES.o;obtain⟨rt,hrt⟩:=dG pv.cO;have HRT:=cz hrt;have HR2:Hid ((dH (ez b.l) j).cO=rt):=cz (by rw[<-hrt];exact(gQ du.cO HPV.o).symm);obtain⟨G,hG⟩:=fU (cM 3 (dE pv.cO));have HG:=cz hG;have HG2:Hid (G=cM 3 (dE rt)):=cz (by rw[hG,hrt]);clear hrt hG
     go_upto_region 8 with(first|(refine(C9.o _ S.b).mono ?_;rintro e W5 ⟨B3,rfl,⟨⟨cn,m,ca,cc⟩,hB,hc,ho⟩,hb⟩;obtain⟨hcn,hcs⟩:=ej.mk.inj hc;simp only at hcn hcs;subst hcn;have hml:m.n=b.l.n:=(by have h9:=gQ length hcs;rwa [iv,iv] at h9);obtain⟨g,hca⟩:=vd ho (by show 0<m.n;omega);simp only at hca;subst hca;have HML:=cz hml;have HB3:=cz hB;have HM:=cz hcs;have HF:=cz (S.fresh ho);replace S:=S.kq hb ho;clear hml;change St _ _ _ _ (⟨109,11,bX (s_ g 0) m.n cc,m.n,ju m⟩::_) _ _ at S;clear hb hB hc ho hcs)|refine fO ?_|refine fu λW S=>?_)
     have him: (i:Int)< (m.n:Int):=by have:=HML.o;omega
     have him2:i<m.n:=cN;refine eR S dC [⟨W5.h.s,99,2,dO ⟨b.next,m,s_ g 0,cc⟩⟩,⟨E9,109,11,iz pv⟩] Cz λW S=>?_;refine dh 0 (dF W5.h.s 1) ?_;refine dh 1 (bX (s_ g 0) m.n cc) ?_;refine dh 2 _ ?_;refine dh 3 (dF W5.h.s 1) ?_;refine dh 4 (bX (s_ g 0) m.n cc) ?_;refine dh 5 _ ?_;refine dh 6 (dF E9 7) ?_;refine ij 7 (bV G) rfl (UJ (λw h=>(h.row 1 rfl).setAt) rfl HG.o) ?_;refine dh 8 (dF g (i*11)) ?_;refine dh 9 (dF g (i*11+7)) ?_;refine kK 10 λK hK=>?_;refine aea S 0 rfl rfl (i*11+7) (z:=3) (by show i*11+7+3<=m.n*11;omega) rfl rfl HG2.o fL (dJ _) λW S=>?_;refine gy hK ?_;clear hK K;refine dh 11 (dF g (i*11)) ?_;refine dh 12 (dF g (i*11+10)) ?_;refine kK 13 λK hK=>?_;refine MK S 0 rfl rfl (i*11+10) (v:=bX cw 0 0) (by show i*11+10<m.n*11;omega) rfl rfl rfl ox λW S=>?_;refine gy hK ?_;clear hK K;refine qG ?_;obtain⟨z,hz⟩:=dG (m[i]);have hzx:z.todu=x.todu:=by
      have h9: (ez m)[i]? =(ez b.l)[i]?:=by rw[HM.o]
      rw[mZ,mZ,jG him2,hz,jG hil,HXX.o] at h9;exact wW h9
     obtain⟨y1,hy1⟩: ∃y1:dL,y1=⟨⟨z.id,z.name,z.dz,z.cZ,z.dB,z.cR,z.blocks,rt,z.df⟩,z.ee,z.cap⟩:=⟨_,rfl⟩;obtain⟨y2,hy2⟩: ∃y2:dL,y2=⟨⟨z.id,z.name,z.dz,z.cZ,z.dB,z.cR,z.blocks,rt,[]⟩,cw,0⟩:=⟨_,rfl⟩;have hput: (Dp (ju m) (i*11+7) (cM 3 (dE rt)).t).set (i*11+10) (bX cw 0 0)=ju (m.set i y2):=by
      rw[Qc him2 hz rt y1 (λj hj=>by rw[hy1];rcases j with(_|_|_|_|_|_|_|_|_|_|_|j) <;> first | rfl),
       wj (x:=y1) (by rw[xM];exact him2) (by rw[getElem_set_self]) 10 cN _ y2 (λj hj=>by rw[hy1,hy2];rcases j with(_|_|_|_|_|_|_|_|_|_|_|j) <;> first | rfl | omega),set_set]
     have hB4:B3=cM 2 (dO ⟨b.next,m.set i y2,s_ g 0,cc⟩):=by rw[HB3.o];unfold dO dY.sv;simp only[xM]
     have hT1:ez (m.set i y2)=(ez b.l).set i {x.todu with cO:=(dH (ez b.l) j).cO,df:=[]}:=by
      obtain⟨f1,f2,f3,f4,f5,f6,f7,f8,-⟩:=Jt hzx;rw[HR2.o,<-HM.o];unfold ez;rw[map_set];congr 1;rw[hy2,f1,f2,f3,f4,f5,f6,f7]
     have HFR:=cz (show ∀v∈m.set i y2,rD w.h.s v from λv hv=>by
      rcases vB hv with h | h
      . exact HF.o v h
      . rw[h,hy2];exact λhn=>absurd hn (ug _))
     have HDL:=cz (show ∀v∈m.set i y2,v∈m∨v=y2 from λv hv=>vB hv);have HPUT:=cz hput;have HB4:=cz hB4;have HT1:=cz hT1;have HY2:=cz hy2;clear hput hB4 hT1 hy1 hy2 hzx hz
     go_upto_region 9 with(fail)
     refine eR S dC [⟨W5.h.s,99,2,dO ⟨b.next,m,s_ g 0,cc⟩⟩,⟨w.h.s,99,2,dO b⟩] Cz λW S=>?_;refine ij 0 (bV B3) rfl (rA (λw h=>h.row 0 rfl) rfl HB3.o nU) ?_;refine dh 1 (dF w.h.s 1) ?_;refine ij 2 (bX (s_ bb oo) b.l.n b.cap) rfl (gW (λw h=>by rw[cL.cell (h.row 1 rfl) (i:=1) rh];exact gQ cu HBV.o) rfl sQ) ?_;refine dh 3 _ ?_;refine dh 4 (dF bb (oo+i*11)) ?_;refine ij 5 (bV E) rfl (ySl (λw h=>(HR9.o.cP h.fr.cP).1) hil rfl (vx HE) hsub.o uX) ?_;refine kK 6 λK hK=>?_
     go_wp2_with fail
     refine(CC.o _ S.b).mono ?_;rintro e W ⟨D,y,rfl,hD,hY,hb⟩;have HD:=cz hD;have HY:=cz (And.intro hY.1 iC);replace S:=S.iw hb hY.2 rfl rfl;clear hb hD hY;refine gy hK ?_;clear hK K;refine kK 7 λK hK=>?_;refine km S 3 rfl rfl rfl HB4.o nU (fW _) λW S=>?_;refine gy hK ?_;clear hK K;refine kK 8 λK hK=>?_;refine km S 2 rfl rfl rfl HD.o uX (mI _) λW S=>?_;refine gy hK ?_;clear hK K;refine dh 9 _ ?_;refine qG ?_
     go_wp2_with (refine MM S 3 2 rfl rfl rfl rfl rfl nU uX rfl ?_;exact⟨_,_,rfl,⟨_,rfl,by unfold dY.t;rw[HT1.o],by have h9:=S.o1;simp only at h9;rw[HPUT.o] at h9;exact⟨by unfold dY.sv;rw[xM];exact h9,λv hv=>⟨by rcases HDL.o v hv with h | h;exact(S.x.2 v h).1;rw[h];exact Hq _ _ (by rw[HY2.o]) (by rw[HY2.o]) (by rw[HY2.o]),HFR.o v hv⟩⟩⟩,⟨y,rfl,HY.o.1,S.o0⟩,S.b⟩)
   )
end
def wm(a:Nat):List cQ->List cQ×List cQ->Option (List cQ×List cQ)
 | [],s=>cu s
 |q::l,s=>if a<q.2.1 then wm a l (s.1,s.2++[q]) else match rB s.1 q with
  |none=>cw
  |some m=>if 4000<m.n then cw else wm a l (m,s.2)
theorem DM(a:Nat)(q:cQ)(l:List cQ)(s:List cQ×List cQ):wm a (q::l) s=if a<q.2.1 then wm a l (s.1,s.2++[q]) else match rB s.1 q with|none=>cw|some m=>if 4000<m.n then cw else wm a l (m,s.2):=rfl
def jV(b:ej)(id:Nat)(l:List cQ):ej×List cQ×Int:=
 match fp b.cU id with
 |none=>(b,[],172)
 |some i=>match wm (gr b.cU id) l ((dH b.cU i).df,[]) with
  |none=>(b,[],131)
  |some (d,g)=>(⟨b.next,b.cU.set i {dH b.cU i with df:=d}⟩,g,0)
section
theorem zh{base:Nat}{e:dW}{z g n cap:Nat}{xs:List c7}(h:w.ownsRow base e z (bX (cu ⟨g,0,cw⟩) n cap) n xs){j:Nat}{v:c7}(a:xs[j]?=cu v):w.cell? ⟨g,j,cw⟩=cu v:=by have:=h.cells (g:=g) ae j v a;grind[Addr.add]
def agN(m:List dL){x:dL}(c:m[i]?=cu x)(a:k<11):(ju m)[i*11+k]?=cu (iz x k):=by obtain⟨b,rfl⟩:=oF.1 c;rw[nC m b ae k a,dy,c8 a]
end
section
attribute[local irreducible]wpList Code.wp Calls Oper.wp wpAnyH
def RT(b:dY)(A:gJ)(hA:A=cM 2 (dO b))(hf:zf b.t)(id:Nat)(l:List cQ)(v:c7)(hl:l.length<=1000000)(w:cS)(R:jd w b)(RL:ly w v l):
 CP_ 144 #[.agg A,.int .u64 id,v] w λe w'=>∃B r,e=.returned (.tuple #[.agg B,r,.int .i64 (jV b.t id l).2.2])/\lV w' w.heap.size B (jV b.t id l).1/\ir w' w.heap.size r (jV b.t id l).2.1/\dS w w':=by
 have HA:=cz hA;have HR:=cz R;obtain⟨la,lc,rfl,hlc,hla⟩:=dQ RL;have RL:=cz RL;have hla:=cz hla;have C1:=cz λW(hb:dS w W)=>wK b.l b.sv id hf.len W (HR.o.cP hb);have C2:=cz λW(hb:dS w W)=>EF b.l b.sv id hf.len W (HR.o.cP hb);have C9:=cz λW(hb:dS w W)=>qH b A hA hf W (HR.o.cP hb);have hd:rC b.l:=hf.2;have hlen:=hf.len;have S:=qP w;clear hA hf;obtain⟨T,HT⟩:=sV (jV b.t id l);rw[HT.o];go_enter func144,ntmps144;cases hp:fp (ez b.l) id with
 |none=>
  obtain rfl:(b.t,[],172)=T:=by rw[<-HT.o];unfold jV;rw[show b.t.cU=ez b.l from ae,hp]
  rw[hp] at C1;simp only[lF] at C1;clear hp;go_wp2_with first|(first|refine jl 18 97 17 S 1 1 (b.sv) ?_|refine jr 23 99 3 S 1 HA.o ?_)|(first|refine jx 3 99 0 S HA.o λW S=>?_|refine jb 6 99 S sR ot λW S=>?_|refine js 99 6 24 S 0 HB.o (fW _) λW S=>?_)|refine je S (C1.o _ S.b) λW S=>?_|refine A7 S (C9.o _ S.b) λW B c HB HC HF S=>?_|((with_reducible refine s6 ?_);go_must (refine Ha S 0 ae ae ae nU ae ?_;exact⟨_,_,ae,⟨c,ae,HC.o,S.jK HF.o⟩,ir.nil _ _,S.b⟩))
 |some i=>
  obtain⟨hil,x,hx,-⟩:=kP hp;have hi0:¬((i:Int)<0):=cN;have hg:dH b.t.cU i=x.todu:=lG hx;obtain⟨fl,hfl⟩:=dG (gr (ez b.l) id);obtain⟨KT,HKT⟩:=sV (wm fl l (x.df,[]));have hres:T=KT.elim (b.t,[],131) λs=>(⟨b.next,(ez b.l).set i {x.todu with df:=s.1}⟩,s.2,0):=by
   rw[<-HT.o,<-HKT.o,<-hfl];unfold jV;rw[show b.t.cU=ez b.l from ae,hp];simp only[show dH (ez b.l) i=x.todu from hg];cases wm (gr (ez b.l) id) l (x.df,[])<;>rfl
  have HRES:=cz hres;have hxx:b.l[i]'hil=x:=(oF.1 hx).2;have hdx:=(hd.at (lu hx)).1;have HXX:=cz hxx;rw[hp] at C1;rw[hfl] at C2;simp only[lF] at C1;clear hp hg hfl hres hx hxx
  go_upto_region 8 with(first|(first|refine jl 18 97 17 S 1 1 (b.sv) ?_|refine jl 26 97 25 S 1 1 (b.sv) ?_|refine jr 29 99 3 S 1 HA.o ?_)|(first|refine jb 6 99 S sR ot λW S=>?_|refine jb 11 99 S sR ot λW S=>?_|refine js 99 11 30 S 0 HB3.o (fW _) λW S=>?_)|refine yT S rfl HA.o rfl λW2 S=>?_|refine je S (C1.o _ S.b) λW S=>?_|refine je S (C2.o _ S.b) λW S=>?_|(refine ah (C9.o _ S.b) λB3 W5⟨⟨⟨cn,m0,ca,cc⟩,hB,hc,ho⟩,hb⟩=>?_;obtain⟨hcn,hcs⟩:=ej.mk.inj hc;simp only at hcn hcs;subst hcn;have hml:m0.length=b.l.length:=anE;obtain⟨g,hca⟩:=vd ho (by show 0<m0.length;omega);simp only at hca;subst hca;have HML:=cz hml;have HB3:=cz hB;have HM:=cz hcs;have HF:=cz (S.fresh ho);replace S:=S.kq hb ho;clear hml;change St _ _ _ _ (⟨109,11,.slice (s_ g 0) m0.length cc,m0.length,ju m0⟩::_) _ _ at S;clear hb hB hc hcs))
  have S:=cz (S.Jn 106 3 ae ae);have him:i<m0.length:=by have:=HML.o;omega
  have hbx:(ez b.l)[i]'(by rw[iv];exact hil)=x.todu:=by unfold ez;rw[getElem_map,HXX.o]
  go_loopw [12,33] (λgv kv wr=>∃(k:Nat)(dd gn:List cQ)(m:List dL)(ga:Option Addr)(gc:Nat),k<=l.length/\kv=.int .i64 k/\gv=.slice ga gn.length gc/\dd.length<=1000000/\gn.length<=k/\Hid (wm fl (l.drop k) (dd,gn)=KT/\m.length=m0.length/\ez m=(ez b.l).set i {x.todu with df:=dd}/\(∀v∈m,rD w.heap.size v)/\
   St w none [] [⟨W5.heap.size,99,2,dO ⟨b.next,m0,s_ g 0,cc⟩⟩,⟨W2.heap.size,99,2,dO xr⟩,⟨w.heap.size,99,2,dO b⟩] [⟨106,3,.slice ga gn.length gc,gn.length,iZ gn⟩,⟨109,11,.slice (s_ g 0) m0.length cc,m0.length,ju m⟩] (oL m) wr)) (λ_ kv _=>l.length-(intOf kv).toNat)
  case atStart=>exact⟨0,x.df,[],m0,none,0,cN,ae,ae,hdx,by simp,cz ⟨HKT.o,ae,by
   rw[HM.o];show ez b.l=(ez b.l).set i x.todu;rw[<-hbx,set_getElem_self],HF.o,S.o.EH (λ_ _ h=>h.2) (jy m0).me⟩⟩
  case round=>
   clear S;obtain⟨k,dd,gn,m,ga,gc,hk,rfl,rfl,hdd,hgn,hS⟩:=hrel;obtain⟨hkill,hmm,hsm,hfm,S⟩:=hS.o;clear hS;have HMM:=cz hmm;have HSM:=cz hsm;have HFM:=cz hfm;have him2:i<m.length:=cN;clear hfm;by_cases hlt:k<l.length
   . obtain⟨lb,lo,rfl⟩:=hla.o cN;obtain⟨q,hq⟩:=dG (l[k]);obtain⟨AQ,hAQ⟩:=fU (cM 3 (dE q));have hsub:=cz (kG l hlt (A:=AQ) (by rw[hq];exact hAQ));have HAQ:=cz hAQ;rw[Db hlt,hq] at hkill;obtain⟨y,hy⟩:=dG (m[i]);have hym:y∈m:=hy▸mP him2;have hyt:y.todu= {x.todu with df:=dd}:=by
      have h9:(ez m)[i]?=((ez b.l).set i {x.todu with df:=dd})[i]?:=by rw[hsm]
      rw[mZ,jG him2,hy,getElem?_set_self (by rw[iv];exact hil)] at h9;exact wW h9
     have hyd:y.df=dd:=gQ du.df hyt;have hydv:y.dv=.slice y.ee dd.length y.cap:=by unfold dL.dv;rw[hyd]
     have HY:=cz hy;have HYT:=cz hyt;have HYM:=cz hym;have HYDV:=cz hydv;have HYI:Hid ((ju m)[i*11+10]?=some (.slice y.ee dd.length y.cap)):=cz (by rw[<-hydv];exact agN m (by rw[jG him2,hy]) cN);have HYD:=cz hyd;clear hy hyt hym hydv hsm hmm hq hAQ;by_cases hfl:fl<q.2.1
     . have hfl2:((fl:Nat):Int)<((q.2.1:Nat):Int):=cN;rw[DM] at hkill;rw[c8 hfl] at hkill;have HK:=cz hkill;clear hkill
       go_wp2_with first|(first|refine jl 38 82 37 S 0 1 (.int .u64 q.2.1) ?_|refine jr 42 106 14 S 0 HAQ.o ?_)|(first|refine jb 14 106 S xE iU λW S=>?_|refine js 106 14 36 S 0 HAQ.o (dJ _) λW S=>?_)|refine CB (RL.o.cP S.b) hlt (vx HAQ) hsub.o ?_|refine Mp S rfl HAQ.o ib cN rfl λW S=>?_|refine tE S 0 rfl 0 rfl rfl rfl rfl ib (dJ _) CU xY λg9 c9 W S=>?_
       go_roundw
       case rel=>exact⟨k+1,dd,gn++[q],m,s_ g9 0,c9,cN,by go_num,by simp,hdd,by simp;omega,cz ⟨HK.o,HMM.o,HSM.o,HFM.o,by rw[jv,jw,qd];exact S.pop.pop⟩⟩
       case measure=>exact qN
     . have hfl2:¬((fl:Nat):Int)<((q.2.1:Nat):Int):=cN;have him3:(i:Int)<(m0.length:Int):=by have:=HMM.o;omega
       obtain⟨da,hda⟩:=dG (rB dd q);have C3:=cz λv W R=>UA dd q v AQ HAQ.o W cN R;rw[hda] at C3;rw[DM] at hkill;rw[cX hfl] at hkill;simp only[hda] at hkill;have HK:=cz hkill;clear hkill hda
       go_upto_region 12 with(first|(with_reducible refine jl 38 82 37 S 0 1 (.int .u64 q.2.1) ?_)|(with_reducible first|refine jb 14 106 S xE iU λW S=>?_|refine js 106 14 36 S 0 HAQ.o (dJ _) λW S=>?_)|((with_reducible refine aQ_ ?_);refine CB (RL.o.cP S.b) hlt (vx HAQ) hsub.o ?_))
       refine eO S dC λW S=>?_;refine dh 0 (dF W5.heap.size 1) ?_;refine dh 1 (.slice (s_ g 0) m0.length cc) ?_;refine dh 2 _ ?_;refine dh 3 (dF g (i*11)) ?_;refine dh 4 (dF g (i*11+10)) ?_;refine ij 5 (.slice y.ee dd.length y.cap) ae (gW (λw h=>by obtain⟨_,S⟩:=h;exact zh S.o1 HYI.o) ae ox) ?_;refine dh 6 (.agg AQ) ?_;refine kK 7 λK hK=>?_
       go_wp2_with fail
       refine ah (C3.o _ _ (by have h9:=(S.x y HYM.o).1;unfold ly;rw[<-HYDV.o,<-HYD.o];exact h9)) λr W⟨ho,hb⟩=>?_;obtain⟨ra,rc,rfl⟩:=dx ho;have HFy:=cz (show rD w.heap.size ⟨{y.todu with df:=da.getD []},ra,rc⟩ from λhn b hb=>ik S.fr.size ((sG.of (x:=⟨{y.todu with df:=da.getD []},ra,rc⟩) ho).2 hn b hb));replace S:=S.A6 (y:=⟨{y.todu with df:=da.getD []},ra,rc⟩) hb ho;clear hb;refine gy hK ?_;refine dh 8 _ ?_;refine dh 9 (.slice ra (da.getD []).length rc) ?_;refine dh 10 (.int .i64 (gq 131 da)) ?_;refine dh 11 _ ?_;refine dh 12 _ ?_;refine qG ?_;cases da with
       |none=>
        obtain rfl:T=(b.t,[],131):=by rw[HRES.o,<-HK.o];rfl
        go_wp2_with first|(with_reducible refine jr 63 99 3 S 3 HA.o ?_)|with_reducible refine js 99 6 64 S 2 HB.o (fW _) λW S=>?_|(go_at_call 112;refine A7 S (C9.o _ S.b) λW B c HB HC HF S=>?_)|((with_reducible refine s6 ?_);go_must (refine Ha S 2 ae ae ae nU ae ?_;exact⟨_,_,ae,⟨c,ae,HC.o,S.jK HF.o⟩,ir.nil _ _,S.b⟩))
       |some mm=>
        simp only[kL] at S HFy|-;simp only at HK;by_cases h4:4000<mm.length
        . obtain rfl:T=(b.t,[],131):=by have h9:=HK.o;rw[c8 h4] at h9;rw[HRES.o,<-h9];rfl
          have h5:(4000:Int)<(mm.length:Int):=cN
          go_wp2_with first|(with_reducible refine jr 63 99 3 S 3 HA.o ?_)|with_reducible refine js 99 6 64 S 2 HB.o (fW _) λW S=>?_|(go_at_call 112;refine A7 S (C9.o _ S.b) λW B c HB HC HF S=>?_)|((with_reducible refine s6 ?_);go_must (refine Ha S 2 ae ae ae nU ae ?_;exact⟨_,_,ae,⟨c,ae,HC.o,S.jK HF.o⟩,ir.nil _ _,S.b⟩))
        . have h5:¬(4000:Int)<(mm.length:Int):=cN;rw[cX h4] at HK
          go_wp2_with first|(with_reducible refine jl 66 97 65 S 1 1 (.slice (s_ g 0) m0.length cc) ?_)|((with_reducible refine wI 107 70 68 ?_);refine ad7 S 1 ae ae (i*11+10) (v:=.slice ra mm.length rc) (by show i*11+10<m0.length*11;omega) ae ae ae ox λW S=>?_)
          go_roundw
          case rel=>
           obtain⟨y',hy'⟩:∃y':dL,y'=⟨{y.todu with df:=mm},ra,rc⟩:=⟨_,ae⟩;have hput:(ju m).set (i*11+10) (.slice ra mm.length rc)=ju (m.set i y'):=wj him2 HY.o 10 cN _ y' (λj hj=>by rw[hy'];rcases j with(_|_|_|_|_|_|_|_|_|_|_|j)<;>first|rfl|omega);have hsv:ez (m.set i y')=(ez b.l).set i {x.todu with df:=mm}:=by
            have h1:ez (m.set i y')=(ez m).set i y'.todu:=by unfold ez;rw[map_set]
            rw[h1,HSM.o,set_set,hy'];simp only[HYT.o]
           refine⟨k+1,mm,gn,m.set i y',ga,gc,cN,by go_num,ae,cN,by omega,cz ⟨HK.o,by rw[xM];exact HMM.o,hsv,λv hv=>?_,?_⟩⟩
           . rcases vB hv with h|h
             . exact HFM.o v h
             . rw[h,hy'];exact HFy.o
           . have S:=S.pop;simp only at S;rw[hput,<-hy'] at S;refine S.EH (λB w h v hv=>?_) (jy _).me;rcases vB hv with h2|h2
             . exact h.1 v h2
             . rw[h2];exact h.2
          case measure=>exact qN
   . obtain rfl:k=l.length:=cN;rw[drop_length] at hkill;obtain rfl:T=(⟨b.next,(ez b.l).set i {x.todu with df:=dd}⟩,gn,0):=by rw[HRES.o,<-hkill];rfl
     obtain⟨B4,hB4⟩:=fU B3;have HBM:Hid (B3=cM 2 (dO ⟨b.next,m,s_ g 0,cc⟩)):=cz (by rw[HB3.o];unfold dO dY.sv;simp only[HMM.o]);clear hkill hmm hsm hB4
     go_wp2_with first|(with_reducible refine jr 72 99 11 S 0 HB3.o ?_)|with_reducible refine js 99 6 72 S 1 HBM.o (fW _) λW S=>?_|((with_reducible refine s6 ?_);go_must (refine Ha S 1 ae ae ae nU ae ?_;exact⟨_,_,ae,⟨⟨b.next,m,s_ g 0,cc⟩,ae,by unfold dY.t;rw[HSM.o],⟨by have h9:=S.o1;unfold dY.sv;rw[HMM.o];exact h9,λv hv=>⟨(S.x v hv).1,HFM.o v hv⟩⟩⟩,S.o0,S.b⟩))
def abm(l:cV)(n:Nat):Option Nat:=l.findIdx? λx=>decide (x=n)
def UK(l:cV)(v:c7)(n:Nat)(z:l.n<=1000000)(w:cS)(R:dg w 82 1 v l.n (K1 l)):sW 161 #[v,bU ct n] w (bU cq (lF (abm l n))):=by
 obtain⟨ao,cap,rfl,q,a⟩:=dQ R;have R:=cz R;have a:=cz a;have S:=cz (qP w);go_enter func161,ntmps161;go_upto_region 2 with(fail);go_loopw [8] (λi wr=>∃k:Nat,k<=l.n/\i=bU cq k/\Hid ((∀(j:Nat)y,l[j]?=cu y->j<k->decide (y=n)=cy)/\St w cw [] [] [] (λ_ _=>True) wr)) (λi _=>l.n-(intOf i).m);exact amo;clear S;obtain⟨k,u,rfl,hS⟩:=hrel;by_cases d:k<l.n
 . obtain⟨b,o,rfl⟩:=a.o cN;obtain⟨x,f⟩:∃x,l[k]?=cu x:=⟨_,jG d⟩;have p:Hid (∀W,dS w W->W.cell? ⟨b,o+k,cw⟩=cu (.int ct x)):=cz λW r=>dg.cellAt (R.o.cP r) cN (by unfold K1;rw[rK,f];rfl);have m:=cz f;clear f;rcases Bv (x=n) with rfl|he
   . go_wp2_with (with_reducible refine jo 15 82 14 (p.o _ hS.o.2.fr.cP) ?_);go_ret;have e:abm l x=cu k:=Cb m.o (gI ae) hS.o.1;exact amT
   . (have s:(((n:Nat):Int)==((x:Nat):Int))=cy:=by rw[lr];omega);go_wp2_with (with_reducible refine jo 15 82 14 (p.o _ hS.o.2.fr.cP) ?_);go_roundw;refine⟨k+1,cN,by go_num,cz ⟨λj y g t=>?_,hS.o.2⟩⟩;by_cases c:j=k;subst c;rw[m.o] at g;cases g;exact jC he;exact hS.o.1 j y g cN;exact qN
 . obtain rfl:k=l.n:=cN;have e:Hid (abm l n=cw):=cz (Cc hS.o.1);go_wp2;go_ret;exact⟨by rw[e.o];rfl,hS.o.2.fr.cP⟩
def Ju(p:du->Bool)(l:List dL)(v:c7)(j:l.n<=1000000)(g:Nat)(c:gJ)(w:cS)(d:∀args w,(callFunc g args).run prog w=.ok (.enter g args) w)(R:gC w v l)(hc:∀(k:Nat)x A W,l[k]?=cu x->A=cM 11 (iz x)->dS w W->CP_ g (#[bV A]++c) W λe w'=>e=cj (bZ (p x.todu))/\dS W w'):
 sW 162 #[v,.func (.func g) #[] c] w (bZ ((ez l).any p)):=by
 have b:=cz (Fk p l v j g c w d R hc);clear hc R;have a:(ez l).any p=((ez l).findIdx? p).isSome:=by rw[findIdx?_isSome]
 rw[a];obtain⟨r,f⟩:=dG ((ez l).findIdx? p);rw[f] at b|-;clear a f d;rcases r with _|k;simp only[lF] at b;rotate_left;simp only[lF] at b;have m:(0:Int)<=(k:Int):=Int.natCast_nonneg k
 all_goals
  go_enter func162,ntmps162
  go_wp2_with (go_at_call 176;refine aj b.o λW i=>?_;have h:=cz i)
  go_ret;exact⟨ae,h.o⟩
def Kj(id:Nat)(nm:fM)(s:du):Bool:=s.dz&&decide (s.cZ=id)&&decide (s.name=nm)
theorem aeb(s t:fM):(s.toList==t.toList)=decide (s=t):=by rw[wR,wX,qQ];rw[DF,DF];exact⟨λe=>by obtain⟨⟨x⟩⟩:=s;simp_all,λe=>by rw[e]⟩
def Hr(x y:dL)(A:gJ)(v:A=cM 11 (iz x))(id r m e j:Nat)(b:dY)(w:cS)(u:cL w r 82 1 (λ_=>.int .u64 id))(z:cL w m 99 2 (dO b))(f:cL w e 3 1 (λ_=>.int .i64 j))(R:jd w b)(q:b.l[j]?=some y)(C:b.l.length<=1000000):
 sW 163 #[.agg A,.pointer (some ⟨r,0,none⟩),.pointer (some ⟨m,0,none⟩),.pointer (some ⟨e,0,none⟩)] w (.bool (Kj id y.name x.todu)):=by
 have I:=cz v;have G:=(oF.1 q).1;have B:(j:Int)<(b.l.length:Int):=cN;obtain⟨k,l,c⟩:=A8 R cN;have E:=cz ((R.cU c).at q);have o:Hid (dO b 1=.slice (some ⟨k,l,none⟩) b.l.length b.cap):=cz (by rw[<-c];rfl);have s:=cz u;have p:=cz z;have n:=cz f;obtain⟨T,a⟩:=dG (Kj id y.name x.todu);rw[a];clear v u z f c q;have S:=qP w;unfold Kj at a;cases d:x.dz with
 |false=>
  obtain rfl:false=T:=by rw[<-a,d];rfl
  have g:Hid (Value.bool x.dz=.bool false):=cz (by rw[d]);clear a d;go_enter func163,ntmps163;go_upto_region 1 with(refine fu λW S=>?_);refine eO S dC λW S=>?_;refine dh 0 (dF w.heap.size 2) ?_;refine ij 1 (.bool false) ae (uq S 0 (λ_ h=>h) ae 2 g.o rh ae tX) ?_;refine dh 2 _ ?_;refine pP 3 ?_;refine pP 4 ?_;refine pP 5 ?_;refine pP 6 ?_;refine dh 7 (.bool false) ?_;refine dh 8 (.bool false) ?_;refine pP 9 ?_;refine pP 10 ?_;refine pP 11 ?_;refine pP 12 ?_;refine pP 13 ?_;refine pP 14 ?_;refine pP 15 ?_;refine pP 16 ?_;refine pP 17 ?_;refine dh 18 (.bool false) ?_;refine dh 19 _ ?_;refine qG ?_;go_wp2;go_ret;exact az
 |true=>
  have g:Hid (Value.bool x.dz=.bool true):=cz (by rw[d]);rw[d,LC] at a;by_cases ho:x.cZ=id
  . rw[gI ho,LC] at a;have D:Hid ((x.name.toList==y.name.toList)=T):=cz (by rw[aeb];exact a);have t:Hid (((x.cZ:Nat):Int)==((id:Nat):Int)):=cz (by rw[ho];simp);clear a d;subst ho;go_enter func163,ntmps163;go_upto_region 1 with(refine fu λW S=>?_);refine eO S dC λW S=>?_;refine dh 0 (dF w.heap.size 2) ?_;refine ij 1 (.bool true) ae (uq S 0 (λ_ h=>h) ae 2 g.o rh ae tX) ?_;refine dh 2 _ ?_;refine dh 3 (dF w.heap.size 3) ?_;refine dh 4 (.int .u64 x.cZ) ?_;refine ij 5 (.int .u64 x.cZ) ae (gW (λw h=>by obtain⟨_,S⟩:=h;exact cL.cell (s.o.cP S.b) (i:=0) cN) ae gi) ?_;refine dh 6 (.bool true) ?_;refine dh 7 (.bool true) ?_;refine dh 8 (.bool true) ?_;refine dh 9 (dF w.heap.size 1) ?_;refine dh 10 (.string x.name) ?_;refine dh 11 (dF m 1) ?_;refine ij 12 (.slice (s_ k l) b.l.length b.cap) ae (gW (λw h=>by obtain⟨_,S⟩:=h;rw[cL.cell (p.o.cP S.b) (i:=1) cN];exact gQ some o.o) ae sQ) ?_;refine ij 13 (.int .i64 j) ae (gW (λw h=>by obtain⟨_,S⟩:=h;exact cL.cell (n.o.cP S.b) (i:=0) cN) ae Dy) ?_;refine dh 14 (dF k (l+j*11)) ?_;refine dh 15 (dF k (l+j*11+1)) ?_;refine ij 16 (.string y.name) ae (gW (λw h=>by obtain⟨_,S⟩:=h;exact(E.o.cP S.b).c1) ae Gr) ?_;refine ij 17 (.bool T) ae (Or.inl ⟨dC,λw H=>by have F:=D.o;go_simp⟩) ?_;refine dh 18 (.bool T) ?_;refine dh 19 _ ?_;refine qG ?_;go_wp2;go_ret;exact az
  . (obtain rfl:false=T:=by rw[<-a,jC ho];rfl);have t:Hid ((((x.cZ:Nat):Int)==((id:Nat):Int))=false):=cz (by rw[lr];omega);clear a d;go_enter func163,ntmps163;go_upto_region 1 with(refine fu λW S=>?_);refine eO S dC λW S=>?_;refine dh 0 (dF w.heap.size 2) ?_;refine ij 1 (.bool true) ae (uq S 0 (λ_ h=>h) ae 2 g.o rh ae tX) ?_;refine dh 2 _ ?_;refine dh 3 (dF w.heap.size 3) ?_;refine dh 4 (.int .u64 x.cZ) ?_;refine ij 5 (.int .u64 id) ae (gW (λw h=>by obtain⟨_,S⟩:=h;exact cL.cell (s.o.cP S.b) (i:=0) cN) ae gi) ?_;refine ij 6 (.bool false) ae (Or.inl ⟨dC,λw H=>by have F:=t.o;go_simp⟩) ?_;refine dh 7 (.bool false) ?_;refine dh 8 (.bool false) ?_;refine pP 9 ?_;refine pP 10 ?_;refine pP 11 ?_;refine pP 12 ?_;refine pP 13 ?_;refine pP 14 ?_;refine pP 15 ?_;refine pP 16 ?_;refine pP 17 ?_;refine dh 18 (.bool false) ?_;refine dh 19 _ ?_;refine qG ?_;go_wp2;go_ret;exact az
theorem Kk(l:List du)(id:Nat):∀(f:Nat)(a:cV)(dB:Nat),(∀m∈a,(fp l m).isSome=cx)->∀m∈(zV l id f a dB).1,(fp l m).isSome=cx
 |0,a,dB,h=>h
 |f+1,a,dB,h=>by
  unfold zV;split
  . exact h
  . split
    . exact h
    . next i hi=>
      split
      . refine Kk l id f _ _ λm b=>?_;rcases gH.1 b with h2|h2
        . exact h m h2
        . rw[fS.1 h2,hi];rfl
      . exact h
theorem XY(l:List du)(id:Nat):∀m∈(uZ l id).1,(fp l m).isSome=cx:=by grind[uZ,Kk]
def zi(l:List du)(id:Nat):cV->List du->Option (List du)
 | [],s=>cu s
 |m::ms,s=>match fp l m with
  |none=>cw
  |some j=>if l.any (Kj id (dH l j).name)=cx then cw else zi l id ms (s.set j {dH s j with cZ:=id})
def yd(l:List du)(o:du):cV:=(uZ l o.cZ).1.drop ((abm (uZ l o.cZ).1 o.id).getD 0)
def fT(b:ej)(cT:fM):ej×Int:=
 match nK b.cU cT with
 |(cw,c)=>(b,c)
 |(cu i,_)=>match fp b.cU (uZ b.cU (dH b.cU i).id).2 with
  |none=>(b,174)
  |some o=>match zi b.cU (dH b.cU i).id (yd b.cU (dH b.cU o)) b.cU with
   |none=>(b,171)
   |some s=>(⟨b.next,s⟩,0)
theorem Kl(l:List du)(id m:Nat)(a:cV)(s:List du):zi l id (m::a) s=match fp l m with
 |none=>cw
 |some j=>if l.any (Kj id (dH l j).name)=cx then cw else zi l id a (s.set j {dH s j with cZ:=id}):=rfl
theorem Qd(l:List du)(id:Nat):∀(f:Nat)(a:cV)(dB:Nat),(zV l id f a dB).1.length<=a.length+f
 |0,a,dB=>eN _
 |f+1,a,dB=>by
  unfold zV;split
  . grind
  . split
    . grind
    . split
      . have:=Qd l id f (a++[dB]) (dH l (by assumption)).dB;rw[jv] at this;simp only[length_singleton] at this;omega
      grind
theorem aec(l:List du)(id:Nat):(uZ l id).1.n<=32:=by unfold uZ;split;grind;split;grind;grind[Qd]
theorem St.UL(S:St w0 d l L (o::O) X w)(R:dg w o.e o.z v n xs)(hv:0<n->v.ownBlock=o.v.ownBlock)(c:lQ o.e=cy)(e:gZ o.e=cy):
 St w0 d l L O (λB w=>X B w/\yQ o.e o.z v n xs B w) w:=by
 refine S.KY.DH (fF _ _ _ _ _ c e) ⟨R,λk b j g=>?_⟩;have h:o.v.ownBlock=cu b:=by grind
 have a:=S.nd;have f:eM L (o::O)=L.map R4.b++b::O.filterMap O4.ob:=by grind[eM,O4.ob]
 rw[f] at a;have i:(L.map R4.b++b::O.filterMap O4.ob).Perm (b:: (L.map R4.b++O.filterMap O4.ob)):=perm_middle;exact(yo.1 (i.nodup_iff.1 a)).1 g
def aix:Gp prog 78 1:=⟨dC,λW=>by rfl⟩
theorem K4(b:dY)(A:gJ)(hA:A=cM 2 (dO b))(J:zf b.t)(cT:fM)(e4:cT.s<=140737488355328)(w:cS)(R:jd w b):
 CP_ 99 #[bV A,bY cT] w λe w'=>∃B,e=cj (cg #[bV B,bU cq (fT b.t cT).2])/\lV w' w.h.s B (fT b.t cT).1/\dS w w':=by
 have HA:=cz hA;have Z:=cz R;have C1:=cz λW(a:dS w W)=>Jr b A hA J cT e4 W (Z.o.cP a);have C2:=cz λid W(a:dS w W)=>MF b.l b.sv id J.len W (Z.o.cP a);have C3:=cz λid W(a:dS w W)=>Ki b.l b.sv id J.len J.2 W (Z.o.cP a);have C4:=cz λid W(a:dS w W)=>Qa b.l b.sv id J.len W (Z.o.cP a);have C6:=cz λid W(a:dS w W)=>wK b.l b.sv id J.len W (Z.o.cP a);have C9:=cz λW(a:dS w W)=>qH b A hA J W (Z.o.cP a);have hd:rC b.l:=J.2;have F:=J.len;have S:=qP w;clear hA J;obtain⟨T,HT⟩:=sV (fT b.t cT);rw[HT.o];go_enter func99,ntmps99;rcases DL b.t.cU cT with⟨cd,hc,hv⟩|⟨i,hn,hv⟩
 . (obtain rfl:(b.t,cd)=T:=by rw[<-HT.o];unfold fT;rw[hv]);rw[hv] at C1;clear hv;go_wp2_with first|refine je S (C1.o _ S.b) λW S=>?_|refine A7 S (C9.o _ S.b) λW B c HB HC HF S=>?_|(refine mu ?_;exact amH)|refine fO ?_|refine fu λW S=>?_
 . (obtain⟨x,hx⟩:=wi hn;have f2:=(oF.1 hx).1;have e7:(i:Int)<(b.l.n:Int):=cN;have hg:dH b.t.cU i=x.todu:=lG hx;obtain⟨u,I,N⟩:=A8 R cN;have R9:=R.cU N;have b6:=cz R9;have HX:=cz (R9.at hx);have l:Hid (dO b 1=bX (cu ⟨u,I,cw⟩) b.l.n b.cap):=cz (by rw[<-N];rfl);have X:b.sv=bX (s_ u I) b.l.n b.cap:=by unfold dY.sv;rw[N]);(rw[X] at C2 C3 C4 C6;obtain⟨og,a9⟩:=dG ((uZ (ez b.l) x.id).2);have C2:=cz (C2.o x.id);have C3:=cz (C3.o og);rw[a9] at C2;obtain⟨pn,b1⟩:=dG (fp (ez b.l) og);rw[b1] at C3;obtain⟨pb,a5⟩:=sV pn.isSome;rw[a5.o] at C3;have a2:T=pn.elim (b.t,174) λo=>(zi (ez b.l) x.id (yd (ez b.l) (dH (ez b.l) o)) (ez b.l)).elim (b.t,171) λs=>(⟨b.next,s⟩,0):=by rw[<-HT.o,<-b1,<-a9];unfold fT;rw[hv];simp only[hg];rw[show b.t.cU=ez b.l from ae];cases fp (ez b.l) (uZ (ez b.l) x.id).2 with|none=>rfl|some o=>simp only[BB];cases zi (ez b.l) x.id (yd (ez b.l) (dH (ez b.l) o)) (ez b.l)<;>rfl);have a1:=cz a2;rw[hv] at C1;simp only[lF] at C1;clear hv hn hg hx N b1 a2 a9 X;go_upto_region 5 with(first|(first|refine jo 32 82 31 ((HX.o.cP S.b).c0) ?_)|refine yT S rfl HA.o rfl λW1 S=>?_|refine je S (C1.o _ S.b) λW4 S=>?_|refine Ey S 1 ae 1 (v:=bX (s_ u I) b.l.n b.cap) l.o ?_|refine fO ?_|refine fu λW S=>?_);refine eR S dC [⟨w.h.s,99,2,dO b⟩,⟨W4.h.s,82,1,λ_=>bU ct x.id⟩] Cz λW S=>?_;refine dh 0 (dF w.h.s 1) ?_;refine ij 1 (bX (s_ u I) b.l.n b.cap) ae (gW (λw h=>by rw[cL.cell (h.row 0 ae) (i:=1) rh];exact gQ cu l.o) ae sQ) ?_;refine dh 2 (dF w.h.s 1) ?_;refine ij 3 (bX (s_ u I) b.l.n b.cap) ae (gW (λw h=>by rw[cL.cell (h.row 0 ae) (i:=1) rh];exact gQ cu l.o) ae sQ) ?_;refine dh 4 (bU ct x.id) ?_;repeat' first|refine Th ?_|refine nz 7 _ ?_|refine nz 8 (bV B) ?_|refine nz 9 (bZ pb) ?_|refine nz 12 _ ?_|refine Bt 5 10 (λK C=>?_) λK C=>?_|refine qf 5 λK C=>?_|refine qf 6 λK C=>?_|refine qf 11 λK C=>?_|refine Bt 6 10 (λK C=>?_) λK C=>?_|refine qf 10 λK C=>?_|(refine gu S xP pS ae λE9 W S=>?_;refine gy C ?_)|(go_wp2_with fail;refine je S (C2.o _ S.b) λW S=>?_;refine gy C ?_)|(go_wp2_with fail;refine ah (C3.o _ S.b) λB W6⟨⟨pv,hB,d4,e5⟩,a⟩=>?_;have HB:=cz hB;have e2:=cz d4;replace S:=S.cP a;clear a hB d4 e5;refine gy C ?_)|(refine km S 0 ae ae ae HB.o uX (mI _) λW S=>?_;refine gy C ?_)
   all_goals(
    refine cz ?_;cases pb with
    |false=>
     obtain rfl:T=(b.t,174):=by
      have h9:=a1.o;cases pn with
      |none=>exact h9
      |some j=>exact absurd a5.o eQ
     go_wp2_with first|refine A7 S (C9.o _ S.b) λW B c HB HC HF S=>?_|(refine mu ?_;exact amH)|refine fO ?_|refine fu λW S=>?_
    |true=>
     obtain⟨e6,rfl⟩:∃j,pn=cu j:=by
      cases pn with
      |none=>exact absurd a5.o eQ
      |some j=>exact⟨j,ae⟩
     have d2:dH (ez b.l) e6=pv.todu:=e2.o.symm;obtain⟨M,D⟩:=dG ((uZ (ez b.l) pv.cZ).1);obtain⟨ri,V⟩:=dG (abm M pv.id);obtain⟨kk,Q⟩:=dG (ri.getD 0);obtain⟨f,L⟩:=sV (M.drop kk);obtain⟨KT,b4⟩:=sV (zi (ez b.l) x.id f (ez b.l));have H:T=KT.elim (b.t,171) λs=>(⟨b.next,s⟩,0):=by
      rw[a1.o,<-b4.o,<-L.o,<-Q,<-V,<-D];unfold yd;rw[BB,d2]
     have d6:∀m∈f,(fp (ez b.l) m).isSome=cx:=λm hm=>by rw[<-L.o] at hm;have:=mR hm;rw[<-D] at this;exact XY _ _ m this
     have f1:M.n<=32:=by rw[<-D];exact aec _ _
     have c5:kk<=M.n:=by
      rw[<-Q];cases ri with
      |none=>exact gG _
      |some q=>exact Nat.le_of_lt (I4.1 V).1
     have c6:max (lF ri) 0=((kk:Nat):Int):=by
      rw[<-Q];cases ri with
      |none=>rfl
      |some q=>exact Int.max_eq_left (Int.natCast_nonneg q)
     have G:M.n-kk=f.n:=by rw[<-L.o,uf]
     have e8:f.n<=32:=cN;have t:=cz H;have e3:=cz d6;have C4:=cz (C4.o pv.cZ);rw[D] at C4;have C5:=cz λv hl W R=>UK M v pv.id hl W R;rw[V] at C5;have b9:M.n<=1000000:=cN;clear d2 D V H d6 Q
     go_upto_region 12 with(first|refine Ey S 3 ae 1 (v:=bX (s_ u I) b.l.n b.cap) l.o ?_|(refine ah (C4.o _ S.b) λr W⟨ho,a⟩=>?_;obtain⟨ra,rc,rfl⟩:=dx ho;replace S:=S.iw a ho ae ae;clear a)|refine je S (C5.o _ b9 _ S.q0) λW S=>?_|(refine y8 aix ae ae c5 ?_;have RD:=dg.CG S.q0 c5;obtain⟨md,U⟩:=dG (lz ra rc kk 1);(try simp only at RD);rw[U,G,sL,<-map_drop,L.o] at RD;rw[U,G];have d1:0<f.n->Value.ownBlock (bX md f.n (rc-kk))=Value.ownBlock (bX ra M.n rc):=(λhn=>by obtain⟨g1,c1,e1⟩:=DC S.o0 (by show 0<M.n;omega);simp only[lX] at e1;obtain⟨rfl,-,rfl⟩:=e1;rw[<-U];unfold lz;split<;>simp[Value.ownBlock,Addr.add]<;>(split<;>simp_all));replace S:=S.UL RD d1 ae ae;clear RD d1 U)|(refine ah (C9.o _ S.b) λB3 W5⟨⟨⟨cn,p,ca,cc⟩,hB,hc,ho⟩,a⟩=>?_;obtain⟨c2,O⟩:=ej.mk.inj hc;simp only at c2 O;subst c2;have c7:p.n=b.l.n:=(by have h9:=gQ length O;rwa [iv,iv] at h9);obtain⟨g,b8⟩:=vd ho (by show 0<p.n;omega);simp only at b8;subst b8;have d9:=cz c7;have d8:=cz hB;have HM:=cz O;have HF:=cz (S.fresh ho);replace S:=S.kq a ho;clear c7;change St _ _ _ _ (⟨109,11,bX (s_ g 0) p.n cc,p.n,ju p⟩::_) _ _ at S;clear a hB hc O)|refine fO ?_|refine fu λW S=>?_)
     have eg:∀args w,(callFunc 163 args).run prog w=.ok (.enter 163 args) w:=enters_of func163 dC ae;have EG:=cz eg;have d5:=fF 82 1 (Value.slice md f.n (rc-kk)) f.n (K1 f) ae ae;have b7:=cz d5;have S:=cz S;clear eg d5 c6 G
     go_loopw [63] (λkv wr=>∃(k:Nat)(m:List dL),k<=f.n/\kv=bU cq k/\Hid (zi (ez b.l) x.id (f.drop k) (ez m)=KT/\m.n=p.n/\(∀v∈m,rD w.h.s v)/\
      St w cw [] [⟨W5.h.s,99,2,dO ⟨b.next,p,s_ g 0,cc⟩⟩,⟨E9,109,11,iz pv⟩,⟨W4.h.s,82,1,λ_=>bU ct x.id⟩,⟨W1.h.s,99,2,dO xr⟩,⟨w.h.s,99,2,dO b⟩] [⟨109,11,bX (s_ g 0) p.n cc,p.n,ju m⟩] (λB w=>yQ 82 1 (Value.slice md f.n (rc-kk)) f.n (K1 f) B w/\oL m B w) wr)) (λkv _=>f.n-(intOf kv).m)
     case atStart=>exact⟨0,p,cN,ae,cz ⟨by rw[HM.o];exact b4.o,ae,HF.o,S.o.EH (λ_ _ h=>⟨h.1.2,h.2⟩) (b7.o.and (jy p)).me⟩⟩
     case round=>
      clear S;obtain⟨k,m,hk,rfl,hS⟩:=hrel;obtain⟨d,a8,c3,S⟩:=hS.o;clear hS;have a4:=cz a8;have a3:=cz c3;clear c3;by_cases a7:k<f.n
      . obtain⟨n,hn⟩:=dG (f[k]);obtain⟨lb,lo,rfl⟩:∃lb lo,md=s_ lb lo:=by
         obtain⟨_,_,e1,_,h⟩:=dQ S.x.1.1
         grind
        have c9:(K1 f)[k]?=cu (.int ct n):=by unfold K1;rw[rK,jG a7,hn];rfl
        obtain⟨j,hj⟩:∃j,fp (ez b.l) n=cu j:=Option.isSome_iff_exists.1 (e3.o n (hn▸mP a7));obtain⟨f3,y,hy,-⟩:=kP hj;have c4:dH (ez b.l) j=y.todu:=lG hy;rw[Db a7,hn,Kl,hj] at d;simp only[c4] at d;have C7:=cz (C6.o n);rw[hj] at C7;simp only[lF] at C7;obtain⟨an,a6⟩:=dG ((ez b.l).any (Kj x.id y.name));rw[show y.todu.name=y.name from ae,a6] at d;have C8:=cz λ(cb:gJ)W hR hc=>Ju (Kj x.id y.name) b.l (bX (s_ u I) b.l.n b.cap) F 163 cb W EG.o hR hc;rw[a6] at C8;have b2:=cz d;have b5:=cz c9;have b3:=cz hy;have f4:(j:Int)<(p.n:Int):=by have:=d9.o;omega
        have E:j<m.n:=cN;clear d hn c9 hj c4 a6 hy a8;cases an with
        |true=>
         obtain rfl:T=(b.t,171):=by have h9:=b2.o;rw[c8 ae] at h9;rw[t.o,<-h9];rfl
         go_wp2_with first|(first|refine zw (dg.cellAt S.x.1.1 cN b5.o) ?_|refine Ey S 4 ae 1 (v:=bX (s_ u I) b.l.n b.cap) l.o ?_|refine Ey S 5 ae 1 (v:=bX (s_ u I) b.l.n b.cap) l.o ?_)|refine je S (C7.o _ S.b) λW S=>?_|(have hE:=λ(k:Nat)(z:dL)(A:gJ)W'(_:b.l[k]?=cu z)(hA:A=cM 11 (iz z))a=>Hr z y A hA x.id _ _ _ j b W' (cL.cP (S.pE (k:=3) ae) a) (cL.cP (S.pE (k:=5) ae) a) (cL.cP S.k0 a) ((Z.o.cP S.b).cP a) b3.o F;refine(C8.o #[dF _ 0,dF _ 0,dF _ 0] _ (b6.o.cP S.b) hE).mono ?_;clear hE;rintro e W ⟨rfl,a⟩;replace S:=S.cP a;clear a)|refine A7 S (C9.o _ S.b) λW B c HB HC HF S=>?_|(refine mu ?_;exact amH)|refine fO ?_|refine fu λW S=>?_
        |false=>
         go_wp2_with first|(first|refine jl 78 97 77 S 1 1 (bX (s_ g 0) p.n cc) ?_|refine jl 79 3 15 S 0 0 (bU cq j) ?_)|(first|refine zw (dg.cellAt S.x.1.1 cN b5.o) ?_|refine Ey S 4 ae 1 (v:=bX (s_ u I) b.l.n b.cap) l.o ?_|refine Ey S 5 ae 1 (v:=bX (s_ u I) b.l.n b.cap) l.o ?_)|refine je S (C7.o _ S.b) λW S=>?_|(have hE:=λ(k:Nat)(z:dL)(A:gJ)W'(_:b.l[k]?=cu z)(hA:A=cM 11 (iz z))a=>Hr z y A hA x.id _ _ _ j b W' (cL.cP (S.pE (k:=3) ae) a) (cL.cP (S.pE (k:=5) ae) a) (cL.cP S.k0 a) ((Z.o.cP S.b).cP a) b3.o F;refine(C8.o #[dF _ 0,dF _ 0,dF _ 0] _ (b6.o.cP S.b) hE).mono ?_;clear hE;rintro e W ⟨rfl,a⟩;replace S:=S.cP a;clear a)|refine ad7 S 0 rfl rfl (j*11+3) (v:=bU ct x.id) (by show j*11+3<p.n*11;omega) rfl rfl rfl gi λW S=>?_|refine fO ?_|refine fu λW S=>?_
         go_roundw
         case rel=>
          obtain⟨z,hz⟩:=dG (m[j]);obtain⟨y',Y⟩:∃y':dL,y'=⟨{z.todu with cZ:=x.id},z.ee,z.cap⟩:=⟨_,ae⟩;have d3:(ju m).set (j*11+3) (bU ct x.id)=ju (m.set j y'):=wj E hz 3 cN _ y' (λj hj=>by rw[Y];rcases j with(_|_|_|_|_|_|_|_|_|_|_|j)<;>first|rfl);have X:ez (m.set j y')=(ez m).set j {dH (ez m) j with cZ:=x.id}:=by
           rw[lG (x:=z) (by rw[jG E,hz]),show ez (m.set j y')=(ez m).set j y'.todu by unfold ez;rw[map_set],Y]
          have d7:z∈m:=hz▸mP E;have d:=b2.o;rw[cX eQ] at d;refine⟨k+1,m.set j y',cN,by go_num,cz ⟨by rw[X];exact d,by rw[xM];exact a4.o,λv hv=>?_,?_⟩⟩
          . rcases vB hv with h|h
            . exact a3.o v h
            . rw[h,Y];exact a3.o z d7
          . have S:=S.pop;simp only at S;rw[d3] at S;refine S.EH (λB w h=>⟨h.1,λv hv=>?_⟩) (b7.o.and (jy _)).me;rcases vB hv with h2|h2
            . exact h.2 v h2
            . rw[h2,Y];exact h.2 z d7
         case measure=>exact qN
      . obtain rfl:k=f.n:=cN;rw[drop_length] at d;obtain rfl:T=(⟨b.next,ez m⟩,0):=by rw[t.o,<-d];rfl
        have e9:Hid (B3=cM 2 (dO ⟨b.next,m,s_ g 0,cc⟩)):=cz (by rw[d8.o];unfold dO dY.sv;simp only[a4.o]);clear d a8
        go_wp2_with first|(refine mu ?_;exact⟨_,ae,⟨⟨b.next,m,s_ g 0,cc⟩,ae,ae,⟨by have h9:=S.o0;unfold dY.sv;rw[a4.o];exact h9,λv hv=>⟨(S.x.2 v hv).1,a3.o v hv⟩⟩⟩,S.b⟩)|refine fO ?_|refine fu λW S=>?_
   )
def fC(s:du):Bool:=
 decide (1<=s.id/\s.id<=281474976710655)&&decide (1<=s.cZ/\s.cZ<=281474976710655)&&decide (s.dB<=281474976710655)&&decide (1<=s.blocks/\s.blocks<=64)&&ff s.name&&im s.cO&& (decide (s.df.n<=4000)&&ou s.df)&&
  (if s.dz=cx then decide (1<=s.cR/\s.cR<=281474976710655) else decide (s.cR=0/\s.cZ=s.id))
theorem mJ{s:du}(h:(1<=s.id/\s.id<=281474976710655)->(1<=s.cZ/\s.cZ<=281474976710655)->s.dB<=281474976710655->(1<=s.blocks/\s.blocks<=64)->ff s.name=cx->im s.cO=cx->s.df.n<=4000->ou s.df=cx->(if s.dz=cx then decide (1<=s.cR/\s.cR<=281474976710655) else decide (s.cR=0/\s.cZ=s.id))=cy):fC s=cy:=by simp_all[fC]
theorem wq(x:dL):∀i,i<3->iz x (7+i)=dE x.cO i:=λi a=>by grind[iz]
theorem Hs(x:dL)(A:gJ)(J:A=cM 11 (iz x))(Z:x.df.n<=1000000)(w:cS)(R:za w x):
 sW 198 #[bV A] w (bZ (fC x.todu)):=by
 have N:=cz J;have K:=cz R;obtain⟨G,r⟩:=fU (cM 3 (dE x.cO));have k:=cz λw=>tF x.name w;have l:=cz (show∀w,sW 241 #[bV G] w (bZ (im x.cO)) from λw=>by rw[<-dk r];exact yE x.cO w);have n:=cz λW(M:dS w W)=>Al x.df x.dv W cN (K.o.cP M);have F:=cz r;have h:=wq x;have S:=qP w;obtain⟨T,s⟩:=dG (fC x.todu);have d:=cz s;rw[s];clear J r s;go_enter func198,ntmps198;by_cases O:x.id<1
 case pos=>
  obtain rfl:cy=T:=by rw[<-d.o];exact(mJ λb _ _ _ _ _ _ _=>absurd b.1 cN).symm
  have t:(x.id:Int)<1:=cN;go_wp2_with (first|refine fO ?_|refine fu λW S=>?_);go_ret;exact az
 have t:¬((x.id:Int)<1):=cN;by_cases Q:281474976710655<x.id
 case pos=>
  obtain rfl:cy=T:=by rw[<-d.o];exact(mJ λb _ _ _ _ _ _ _=>absurd b.2 cN).symm
  have u:(281474976710655:Int)<(x.id:Int):=cN;go_wp2_with (first|(first|refine jm 9 82 8 S 0 0 (bU ct x.id) ?_)|refine fO ?_|refine fu λW S=>?_);go_ret;exact az
 have u:¬((281474976710655:Int)<(x.id:Int)):=cN;go_upto_region 2 with(first|(first|refine jm 9 82 8 S 0 0 (bU ct x.id) ?_)|refine fO ?_|refine fu λW S=>?_);by_cases U:x.cZ<1
 case pos=>
  obtain rfl:cy=T:=by rw[<-d.o];exact(mJ λ_ b _ _ _ _ _ _=>absurd b.1 cN).symm
  have y:(x.cZ:Int)<1:=cN;go_wp2_with (refine fO ?_);go_ret;exact az
 have y:¬((x.cZ:Int)<1):=cN;by_cases V:281474976710655<x.cZ
 case pos=>
  obtain rfl:cy=T:=by rw[<-d.o];exact(mJ λ_ b _ _ _ _ _ _=>absurd b.2 cN).symm
  have z:(281474976710655:Int)<(x.cZ:Int):=cN;go_wp2_with (first|(first|refine jm 17 82 16 S 0 3 (bU ct x.cZ) ?_)|refine fO ?_);go_ret;exact az
 have z:¬((281474976710655:Int)<(x.cZ:Int)):=cN;go_upto_region 3 with(first|(first|refine jm 17 82 16 S 0 3 (bU ct x.cZ) ?_)|refine fO ?_);by_cases X:281474976710655<x.dB
 case pos=>
  obtain rfl:cy=T:=by rw[<-d.o];exact(mJ λ_ _ b _ _ _ _ _=>absurd b cN).symm
  have B:(281474976710655:Int)<(x.dB:Int):=cN;go_wp2_with (refine fO ?_);go_ret;exact az
 have B:¬((281474976710655:Int)<(x.dB:Int)):=cN;go_upto_region 4 with(refine fO ?_);by_cases h6:x.blocks<1
 case pos=>
  obtain rfl:cy=T:=by rw[<-d.o];exact(mJ λ_ _ _ b _ _ _ _=>absurd b.1 cN).symm
  have C:(x.blocks:Int)<1:=cN;go_wp2_with (refine fO ?_);go_ret;exact az
 have C:¬((x.blocks:Int)<1):=cN;by_cases Y:64<x.blocks
 case pos=>
  obtain rfl:cy=T:=by rw[<-d.o];exact(mJ λ_ _ _ b _ _ _ _=>absurd b.2 cN).symm
  have D:(64:Int)<(x.blocks:Int):=cN;go_wp2_with (first|(first|refine jm 28 3 27 S 0 6 (bU cq x.blocks) ?_)|refine fO ?_);go_ret;exact az
 have D:¬((64:Int)<(x.blocks:Int)):=cN;go_upto_region 5 with(first|(first|refine jm 28 3 27 S 0 6 (bU cq x.blocks) ?_)|refine fO ?_)
 cases H:ff x.name with
 |false=>
  obtain rfl:cy=T:=by rw[<-d.o];exact(mJ λ_ _ _ _ b _ _ _=>absurd b jH).symm
  rw[H] at k;go_wp2_with (first|refine je S (k.o _) λW S=>?_|refine fO ?_);go_ret;exact az
 |true=>
 rw[H] at k;go_upto_region 6 with(first|refine je S (k.o _) λW S=>?_|refine fO ?_)
 cases I:im x.cO with
 |false=>
  obtain rfl:cy=T:=by rw[<-d.o];exact(mJ λ_ _ _ _ _ b _ _=>absurd b jH).symm
  rw[I] at l;go_wp2_with (first|refine oM_ S 0 ae (o:=7) (m:=3) (dE x.cO) h F.o ?_|refine je S (l.o _) λW S=>?_);go_ret;exact az
 |true=>
 rw[I] at l;go_upto_region 7 with(first|refine oM_ S 0 ae (o:=7) (m:=3) (dE x.cO) h F.o ?_|refine je S (l.o _) λW S=>?_);by_cases L:4000<x.df.n
 case pos=>
  obtain rfl:cy=T:=by rw[<-d.o];exact(mJ λ_ _ _ _ _ _ b _=>absurd b cN).symm
  have i:(4000:Int)<(x.df.n:Int):=cN;go_wp2_with (refine fO ?_);go_ret;exact az
 have i:¬((4000:Int)<(x.df.n:Int)):=cN;cases g:ou x.df with
 |false=>
  obtain rfl:cy=T:=by rw[<-d.o];exact(mJ λ_ _ _ _ _ _ _ b=>absurd b jH).symm
  rw[g] at n;go_wp2_with (first|(first|refine jm 45 107 44 S 0 10 (bX x.ee x.df.n x.cap) ?_)|refine je S (n.o _ S.b) λW S=>?_|refine fO ?_);go_ret;exact az
 |true=>
 rw[g] at n;go_upto_region 9 with(first|(first|refine jm 45 107 44 S 0 10 (bX x.ee x.df.n x.cap) ?_)|refine je S (n.o _ S.b) λW S=>?_|refine fO ?_);have c:T=(if x.dz=cx then decide (1<=x.cR/\x.cR<=281474976710655) else decide (x.cR=0/\x.cZ=x.id)):=by rw[<-d.o];unfold fC;grind
 cases f:x.dz with
 |true=>
  have e:Hid (Value.bool x.dz=bZ cx):=cz (by rw[f]);rw[f,c8 ae] at c;have a:=cz c;clear c f;by_cases q:x.cR<1
  . (obtain rfl:T=cy:=by rw[a.o];grind);have j:¬(1:Int)<=(x.cR:Int):=cN;go_wp2_with (first|refine Ey S 0 ae 2 (v:=bZ cx) e.o ?_|refine fO ?_);go_ret;exact az
  . have j:(1:Int)<=(x.cR:Int):=cN;by_cases E:x.cR<=281474976710655
    . (obtain rfl:T=cx:=by rw[a.o];grind);have p:(x.cR:Int)<=281474976710655:=cN;go_wp2_with (first|(first|refine jm 57 82 56 S 0 5 (bU ct x.cR) ?_)|refine Ey S 0 ae 2 (v:=bZ cx) e.o ?_|refine fO ?_);go_ret;exact az
    . (obtain rfl:T=cy:=by rw[a.o];grind);have p:¬(x.cR:Int)<=281474976710655:=cN;go_wp2_with (first|(first|refine jm 57 82 56 S 0 5 (bU ct x.cR) ?_)|refine Ey S 0 ae 2 (v:=bZ cx) e.o ?_|refine fO ?_);go_ret;exact az
 |false=>
  have e:Hid (Value.bool x.dz=bZ cy):=cz (by rw[f]);rw[f,cX eQ] at c;have a:=cz c;clear c f;by_cases q:x.cR=0
  . have j:Hid (Value.int ct x.cR=bU ct 0):=cz (by rw[q];rfl);by_cases E:x.cZ=x.id
    . (obtain rfl:T=cx:=by rw[a.o];grind);have p:Hid (Value.int ct x.cZ=bU ct x.id):=cz (by rw[E]);clear q E;go_wp2_with (first|refine jm 67 82 66 S 0 0 (bU ct x.id) ?_|(first|refine Ey S 0 ae 2 (v:=bZ cy) e.o ?_|refine Ey S 0 ae 5 (v:=bU ct 0) j.o ?_|refine Ey S 0 ae 3 (v:=bU ct x.id) p.o ?_));go_ret;exact az
    . (obtain rfl:T=cy:=by rw[a.o];grind);(have p:(((x.cZ:Nat):Int)==((x.id:Nat):Int))=cy:=by rw[lr];omega);clear q;go_wp2_with (first|(first|refine jm 65 82 64 S 0 3 (bU ct x.cZ) ?_|refine jm 67 82 66 S 0 0 (bU ct x.id) ?_)|(first|refine Ey S 0 ae 2 (v:=bZ cy) e.o ?_|refine Ey S 0 ae 5 (v:=bU ct 0) j.o ?_));go_ret;exact az
  . (obtain rfl:T=cy:=by rw[a.o];grind);(have j:(((x.cR:Nat):Int)==0)=cy:=by rw[lr];omega);go_wp2_with (first|refine Ey S 0 ae 2 (v:=bZ cy) e.o ?_|refine fO ?_);go_ret;exact az
end
section
variable {x:Nat}
theorem Qe(s:fM):(rS s).n=s.s:=by grind[rS,size_eq]
def UM(w:cS)(e:dW)(s:fM):dS w (bytesWorld w e s):=
 ⟨ae,ae,ae,by rw[bytesWorld_size];omega,λk a=>bytesWorld_at_old w e s k a⟩
theorem ak1(S:St w0 d l L O X w){s:fM}{e:dW}(t:a.eval (.tmp x)=.string s)(r:P.underlying src=some .string)(n:P.underlying e=some (.slice 5))(o:P.underlying 5=some (.int .u8))(q:s.size<=maxLen)(h:∀g c W,St w0 d l L O (λB w=>X B w/\yQ 5 1 (.slice (some ⟨g,0,none⟩) s.size c) s.size (eo (rS s)) B w) W->K (a.put (some dst) (.slice (some ⟨g,0,none⟩) s.size c)) W):
 Oper.wp P ⟨some dst,.convert src e (.tmp x),t2,p,af,none⟩ a w K Q:=by have f:=Lib.run_convert_string_bytes (P:=P) w src e 5 s r n o;unfold Oper.wp execOp;simp only[lx,t,f,nX];refine h _ _ _ ((S.cP (UM w 5 s)).DH (fF 5 1 _ _ _ ae ae) ⟨?_,λ_ b m i=>?_⟩);refine⟨by grind[eo,Qe],_,_,ae,grownCap_ge _ _ _ _,grownCap_le_maxLen _ _ _ _ q,λ_=>⟨w.heap.size,0,_,_,ae,bytesWorld_at_new w 5 s,λj u k=>?_⟩⟩;rw[pM];unfold eo rS at k;rw[wU,rK] at k;unfold bytesCells;grind;cases m;exact ug _ (S.lt _ i)
theorem Zu(S:St w0 d l L O X w){t:dW}(vs:List c7)(j:P.underlying t=cu (.slice e))(f:(P.info? e).map (λi=>(i.zero,i.s,i.bytes))=cu (cu zv,1,by'))(q:0<n)(y:n<=16777216)(ho:gZ e=cy)(u:vs.n=n)(r:∀v∈vs,v.cells=#[v])(g:parts.t.map (λp=>(p.1,a.eval p.2))=(vs.zipIdx 0).map λx=>(x.2,x.1))(h:∀W,St w0 d l (⟨w.h.s,e,n,λi=>vs.getD i undef⟩::L) O X W->K (a.put (cu dst) (bX (cu ⟨w.h.s,0,cw⟩) n n)) W):
 Oper.wp P ⟨cu dst,.buildSlice t n parts,t2,p,af,cw⟩ a w K Q:=by
 obtain⟨o,b,k,c,m⟩:=oH f;have s:cM n (λi=>vs.getD i undef)=vs.toArray:=by apply yg;grind[dy]
 refine wp_buildSlice t e n parts ae (cM n (λi=>vs.getD i undef)) o zv j b k jH jH (by rw[c];refine(gQ (Instr.fill _ _) ((Array.toList_map).trans g)).trans ?_;grind[Great.fill_flat]) (h _ (S.alloc e ae ho))
def blV(S:St w0 d l L O X w){t:dW}(vs:List c7)(o:P.underlying t=cu (.slice e))(g:(P.info? e).map (λi=>(i.zero,i.s,i.bytes))=cu (cu zv,1,by'))(b:0<n)(k:n<=16777216)(ho:gZ e=cy)(j:vs.n=n)(c:∀v∈vs,v.cells=#[v])(m:parts.t.map (λp=>(p.1,a.eval p.2))=(vs.zipIdx 0).map λx=>(x.2,x.1))(h:∀W,St w0 d l (⟨w.h.s,e,n,λi=>vs.getD i undef⟩::L) O X W->wpList P ops Q rest (a.put (cu dst) (bX (cu ⟨w.h.s,0,cw⟩) n n)) W):
 wpList P ops Q (⟨cu dst,.buildSlice t n parts,t2,p,af,cw⟩::rest) a w:=
 mz ae λ_ f=>Zu S vs o g b k ho j c m λW hS=>f _ _ (h W hS)
end
def RU:(prog.info? 22).map (λi=>(i.zero,i.s,i.bytes))=cu (cu (.slice cw 0 0),1,24):=dC
theorem dg.ve{w:cS}{T:dW}{v:c7}{n:Nat}{l:cV}(h:dg w T 1 v n (eo l))(a:∀x∈l,x<256):eU .u8 w v (dN l):=by
 have b:l.n=n:=by have:=h.1;grind[eo]
 subst b;exact lM.ints (T:=T) ⟨h,a⟩
def UN(s:fM):∀x∈rS s,x<256:=λx a=>by unfold rS at a;obtain⟨q,_,rfl⟩:=gT.1 a;exact q.toNat_lt
def UO(h:cL w b 22 n (λi=>vs.getD i undef))(d:vs.n=n)(e:ts.n=n)(c:∀k(h:k<vs.n)(f:k<ts.n),eU .u8 w vs[k] (dN ts[k])/\xR vs[k]):Ek w (bX (cu ⟨b,0,cw⟩) n n) ts:=by subst e;refine⟨cu ⟨b,0,cw⟩,ts.n,vs,ae,d,eN _,c,λ_=>⟨b,0,ae,cL.lt h,λk a=>?_⟩⟩;rw[pM,cL.cell h cN,zB,jG a];rfl
def qh:cV:=[8,1,8,8,8,1]
def pT(s:du):cV:=[s.id,if s.dz=cx then 1 else 0,s.cZ,s.dB,s.cR,s.blocks]
def o5(s:du):Option cV:=if fC s=cx then ui [kY qh (pT s)++iT s.cO,rS s.name,qg s.df] else cw
def tf(s:du):Prop:=dD s.cO/\∀q∈s.df,dD q
theorem DN{s:du}(h:fC s=cx):(1<=s.id/\s.id<=281474976710655)/\(1<=s.cZ/\s.cZ<=281474976710655)/\s.dB<=281474976710655/\(1<=s.blocks/\s.blocks<=64)/\ff s.name=cx/\im s.cO=cx/\s.df.n<=4000/\ou s.df=cx/\s.cR<=281474976710655:=by unfold fC at h;grind
theorem abn{s:du}(h:fC s=cx):vT qh (pT s)=cu (kY qh (pT s)):=by obtain⟨a,b,c,d,-,-,-,-,e⟩:=DN h;unfold vT;rw[c8];refine⟨by decide,ae,?_⟩;grind[qh,pT,fitAll]
theorem Qf(h:∀n∈l,n<18446744073709551616):∀x∈dN l,(Lit.int ct x).wf=cx:=λx a=>by unfold dN at a;obtain⟨n,b,rfl⟩:=gT.1 a;grind[Lit.wf,IntKind.min,IntKind.max,IntKind.signed,IntKind.bits]
def UP(l:List cQ):∀x∈qg l,x<256:=λx a=>by unfold qg at a;obtain⟨p,_,h⟩:=De.1 a;exact pW p x h
theorem K5{l:List cQ}(a:l.n<=4000)(b:ou l=cx):q6 l=cu (qg l):=by simp_all[q6]
section
attribute[local irreducible]wpList Code.wp Calls Oper.wp wpAnyH
theorem XZ(x:dL)(A:gJ)(L:A=cM 11 (iz x))(hx:x.df.length<=1000000)(Y:tf x.todu)(w:cS)(R:za w x):
 CP_ 243 #[.agg A] w λe w'=>∃r,e=.returned (.tuple #[r,.int .i64 (gq 151 (o5 x.todu))])/\mN w' w.heap.size r ((o5 x.todu).getD [])/\dS w w':=by
 have HA:=cz L;have HR:=cz R;have H:=cz λW(a:dS w W)=>Hs x A L hx W (HR.o.cP a);have S:=qP w;obtain⟨T,J⟩:=sV (o5 x.todu);rw[J.o];cases t:fC x.todu with
 |false=>
  obtain rfl:none=T:=by rw[<-J.o];unfold o5;rw[t];rfl
  rw[t] at H;clear t L;go_enter func243,ntmps243;go_wp2_with (first|refine je S (H.o _ S.b) λW S=>?_|refine fO ?_|refine fu λW S=>?_);go_ret2;exact aH
 |true=>
  obtain⟨g1,g2,g3,g4,g5,g6,F,g8,g9⟩:=DN t;obtain⟨sn,D⟩:∃sn:Nat,(if x.dz=true then 1 else 0)=sn:=⟨_,ae⟩;have a4:sn<256:=by rw[<-D];split<;>omega
  have j:pT x.todu=[x.id,sn,x.cZ,x.dB,x.cR,x.blocks]:=by unfold pT;rw[D]
  have b:=abn t;rw[j] at b;obtain⟨E,c⟩:=dG (kY qh [x.id,sn,x.cZ,x.dB,x.cR,x.blocks]);rw[c] at b;have d:E.length=34:=by rw[<-c];exact(sy (ws:=qh) (ns:=[x.id,sn,x.cZ,x.dB,x.cR,x.blocks]) ae).trans ae
  have f:∀y∈E,y<256:=by rw[<-c];exact xb _ _
  have M:=cz λv u W hv hu=>GX v u qh [x.id,sn,x.cZ,x.dB,x.cR,x.blocks] kM W hv hu;rw[b] at M;simp only[kL] at M;have g:ui [E++iT x.cO,rS x.name,qg x.df]=T:=by rw[<-J.o];unfold o5;rw[t,c8 ae,j,c]
  have i:=mH g5;have N:=cz λv W hv=>TM v [E++iT x.cO,rS x.name,qg x.df] eQ (λk h=>by
   rcases k with(_|_|_|k)
   . simp[d,gh]
   . simp[Qe];have:x.name.size<=24:=i;omega
   . simp[wh];have:x.df.length<=4000:=F;omega
   . exact absurd h eQ) W hv
  rw[g] at N;obtain⟨G,V⟩:=fU (cM 3 (dE x.cO));have HG:=cz V;have Z:=wq x;have C3:=cz (Mz x.cO Y.1 g6 G V);have I:=cz λW(a:dS w W)=>OI x.df Y.2 x.dv W cN (HR.o.cP a);rw[K5 F g8] at I;simp only[kL] at I;obtain⟨O,p⟩:=dG (qg x.df);rw[p] at I N;have z:=cz (show∀y∈O,y<256 by rw[<-p];exact UP _);have a1:O.length<=64000:=by rw[<-p,wh];have:x.df.length<=4000:=F;omega
  clear p;rw[t] at H;have s:=cz d;have B:=cz f;have Q:=cz (show∀y∈dN qh,(Lit.int .i64 y).wf=true by decide);have U:=cz (Qf (l:=[x.id,sn,x.cZ,x.dB,x.cR,x.blocks]) (λn hn=>by
   grind))
  have a5:IntKind.u64.wrap (x.blocks:Int)=(x.blocks:Int):=BN _ (by have e5:x.blocks<=64:=g4.2;omega);have C:(x.dz=false/\sn=0)∨(x.dz=true/\sn=1):=by
   grind
  have a2:x.df.length<=4000:=F;clear t L V Y b g j c d f D g1 g2 g3 g4 g5 g6 F g8 g9 J;go_enter func243,ntmps243;rcases C with⟨hs,rfl⟩|⟨hs,rfl⟩
  all_goals(
   have H2:=cz (gQ Value.bool hs);clear hs
   go_upto_region 15 with(first|refine je S (H.o _ S.b) λW S=>?_|(first|refine Ey S 0 ae 2 H2.o ?_|refine oM_ S 2 ae (o:=7) (m:=3) (dE x.cO) Z HG.o ?_)|refine mF S .i64 (dN qh) qq uW cN cN rfl rfl rfl λW S=>?_|refine mF S .u64 (dN [x.id,_,x.cZ,x.dB,x.cR,x.blocks]) vU Aj cN cN rfl rfl rfl λW S=>?_|(go_at_call 73;refine ah (M.o _ _ _ (eU.row S.k1 ae (show(6:Nat)<=_ by omega) Q.o) (eU.row S.k0 ae (show(6:Nat)<=_ by omega) U.o)) λr W⟨ho,a⟩=>?_;obtain⟨na,nc,rfl⟩:=dx ho;replace S:=S.iw a ho ae ae;clear a)|(refine ah (C3.o _) λr W⟨ho,a⟩=>?_;obtain⟨pa,pc,rfl⟩:=dx ho;replace S:=S.iw a ho ae ae;clear a)|(refine ah (I.o _ S.b) λr W⟨ho,a⟩=>?_;obtain⟨da,dc,rfl⟩:=dx ho;replace S:=S.iw a ho ae ae;clear a)|refine fO ?_|refine fu λW S=>?_)
   have a3:x.name.size<=24:=i;refine eR S dC [⟨w.heap.size,109,11,iz x⟩] Cz λW S=>?_;refine dh 0 _ ?_;refine dh 1 _ ?_;refine dh 3 (dF w.heap.size 1) ?_;refine dh 4 (.string x.name) ?_;refine dh 6 _ ?_
   repeat' first|refine Th ?_|refine nz 9 _ ?_|refine nz 10 (r) ?_|refine nz 11 (.int .i64 (gq 21 T)) ?_|refine nz 12 _ ?_|refine nz 13 _ ?_|refine Bt 2 5 (λK q=>?_) λK q=>?_|refine qf 2 λK q=>?_|refine qf 7 λK q=>?_|refine qf 8 λK q=>?_|refine qf 5 λK q=>?_|(refine ak1 S ae yV oS yN xY λgs cs W S=>?_;refine gy q ?_)|(refine ad4 S 2 ae ae ae S.q1 B7 (AT _) (by simp only[s.o];omega) (by unfold maxLen;simp only[s.o];omega) λga gc W S=>?_;refine gy q ?_)|(refine Zu S [.slice ga (E.length+16) gc,.slice (s_ gs 0) x.name.size cs,.slice da O.length dc] underlying75 RU cN cN ae ae amx ae λW S=>?_;refine gy q ?_)|(go_wp2_with fail;refine ah (N.o _ _ (UO S.k0 ae ae (λk h h'=>by rcases k with(_|_|_|k);exact⟨dg.ve (by have h9:=dg.j8 S.o2;simp only[<-nM] at h9;exact h9) (λy hy=>by rcases gH.1 hy with h|h;exact B.o y h;exact pW x.cO y h),uP S.o2⟩;exact⟨dg.ve S.x.2.1 (UN _),by obtain⟨_,_,e1,X,_⟩:=dQ S.x.2.1;simp only[lX] at e1;obtain⟨-,-,rfl⟩:=e1;exact .inr ⟨_,_,_,ae,X⟩⟩;exact⟨dg.ve S.q0 z.o,uP S.o0⟩;exact absurd h eQ))) λr W⟨ho,a⟩=>?_;replace S:=S.iw a ho ae ae;clear a;refine gy q ?_)
   all_goals(
    refine cz ?_;cases T with
    |none=>
     go_wp2;go_ret2;exact aH
    |some bs=>
     go_wp2;go_ret2;exact bw
   )
  )
end
def aiy:xm prog 75 22 1 24:=⟨underlying75,_,RU,ae,cN⟩
section
def St.Ll(S:St w0 d l L O X w)(g:dS w w')(ho:w'.ownsRow w.h.s e z v n xs)(c:lQ e=cy)(f:gZ e=cy):St w0 d l L O (λB w=>X B w/\yQ e z v n xs B w) w':=
 (S.cP g).DH (fF e z v n xs c f) ⟨dg.j8 ho,λ_ b a h=>by have i:=(ho.lt b a).1;have:=S.lt b h;omega⟩
def Ce(ps:List (c7×cV)):cV->cS->Prop:=λB w=>∀p∈ps,yQ 5 1 p.1 p.2.n (eo p.2) B w
def rX(ps:List (c7×cV)):vD (Ce ps):=Jq ps λp _=>fF 5 1 _ _ _ ae ae
theorem UQ(f:ps.n=n)(ho:w.ownsRow base 22 1 v n (ps.map Prod.fst))(j:Ce ps B w)(i:∀p∈ps,xR p.1)(t:∀p∈ps,∀y∈p.2,y<256):Ek w v (ps.map Prod.snd):=by subst f;have a:(ps.map Prod.snd).n=ps.n:=mQ _;rcases ho.2 with⟨rfl,c⟩|⟨g,cap,b,rfl,m,d,o,q,h6,r⟩;have:ps=[]:=yj c;subst this;exact⟨cw,0,[],ae,ae,eN _,λk h=>absurd h (vz _),λh=>absurd ae h⟩;refine⟨cu ⟨g,0,cw⟩,cap,ps.map Prod.fst,by rw[a],by grind,cN,λk h l=>?_,λ_=>⟨g,0,ae,(rI.1 d).1,λk s=>?_⟩⟩;rw[mQ] at h;have e:=mP h;have u:=(j _ e).1;grind[dg.ve];rw[pM];grind[zh]
end
def kI:List du->Option (List cV)
 | []=>cu []
 |s::l=>match o5 s with
  |none=>cw
  |some t=>match kI l with
   |none=>cw
   |some ts=>cu (t::ts)
theorem OP(l:List du)(s:du):kI (l++[s])=match kI l with
 |none=>cw
 |some ts=>match o5 s with
  |none=>cw
  |some t=>cu (ts++[t]):=by
 induction l<;>grind[kI]
theorem OQ{l:List du}(h:kI (l.take k)=cw):kI l=cw:=by rw[<-Ac k l];generalize l.drop k=m;generalize l.take k=n at h;induction n<;>grind[kI]
def jE(next:Nat)(l:List du):Option cV:=
 if 281474976710655<next∨32<l.n then cw else match kI l with
  |none=>cw
  |some ts=>ui (kY [8] [next]::ts)
theorem Cf(h:ui ts=cu r):ts.n<=65535/\(∀t∈ts,t.n<=65535)/\r=vw ts.n++ts.flatMap uQ:=by unfold ui at h;grind
theorem agO{n:Nat}(h:n<=65535):∀y∈vw n,y<256:=λy a=>by unfold vw at a;grind
theorem UR(h:ui ts=cu r)(c:∀t∈ts,∀y∈t,y<256):∀y∈r,y<256:=by obtain⟨a,b,rfl⟩:=Cf h;grind[agO,uQ]
theorem abo(h:ui ts=cu r):r.n<=5000000000:=by
 obtain⟨b,c,rfl⟩:=Cf h;have d:∀a:List cV,(∀t∈a,t.n<=65535)->(a.flatMap uQ).n<=a.n*65537:=by intro a;induction a<;>grind[uQ,vw]
 grind[vw]
theorem Ht{s:du}{t:cV}(h:o5 s=cu t):fC s=cx/\ui [kY qh (pT s)++iT s.cO,rS s.name,qg s.df]=cu t:=by grind[o5]
def MO{s:du}{t:cV}(h:o5 s=cu t):∀y∈t,y<256:=by refine UR (Ht h).2 λu b y a=>?_;simp only[iX,jL,uH] at b;rcases b with rfl|rfl|rfl;rcases gH.1 a with h1|h1;exact xb _ _ y h1;exact pW _ y h1;exact UN _ y a;exact UP _ y a
theorem Hu{l:List du}(h:kI l=cu ts):∀t∈ts,∃s,o5 s=cu t:=by induction l generalizing ts with|nil=>grind[kI]|cons a l ih=>unfold kI at h;grind
section
attribute[local irreducible]wpList Code.wp Calls Oper.wp wpAnyH
theorem DO(next:Nat)(H:next<18446744073709551616)(l:List dL)(v:c7)(H:l.n<=1000000)(hd:∀s∈ez l,s.df.n<=1000000)(C:∀s∈ez l,tf s)(w:cS)(R:gC w v l):
 CP_ 197 #[bU ct next,v] w λe w'=>∃r,e=cj (cg #[r,bU cq (gq 151 (jE next (ez l)))])/\mN w' w.h.s r ((jE next (ez l)).getD [])/\dS w w':=by
 obtain⟨ao,cap,rfl,H,J⟩:=dQ R.1;have R:=cz R;have J:=cz J;have S:=qP w;obtain⟨T,N⟩:=sV (jE next (ez l));rw[N.o];go_enter func197,ntmps197;by_cases H:281474976710655<next
 . (obtain rfl:cw=T:=by rw[<-N.o];unfold jE;rw[c8 (.inl H)]);have H:(281474976710655:Int)<(next:Int):=cN;go_wp2;go_ret2;exact aH
 have H:¬(281474976710655:Int)<(next:Int):=cN;by_cases Y:32<l.n
 . (obtain rfl:cw=T:=by rw[<-N.o];unfold jE;rw[c8 (.inr (by rw[iv];exact Y))]);have H:(32:Int)<(l.n:Int):=cN;go_wp2;go_ret2;exact aH
 have H:¬(32:Int)<(l.n:Int):=cN;have E:vT [8] [next]=cu (kY [8] [next]):=by unfold vT;rw[c8];refine⟨by decide,ae,?_⟩;simp[fitAll];omega
 obtain⟨c,j⟩:=dG (kY [8] [next]);rw[j] at E;have H:c.n=8:=by rw[<-j];rfl
 have m:∀y∈c,y<256:=by rw[<-j];exact xb _ _
 have U:=cz λv u W hv I=>GX v u [8] [next] kM W hv I;rw[E] at U;simp only[kL] at U;have I:(match kI (ez l) with|none=>cw|some ts=>ui (c::ts))=T:=by rw[<-N.o,<-j];unfold jE;rw[cX (by rw[iv];omega)]
 have X:=cz I;have V:=cz (show∀y∈dN [8],(Lit.int cq y).wf=cx by decide);have a7:=cz (Qf (l:=[next]) (λn N=>by grind));have a4:=cz H;have N:=cz m;clear E j H m I;go_upto_region 8 with(first|refine mF S cq (dN [8]) qq uW cN cN rfl rfl rfl λW S=>?_|refine mF S ct (dN [next]) vU Aj cN cN rfl rfl rfl λW S=>?_|(refine ah (U.o _ _ _ (eU.row S.k1 ae (show(1:Nat)<=_ by omega) V.o) (eU.row S.k0 ae (show(1:Nat)<=_ by omega) a7.o)) λr W⟨ho,d⟩=>?_;obtain⟨na,nc,rfl⟩:=dx ho;have V:=cz (uP ho);replace S:=S.Ll d ho ae ae;clear d)|(refine blV S [bX na c.n nc] underlying75 RU cN cN ae ae anx ae λW S=>?_;replace S:=S.Uj ae));replace S:=S.EH (X':=Ce [(bX na c.n nc,c)]) (λB w h p C=>by rw[fS.1 C];exact h.2) (rX _).me;have S:=cz S
 go_loopw [8,34] (λtv H wr=>∃(k:Nat)(ps:List (c7×cV))(I:Option Addr)(U:Nat),k<=l.n/\H=bU cq k/\ps.n=k/\tv=bX I (k+1) U/\Hid (kI ((ez l).take k)=cu (ps.map Prod.snd)/\(∀p∈ps,xR p.1)/\
  ∃L,St w cw [] L [⟨22,1,bX I (k+1) U,k+1,((bX na c.n nc,c)::ps).map Prod.fst⟩] (Ce ((bX na c.n nc,c)::ps)) wr)) (λ_ H _=>l.n-(intOf H).m)
 exact⟨0,[],_,1,cN,ae,ae,ae,cz ⟨ae,by simp,_,S.o⟩⟩;clear S;obtain⟨k,ps,I,U,H,rfl,H,rfl,hS⟩:=hrel;obtain⟨a,I,L,S⟩:=hS.o;clear hS;have G:=cz a;have U:=cz I;clear a I;by_cases z:k<l.n
 . (obtain⟨b,o,rfl⟩:=J.o cN;obtain⟨x,hx⟩:=dG (l[k]);obtain⟨D,hD⟩:=fU (cM 11 (iz x));have I:=cz (nC l z (A:=D) (by rw[hx];exact hD));have hm:x∈l:=hx▸mP z;obtain⟨K,Q⟩:=sV (o5 x.todu);have J:=cz λW(d:dS w W)=>XZ x D hD (hd _ (gT.2 ⟨x,hm,ae⟩)) (C _ (gT.2 ⟨x,hm,ae⟩)) W ((R.o.cP d).2 x hm);rw[Q.o] at J;have F:kI ((ez l).take (k+1))=K.bind λt=>cu (ps.map Prod.snd++[t]):=by(have h9:(ez l).take (k+1)=(ez l).take k++[x.todu]:=by rw[take_succ,mZ,jG z,hx];rfl);rw[h9,OP,G.o,<-Q.o];grind);have f:=cz F;have M:=cz hD;clear hD hx hm F;cases K with|none=>(obtain rfl:cw=T:=by rw[<-X.o,OQ f.o]);go_wp2_with (first|refine CB (R.o.cP S.b).1 z (vx M) I.o ?_|(refine ah (J.o _ S.b) λr W⟨ho,d⟩=>?_;replace S:=S.cP d;clear d)|refine fO ?_|refine fu λW S=>?_);go_ret2;exact aH|some t=>simp only[kL] at J;go_wp2_with (first|refine CB (R.o.cP S.b).1 z (vx M) I.o ?_|(refine ah (J.o _ S.b) λr W⟨ho,d⟩=>?_;obtain⟨J,K,rfl⟩:=dx ho;have I:=cz (uP ho);replace S:=S.Ll d ho ae ae;clear d)|(refine blV S [bX J t.n K] underlying75 RU cN cN ae ae anx ae λW S=>?_;replace S:=S.xO (k:=0) ae (g:=λ_=>bX J t.n K) (λi hi=>by grind))|refine tE S 0 rfl 0 rfl rfl rfl rfl aiy bI CU xY λg9 c9 W S=>?_|refine fO ?_|refine fu λW S=>?_);go_roundw;refine⟨k+1,ps++[(bX J t.n K,t)],s_ g9 0,c9,cN,by go_num,by simp[H],ae,cz ⟨by rw[f.o];simp,λp C=>?_,L,?_⟩⟩;rcases gH.1 C with h|h;exact U.o p h;rw[fS.1 h];exact I.o;rw[<-uG,nM];have S:=S.pop.pop;refine S.EH (λB w h p C=>?_) (rX _).me;rcases gH.1 C with Y|Y;exact h.1 p Y;rw[fS.1 Y];exact h.2;exact qN
 . (obtain rfl:k=l.n:=cN;have a:=G.o;rw[nV (by rw[iv];exact eN _)] at a;have Z:ui (c::ps.map Prod.snd)=T:=by rw[<-X.o,a]);have O:=cz (show∀t∈ps.map Prod.snd,t.n<=5000000000/\∀y∈t,y<256 from λt J=>by obtain⟨s,I⟩:=Hu a t J;exact⟨abo (Ht I).2,MO I⟩);have I:=cz λv W hv=>TM v (c::ps.map Prod.snd) sp_ (λq h=>by have J:=mP h;rcases iX.1 J with h7|h7;rw[h7,a4.o];omega;exact ik (O.o _ h7).1 cN) W hv;rw[Z] at I;clear a Z;go_upto_region 16 with(refine ah (I.o _ _ (UQ (ps:=(bX na c.n nc,c)::ps) (by simp[H]) S.o0 S.x (λp C=>by rcases iX.1 C with h|h;rw[h];exact V.o;exact U.o p h) (λp C=>by rcases iX.1 C with h|h;rw[h];exact N.o;exact(O.o _ (gT.2 ⟨p,h,ae⟩)).2))) λr W⟨ho,d⟩=>?_;replace S:=S.iw d ho ae ae;clear d);cases T with|none=>go_wp2;go_ret2;exact aH|some bs=>go_wp2;go_ret2;exact bw
end
def Wp(l:cV):fM:=⟨(l.map UInt8.ofNat).toArray⟩
theorem US:∀(l:cV)(r:fM),(dN l).foldl (λr(n:Int)=>r.push (UInt8.ofNat n.m)) r=⟨r.data++(l.map UInt8.ofNat).toArray⟩
 | [],r=>by simp[dN]
 |b::l,r=>by
  unfold dN;simp only[yh,zC];have:=US l (r.push (UInt8.ofNat ((b:Int)).m));unfold dN at this;rw[this];simp[ByteArray.push]
theorem aed{t q:cV}(h:EZ bs=cu (t,q))(c:∀y∈bs,y<256):(∀y∈t,y<256)/\∀y∈q,y<256:=by rcases bs with _|⟨a,_|⟨b,r⟩⟩<;>grind[EZ]
theorem Qg:∀(k:Nat){bs:cV}{ts:List cV}{q:cV},qB k bs=cu (ts,q)->(∀y∈bs,y<256)->(∀t∈ts,∀y∈t,y<256)/\∀y∈q,y<256
 |0,bs,ts,q,h,hb=>by
  grind[qB]
 |k+1,bs,ts,q,h,hb=>by
  unfold qB at h;cases a:qB k bs with
  |none=>rw[a] at h;cases h
  |some p=>
   obtain⟨g,r⟩:=p;rw[a] at h;simp only at h;cases b:EZ r with
   |none=>rw[b] at h;cases h
   |some p2=>
    obtain⟨t,f⟩:=p2;rw[b] at h;cases h;have c:=Qg k a hb;have d:=aed b c.2;refine⟨λu e=>?_,d.2⟩;rcases gH.1 e with h3|h3
    . exact c.1 u h3
    . rw[fS.1 h3];exact d.1
theorem EI(h:vV bs=cu ts)(c:∀y∈bs,y<256):∀t∈ts,∀y∈t,y<256:=by rcases bs with _|⟨a,_|⟨b,r⟩⟩<;>grind[vV,Qg]
theorem St.Qh(S:St w0 d l L O X w)(n:dS w w')(ho:KW w' w.h.s v ts):
 ∃ps:List (c7×cV),ps.map Prod.snd=ts/\(∀p∈ps,xR p.1/\p.2.n<=65535)/\St w0 d l L O (λB w=>X B w/\(yQ 22 1 v ps.n (ps.map Prod.fst) B w/\Ce ps B w)) w':=by
 obtain⟨vs,r,a,q⟩:=ho;have i:(vs.zip ts).map Prod.snd=ts:=map_snd_zip cN;have j:(vs.zip ts).map Prod.fst=vs:=map_fst_zip cN;have f:(vs.zip ts).n=ts.n:=by grind
 have e:∀p∈vs.zip ts,mN w' w.h.s p.1 p.2/\p.2.n<=65535:=λp e=>by obtain⟨k,o,rfl⟩:=xz.1 e;grind
 refine⟨vs.zip ts,i,λp h=>⟨uP (e p h).1,(e p h).2⟩,?_⟩;rw[j,f];refine(S.cP n).DH ((fF 22 1 v _ _ ae ae).and (rX _)) ⟨⟨dg.j8 a,λ_ b c g=>?_⟩,λp h=>⟨dg.j8 (e p h).1,λ_ b c g=>?_⟩⟩;have m:=(a.lt b c).1;have:=S.lt b g;omega;have m:=((e p h).1.lt b c).1;have:=S.lt b g;omega
section
variable {x:Nat}
theorem Qi{w:cS}{T:dW}{v:c7}{n:Nat}{l:cV}(f:P.underlying src=some (.slice 5))(e:P.underlying 5=some (.int .u8))(d:P.underlying dT=some .string)(R:dg w T 1 v n (eo l)):(convert src dT v).run P w=.ok (.string (Wp l)) w:=by
 have h:l.length=n:=by have:=R.1;grind[eo]
 subst h;obtain⟨ao,cap,rfl,c,a⟩:=dQ R;rcases vM l.length with h0|h0;obtain rfl:l=[]:=yj h0;rw[run_convert_bytes_string w src dT 5 ao _ cap f e d];cases ao with|none=>rfl|some b=>rfl
 . obtain⟨b,o,rfl⟩:=a h0;rw[run_convert_bytes_string w src dT 5 _ _ cap f e d];rw[run_bytesToString w ⟨b,o,none⟩ l.length cap (dN l) (by
    have i:=run_loadCells_list (P:=P) (w:=w) ⟨b,o,none⟩ (eo l) (λj u g=>by
     rw[show(⟨b,o,none⟩:Addr).add j=⟨b,o+j,none⟩ from by grind[Addr.add]];exact R.cellAt h0 g)
    simp_all[eo,dN]),US]
   simp[Wp]
theorem aiz(g:a.eval (.tmp x)=v)(f:P.underlying src=some (.slice 5))(e:P.underlying 5=some (.int .u8))(d:P.underlying dT=some .string)(R:∀w,SS w->dg w T 1 v n (eo l))(b:Region.wanted ⟨some dst,.convert src dT (.tmp x),t2,p,af,gd⟩ (yielded ops a.tmps)=true:=by kernel_rfl):
 YieldsIf P ops SS ⟨some dst,.convert src dT (.tmp x),t2,p,af,gd⟩ (.string (Wp l)) a:=by refine .inl ⟨b,λw c=>?_⟩;grind[execOp,Sem.run_bind,Qi,Result.andThen_ok,Sem.run_pure]
end
def vf(bs:cV):Option du:=
 match vV bs with
 |some [p0,p1,p2]=>if p0.n<34 then cw else match sC qh (p0.take 34) with
  |none=>cw
  |some ns=>match nZ (p0.drop 34) with
   |none=>cw
   |some cO=>match k8 p2 with
    |none=>cw
    |some dd=>cu ⟨ns.getD 0 0,Wp p1,decide (ns.getD 1 0=1),ns.getD 2 0,ns.getD 3 0,ns.getD 4 0,ns.getD 5 0,cO,dd⟩
 |_=>cw
theorem EJ{bs:cV}(a:∀y∈bs,y<256):jM bs<256^bs.n:=by grind[LP]
theorem UT(bs:cV)(k:∀y∈bs,y<256)(q:bs.n=34):∃c d e f g h,sC qh bs=cu [c,d,e,f,g,h]/\c<18446744073709551616/\d<256/\e<18446744073709551616/\f<18446744073709551616/\g<18446744073709551616/\h<256:=by
 have b:sC qh bs=cu (py qh bs):=by unfold sC;simp_all[okW,qh,sX]
 have j:∀(m:Nat)(l:cV),(∀y∈l,y<256)->jM ((l.drop m).take 8)<18446744073709551616:=λm l a=>by have o:=EJ (bs:=(l.drop m).take 8) λy n=>a y (mR (lP n));have p:256^((l.drop m).take 8).n<=256^8:=QQ cN jH;omega
 have i:∀(m:Nat)(l:cV),(∀y∈l,y<256)->jM ((l.drop m).take 1)<256:=λm l a=>by grind[EJ,length_take]
 refine⟨_,_,_,_,_,_,b,?_,?_,?_,?_,?_,?_⟩;exact j 0 bs k;grind;grind;grind;grind;grind
def SEX(w0:cS)(d:Option Nat)(l:cV)(rs:List R4)(X:cV->cS->Prop):cS->Prop:=λW=>∃L O,St w0 d l L O X W/\∀r∈rs,r∈L
section
theorem SEX.row(h:SEX w0 d l rs X W)(k:Nat){r:R4}(a:rs[k]?=cu r):cL W r.b r.t r.n r.f:=by obtain⟨L,O,S,b⟩:=h;exact(S.row r (b r (lu a))).1
theorem SEX.x(h:SEX w0 d l rs X W):∃B,X B W:=by obtain⟨L,O,S,a⟩:=h;exact⟨_,S.x⟩
def MP(S:St w0 d l L O X w){id:Nat}(b:P.follows .mixedOrders=cx)(rs:List R4)(c:∀r∈rs,r∈L)(h:∀W,St w0 d l L O X W->wpAnyH P .any ops Q (SEX w0 d l rs X) ops.s (Array.replicate ops.s cy) a W):(Code.region id ops cx).wp P Q a w:=
 wp_region_held_drew b ⟨L,O,S.drew,c⟩ λ_=>h _ S.drew
end
def UU:lD prog 22:=⟨⟨_,oS,ae⟩,dC⟩
instance in5a1b2 :rk 22:=⟨UU⟩
def vg:Gp prog 22 1:=⟨dC,λW=>by rfl⟩
def A'(h:KW w base v ts):∃a c,v=bX a ts.n c:=by obtain⟨vs,d,b,_⟩:=h;exact dx b
theorem aiB{a b c:cV}(h:ps.map Prod.snd=[a,b,c]):∃d e f,ps=[(d,a),(e,b),(f,c)]:=by rcases ps with _|⟨⟨d,q0⟩,_|⟨⟨e,q1⟩,_|⟨⟨f,q2⟩,_|⟨x,ps⟩⟩⟩⟩<;>simp at h;simp_all
theorem ux(l:cV)(k:Nat):(eo l).take k=eo (l.take k):=by simp_all[eo]
theorem xt(l:cV)(k:Nat):(eo l).drop k=eo (l.drop k):=by simp_all[eo]
theorem Ba{p:cV}(h:yQ 5 1 v p.n (eo p) B w):∃a c,v=bX a p.n c/\p.n<=c:=by obtain⟨a,c,e,hc,_⟩:=dQ h.1;grind
section
attribute[local irreducible]wpList Code.wp Calls Oper.wp wpAnyH
theorem abp(bs:cV)(u:c7)(H:bs.n<=1000000000)(w:cS)(A:eU .u8 w u (dN bs))(hc:yC u):
 CP_ 196 #[u] w λe w'=>∃B,e=cj (cg #[bV B,bU cq (gq 151 (vf bs))])/\ze w' w.h.s B ((vf bs).getD oI)/\dS w w':=by
 have J:∀x∈bs,x<256:=BL (by obtain⟨_,_,_,_,h,_⟩:=A;exact h);have R:=cz λW(g:dS w W)=>PF u bs cN W (A.cP g) hc;have S:=qP w;obtain⟨T,I⟩:=dG (vf bs);have H:=cz I;rw[I];clear I A hc;go_enter func196,ntmps196;cases f:vV bs with
 |none=>
  obtain rfl:cw=T:=by rw[<-H.o];unfold vf;rw[f]
  rw[f] at R;clear f;go_wp2_with first|(refine(R.o _ S.b).mono ?_;rintro e W ⟨r,rfl,ho,g⟩;replace S:=S.cP g;clear g ho)|(refine mu ?_;exact⟨_,rfl,sH _ _,S.b⟩)|refine fO ?_|refine fu λW S=>?_
 |some ts=>
  have s:=EI f J;rw[f] at R;simp only[kL] at R;by_cases M:ts.n=3
  case neg=>
   obtain rfl:cw=T:=by
    rw[<-H.o];unfold vf;rw[f];rcases ts with _|⟨a,_|⟨b,_|⟨c,_|⟨e,ts⟩⟩⟩⟩<;>first|rfl|exact absurd rfl M
   have I:((ts.n:Int) !=3)=cx:=by rw[fK];omega
   clear f
   go_wp2_with first|(refine(R.o _ S.b).mono ?_;rintro e W ⟨r,rfl,ho,g⟩;obtain⟨N,U,rfl⟩:=A' ho;replace S:=S.cP g;clear g ho)|(refine mu ?_;exact⟨_,rfl,sH _ _,S.b⟩)|refine fO ?_|refine fu λW S=>?_
  obtain⟨d,k,l,rfl⟩:∃d k l,ts=[d,k,l]:=by
   rcases ts with _|⟨a,_|⟨b,_|⟨c,_|⟨e,ts⟩⟩⟩⟩<;>first|exact⟨_,_,_,rfl⟩|simp at M
  have L:=s d eQ;have Y:=s k eQ;have Z:=s l eQ;have m:(if d.n<34 then cw else match sC qh (d.take 34) with|none=>cw|some ns=>match nZ (d.drop 34) with|none=>cw|some cO=>match k8 l with|none=>cw|some dd=>cu (⟨ns.getD 0 0,Wp k,decide (ns.getD 1 0=1),ns.getD 2 0,ns.getD 3 0,ns.getD 4 0,ns.getD 5 0,cO,dd⟩:du))=T:=by
   rw[<-H.o];unfold vf;rw[f]
  clear f s M
  go_upto_region 2 with(first|(refine(R.o _ S.b).mono ?_;rintro e W ⟨r,rfl,ho,g⟩;obtain⟨N,U,rfl⟩:=A' ho;obtain⟨ps,H,I,J⟩:=S.Qh g ho;replace S:=J;clear J g ho;obtain⟨V,v1,J,rfl⟩:=aiB H;obtain⟨rb,ro,rfl⟩:∃rb ro,N=s_ rb ro:=(by obtain⟨_,_,e1,_,h⟩:=dQ S.x.2.1.1;grind);have N:l.n<=65535:=(I (J,l) eQ).2;clear H I;obtain⟨I,c0,rfl,H⟩:=Ba (p:=d) (S.x.2.2 (V,d) eQ);obtain⟨a1,c1,rfl,H⟩:=Ba (p:=k) (S.x.2.2 (v1,k) eQ);obtain⟨a2,c2,rfl,b7⟩:=Ba (p:=l) (S.x.2.2 (J,l) eQ);replace S:=S.EH (X':=λB w=>yQ 22 1 (bX (s_ rb ro) 3 U) 3 [bX I d.n c0,bX a1 k.n c1,bX a2 l.n c2] B w/\Ce [(bX I d.n c0,d),(bX a1 k.n c1,k),(bX a2 l.n c2,l)] B w) (λB w h=>h.2) ((fF _ _ _ _ _ rfl rfl).and (rX _)).me;simp only[lq,ue,pM,reduceAdd])|refine fu λW S=>?_)
  by_cases V:d.n<34
  . obtain rfl:cw=T:=by rw[<-m,c8 V]
    have H:(d.n:Int)<34:=cN
    go_wp2_with first|refine zw (dg.cellAt S.x.1.1 (j:=0) cN rfl) ?_|(refine mu ?_;exact⟨_,rfl,sH _ _,S.b⟩)|refine fO ?_|refine fu λW S=>?_
  have H:¬(d.n:Int)<34:=cN;rw[cX V] at m;have o:∀y∈d.take 34,y<256:=λy H=>L y (lP H);have E:∀y∈d.drop 34,y<256:=λy H=>L y (mR H);obtain⟨n0,V,n2,n3,n4,U,H,J,J,J,J,J,J⟩:=UT (d.take 34) o (by rw[lO];omega);have J:=cz λv u W hv A hc=>J1 v u qh (d.take 34) kM W hv A hc;rw[H] at m J;simp only[kL] at J;obtain⟨rp,O⟩:=dG (nZ (d.drop 34));obtain⟨rd,N⟩:=dG (k8 l);obtain⟨G,hG⟩:=fU (cM 3 (dE (rp.getD cY)));have C3:=cz λu W A hc=>xd u (d.drop 34) W A hc;have C4:=cz λv W A hc=>RH l v W cN A hc;rw[O,dk hG] at C3;rw[N] at C4;rw[O,N] at m;have q:=cz m;have HG:=cz hG;have HB:=cz (And.intro o (And.intro E (And.intro Y Z)));have a9:=cz (show∀y∈dN qh,(Lit.int cq y).wf=cx by decide);have C:34<=c0:=cN;have n:34<=d.n:=cN;clear m O N hG H o E L Y Z
  go_upto_region 8 with(first|(first|refine zw (dg.cellAt S.x.1.1 (j:=0) cN rfl) ?_|refine zw (dg.cellAt S.x.1.1.1 (j:=0) cN rfl) ?_)|refine mF S cq (dN qh) qq uW cN cN rfl rfl rfl λW S=>?_|refine Uy vg rfl rfl C ?_|(refine(J.o _ _ _ (eU.row S.k0 rfl (show(6:Nat)<=_ by omega) a9.o) (dg.ve (by have J:=dg.take (S.x.2 (bX I d.n c0,d) eQ).1 n;rw[sL,ux] at J;exact J) HB.o.1) ⟨_,_,_,rfl,C⟩).mono ?_;rintro e W ⟨r,rfl,ho,g⟩;obtain⟨na,H,rfl⟩:=dx ho;replace S:=S.Ll g ho rfl rfl;clear ho g)|refine y8 vg rfl rfl n ?_|refine je S (C3.o _ _ (dg.ve (by have J:=dg.CG (S.x.1.2 (bX I d.n c0,d) eQ).1 n;rw[sL,xt] at J;exact J) HB.o.2.1) ⟨_,_,_,rfl,cN⟩) λW7 S=>?_|refine fu λW S=>?_)
  cases rp with
  |none=>
   obtain rfl:cw=T:=q.o
   go_wp2_with first|(refine mu ?_;exact⟨_,rfl,sH _ _,S.b⟩)|refine fO ?_|refine fu λW S=>?_
  |some cO=>
   simp only[kL] at HG S
   go_upto_region 11 with(first|refine zw (dg.cellAt S.x.1.1.1 (j:=2) cN rfl) ?_|(refine(C4.o _ _ (dg.ve (S.x.1.2 (bX a2 l.n c2,l) eQ).1 HB.o.2.2.2) ⟨_,_,_,rfl,b7⟩).mono ?_;rintro e W ⟨r,rfl,ho,g⟩;obtain⟨da,dc,rfl⟩:=dx ho;replace S:=S.iw g ho rfl rfl;clear ho g))
   cases rd with
   |none=>
    obtain rfl:cw=T:=q.o
    go_wp2_with (first
   |(refine mu ?_;exact⟨_,rfl,sH _ _,S.b⟩)
   |refine fO ?_
   |refine fu λW S=>?_)
   |some dd=>
    simp only[kL] at S|-;obtain⟨N,Q⟩:=dG (decide (V=1));have F:((V:Int)==1)=N:=by
     rw[<-Q];by_cases h:V=1
     . rw[h];rfl
     . rw[jC h,lr];omega
    have a7:=cz F;obtain⟨ty,z⟩:∃t:du,t=⟨n0,Wp k,N,n2,n3,n4,U,cO,dd⟩:=⟨_,rfl⟩;obtain rfl:cu ty=T:=by rw[<-q.o,z,<-Q];rfl
    obtain⟨D,hD⟩:=fU (cM 11 (iz ⟨ty,da,dc⟩));have X:D=cM 11 (iz ⟨⟨n0,Wp k,N,n2,n3,n4,U,cO,dd⟩,da,dc⟩):=by rw[hD,z]
    have HD:=cz hD;have a6:=cz X;have a8:=cz z;have H:IntKind.i64.wrap (U:Int)=(U:Int):=kX _ cN;obtain⟨H,I,rfl⟩:∃H I,na=s_ H I:=by
     obtain⟨_,_,e1,_,h⟩:=dQ S.x.2.1
     grind
    clear hD X Q F z q
    go_upto_region 13 with(fail)
    refine MP S dC [⟨W7.h.s,106,3,dE cO⟩] Cz λW S=>?_;refine dh 0 _ ?_;refine dh 1 (dF H (I+0)) ?_;refine ij 2 (bU ct n0) rfl (gW (λw h=>by obtain⟨_,i⟩:=h.x;exact dg.cellAt i.2.1 (j:=0) eQ rfl) rfl gi) ?_;refine dh 3 _ ?_;refine dh 4 (dF rb (ro+1)) ?_;refine ij 5 (bX a1 k.n c1) rfl (gW (λw h=>by obtain⟨_,i⟩:=h.x;exact dg.cellAt i.1.1.1 (j:=1) cN rfl) rfl UU) ?_;refine ij 6 (bY (Wp k)) rfl (aiz rfl oS yN yV (λw h=>by obtain⟨_,i⟩:=h.x;exact(i.1.2 (bX a1 k.n c1,k) eQ).1)) ?_;refine dh 7 _ ?_;refine dh 8 (dF H (I+1)) ?_;refine ij 9 (bU ct V) rfl (gW (λw h=>by obtain⟨_,i⟩:=h.x;exact dg.cellAt i.2.1 (j:=1) eQ rfl) rfl gi) ?_;refine ij 10 (bZ N) rfl (Or.inl ⟨dC,λw N=>by have N:=a7.o;go_simp⟩) ?_;refine dh 11 _ ?_;refine dh 12 (dF H (I+2)) ?_;refine ij 13 (bU ct n2) rfl (gW (λw h=>by obtain⟨_,i⟩:=h.x;exact dg.cellAt i.2.1 (j:=2) eQ rfl) rfl gi) ?_;refine dh 14 _ ?_;refine dh 15 (dF H (I+3)) ?_;refine ij 16 (bU ct n3) rfl (gW (λw h=>by obtain⟨_,i⟩:=h.x;exact dg.cellAt i.2.1 (j:=3) eQ rfl) rfl gi) ?_;refine dh 17 _ ?_;refine dh 18 (dF H (I+4)) ?_;refine ij 19 (bU ct n4) rfl (gW (λw h=>by obtain⟨_,i⟩:=h.x;exact dg.cellAt i.2.1 (j:=4) eQ rfl) rfl gi) ?_;refine dh 20 _ ?_;refine dh 21 (dF H (I+5)) ?_;refine ij 22 (bU ct U) rfl (gW (λw h=>by obtain⟨_,i⟩:=h.x;exact dg.cellAt i.2.1 (j:=5) eQ rfl) rfl gi) ?_;refine dh 23 (bU cq U) ?_;refine ij 24 (bV G) rfl (rA (λw h=>h.row 0 rfl) rfl HG.o fL) ?_;refine dh 25 _ ?_;refine ij 26 (bV D) rfl (yU rfl (by rw[a6.o,HG.o];kernel_rfl)) ?_;refine kK 27 λK H=>?_;refine km S 2 rfl rfl rfl HD.o uX (mI _) λW S=>?_;refine gy H ?_;clear H K;refine dh 28 _ ?_;refine qG ?_
    go_wp2_with (refine mu ?_;exact⟨_,rfl,⟨⟨ty,da,dc⟩,rfl,rfl,by have J:=S.o0;unfold dL.dv;rw[a8.o];exact J⟩,S.b⟩)
def ajU(dst:Nat)(src dT:dW)(x:Nat)(h:wpList P ops Q (⟨cu dst,.convert src dT (.tmp x),t2,p,af,cw⟩::rest) a w):wpList P ops Q (⟨cu dst,.convert src dT (.tmp x),t2,p,af,cw⟩::rest) a w:=h
def ahS{x:Nat}(f:a.eval (.tmp x)=v)(e:P.underlying src=some (.slice 5))(d:P.underlying 5=some (.int .u8))(c:P.underlying dT=some .string)(R:dg w T 1 v n (eo l))(h:wpList P ops Q rest (a.put (some dst) (.string (Wp l))) w):wpList P ops Q (⟨some dst,.convert src dT (.tmp x),t2,p,af,none⟩::rest) a w:=by refine mz ae λK b=>?_;unfold Oper.wp execOp;simp only[f,lx,Qi e d c R,nX];exact b _ _ h
theorem agP{m:cV}(d:∀y∈l,y<256)(e:∀y∈m,y<256)(h:Wp l=Wp m):l=m:=by
 unfold Wp at h;have b:l.map UInt8.ofNat=m.map UInt8.ofNat:=by grind
 have c:(l.map UInt8.ofNat).map UInt8.toNat=(m.map UInt8.ofNat).map UInt8.toNat:=by rw[b]
 have a:∀k:cV,(∀y∈k,y<256)->(k.map UInt8.ofNat).map UInt8.toNat=k:=λk f=>by
  rw[wU];conv=>rhs;rw[<-map_id k]
  grind[map_congr_left,UInt8.toNat_ofNat']
 rwa [a l d,a m e] at c
def DP(v u:c7)(l m:cV)(f g:dW)(k n:Nat)(i:∀y∈l,y<256)(j:∀y∈m,y<256)(w:cS)(a:dg w f 1 v k (eo l))(b:dg w g 1 u n (eo m)):CP_ 32 #[v,u] w λe w'=>e=.returned (.bool (decide (l=m)))/\w=w':=by
 have c:((Wp l).toList==(Wp m).toList)=decide (l=m):=by rw[aeb];by_cases h:l=m;rw[h];simp;rw[jC h,jC (λe=>h (agP i j e))]
 have d:=cz c;clear c;have a:=cz a;have b:=cz b;go_enter func32,ntmps32;go_wp2_with (first|((with_reducible refine ajU 6 22 9 5 ?_);refine ahS ae oS yN yV a.o ?_)|((with_reducible refine ajU 8 22 9 7 ?_);refine ahS ae oS yN yV b.o ?_));go_ret;exact⟨by rw[d.o];rfl,ae⟩
def mK:List cV->Option (List du)
 | []=>cu []
 |t::ts=>match vf t with
  |none=>cw
  |some s=>match mK ts with
   |none=>cw
   |some l=>cu (s::l)
theorem OR(l:List cV)(t:cV):mK (l++[t])=match mK l with
 |none=>cw
 |some ss=>match vf t with
  |none=>cw
  |some s=>cu (ss++[s]):=by
 induction l<;>grind[mK]
theorem OS{l:List cV}(h:mK (l.take k)=cw):mK l=cw:=by rw[<-Ac k l];generalize l.drop k=m;generalize l.take k=n at h;induction n<;>grind[mK]
theorem RV{l:List cQ}(a:∀y∈bs,y<256)(h:td k bs=cu l):∀q∈l,dD q:=by induction k generalizing l<;>grind[td,xo]
theorem Fl{l:List cQ}(h:k8 bs=cu l):td (bs.n/16) bs=cu l/\bs.n<=64000/\ou l=cx:=by grind[k8]
theorem MQ{bs:cV}{l:List cQ}(a:∀y∈bs,y<256)(h:k8 bs=cu l):∀q∈l,dD q:=RV a (Fl h).1
theorem RW{bs:cV}{l:List cQ}(h:k8 bs=cu l):l.n<=4000:=by obtain⟨a,b,_⟩:=Fl h;grind[XP]
theorem Hv{bs:cV}{s:du}(b:∀y∈bs,y<256)(h:vf bs=cu s):tf s/\s.df.n<=4000:=by
 unfold vf at h;split at h;next p0 p1 p2 hs=>have a:=EI hs b;split at h;cases h;split at h;cases h;next ns hn=>split at h;cases h;next cO hr=>split at h;cases h;next dd hd=>cases h;refine⟨⟨xo (λy c=>a p0 eQ y (mR c)) hr,λq d=>?_⟩,?_⟩;grind[MQ];grind[RW]
 cases h
def lK(bs:cV):Option (Nat×List du):=
 match vV bs with
 |none=>cw
 |some ts=>if ts.n<1∨33<ts.n then cw else match sC [8] (ts.headD []) with
  |none=>cw
  |some ns=>match mK (ts.drop 1) with
   |none=>cw
   |some l=>match jE (ns.getD 0 0) l with
    |none=>cw
    |some b=>if b=bs then cu (ns.getD 0 0,l) else cw
theorem X0(ao:Option Addr)(c y s:Nat)(n m k:Nat):Value.ownBlock (bX (lz ao c y s) n k)=Value.ownBlock (bX ao m c):=by unfold lz;split;cases ao<;>rfl;cases ao with|none=>rfl|some x=>grind[Value.ownBlock,Addr.add]
theorem aee(h:yQ e z (bX ao n c) n xs B w)(a:i<=n):yQ e z (bX (lz ao c i z) (n-i) (c-i)) (n-i) (xs.drop (i*z)) B w:=
 ⟨dg.CG h.1 a,λf b d=>h.2 cN b (by grind[X0])⟩
def Fm{l:List du}{b:cV}(h:jE n l=cu b):∀y∈b,y<256:=by unfold jE at h;split at h;cases h;split at h;cases h;next ts hts=>refine UR h λt c=>?_;rcases iX.1 c with rfl|h2;exact xb _ _;obtain⟨s,a⟩:=Hu hts t h2;exact MO a
def agQ(w':cS)(base:Nat)(r:c7)(l:List du):Prop:=∃m,Ca w' base r m/\ez m=l
def aiC:Gp prog 75 1:=⟨dC,λW=>by rfl⟩
theorem OT(bs:cV)(u:c7)(d3:bs.n<=1000000000)(Z:∀y∈bs,y<256)(w:cS)(R:dg w 5 1 u bs.n (eo bs)):
 CP_ 150 #[u] w λe w'=>∃r,e=cj (cg #[bU ct (((lK bs).map Prod.fst).getD 0:Nat),r,bU cq (gq 151 (lK bs))])/\agQ w' w.h.s r (((lK bs).map Prod.snd).getD [])/\dS w w':=by
 obtain⟨ua,uc,rfl,c6,d4⟩:=dQ R;have HR:=cz R;have U:=cz λW(d:dS w W)=>PF _ bs cN W (dg.ve (HR.o.cP d) Z) ⟨_,_,_,ae,c6⟩;have S:=qP w;obtain⟨T,hT⟩:=dG (lK bs);rw[hT];have J:∀W B,Ca W B (bX cw 0 0) []:=λW B=>⟨iD _ _ _ _,λx f=>by cases f⟩;have J:=cz J;go_enter func150,ntmps150;cases i:vV bs with
 |none=>
  obtain rfl:cw=T:=by rw[<-hT];unfold lK;rw[i]
  rw[i] at U;go_wp2_with (refine ah (U.o _ S.b) λr W⟨ho,d⟩=>?_;replace S:=S.cP d);go_ret3;exact⟨_,ae,⟨[],J.o _ _,ae⟩,S.b⟩
 |some ts=>
  have D:=EI i Z;rw[i] at U;simp only[kL] at U;by_cases h1:ts.n<1
  . obtain rfl:cw=T:=by rw[<-hT];unfold lK;rw[i];simp only[h1,true_or,oQ]
    have i1:(ts.n:Int)<1:=cN
    go_wp2_with (refine ah (U.o _ S.b) λr W⟨ho,d⟩=>?_;obtain⟨ra,rc,rfl⟩:=A' ho;replace S:=S.cP d)
    go_ret3;exact⟨_,ae,⟨[],J.o _ _,ae⟩,S.b⟩
  have i1:¬(ts.n:Int)<1:=cN;by_cases V:33<ts.n
  . obtain rfl:cw=T:=by rw[<-hT];unfold lK;rw[i];simp only[V,or_true,oQ]
    have i2:(33:Int)<(ts.n:Int):=cN
    go_wp2_with (refine ah (U.o _ S.b) λr W⟨ho,d⟩=>?_;obtain⟨ra,rc,rfl⟩:=A' ho;replace S:=S.cP d)
    go_ret3;exact⟨_,ae,⟨[],J.o _ _,ae⟩,S.b⟩
  have i2:¬(33:Int)<(ts.n:Int):=cN;have Y:(match sC [8] (ts.headD []) with|none=>cw|some ns=>match mK (ts.drop 1) with|none=>cw|some l=>match jE (ns.getD 0 0) l with|none=>cw|some b=>if b=bs then cu (ns.getD 0 0,l) else cw)=T:=by
   rw[<-hT];unfold lK;rw[i];simp only[h1,V,or_self,mS]
  obtain⟨gn,z⟩:=dG (sC [8] (ts.headD []));have C2:=cz λv u W hv hu hc=>J1 v u [8] (ts.headD []) kM W hv hu hc;rw[z] at Y C2;have c2:∀ns,gn=cu ns->∃A,A<18446744073709551616/\ns=[A]:=by
   intro ns h;rw[h] at z;unfold sC at z;split at z
   . next hc=>
     cases z;refine⟨jM ((ts.headD []).take 8),?_,ae⟩;have d:∀y∈(ts.headD []).take 8,y<256:=λy hy=>by
      have q:=lP hy;rcases ts with _|⟨t,ts⟩
      . cases q
      . exact D t (nB ..) y q
     have h1:=EJ d;have V:256^((ts.headD []).take 8).n<=256^8:=QQ cN bp;omega
   . cases z
  have b8:=cz (show∀y∈dN [8],(Lit.int cq y).wf=cx by decide)
  go_upto_region 5 with(first|(refine ah (U.o _ S.b) λr W⟨ho,d⟩=>?_;obtain⟨ra,rc,rfl⟩:=A' ho;obtain⟨ps,F,b2,S9⟩:=S.Qh d ho;replace S:=S9;have M:ps.n=ts.n:=(by rw[<-F,mQ]);replace S:=S.EH (X':=λB w=>yQ 22 1 (bX ra ts.n rc) ts.n (ps.map Prod.fst) B w/\Ce ps B w) (λB w h=>(by rw[<-M];rw[<-M] at h;exact h.2)) ((fF _ _ _ _ _ ae ae).and (rX _)).me;obtain⟨rb,ro,rfl⟩:∃rb ro,ra=s_ rb ro:=(by obtain⟨_,_,e1,_,h⟩:=dQ S.x.1.1;grind);obtain⟨v0,O,a,I⟩:∃v0 O a,ps=(v0,O)::a:=(by have:=M;rcases ps with _|⟨⟨v0,O⟩,a⟩;simp at this;omega;exact⟨v0,O,a,ae⟩);obtain⟨a0,c0,rfl,b9⟩:=Ba (p:=O) (S.x.2 (v0,O) (by rw[I];simp)))|refine mF S cq (dN [8]) qq uW cN cN rfl rfl rfl λW S=>?_|refine zw (dg.cellAt S.x.1.1 (j:=0) cN (by rw[I];rfl)) ?_|(refine ah (C2.o _ _ _ (eU.row S.k0 ae (show(1:Nat)<=_ by omega) b8.o) (by have q:=dg.ve (S.x.2 (bX a0 O.n c0,O) (by rw[I];simp)).1 (D O (by rw[<-F,I];simp));rw[<-F,I];exact q) ⟨_,_,_,ae,b9⟩) λr W⟨ho,d⟩=>?_;obtain⟨na,nc,rfl⟩:=dx ho;replace S:=S.Ll d ho ae ae))
  cases gn with
  |none=>
   obtain rfl:cw=T:=Y;go_wp2;go_ret3;exact⟨_,ae,⟨[],J.o _ _,ae⟩,S.b⟩
  |some ns=>
   obtain⟨A,c3,rfl⟩:=c2 ns ae;simp only[kL] at S|-;have hN:ts.n-1=a.n:=by have:=M;rw[I] at this;simp at this;omega
   have hw:IntKind.i64.wrap ((ts.n:Int)-1)=((a.n:Nat):Int):=by rw[kX _ cN];omega
   have d2:a.n<=32:=cN;have a7:1<=ts.n:=cN;have c1:(ts.drop 1)=a.map Prod.snd:=by rw[<-F,I];rfl
   have Q:(match mK (a.map Prod.snd) with|none=>cw|some l=>match jE A l with|none=>cw|some b=>if b=bs then cu (A,l) else cw)=T:=by
    rw[<-c1];exact Y
   have b7:=cz (show∀p∈a,xR p.1/\p.2.n<=65535/\∀y∈p.2,y<256 from λp hp=>by
    have q:p∈ps:=by rw[I];exact kT _ hp
    exact⟨(b2 p q).1,(b2 p q).2,D p.2 (by rw[<-F];exact gT.2 ⟨p,q,ae⟩)⟩)
   skip
   go_upto_region 9 with(first|refine Kd S (n:=a.n) Jp rfl rfl cN xY rfl rfl λg W S=>?_|(refine y8 aiC ae ae a7 ?_;obtain⟨md,b1⟩:=dG (lz (s_ rb ro) rc 1 1);replace S:=S.EH (X':=λB w=>(yQ 22 1 (bX md a.n (rc-1)) a.n (a.map Prod.fst) B w/\Ce a B w/\yQ 82 1 (bX na 1 nc) 1 [bU ct A] B w)/\oL [] B w) (λB w h=>⟨⟨by have q:=aee h.1.1 a7;rw[b1,hN,I] at q;exact q,λp hp=>h.1.2 p (by rw[I];exact kT _ hp),h.2⟩,λx f=>by cases f⟩) (((fF _ _ _ _ _ ae ae).and ((rX _).and (fF _ _ _ _ _ ae ae))).and (jy _)).me;rw[b1,hN]))
   have b6:=cz ((fF 22 1 (bX md a.n (rc-1)) a.n (a.map Prod.fst) ae ae).and ((rX a).and (fF 82 1 (bX na 1 nc) 1 [bU ct A] ae ae)));have S:=cz S
   go_loopw [8,48] (λlv kv wr=>∃(k:Nat)(m:List dL)(g c:Nat),k<=a.n/\kv=bU cq k/\m.n=k/\lv=bX (s_ g 0) m.n c/\Hid (mK ((a.map Prod.snd).take k)=cu (ez m)/\(∀x∈m,rD w.h.s x)/\(∀s∈ez m,tf s/\s.df.n<=4000)/\
    ∃L,St w cw [] L [⟨109,11,bX (s_ g 0) m.n c,m.n,ju m⟩] (λB w=>(yQ 22 1 (bX md a.n (rc-1)) a.n (a.map Prod.fst) B w/\Ce a B w/\yQ 82 1 (bX na 1 nc) 1 [bU ct A] B w)/\oL m B w) wr)) (λ_ kv _=>a.n-(intOf kv).m)
   case atStart=>exact⟨0,[],g,a.n,cN,ae,ae,ae,cz ⟨ae,(by intro x f;cases f),(by intro x f;cases f),_,S.o⟩⟩
   case round=>
    obtain⟨k,m,g,c,hk,rfl,a3,rfl,hS⟩:=hrel;obtain⟨E,a9,a5,L,S⟩:=hS.o;have b5:=cz a3;have d1:m.n<=32:=cN;by_cases D:k<a.n
    . obtain⟨⟨vk,H⟩,a4⟩:∃p,a[k]?=cu p:=⟨_,jG D⟩;have o:=lu a4;obtain⟨c4,c5,N⟩:=b7.o _ o;simp only at c4 c5 N;obtain⟨ak,ck,rfl,a8⟩:=Ba (p:=H) (S.x.1.2.1 (vk,H) o);obtain⟨lb,lo,rfl⟩:∃lb lo,md=s_ lb lo:=by
       obtain⟨_,_,e1,_,h⟩:=dQ S.x.1.1.1
       grind
      have C:Hid ((a.map Prod.fst)[k]?=cu (.slice ak H.n ck)):=cz (by rw[rK,a4];rfl);obtain⟨rp,a6⟩:=dG (vf H);have C5:=cz λu W hu hc=>abp H u cN W hu hc;rw[a6] at C5;have G:mK ((a.map Prod.snd).take (k+1))=rp.bind λs=>cu (ez m++[s]):=by
       have q:(a.map Prod.snd).take (k+1)=(a.map Prod.snd).take k++[H]:=by
        rw[take_succ,rK,a4];rfl
       rw[q,OR,E,<-a6];simp only;cases vf H<;>rfl
      have K:=cz (show∀s,rp=cu s->tf s/\s.df.n<=4000 from λs hs=>Hv N (a6.trans hs));clear a3;cases rp with
      |none=>
       obtain rfl:cw=T:=by rw[<-Q,OS G]
       go_wp2_with first|refine zw (dg.cellAt S.x.1.1.1 cN C.o) ?_|(refine ah (C5.o _ _ (dg.ve (S.x.1.2.1 (bX ak H.n ck,H) o).1 N) ⟨_,_,_,ae,a8⟩) λB W⟨⟨y,hB,hy,ho⟩,d⟩=>?_;replace S:=S.cP d)|refine fu λW S=>?_
       go_ret3;exact⟨_,ae,⟨[],J.o _ _,ae⟩,S.b⟩
      |some s=>
       simp only[kL] at C5
       go_wp2_with first|refine zw (dg.cellAt S.x.1.1.1 cN C.o) ?_|(refine ah (C5.o _ _ (dg.ve (S.x.1.2.1 (bX ak H.n ck,H) o).1 N) ⟨_,_,_,ae,a8⟩) λB W⟨⟨y,hB,hy,ho⟩,d⟩=>?_;have b4:=cz (show rD w.h.s y from λhn b d=>ik S.fr.size ((sG.of ho).2 hn b d));replace S:=S.A6 d ho)|refine tE S 0 rfl 0 rfl rfl rfl rfl Jp (mI _) CU xY λg9 c9 W S=>?_|refine fO ?_|refine fu λW S=>?_
       go_roundw
       case rel=>
        refine⟨k+1,m++[y],g9,c9,cN,by go_num,by rw[jv,b5.o];rfl,by rw[jv];rfl,cz ⟨?_,λx f=>?_,λx f=>?_,L,?_⟩⟩
        . rw[G,show ez (m++[y])=ez m++[y.todu] by unfold ez;rw[nM];rfl,hy];rfl
        . rcases gH.1 f with h|h
          . exact a9 x h
          . rw[fS.1 h];exact b4.o
        . rw[show ez (m++[y])=ez m++[y.todu] by unfold ez;rw[nM];rfl,hy] at f;rcases gH.1 f with h|h
          . exact a5 x h
          . rw[fS.1 h];exact K.o s ae
        . rw[jv,xq,UD];have S:=S.pop.pop;refine S.EH (λB w h=>⟨h.1.1,λx f=>?_⟩) (b6.o.and (jy _)).me;rcases gH.1 f with V|V
          . exact h.1.2 x V
          . rw[fS.1 V];exact h.2
       case measure=>exact qN
    . obtain rfl:k=a.n:=cN;have E:=E;rw[nV (by rw[mQ];exact eN _)] at E;obtain⟨nb,no,rfl⟩:∃nb no,na=s_ nb no:=by
       obtain⟨_,_,e1,_,h⟩:=dQ S.x.1.2.2.1
       grind
      obtain⟨eb,a1⟩:=dG (jE A (ez m));have X:(eb.bind λb=>if b=bs then cu (A,ez m) else cw)=T:=by rw[<-Q,E,<-a1];simp only;cases jE A (ez m)<;>rfl
      have C6:=cz λv W R=>DO A c3 m v cN (λs hs=>ik (a5 s hs).2 cN) (λs hs=>(a5 s hs).1) W R;rw[a1] at C6;have b3:=cz (show∀b,eb=cu b->∀y∈b,y<256 from λb d=>Fm (a1.trans d));clear a3;cases eb with
      |none=>
       obtain rfl:cw=T:=X
       go_wp2_with first|refine zw (dg.cellAt S.x.1.2.2.1 (j:=0) cN ae) ?_|(refine ah (C6.o _ _ ⟨S.q0,λx f=>(S.x.2 x f).1⟩) λr W⟨ho,d⟩=>?_;replace S:=S.cP d)
       go_ret3;exact⟨_,ae,⟨[],J.o _ _,ae⟩,S.b⟩
      |some b=>
       have C7:=cz λv W R1 R2=>DP v (bX ua bs.n uc) b bs 5 5 b.n bs.n (b3.o b ae) Z W R1 R2;obtain⟨eq,a2⟩:=dG (decide (b=bs));rw[a2] at C7;cases eq with
       |false=>
        obtain rfl:cw=T:=by rw[<-X];simp only[xA];rw[cX (ym a2)]
        go_wp2_with first|refine zw (dg.cellAt S.x.1.2.2.1 (j:=0) cN ae) ?_|(refine ah (C6.o _ _ ⟨S.q0,λx f=>(S.x.2 x f).1⟩) λr W⟨ho,d⟩=>?_;replace S:=S.iw d ho ae ae)|refine mG (C7.o _ _ S.q0 (HR.o.cP S.b)) ?_
        go_ret3;exact⟨_,ae,⟨[],J.o _ _,ae⟩,S.b⟩
       |true=>
        obtain rfl:cu (A,ez m)=T:=by rw[<-X];simp only[xA];rw[c8 (mj a2)]
        go_wp2_with first|refine zw (dg.cellAt S.x.1.2.2.1 (j:=0) cN ae) ?_|(refine ah (C6.o _ _ ⟨S.q0,λx f=>(S.x.2 x f).1⟩) λr W⟨ho,d⟩=>?_;replace S:=S.iw d ho ae ae)|refine mG (C7.o _ _ S.q0 (HR.o.cP S.b)) ?_
        go_ret3;exact⟨_,ae,⟨m,⟨S.o1,λx f=>⟨(S.x.2 x f).1,a9 x f⟩⟩,ae⟩,S.b⟩
def abq(n:Nat)(f:n<=1000000000)(w:cS):CP_ 239 #[bU cq n,bU cq 128] w λe w'=>e=cj (bU cq ((n+127)/128:Nat))/\w=w':=by
 have a:IntKind.i64.wrap ((n:Int)+128)=(n:Int)+128:=kX _ cN;have b:IntKind.i64.wrap ((n:Int)+128-1)=(n:Int)+127:=by rw[kX _ cN];omega
 have c:IntKind.i64.wrap (((n:Int)+127)/128)=(((n+127)/128:Nat):Int):=by rw[kX _ cN];omega
 have d:(((n:Int)+127)/128)=(((n+127)/128:Nat):Int):=cN;go_enter func239,ntmps239;go_wp2;go_ret;exact aE
def agR(n:Nat)(f:n<=1000000000)(w:cS):CP_ 239 #[bU cq n,bU cq 8] w λe w'=>e=cj (bU cq ((n+7)/8:Nat))/\w=w':=by
 have a:IntKind.i64.wrap ((n:Int)+8)=(n:Int)+8:=kX _ cN;have b:IntKind.i64.wrap ((n:Int)+8-1)=(n:Int)+7:=by rw[kX _ cN];omega
 have c:IntKind.i64.wrap (((n:Int)+7)/8)=(((n+7)/8:Nat):Int):=by rw[kX _ cN];omega
 have d:(((n:Int)+7)/8)=(((n+7)/8:Nat):Int):=cN;go_enter func239,ntmps239;go_wp2;go_ret;exact aE
def j0:Nat->Nat->cV
 |0,s=> [s]
 |f+1,s=>if 1<s then s::j0 f ((s+7)/8) else [s]
def kQ(n:Int):cV:=if n<1∨65535<n then [] else j0 10 ((n.m+127)/128)
def jT(n:Int):Nat:=(kQ n).sum
def X1:xm prog 81 3 1 8:=⟨qq,_,uW,ae,cN⟩
def qI(l:cV):List c7:=l.map λ(n:Nat)=>Value.int cq (n:Int)
def ajV(w:cS)(base:Nat)(v:c7)(l:cV):Prop:=w.ownsRow base 3 1 v l.n (qI l)
def MR(n:Int)(w:cS):CP_ 192 #[bU cq n] w λe w'=>∃r,e=cj r/\ajV w' w.h.s r (kQ n)/\dS w w':=by
 have S:=qP w;obtain⟨T,j⟩:=dG (kQ n);rw[j];by_cases u:n<1∨65535<n
 . (obtain rfl:[]=T:=by rw[<-j];unfold kQ;rw[c8 u]);clear j;go_enter func192,ntmps192;go_wp2;all_goals(go_ret;exact aH)
 have J:¬n<1:=cN;have K:¬65535<n:=cN;obtain⟨k,rfl⟩:∃k:Nat,n=k:=⟨n.m,cN⟩;obtain⟨o,i⟩:=dG ((k+127)/128);have x:o<=512:=cN;have l:j0 10 o=T:=by rw[<-j];unfold kQ;rw[cX u,<-i];rfl
 have y:=cz (abq k cN);rw[i] at y;have t:=cz l;clear j i l u;go_enter func192,ntmps192;go_upto_region 5 with(first|refine mG (y.o _) ?_|(refine mF S cq (dN [o]) qq uW cN cN ae ae ae λW S=>?_;replace S:=S.Uj ae));have S:=cz S;go_loopw [3,4] (λsv I wr=>∃(f s:Nat)(b:cV)(a:Option Addr)(c:Nat),s<=8^f/\s<=512/\b.n+f=10/\sv=bU cq s/\I=bX a (b.n+1) c/\Hid (b++j0 f s=T/\∃L,St w cw [] L [⟨3,1,bX a (b.n+1) c,b.n+1,qI (b++[s])⟩] (λ_ _=>True) wr)) (λsv _ _=>(intOf sv).m);exact⟨10,o,[],_,1,cN,x,ae,ae,ae,cz ⟨t.o,_,S.o⟩⟩;clear S;obtain⟨f,s,b,a,c,A,H,G,rfl,rfl,hS⟩:=hrel;obtain⟨d,L,S⟩:=hS.o;clear hS;by_cases B:1<s
 . (obtain⟨f,rfl⟩:∃g,f=g+1:=by rcases f with _|f;rw[Nat.pow_zero] at A;omega;exact⟨f,ae⟩);(have v:(1:Int)<(s:Int):=cN;unfold j0 at d;rw[c8 B] at d;obtain⟨p,m⟩:=dG ((s+7)/8);have z:=cz (agR s cN);rw[m] at d z;have q:=cz d;have h:p<=8^f:=by rw[Nat.pow_succ] at A;omega);have F:p<s:=cN;clear d m;go_wp2_with (first|refine mG (z.o _) ?_|refine mF S cq (dN [p]) qq uW cN cN rfl rfl rfl λW S=>?_|refine tE S 0 rfl 0 rfl rfl rfl rfl X1 (Hp _ _) CU xY λD C W S=>?_);go_roundw;exact⟨f,p,b++[s],s_ D 0,C,h,cN,by simp;omega,ae,by simp,cz ⟨by rw[xJ];exact q.o,L,by have S:=S.pop;unfold qI at S|-;rw[nM,jv];exact S⟩⟩;exact qN
 . (have v:¬(1:Int)<(s:Int):=cN;have h:j0 f s=[s]:=by cases f with|zero=>rfl|succ f=>unfold j0;rw[cX B]);rw[h] at d;subst d;clear h;go_wp2;go_ret;exact⟨_,ae,by have E:=S.o0;unfold ajV;rw[jv];exact E,S.b⟩
theorem abr(f s:Nat):(j0 f s).n<=f+1:=by induction f generalizing s with|zero=>simp[j0]|succ f ih=>grind[j0]
theorem zj(n:Int):(kQ n).n<=11:=by grind[kQ,abr]
theorem Bb(n:Int):∀x∈kQ n,x<=512:=by unfold kQ;grind[j0]
theorem aef{m:Nat}(h:∀x∈l,x<=m):l.sum<=l.n*m:=by induction l<;>grind[succ_mul,mem_cons_self]
def Hw(n:Int)(w:cS):sW 256 #[bU cq n] w (bU cq (jT n:Nat)):=by
 have S:=qP w;obtain⟨l,d⟩:=dG (kQ n);have t:l.n<=11:=by rw[<-d];exact zj n
 have f:∀x∈l,x<=512:=by rw[<-d];exact Bb n
 have z:Hid (jT n=l.sum):=cz (by unfold jT;rw[d]);have o:=cz (MR n);rw[d] at o;have b:=cz f;clear d f;go_enter func256,ntmps256;go_upto_region 3 with(refine ah (o.o _) λr W⟨ho,h⟩=>?_;obtain⟨D,E,rfl⟩:=dx ho;replace S:=S.iw h ho ae ae;clear h);have S:=cz S;go_loopw [3,9] (λsv m wr=>∃k:Nat,k<=l.n/\m=bU cq k/\sv=bU cq ((l.take k).sum:Nat)/\Hid (St w cw [] [] [⟨3,1,bX D l.n E,l.n,qI l⟩] (λ_ _=>True) wr)) (λ_ m _=>l.n-(intOf m).m);exact⟨0,cN,ae,ae,S⟩;clear S;obtain⟨k,F,rfl,rfl,hS⟩:=hrel;have S:=hS.o;clear hS;by_cases a:k<l.n
 . (obtain⟨g,c,s⟩:=DC S.o0 (by show 0<l.n;omega);simp only[lX] at s;obtain⟨rfl,-,rfl⟩:=s;obtain⟨x,i⟩:=dG (l[k]);have A:(l.take k).n<=11:=by rw[lO];omega);(have h:(l.take k).sum<=5632:=ik (aef λy C=>b.o y (lP C)) cN;have B:x<=512:=b.o x (i▸mP a);have j:(l.take (k+1)).sum=(l.take k).sum+x:=by rw[yl a,sum_append,i];simp);(have u:Hid ((qI l)[k]?=cu (.int cq x)):=cz (by unfold qI;rw[rK,jG a,i];rfl);obtain⟨q,p⟩:=sV ((l.take k).sum);rw[p.o] at h j;have v:=cz j;have G:IntKind.i64.wrap ((q:Int)+(x:Int))=((q+x:Nat):Int):=by rw[kX _ cN];omega);rw[p.o];clear i j;go_wp2_with (refine jo 12 3 11 (zh S.o0 u.o) ?_);go_roundw;exact⟨k+1,cN,by go_num,by rw[v.o];first|rfl,cz S⟩;exact qN
 . obtain rfl:k=l.n:=cN;rw[qp];go_wp2;go_ret;exact⟨by rw[z.o];rfl,S.b⟩
def fZ(t:Int):Nat:=if t<64∨1024<t then 0 else 2+5*((t.m+1)/2)
theorem DQ(t:Int):fZ t<=2567:=by grind[fZ]
def lH(t:Int)(w:cS):CP_ 202 #[bU cq t] w λe w'=>e=cj (bU cq (fZ t:Nat))/\w=w':=by
 by_cases b:t<64∨1024<t
 . have a:Hid (fZ t=0):=cz (by unfold fZ;rw[c8 b]);go_enter func202,ntmps202;go_wp2;all_goals(go_ret;exact ang)
 . (obtain⟨n,rfl⟩:∃n:Nat,t=n:=⟨t.m,cN⟩;have a:Hid (fZ (n:Int)=2+5*((n+1)/2)):=cz (by unfold fZ;rw[cX b];rfl);have c:¬(n:Int)<64:=cN;have d:¬(1024:Int)<(n:Int):=cN;have f:IntKind.i64.wrap ((n:Int)+1)=(n:Int)+1:=kX _ cN;have g:IntKind.i64.wrap (((n:Int)+1)/2)=((n:Int)+1)/2:=kX _ cN;have h:IntKind.i64.wrap (5*(((n:Int)+1)/2))=5*(((n:Int)+1)/2):=kX _ cN;have i:IntKind.i64.wrap (2+5*(((n:Int)+1)/2))=((2+5*((n+1)/2):Nat):Int):=by rw[kX _ cN];omega);go_enter func202,ntmps202;go_wp2;go_ret;exact ang
theorem Hx(n:Int):jT n<=5632:=by unfold jT;have a:=aef (Bb n);grind[zj]
def nE(n:Nat)(fg:Int):Nat:=1+jT n+jT (fZ fg:Nat)
def UW(a:Option Addr)(n c:Nat)(fg:Int)(w:cS):sW 222 #[bX a n c,bU cq fg] w (bU cq (nE n fg:Nat)):=by
 have S:=qP w;have d:=cz (Hw (n:Int));have e:=cz (lH fg);have b:=cz (Hw ((fZ fg:Nat):Int));have hc:Hid (nE n fg=1+jT n+jT (fZ fg:Nat)):=cz ae;have m:=Hx (n:Int);have f:=Hx ((fZ fg:Nat):Int);obtain⟨x,i⟩:=dG (jT (n:Int));obtain⟨s,g⟩:=dG (fZ fg);rw[g] at e b hc f;obtain⟨y,j⟩:=dG (jT (s:Int));rw[i] at d hc m;rw[j] at b hc f;have o:IntKind.i64.wrap (1+(x:Int))=((1+x:Nat):Int):=by rw[kX _ cN];omega
 have l:IntKind.i64.wrap (((1+x:Nat):Int)+(y:Int))=((1+x+y:Nat):Int):=by rw[kX _ cN];omega
 obtain⟨z,k⟩:=dG (1+x);rw[k] at o l hc;obtain⟨u,h⟩:=dG (z+y);rw[h] at l hc;clear i g j k h;go_enter func222,ntmps222;go_wp2_with (first|(go_at_call_has 256 (Value.int cq n);refine je S (d.o _) λW S=>?_)|(go_at_call 202;refine mG (e.o _) ?_)|(go_at_call_has 256 (Value.int cq s);refine je S (b.o _) λW S=>?_));go_ret;exact⟨by rw[hc.o];rfl,S.b⟩
def CH(c:Int):Int:=if c=42 then c else 91
def Jv(c:Int)(w:cS):CP_ 148 #[bU cq c] w λe w'=>e=cj (bU cq (CH c))/\w=w':=by
 by_cases h:c=42
 . subst h;go_enter func148,ntmps148;go_wp2;go_ret;exact aE
 . (have a:Hid (CH c=91):=cz (by unfold CH;rw[cX h]);have b:(c==42)=cy:=by rw[lr];exact h);clear h;go_enter func148,ntmps148;go_wp2;go_ret;exact ang
def jh(b:ej):Option cV:=
 match jE b.next b.cU with
 |none=>cw
 |some t=>if 65535<t.n then cw else cu t
structure fi(b:ej):Prop where
 next:b.next<18446744073709551616
 fit:zf b
 parts:∀s∈b.cU,tf s
def Km(b:dY)(A:gJ)(l:A=cM 2 (dO b))(h:fi b.t)(w:cS)(R:jd w b):
 CP_ 221 #[bV A] w λe w'=>∃r,e=cj (cg #[r,bU cq (gq 151 (jh b.t))])/\mN w' w.h.s r ((jh b.t).getD [])/\dS w w':=by
 have u:=cz l;have m:=cz R;have f:=cz λW(a:dS w W)=>DO b.next h.next b.l b.sv h.fit.len (λs n=>(h.fit.2 s n).1) h.parts W (m.o.cP a);have S:=qP w;obtain⟨T,i⟩:=dG (jh b.t);rw[i];obtain⟨j,d⟩:=dG (jE b.next (ez b.l));rw[d] at f;have g:(j.bind λt=>if 65535<t.n then cw else cu t)=T:=by rw[<-i,<-d];unfold jh;rw[show b.t.next=b.next from ae,show b.t.cU=ez b.l from ae];cases jE b.next (ez b.l)<;>rfl
 have c:=cz g;clear l h i d g;go_enter func221,ntmps221;cases j with
 |none=>obtain rfl:cw=T:=c.o;go_wp2_with (first|(go_at_call 197;refine ah (f.o _ S.b) λr W⟨ho,a⟩=>?_;replace S:=S.cP a;clear a)|refine fO ?_|refine fu λW S=>?_);go_ret2;exact aH
 |some t=>
  simp only[kL] at f;by_cases k:65535<t.n
  . (obtain rfl:cw=T:=by rw[<-c.o];simp only[xA];rw[c8 k]);have o:(65535:Int)<(t.n:Int):=cN;go_wp2_with (first|(go_at_call 197;refine ah (f.o _ S.b) λr W⟨ho,a⟩=>?_;obtain⟨p,q,rfl⟩:=dx ho;replace S:=S.cP a;clear a)|refine fO ?_|refine fu λW S=>?_);go_ret2;exact aH
  . (obtain rfl:cu t=T:=by rw[<-c.o];simp only[xA];rw[cX k]);have o:¬(65535:Int)<(t.n:Int):=cN;go_wp2_with (first|(go_at_call 197;refine ah (f.o _ S.b) λr W⟨ho,a⟩=>?_;obtain⟨p,q,rfl⟩:=dx ho;replace S:=S.iw a ho ae ae;clear a)|refine fO ?_|refine fu λW S=>?_);go_ret2;exact bw
def nq(b:ej)(fg:Int):Nat:=
 match jh b with
 |none=>0
 |some t=>if fZ fg=0 then 0 else nE t.n fg
def RX(b:dY)(A:gJ)(i:A=cM 2 (dO b))(m:fi b.t)(fg:Int)(w:cS)(R:jd w b):
 sW 168 #[bV A,bU cq fg] w (bU cq (nq b.t fg:Nat)):=by
 have p:=cz i;have o:=cz R;have g:=cz λW(c:dS w W)=>Km b A i m W (o.o.cP c);have l:=cz (lH fg);have S:=qP w;obtain⟨T,j⟩:=dG (nq b.t fg);rw[j];obtain⟨n,d⟩:=dG (jh b.t);rw[d] at g;obtain⟨s,k⟩:=dG (fZ fg);rw[k] at l;have f:(n.elim 0 λt=>if s=0 then 0 else nE t.n fg)=T:=by rw[<-j,<-d,<-k];unfold nq;cases jh b.t<;>rfl
 have a:=cz f;clear i m j d f k;go_enter func168,ntmps168;cases n with
 |none=>obtain rfl:0=T:=a.o;go_wp2_with (first|(refine ah (g.o _ S.b) λr W⟨ho,c⟩=>?_;replace S:=S.cP c;clear c)|refine fO ?_|refine fu λW S=>?_);go_ret;exact az
 |some t=>
  simp only[kL] at g;by_cases h:s=0;obtain rfl:0=T:=by rw[<-a.o,BB,c8 h]
  subst h;rotate_left;obtain rfl:nE t.n fg=T:=by rw[<-a.o,BB,cX h]
  have q:((s:Int)==0)=cy:=by rw[lr];omega
  all_goals
   go_wp2_with first|(refine ah (g.o _ S.b) λr W⟨ho,c⟩=>?_;obtain⟨u,v,rfl⟩:=dx ho;replace S:=S.cP c;clear c)|refine mG (l.o _) ?_|refine je S (UW _ _ _ _ _) λW S=>?_|refine fO ?_|refine fu λW S=>?_
   go_ret;exact az
def Am(b:dY)(A:gJ)(U:A=cM 2 (dO b))(O:zf b.t)(w:cS)(R:jd w b):CP_ 102 #[bV A] w λe w'=>∃B,e=cj (bV B)/\lV w' w.h.s B b.t/\dS w w':=by
 have Z:=O.len;have X:rC b.l:=O.2;obtain⟨E,l,ao,cap⟩:=b;change gC w (bX ao l.n cap) l at R;simp only at Z X;obtain⟨n,r⟩:=dG l.n;have f:=(dQ R.1);have R:=cz R;have HA:=cz U;have G:dO ⟨E,l,ao,cap⟩ 1=bX ao n cap:=by rw[<-r];rfl
 have u:=cz G;have N:=cz r;rw[r] at R Z;have S:=qP w;obtain⟨a2,T,Y,H,f⟩:=f;simp only[lX] at Y;obtain⟨rfl,-,rfl⟩:=Y;rw[r] at H f;have f:=cz f;clear U G r O;go_enter func102,ntmps102;go_upto_region 3 with(first|refine yT S rfl HA.o rfl λW1 S=>?_|refine Ey S 1 ae 1 (v:=bX ao n cap) u.o ?_|(refine ahR S (n:=n) Jp ae ae cN xY ae ae (Zr n) λg W S=>?_;replace S:=S.EH (X':=oL []) (λ_ _ _ x t=>by cases t) (jy []).me)|refine fu λW S=>?_);have S:=cz S;go_loopw [12] (λi wr=>∃(k:Nat)(m:List dL),k<=n/\i=bU cq k/\Hid (m.n=n/\ez (m.take k)=ez (l.take k)/\(∀x∈m.take k,rD w.h.s x)/\St w cw [] [⟨W1.h.s,99,2,dO xr⟩,⟨w.h.s,99,2,dO ⟨E,l,ao,cap⟩⟩] [⟨109,11,bX (s_ g 0) n n,n,ju m⟩] (oL (m.take k)) wr)) (λi _=>n-(intOf i).m);exact anA;clear S;obtain⟨k,m,hk,rfl,hS⟩:=hrel;obtain⟨d,a,c,S⟩:=hS.o;clear hS;by_cases I:k<n
 . (obtain⟨b,o,rfl⟩:=f.o cN;have j:k<l.n:=by rw[N.o];exact I);obtain⟨x,t⟩:=dG (l[k]);obtain⟨D,q⟩:=fU (cM 11 (iz x));have J:=cz (nC l j (A:=D) (by rw[t];exact q));have K:=cz q;have M:=mP j;rw[t] at M;have C9:=cz λW(s:dS w W)=>qv x D K.o (X.at M).1 W ((R.o.cP s).2 x M);have HX:=cz t;have C:=cz (And.intro d (And.intro a c));have p:k<m.n:=cN;have R1:Hid (dg w 109 11 (bX (s_ b o) n cap) n (ju l)):=cz (by have:=R.o.1;rwa [N.o] at this);clear q M t d a c;go_wp2_with (first|(first|refine Ey S 1 ae 1 (v:=bX (s_ b o) n cap) u.o ?_|refine CB (R1.o.cP S.b) I (vx K) J.o ?_)|(refine(C9.o _ S.b).mono ?_;rintro e W ⟨B,y,rfl,V,L,s⟩;have HB:=cz V;have HF:=cz (show rD w.h.s y from λr b s=>ik S.fr.size ((sG.of L.2).2 r b s));replace S:=S.A6 s L.2;have HY:=cz L.1;clear s V L)|refine ad8 S 0 rfl rfl k (by show k*11+11<=n*11;omega) rfl rfl HB.o uX (mI _) λW S=>?_);go_roundw;obtain⟨d,a,c⟩:=C.o;refine⟨k+1,m.set k y,cN,by go_num,cz ⟨by rw[xM];exact d,?_,?_,?_⟩⟩;rw[q7 m p,Fj l j,<-a,HX.o,<-HY.o];unfold ez;rw[nM];rfl;rw[q7 m p];intro z Q;rcases gH.1 Q with h|h;exact c z h;rw[fS.1 h];exact HF.o;rw[q7 m p,<-UI p y];refine S.EH (λB w h z Q=>?_) (jy _).me;rcases gH.1 Q with h2|h2;exact h.1 z h2;rw[fS.1 h2];exact h.2;exact qN
 . (obtain rfl:k=n:=cN;rw[nV cN] at a c S;rw[nV (by rw[N.o];exact eN _)] at a;have C:=cz (And.intro d (And.intro a c));obtain⟨D,q⟩:∃D:gJ,D=#[bU ct E,bX (s_ g 0) k k]:=⟨_,ae⟩;have F:D=cM 2 (dO ⟨E,m,s_ g 0,k⟩):=by rw[q,<-d];rfl);have K:=cz q;have a1:=cz F;clear q F d a c;go_wp2_with first|refine lE (cells:=D) ae (by rw[K.o];exact RM _ _ _ _) ?_|(refine mu ?_;exact⟨_,ae,⟨⟨E,m,s_ g 0,k⟩,ae,by unfold dY.t;rw[C.o.2.1],MH C.o.1 S.o0 S.x C.o.2.2⟩,S.b⟩)|refine fO ?_|refine fu λW S=>?_
end
section
theorem bl0(S:St w0 d l L O X w){t:dW}(m:xm P t e z by')(f:gZ e=cy)(i:lQ e=cy)(h:∀g W,St w0 d l L (⟨e,z,bX (cu ⟨g,0,cw⟩) 0 0,0,[]⟩::O) X W->wpList P ops Q rest (a.put (cu dst) (bX (cu ⟨g,0,cw⟩) 0 0)) W):
 wpList P ops Q (⟨cu dst,.buildSlice t 0 #[],t2,p,af,cw⟩::rest) a w:=by
 obtain⟨n,zv,k,u,s⟩:=m;obtain⟨v,c,o,q,r⟩:=oH k;have b:(Instr.buildSlice t 0 #[]).run P w=.ok (bX (s_ w.h.s 0) 0 0) (w.alloc (.cells #[] e)):=by simp[Instr.buildSlice,yI n,sizeOf,typeInfo,c,Instr.fill,newRow];grind
 refine mz ae λK j=>?_;unfold Oper.wp execOp;simp only[lx,map_toArray,map_nil,b,nX];exact j _ _ (h _ _ (S.made (cap:=0) eQ (gG _) f i))
end
section
def ak3{x:Nat}{t:dW}(f:P.underlying t=cu (.slice e))(g:a.eval (.tmp x)=bX ao n c)(h:wpList P ops Q rest (a.put (cu dst) (bZ ao.isNone)) w):wpList P ops Q (⟨cu dst,.binOp .eql t (.tmp x) (.const (bX cw 0 0)) u,t2,p,af,cw⟩::rest) a w:=by refine mz ae λK b=>?_;unfold Oper.wp execOp;have hc:a.eval (.const (bX cw 0 0))=bX cw 0 0:=rfl;have d:eqGuard .eql t (.tmp x) (.const (bX cw 0 0)) (bX ao n c) (bX cw 0 0)=pure ():=rfl;simp only[lx,g,hc,d,run_eql_slice_nil w t e ao n c 0 0 f,rN,nX];exact b _ _ h
end
section
attribute[local irreducible]wpList Code.wp Calls Oper.wp wpAnyH
theorem OU(l:List cQ)(v:c7)(f:l.n<=1000000)(w:cS)(R:ly w v l):CP_ 120 #[v] w λe w'=>∃r,e=cj r/\ir w' w.h.s r l/\dS w w':=by
 obtain⟨ao,cap,rfl,a,b⟩:=dQ R;have R:=cz R;have S:=qP w;rcases ao with _|u;have d:l.n=0:=by grind
 obtain rfl:=yj d;clear b d a;rotate_left;clear b a
 all_goals
  go_enter func120,ntmps120
  go_wp2_with first|refine ak3 (e:=106) underlying107 ae ?_|refine bl0 S ib rfl rfl λg W S=>?_|(refine apQ S 0 ae ae ae (R.o.cP S.b) ib (oO _) CU xY λao c W S=>?_;rw[show(0+l.n)=l.n from pM _] at S|-;rw[show([]++iZ l)=iZ l from ae] at S)
  go_ret
  first|exact aH|exact⟨_,rfl,S.o0,S.b⟩
end
structure iV where
 P:Nat
 b:dY
 dI:List cQ
 ho:Option Addr
 hc:Nat
 ub:qZ
def iV.hv(g:iV):c7:=bX g.ho g.dI.n g.hc
def wu(g:iV):Nat->c7:=λi=>if i=0 then bW (cu ⟨g.P,0,cw⟩) else if i<3 then dO g.b (i-1) else if i=3 then g.hv else k7 g.ub (i-4)
theorem aeg(g:iV):∀i,(wu g i).oneCell'=cx:=by intro i;unfold wu;split;rfl;split;exact fW _ _;split;rfl;grind[uk]
instance in0c723(g:iV):OF (wu g):=⟨aeg g⟩
structure dZ(w:cS)(G:Nat)(g:iV)(D M:Nat)(s:Pl):Prop where
 row:cL w G 145 11 (wu g)
 kB:fh w g.P D M s
 wZ:jd w g.b
 dI:ly w g.hv g.dI
def dZ.c0{g:iV}(h:dZ w G g D M s):w.cell? ⟨G,0,cw⟩=cu (.pointer (cu ⟨g.P,0,cw⟩)):=cL.cell h.row (i:=0) cN
theorem dZ.c1{g:iV}(h:dZ w G g D M s):w.cell? ⟨G,1,cw⟩=cu (.int ct g.b.next):=cL.cell h.row (i:=1) cN
theorem dZ.c3{g:iV}(h:dZ w G g D M s):w.cell? ⟨G,3,cw⟩=cu g.hv:=cL.cell h.row (i:=3) cN
theorem dZ.c4{g:iV}(h:dZ w G g D M s):w.cell? ⟨G,4,cw⟩=cu (.int ct g.ub.kJ):=cL.cell h.row (i:=4) cN
section
variable {x:Nat}
def ak4(R:cL w b e n f){o m:Nat}(s:a.eval (.tmp x)=bW (cu ⟨b,o,cw⟩))(g:Nat->c7)(l:o+m<=n)(k:∀i,i<m->f (o+i)=g i)(d:A=cM m g)(q:ky P ty m)(h:wpList P ops Q rest (a.put (cu dst) (bV A)) w):wpList P ops Q (⟨cu dst,.load ty (.tmp x),t2,p,af,cw⟩::rest) a w:=by obtain⟨⟨c,r,j⟩,t⟩:=q;have:=wpList_load_mid (op:=⟨cu dst,.load ty (.tmp x),t2,p,af,cw⟩) (ops:=ops) (rest:=rest) (Q:=Q) ae ty (.tmp x) ae b o s A.t c (BW R l k d) r j aG;rw[vA] at this;exact this h
end
section
attribute[local irreducible]wpList Code.wp Calls Oper.wp wpAnyH
def mL(G D M:Nat)(g:iV)(s:Pl)(w:cS)(h:dZ w G g D M s):CP_ 24 #[bW (cu ⟨G,0,cw⟩)] w λe w'=>e=cj (bW (cu ⟨g.P,0,cw⟩))/\w=w':=by have c0:=h.c0;clear h;go_enter func24,ntmps24;go_wp2;go_ret;exact aE
def UX(G D M:Nat)(g:iV)(s:Pl)(w:cS)(h:dZ w G g D M s):CP_ 167 #[bW (cu ⟨G,0,cw⟩)] w λe w'=>e=cj (bU cq g.dI.n)/\w=w':=by have c0:=h.c3;unfold iV.hv at c0;clear h;go_enter func167,ntmps167;go_wp2;go_ret;exact aE
def lS(G D M:Nat)(g:iV)(s:Pl)(b:zf g.b.t)(w:cS)(h:dZ w G g D M s):CP_ 43 #[bW (cu ⟨G,0,cw⟩)] w λe w'=>∃B,e=cj (bV B)/\lV w' w.h.s B g.b.t/\dS w w':=by obtain⟨A,a⟩:=fU (cM 2 (dO g.b));have f:=cz a;have l:=cz h.row;have d:=cz λW(n:dS w W)=>Am g.b A a b W (show gC W g.b.sv g.b.l from(show gC w g.b.sv g.b.l from h.wZ).cP n);have S:=qP w;clear h a b;go_enter func43,ntmps43;go_wp2_with first|((with_reducible refine xC 6 99 5 ?_);refine ak4 (l.o.cP S.b) (o:=1) (m:=2) ae (dO g.b) cN (λi q=>by rcases i with(_|_|i)<;>first|rfl|omega) f.o nU ?_)|(go_at_call 102;refine A7 S (d.o _ S.b) λW B c p j k S=>?_)|(refine mu ?_;exact⟨_,ae,⟨c,ae,j.o,S.jK k.o⟩,S.b⟩)|refine fu λW S=>?_
def yKn{x:Nat}{t:dW}(e:∀w,SS w->cL w b t n f){o m:Nat}(u:a.eval (.tmp x)=bW (cu ⟨b,o,cw⟩))(g:Nat->c7)(l:o+m<=n)(k:∀i,i<m->f (o+i)=g i)(d:A=cM m g)(q:ky P ty m)(s:Region.wanted ⟨cu dst,.load ty (.tmp x),t2,p,af,gd⟩ (yielded ops a.tmps)=cx:=by kernel_rfl):YieldsIf P ops SS ⟨cu dst,.load ty (.tmp x),t2,p,af,gd⟩ (bV A) a:=by obtain⟨⟨c,r,j⟩,v⟩:=q;have h:=yieldsIf_load_mid (P:=P) (S:=SS) (op:=⟨cu dst,.load ty (.tmp x),t2,p,af,gd⟩) (ops:=ops) s ty (.tmp x) ae b o u A.t c (λw h=>BW (e w h) l k d) r j aG;omega
def MT:lD prog 68:=⟨⟨_,underlying68,ae⟩,dC⟩
instance in570ca :rk 68:=⟨MT⟩
theorem dZ.cP{g:iV}(h:dZ w G g D M s)(b:dS w w'):dZ w' G g D M s:=
 ⟨cL.cP h.row b,h.kB.cP b,(show gC w g.b.sv g.b.l from h.wZ).cP b,(show dg w 106 3 g.hv g.dI.n (iZ g.dI) from h.dI).cP b⟩
def Kn(G D M:Nat)(g:iV)(s:Pl)(j:fi g.b.t)(w:cS)(h:dZ w G g D M s):
 sW 121 #[bW (cu ⟨G,0,cw⟩)] w (bU cq (nq g.b.t s.dv.n:Nat)):=by obtain⟨A,c⟩:=fU (cM 2 (dO g.b));have n:=cz c;have e:=cz h;have k:=cz λW(b:dS w W)=>nP g.P D M s.cR s.base W ((h.cP b).kB.row);have l:=cz λW(b:dS w W)=>Ag D s.dv W ((h.cP b).kB.dev);have d:=cz λW(b:dS w W)=>RX g.b A c j (s.dv.n:Nat) W ((h.cP b).wZ);have S:=qP w;obtain⟨T,f⟩:=dG (nq g.b.t s.dv.n);rw[f] at d|-;clear h c j f;go_enter func121,ntmps121;go_upto_region 1 with(fail);refine eO S dC λW S=>?_;refine dh 0 _ ?_;refine dh 1 (dF G 0) ?_;refine dh 2 (dF G 1) ?_;refine ij 3 (bV A) ae (yKn (λw h=>by obtain⟨_,S⟩:=h;exact(e.o.cP S.b).row) (o:=1) (m:=2) ae (dO g.b) cN (λi p=>by rcases i with(_|_|i)<;>first|rfl|omega) n.o nU) ?_;refine dh 4 _ ?_;refine dh 5 (dF G 0) ?_;refine dh 6 (dF G 0) ?_;refine ij 7 (dF g.P 0) ae (gW (λw h=>by obtain⟨_,S⟩:=h;exact(e.o.cP S.b).c0) ae MT) ?_;refine kK 8 λK a=>?_;go_wp2_with fail;refine mG (k.o _ S.b) ?_;refine gy a ?_;refine kK 9 λK a=>?_;go_wp2_with fail;refine mG (l.o _ S.b) ?_;refine gy a ?_;refine kK 10 λK a=>?_;go_wp2_with fail;refine je S (d.o _ S.b) λW S=>?_;refine gy a ?_;refine dh 11 _ ?_;refine qG ?_;go_wp2;go_ret;exact az
theorem aei(b:ej)(fg:Int)(a:∀t,jh b=cu t->t.n<=65535):nq b fg<=1000000:=by grind[nq,Hx,nE]
theorem Hy{b:ej}{t:cV}(h:jh b=cu t):t.n<=65535:=by grind[jh]
def Bc(jT a dI:Nat):Bool:=decide (0<jT)&&decide (jT<=a)&&decide (2*jT<=a+dI)
def UY(G D M:Nat)(g:iV)(s:Pl)(r:fi g.b.t)(w:cS)(h:dZ w G g D M s)(y:g.dI.n<=1000000):
 sW 117 #[bW (cu ⟨G,0,cw⟩)] w (bZ (Bc (nq g.b.t s.dv.n) (fI s.mp) g.dI.n)):=by
 have k:=cz h;have d:=cz λW(b:dS w W)=>Kn G D M g s r W (h.cP b);have i:=cz λW(b:dS w W)=>mD g.P D M s.cR s.base W ((h.cP b).kB.row);have e:=cz λW(b:dS w W)=>count_map M s.mp W ((h.cP b).kB.map);have j:=cz λW(b:dS w W)=>UX G D M g s W (h.cP b);have S:=qP w;have v:=aei g.b.t s.dv.n (λt h=>Hy h);obtain⟨T,q⟩:=dG (nq g.b.t s.dv.n);rw[q] at d v|-;have x:fI s.mp<=1024:=by unfold fI;have:=TV s.mp 16;omega
 obtain⟨F,o⟩:=dG (fI s.mp);rw[o] at e x|-;obtain⟨H,p⟩:=dG g.dI.n;rw[p] at j y|-;clear h r q o p;by_cases f:0<T;by_cases l:T<=F
 . by_cases n:2*T<=F+H
   . have c:Hid (Bc T F H=cx):=cz (by unfold Bc;simp[f,l,n]);have m:(0:Int)<(T:Int):=cN;have u:(T:Int)<=(F:Int):=cN;have z:(2:Int)*(T:Int)<=(F:Int)+(H:Int):=cN;go_enter func117,ntmps117;go_upto_region 1 with(fail);refine eO S dC λW S=>?_;refine dh 0 _ ?_;refine dh 2 _ ?_;refine dh 3 (dF G 0) ?_;refine dh 4 (dF G 0) ?_;refine ij 5 (dF g.P 0) ae (gW (λw h=>by obtain⟨_,S⟩:=h;exact(k.o.cP S.b).c0) ae MT) ?_;refine kK 1 λK a=>?_;go_wp2_with fail;refine je S (d.o _ S.b) λW S=>?_;refine gy a ?_;refine kK 6 λK a=>?_;go_wp2_with fail;refine mG (i.o _ S.b) ?_;refine gy a ?_;refine kK 7 λK a=>?_;go_wp2_with fail;refine mG (e.o _ S.b) ?_;refine gy a ?_;refine dh 8 _ ?_;refine dh 9 _ ?_;refine qG ?_
     all_goals(
     go_wp2_with (go_at_call 167;refine mG (j.o _ S.b) ?_);go_ret;exact⟨by rw[c.o];first|rfl,S.b⟩
     )
   . have c:Hid (Bc T F H=cy):=cz (by unfold Bc;simp[f,l,n]);have m:(0:Int)<(T:Int):=cN;have u:(T:Int)<=(F:Int):=cN;have z:¬(2:Int)*(T:Int)<=(F:Int)+(H:Int):=cN;go_enter func117,ntmps117;go_upto_region 1 with(fail);refine eO S dC λW S=>?_;refine dh 0 _ ?_;refine dh 2 _ ?_;refine dh 3 (dF G 0) ?_;refine dh 4 (dF G 0) ?_;refine ij 5 (dF g.P 0) ae (gW (λw h=>by obtain⟨_,S⟩:=h;exact(k.o.cP S.b).c0) ae MT) ?_;refine kK 1 λK a=>?_;go_wp2_with fail;refine je S (d.o _ S.b) λW S=>?_;refine gy a ?_;refine kK 6 λK a=>?_;go_wp2_with fail;refine mG (i.o _ S.b) ?_;refine gy a ?_;refine kK 7 λK a=>?_;go_wp2_with fail;refine mG (e.o _ S.b) ?_;refine gy a ?_;refine dh 8 _ ?_;refine dh 9 _ ?_;refine qG ?_
     all_goals(
     go_wp2_with (go_at_call 167;refine mG (j.o _ S.b) ?_);go_ret;exact⟨by rw[c.o];first|(show Ending.returned (Value.bool (decide ((2:Int)*(T:Int)<=(F:Int)+(H:Int))))=_;rw[jC cN]),S.b⟩
     )
 have c:Hid (Bc T F H=cy):=cz (by unfold Bc;simp[f,l]);have m:(0:Int)<(T:Int):=cN;have u:¬(T:Int)<=(F:Int):=cN;rotate_left;have c:Hid (Bc T F H=cy):=cz (by unfold Bc;simp[f]);have m:¬(0:Int)<(T:Int):=cN
 all_goals
  go_enter func117,ntmps117
  go_upto_region 1 with(fail)
  refine eO S dC λW S=>?_;refine dh 0 _ ?_;refine dh 2 _ ?_;refine dh 3 (dF G 0) ?_;refine dh 4 (dF G 0) ?_;refine ij 5 (dF g.P 0) ae (gW (λw h=>by obtain⟨_,S⟩:=h;exact(k.o.cP S.b).c0) ae MT) ?_;refine kK 1 λK a=>?_
  go_wp2_with fail
  refine je S (d.o _ S.b) λW S=>?_;refine gy a ?_;refine kK 6 λK a=>?_
  go_wp2_with fail
  refine mG (i.o _ S.b) ?_;refine gy a ?_;refine kK 7 λK a=>?_
  go_wp2_with fail
  refine mG (e.o _ S.b) ?_;refine gy a ?_;refine dh 8 _ ?_;refine dh 9 _ ?_;refine qG ?_
  all_goals(
  go_wp2;go_ret;exact⟨by rw[c.o];first|rfl,S.b⟩
  )
structure tY(w:cS)(K G:Nat)(g:iV)(D M:Nat)(s:Pl):Prop where
 row:cL w K 101 1 (λ_=>bW (cu ⟨G,0,cw⟩))
 Hz:dZ w G g D M s
def tY.c0{K:Nat}{g:iV}(h:tY w K G g D M s):w.cell? ⟨K,0,cw⟩=cu (.pointer (cu ⟨G,0,cw⟩)):=cL.cell h.row (i:=0) cN
def Cg(U G D M:Nat)(g:iV)(s:Pl)(w:cS)(h:tY w U G g D M s):CP_ 46 #[bW (cu ⟨U,0,cw⟩)] w λe w'=>e=cj (bZ s.dv.df)/\w=w':=by have c0:=h.c0;have c:=cz (mL G D M g s w h.Hz);have d:=cz (nP g.P D M s.cR s.base w h.Hz.kB.row);have a:=cz (Lh D s.dv w h.Hz.kB.dev);obtain⟨T,b⟩:=dG s.dv.df;rw[b] at a|-;clear h b;go_enter func46,ntmps46;go_wp2_with (first|(go_at_call 24;refine mG c.o ?_)|(go_at_call 106;refine mG d.o ?_)|(go_at_call 82;refine mG a.o ?_));go_ret;exact aE
def RY(U G D M:Nat)(g:iV)(s:Pl)(w:cS)(h:tY w U G g D M s):CP_ 18 #[bW (cu ⟨U,0,cw⟩)] w λe w'=>e=cj (bU cq (fI s.mp:Nat))/\w=w':=by have c0:=h.c0;have c:=cz (mL G D M g s w h.Hz);have d:=cz (mD g.P D M s.cR s.base w h.Hz.kB.row);have a:=cz (count_map M s.mp w h.Hz.kB.map);obtain⟨T,b⟩:=dG (fI s.mp);rw[b] at a|-;clear h b;go_enter func18,ntmps18;go_wp2_with (first|(go_at_call 24;refine mG c.o ?_)|(go_at_call 25;refine mG d.o ?_)|(go_at_call 61;refine mG a.o ?_));go_ret;exact aE
def vF(c:Int):Int:=if c=0∨c=42∨c=71 then c else 91
def sI(c:Int)(w:cS):CP_ 49 #[bU cq c] w λe w'=>e=cj (bU cq (vF c))/\w=w':=by
 by_cases a:c=0;subst a;rotate_left;by_cases b:c=42;subst b;rotate_left;by_cases d:c=71;subst d;rotate_left
 . (have f:Hid (vF c=91):=cz (by unfold vF;rw[cX cN]);have g:(c==0)=cy:=by rw[lr];exact a);(have h:(c==42)=cy:=by rw[lr];exact b);(have i:(c==71)=cy:=by rw[lr];exact d);clear a b d;go_enter func49,ntmps49;go_wp2;go_ret;exact⟨by rw[f.o];rfl,ae⟩
 all_goals
  go_enter func49,ntmps49;go_wp2;go_ret;exact aE
def abt(q:Nat)(v:c7)(W:cS):Sem.run prog (Instr.field 99 (bV #[bU ct (q:Int),v]) 0) W=.ok (bU ct (q:Int)) W:=by rfl
def Zv:lD prog 69:=⟨⟨_,underlying69,ae⟩,dC⟩
instance in805a8 :s7 118 1:=⟨⟨⟨_,underlying118,rfl⟩,dC⟩⟩
instance in90860 :rk 69:=⟨Zv⟩
def zW(G D M:Nat)(g:iV)(s:Pl)(A:gJ)(b:A=cM 1 (λ_=>bW (cu ⟨G,0,cw⟩)))(d:fi g.b.t)(w:cS)(h:dZ w G g D M s)(e:g.dI.n<=1000000):
 sW 57 #[bV A] w (bU cq (if Bc (nq g.b.t s.dv.n) (fI s.mp) g.dI.n=cx then 0 else 71)):=by
 have i:=cz b;have a:=cz λW(f:dS w W)=>UY G D M g s d W (h.cP f) e;have S:=qP w;obtain⟨T,c⟩:=dG (Bc (nq g.b.t s.dv.n) (fI s.mp) g.dI.n);rw[c] at a|-;clear b d h e c;cases T
 all_goals(
 go_enter func57,ntmps57;go_wp2_with (first|(go_at_call 117;refine je S (a.o _ S.b) λW S=>?_)|refine fO ?_|refine fu λW S=>?_);go_ret;exact az
 )
theorem An(G D M:Nat)(g:iV)(s:Pl)(A:gJ)(j:A=cM 1 (λ_=>bW (cu ⟨G,0,cw⟩)))(k:zf g.b.t)(w:cS)(h:dZ w G g D M s):
 sW 53 #[bV A] w (bZ (decide (281474976710651<g.b.next))):=by
 have o:=cz j;have m:=cz λW(d:dS w W)=>lS G D M g s k W (h.cP d);have S:=qP w;obtain⟨T,f⟩:=dG (decide (281474976710651<g.b.next));rw[f];obtain⟨q,i⟩:=sV g.b.next;have a:decide ((281474976710651:Int)<(q:Int))=T:=by rw[<-f,i.o];grind
 have n:=cz a;clear j k h f a;go_enter func53,ntmps53;go_wp2_with (first|(go_at_call 43;refine(m.o _ S.b).mono ?_;rintro e W ⟨B,rfl,⟨c,rfl,hc,ho⟩,d⟩;have b:c.next=q:=(gQ ej.next hc).trans i.o;replace S:=S.cP d;clear d hc;rw[show cM 2 (dO c)=#[bU ct c.next,c.sv] from ae,b];clear b;have l:=λW=>abt q c.sv W)|refine fO ?_|refine fu λW S=>?_);go_ret;exact⟨by rw[<-n.o];rfl,S.b⟩
def tH(b:ej)(cT:fM)(i:Int):du×Int:=
 let r:=nJ b.cU cT
 let s:=P' b.cU r.1
 if r.2=141 then(oI,141) else if r.2≠0 then(oI,172) else if i<0∨(s.blocks:Int)<=i then(oI,176) else(s,0)
def H7(b:dY)(A:gJ)(D:A=cM 2 (dO b))(t:zf b.t)(cT:fM)(u:cT.s<=140737488355328)(i:Int)(w:cS)(R:jd w b):
 CP_ 47 #[bV A,bY cT,bU cq i] w λe w'=>∃B,e=cj (cg #[bV B,bU cq (tH b.t cT i).2])/\ze w' w.h.s B (tH b.t cT i).1/\dS w w':=by
 have E:b.l.n<=1000000:=t.len;have K:=cz D;have g:=cz λW(d:dS w W)=>Ho b.l b.sv cT u E t.2 W (show gC W b.sv b.l from(show gC w b.sv b.l from R).cP d);have S:=qP w;obtain⟨T,r⟩:=dG (tH b.t cT i);rw[r];obtain⟨n,f⟩:=dG (nJ (ez b.l) cT);rw[f] at g;obtain⟨k,c⟩:=n;simp only at g;obtain⟨s,x⟩:=dG (P' (ez b.l) k);rw[x] at g;have l:(if c=141 then(oI,141) else if c≠0 then(oI,172) else if i<0∨(s.blocks:Int)<=i then(oI,176) else(s,0))=T:=by rw[<-r,<-x];unfold tH;rw[show b.t.cU=ez b.l from ae,f]
 have p:=cz l;clear D t E R r f x l;by_cases h:c=141;subst h;obtain rfl:(oI,141)=T:=p.o;rotate_left;have L:(c==141)=cy:=by rw[lr];exact h
 by_cases q:c=0
 . (subst q;obtain⟨n,f⟩:=dG s.blocks;have G:=cz f;have m:(if i<0∨(n:Int)<=i then(oI,176) else(s,0))=T:=by rw[<-p.o,cX (by decide:¬(0:Int)=141),cX (by decide:¬(0:Int)≠0),f]);(have a:=cz m;clear f m h p;by_cases C:i<0;obtain rfl:(oI,176)=T:=by rw[<-a.o,c8 (.inl C)]);rotate_left;(have N:decide (i<0)=cy:=jC C;by_cases J:(n:Int)<=i;obtain rfl:(oI,176)=T:=by rw[<-a.o,c8 (.inr J)]);rotate_left;obtain rfl:(s,0)=T:=by rw[<-a.o,cX cN]
   all_goals
    go_enter func47,ntmps47
    go_wp2_with first|refine wJ S xP pS rfl λI S=>?_|(refine ah (g.o _ S.b) λB W⟨⟨y,j,o,ho⟩,d⟩=>?_;have F:=cz j;have H:=cz o;have z:(y.blocks:Int)=(n:Int):=(by rw[<-G.o,<-o]);replace S:=S.iw d ho ae ae;clear d j o)|(refine mf dC ?_;refine yS S 0 ae 6 (v:=bU cq y.blocks) ae rh ae Dy ?_;rw[z])|refine fO ?_|refine fu λW S=>?_|(refine mu ?_;exact⟨_,ae,sH _ _,S.b⟩)|(refine mu ?_;exact⟨_,ae,⟨y,ae,H.o,S.o0⟩,S.b⟩)
 have M:(c !=0)=cx:=fK.2 q;obtain rfl:(oI,172)=T:=by rw[<-p.o,cX h,c8 q]
 clear h q
 all_goals
  go_enter func47,ntmps47
  go_wp2_with first|refine wJ S xP pS rfl λI S=>?_|(refine ah (g.o _ S.b) λB W⟨⟨y,j,o,ho⟩,d⟩=>?_;have F:=cz j;replace S:=S.cP d;clear d j o)|(refine mu ?_;exact⟨_,ae,sH _ _,S.b⟩)|refine fO ?_|refine fu λW S=>?_
def qJ(b:ej)(cT:fM)(i:Int):du×Int:=
 (eW cT).elim (oI,141) λp=>if p.2=tp then tH b cT i else(oI,141)
def DR(G D M:Nat)(g:iV)(s:Pl)(A:gJ)(t:A=cM 1 (λ_=>.pointer (some ⟨G,0,none⟩)))(o:zf g.b.t)(cT:fM)(d:cT.size<=140737488355328)(i:Int)(w:cS)(h:dZ w G g D M s):
 CP_ 79 #[.agg A,.string cT,.int .i64 i] w λe w'=>∃B,e=.returned (.tuple #[.agg B,.int .i64 (qJ g.b.t cT i).2])/\ze w' w.heap.size B (qJ g.b.t cT i).1/\dS w w':=by
 have J:=cz t;have j:=cz (tG cT d);have u:=cz λW(m:dS w W)=>lS G D M g s o W (h.cP m);have v:=cz λ(c:dY)(B:gJ)(l:B=cM 2 (dO c))(hc:c.t=g.b.t)W(R:jd W c)=>H7 c B l (by rw[hc];exact o) cT d i W R;have S:=qP w;obtain⟨T,a⟩:=dG (qJ g.b.t cT i);rw[a];unfold qJ at a;obtain⟨ns,f⟩:=dG (eW cT);rw[f] at j a;have k:=cz a;clear t o h a f;rcases ns with _|p;obtain rfl:(oI,141)=T:=k.o;rotate_left;obtain⟨H,sn⟩:=p;simp only[kL] at j;rw[show gq 141 (some (H,sn))=0 from ae] at j;by_cases b:sn=tp;have F:sn.toList.isEmpty=true:=by rw[b,DF];rfl
 obtain rfl:tH g.b.t cT i=T:=by rw[<-k.o];simp only[BB,c8 b]
 obtain⟨T,a⟩:=dG (tH g.b.t cT i);have C:=cz a;rw[a];clear b a k;rotate_left;have F:sn.toList.isEmpty=false:=AU b;obtain rfl:(oI,141)=T:=by rw[<-k.o];simp only[BB,cX b]
 clear b
 all_goals
  go_enter func79,ntmps79
  go_wp2_with first|((with_reducible refine Lk 6 109 ?_);refine wJ S xP pS ae λK S=>?_)|(go_at_call 63;refine je S (j.o _) λW S=>?_)|(go_at_call 43;refine A7 S (u.o _ S.b) λW B c x r n S=>?_)|(go_at_call 47;refine ah (v.o c B x.o r.o _ (S.jK n.o).sl) λI W⟨⟨y,l,q,ho⟩,m⟩=>?_;have z:=cz l;rw[r.o,C.o] at q|-;have E:=cz q;replace S:=S.iw m ho ae ae;clear m l q)|refine fO ?_|refine fu λW S=>?_|(refine mu ?_;exact⟨_,ae,sH _ _,S.b⟩)|(refine mu ?_;exact⟨_,ae,⟨y,ae,E.o,S.o0⟩,S.b⟩)
attribute [local go_sem] Oper.semAt_some
def rY(l:List dL)(id k:Nat):List (Fin l.n):=((finRange l.n).take k).filter λi=>decide ((l.get i).dB=id)
theorem X2(l:List dL)(id:Nat)(a:k<l.n):rY l id (k+1)=if(l.get ⟨k,a⟩).dB=id then rY l id k++[⟨k,a⟩] else rY l id k:=by unfold rY;rw[take_add_one,jG jH,filter_append];grind
theorem abu(l:List dL)(id k:Nat):(rY l id k).n<=k:=by grind[rY]
theorem abv(l:List dL)(id:Nat):(rY l id l.n).map (λi=>(l.get i))=l.filter λs=>decide (s.dB=id):=by
 unfold rY;rw[nV eQ];have h:(finRange l.n).map l.get=l:=by apply ext_getElem eQ;grind
 conv=>rhs;rw[<-h]
 rw[filter_map];rfl
theorem abw(l:List dL)(id:Nat)(a:k<=l.n):rY l id k<+:rY l id l.n:=by grind[rY]
def Zw{J:β->cS->Prop}{B:Nat}(b:AbidesFrom B J){s:β}(h:J s W)(a:dS W W'):J s W':=
 b s W W' cw h ⟨a.os,a.tape,a.output,a.s,λk c _=>a.block k c⟩ (λr e=>by cases e)
theorem Jw(h:w'.h[b]?=w.h[b]?):w'.cell? ⟨b,i,cw⟩=w.cell? ⟨b,i,cw⟩:=yx h
def aej(n:Nat)(lp m j:Nat)(v:c7)(l:List dL)(id:Nat)(a2:l.n<=1000000)(J O:List (Fin l.n)->cS->Prop)(W:cS)(hv:gC W v l)(hJ:AbidesFrom W.h.s J)(hY:∀a x Q,J a Q->a.n<l.n->YieldAt Fence.wide (n-1) prog lp #[bU cq ((x:Fin l.n).val:Int)] Q λe W'=>
  (e=cj (bZ cx)/\J (a++[x]) W'/\np ([m,j]++v.ownBlock.t) Q W')∨(e=cj (bZ cy)/\O (a++[x]) W'))(U:W.cell? ⟨m,0,cw⟩=cu v)(T:W.cell? ⟨j,0,cw⟩=cu (.int ct id))(h0:J [] W):
 CallsIn Fence.wide n prog 232 #[.func (.yield lp) #[] #[],bW (cu ⟨m,0,cw⟩),bW (cu ⟨j,0,cw⟩)] W λe W'=>(∃u,e=cj u)/\
  ((∃ys,ys=rY l id l.n/\J ys W')∨(∃a,a<+:rY l id l.n/\O a W')):=by
 have HV:=cz hv;obtain⟨ao,cap,rfl,a1,z⟩:=dQ hv.1;have z:=cz z;clear hv;have HY:=cz hY;clear hY;have HJ:=cz hJ;clear hJ;refine callsIn_of_wp func232 ae iC ?_ ae;simp only[ntmps232,Ay,lq,ue,reduceAdd,reduceSub,Az,vH,vI,vJ,pL,uG];gi_wp2
 gi_loopw [7] (λi wr=>∃k:Nat,k<=l.n/\i=bU cq k/\J (rY l id k) wr/\Hid (np ([m,j]++(Value.slice ao l.n cap).ownBlock.t) W wr)/\wr.cell? ⟨m,0,cw⟩=cu (.slice ao l.n cap)/\wr.cell? ⟨j,0,cw⟩=cu (.int ct id))
  (λi _=>l.n-(intOf i).m)
 exact⟨0,gG _,ae,h0,cz (np.refl _ _),U,T⟩;obtain⟨k,Z,rfl,y,B,d,c⟩:=hrel;by_cases g:k<l.n
 . (obtain⟨b,o,rfl⟩:=z.o cN;have f:=cz (X2 l id g);obtain⟨x,hx⟩:=dG (l.get ⟨k,g⟩);rw[hx] at f;have K:l[k]?=cu x:=by rw[jG g,<-hx];rfl);(have t:wr.cell? ⟨b,o+k*11+4,cw⟩=cu (.int ct x.dB):=by rw[Jw (B.o.same b (by simp[Value.ownBlock]))];exact(HV.o.at K).c4);clear hx K;have a3:prog.follows .mixedOrders=cx:=dC;rcases Bv (x.dB=id) with he|he
   . have M:=cz (f.o.trans (c8 he));have Y:(((x.dB:Nat):Int)==((id:Nat):Int))=cx:=by rw[wX];omega
     obtain⟨fn,tmps,q,C,hy,E⟩:=HY.o _ ⟨k,g⟩ _ (Zw HJ.o y (gK _ _).drew) (QT (abu l id k) g);clear f he;have s:RoundIn Fence.wide (n-1) prog lp fn tmps q C wr.drew λe W'=>∃L:Bool,e=cj (bZ L)/\Hid ((L=cx/\J (rY l id (k+1)) W'/\np ([m,j]++(Value.slice (s_ b o) l.n cap).ownBlock.t) wr.drew W')∨(L=cy/\O (rY l id (k+1)) W')):=
      RoundIn.mono E λe W' h=>by
       rw[M.o];rcases h with⟨rfl,R,h2⟩|⟨rfl,R⟩
       . exact⟨cx,ae,cz (.inl ⟨ae,R,h2⟩)⟩
       . exact⟨cy,ae,cz (.inr ⟨ae,R⟩)⟩
     have N:=cz s;clear E s;gi_wp2;gi_region_with (refine⟨Ei,RoundIn.mono N.o ?_⟩;rintro e W3 ⟨L,rfl,h3⟩)
     all_goals(
     rcases h3.o with⟨rfl,V,r⟩|⟨rfl,D⟩
     . have H:=(Jw (r.same m eQ)).trans d;have F:=(Jw (r.same j eQ)).trans c;have A:=cz (B.o.trans ((np.mk ((gK 0 wr).drew) λ_ _=>ae).trans r));clear r;gi_wp2;go_roundw;exact⟨k+1,cN,by go_num,V,A,H,F⟩;simp[intOf];omega
     . gi_wp2;refine iI (vQ ae _ _ _) ae ?_;exact⟨⟨_,ae⟩,.inr ⟨_,abw l id cN,D⟩⟩
     )
   . (have M:=cz (f.o.trans (cX he));have Y:(((x.dB:Nat):Int)==((id:Nat):Int))=cy:=by rw[lr];omega);clear f he;gi_wp2
     have S:=St.start wr cw [] xl iC;refine Ak sM S dC dC vy λW S=>?_;refine ij 0 (bX (s_ b o) l.n cap) ae (gW (λw h=>by obtain⟨_,S⟩:=h;exact(S.b.cell (p:=⟨m,0,cw⟩) (rM d)).trans d) ae sQ) ?_;refine dh 1 _ ?_;refine dh 2 (dF b (o+k*11)) ?_;refine dh 3 (dF b (o+k*11+4)) ?_;refine ij 4 (bU ct x.dB) ae (gW (λw h=>by obtain⟨_,S⟩:=h;exact(S.b.cell (p:=⟨b,o+k*11+4,cw⟩) (rM t)).trans t) ae gi) ?_;refine ij 5 (bU ct id) ae (gW (λw h=>by obtain⟨_,S⟩:=h;exact(S.b.cell (p:=⟨j,0,cw⟩) (rM c)).trans c) ae gi) ?_;refine dh 6 (bZ cy) ?_;refine dh 7 _ ?_;refine pP 8 ?_;refine pP 9 ?_;refine pP 10 ?_;refine pP 11 ?_;refine dh 12 (bZ cy) ?_;refine qG ?_;have X:=Zw HJ.o y S.b;have I:=(S.b.cell (p:=⟨m,0,cw⟩) (rM d)).trans d;have G:=(S.b.cell (p:=⟨j,0,cw⟩) (rM c)).trans c;have A:=cz (B.o.trans (np.mk (Hm S.b) λk Z=>S.b.block k (by
      simp only[Value.ownBlock,LD,uG,pL,iX,jL,uH] at Z;rcases Z with rfl|rfl|rfl
      . exact rM d
      . exact rM c
      . exact rM t)))
     gi_wp2;go_roundw;exact⟨k+1,cN,by go_num,by rw[M.o];exact X,A,I,G⟩;simp[intOf];omega
 . obtain rfl:k=l.n:=cN;gi_wp2;refine FW (vQ ae _ _ _) ae ?_;exact⟨⟨_,ae⟩,.inl ⟨_,ae,y⟩⟩
def Gt(n b a:Nat)(v:c7)(l:List dL)(id:Nat)(f:l.n<=1000000)(w:cS)(hv:gC w v l)(d:w.cell? ⟨b,0,cw⟩=cu v)(c:w.cell? ⟨a,0,cw⟩=cu (.int ct id)):
 SeqStopsK Fence.wide n prog 232 #[bW (cu ⟨b,0,cw⟩),bW (cu ⟨a,0,cw⟩)] (λx:Fin l.n=>#[Value.int cq (x.val:Int)]) (np ([b,a]++v.ownBlock.t)) (λo=>o=rY l id l.n) (λg=>g<+:rY l id l.n) l.n w:=by intro m J h W e j _ k i;exact aej n m b a v l id f J h W (hv.cP e) j k ((e.cell (p:=⟨b,0,cw⟩) (rM d)).trans d) ((e.cell (p:=⟨a,0,cw⟩) (rM c)).trans c) i
def DS(a:Option Addr)(len cap id:Nat)(w:cS):
 CP_ 175 #[bX a len cap,bU ct id] w λe w'=>e=cj (.func (.func 232) #[] #[bW (cu ⟨w.h.s,0,cw⟩),bW (cu ⟨w.h.s+1,0,cw⟩)])/\w'=(w.alloc (.cells #[bX a len cap] 97)).alloc (.cells #[bU ct id] 82):=by go_enter func175,ntmps175;go_wp2;go_ret;exact aE
theorem DT{u:c7}{a:dW}(h:W=(w.alloc (.cells #[u] a)).alloc (.cells #[v] t2)):
 dS w W/\W.cell? ⟨w.h.s,0,cw⟩=cu u/\W.cell? ⟨w.h.s+1,0,cw⟩=cu v/\iy W w.h.s=cu a/\iy W (w.h.s+1)=cu t2/\W.h.s=w.h.s+2:=by
 have d:(w.alloc (.cells #[u] a)).h.s=w.h.s+1:=World.size_alloc ..;have e:cL (w.alloc (.cells #[u] a)) w.h.s a 1 (λ_=>u):=cL.alloc w a 1 (λ_=>u);have b:cL W (w.h.s+1) t2 1 (λ_=>v):=by rw[h,<-d];exact cL.alloc _ t2 1 (λ_=>v)
 have c:cL W w.h.s a 1 (λ_=>u):=by rw[h];exact e.alloc_old _
 exact⟨by rw[h];exact((gK _ _).alloc (eN _) _).alloc cN _,cL.cell c (i:=0) cN,cL.cell b (i:=0) cN,cL.ty c,cL.ty b,by simp_all⟩
attribute [local go_sem] Oper.semAt_some
theorem Zx:Gp prog 22 1:=⟨dC,λW=>by rfl⟩
def Zy{J:β->cS->Prop}{B:Nat}(b:AbidesFrom B J){s:β}(h:J s W)(a:dS W W'):J s W':=
 b s W W' cw h ⟨a.os,a.tape,a.output,a.s,λk c _=>a.block k c⟩ (λr e=>by cases e)
def Ci(h:w'.h[b]?=w.h[b]?):w'.cell? ⟨b,i,cw⟩=w.cell? ⟨b,i,cw⟩:=yx h
def fA(m n:Nat):Nat:=(m+n-1)/n
theorem sJ{m n k:Nat}(a:0<n):k<fA m n↔k*n<m:=by grind[fA,le_div_iff_mul_le]
def uy(b o z m n k:Nat):c7:=bX (cu ⟨b,o+k*n*z,cw⟩) (min n (m-k*n)) (min n (m-k*n))
theorem UZ{t:dW}(h:Gp P t z)(b o n c l y:Nat)(a:l<y)(d:y<=c)(W:cS):(Instr.sliceAt t (bX (cu ⟨b,o,cw⟩) n c) (cu (.int cq l)) (cu (.int cq y)) (cu (.int cq y))).run P W=.ok (bX (cu ⟨b,o+l*z,cw⟩) (y-l) (y-l)) W:=by rw[yZ h,run_slice_lhm W t _ n c h.1 cq cq cq (l:Nat) (y:Nat) (y:Nat) cN cN cN cN,h.2];simp only[Result.andThen,sliced,uI];rw[cX cN];simp[Addr.add]
theorem abx(n:Nat)(K h g m cap:Nat)(ao:Option Addr)(b o:Nat)(f:0<m->ao=cu ⟨b,o,cw⟩)(T:m<=cap)(H:m<=1000000)(J D:List (Fin (fA m 128))->cS->Prop)(W:cS)(F:AbidesFrom W.h.s J)(G:∀a x t,J a t->a.n<fA m 128->YieldAt Fence.wide (n-1) prog K #[uy b o 1 m 128 (x:Fin (fA m 128)).val] t λe W'=>
  (e=cj (bZ cx)/\J (a++[x]) W'/\np [h,g] t W')∨(e=cj (bZ cy)/\D (a++[x]) W'))(Q:W.cell? ⟨h,0,cw⟩=cu (.slice ao m cap))(O:W.cell? ⟨g,0,cw⟩=cu (.int cq 128))(H:J [] W):
 CallsIn Fence.wide n prog 292 #[.func (.yield K) #[] #[],bW (cu ⟨h,0,cw⟩),bW (cu ⟨g,0,cw⟩)] W λe W'=>(∃u,e=cj u)/\
  ((∃L,L=finRange (fA m 128)/\J L W')∨(∃a,a<+:finRange (fA m 128)/\D a W')):=by
 have N:=cz G;clear G;have M:=cz F;clear F;refine callsIn_of_wp func292 ae iC ?_ ae;simp only[ntmps292,Ay,lq,ue,reduceAdd,reduceSub,Az,vH,vI,vJ,pL,uG];gi_wp2
 gi_loopw [4] (λi wr=>∃k:Nat,k<=fA m 128/\i=bU cq ((k*128:Nat):Int)/\J ((finRange (fA m 128)).take k) wr/\wr.cell? ⟨h,0,cw⟩=cu (.slice ao m cap)/\wr.cell? ⟨g,0,cw⟩=cu (.int cq 128))
  (λi _=>(m+128)-(intOf i).m)
 grind;obtain⟨k,R,rfl,d,z,w⟩:=hrel;by_cases c:k<fA m 128
 . have B:k*128<m:=(sJ cN).1 c;obtain rfl:=f cN;have l:Hid ((finRange (fA m 128)).take (k+1)=(finRange (fA m 128)).take k++[⟨k,c⟩]):=cz (by
    rw[take_add_one,jG (by simpa using c)];simp)
   (obtain⟨i,A⟩:=dG (k*128);rw[A] at B|-;obtain⟨y,C⟩:=fU (min 128 (m-i));have Y:=λW=>MA Zx (s_ b o) m cap i cN W;have Z:∀W,(Instr.sliceAt 22 (bX (s_ b o) m cap) (cu (.int cq i)) (cu (.int cq ((i+y:Nat):Int))) (cu (.int cq ((i+y:Nat):Int)))).run prog W=.ok (uy b o 1 m 128 k) W:=λW=>by rw[UZ Zx b o m cap i (i+y) cN cN];unfold uy;rw[A,<-C,show i+y-i=y by omega]);clear f R;have I:((m:Int)-(i:Int))=((m-i:Nat):Int):=cN;have V:min (128:Int) ((m-i:Nat):Int)=(y:Int):=cN;have H:((i:Int)+(y:Int))=((i+y:Nat):Int):=cN;have X:prog.follows .mixedOrders=cx:=dC;have v:=Zy M.o d (gK _ _).drew;obtain⟨fn,tmps,r,E,C,j⟩:=N.o _ ⟨k,c⟩ _ v bp;have s:=cz j;clear j;rw[show uy b o 1 m 128 k=bX (s_ b (o+i)) (min 128 (m-i)) (min 128 (m-i)) from by unfold uy;rw[A];try simp] at C;gi_wp2;gi_region;gi_wp2;refine⟨Ei,RoundIn.mono s.o ?_⟩;rintro e H (⟨rfl,hJ3,hk3⟩|⟨rfl,hJx3⟩)
   . have q:=(Ci (hk3.same h eQ)).trans z;have p:=(Ci (hk3.same g eQ)).trans w;gi_wp2;go_roundw;exact⟨k+1,cN,by rw[show(k+1)*128=i+128 by omega];go_num,by rw[l.o];exact hJ3,q,p⟩;exact qN
   . gi_wp2;refine iI (vQ ae _ _ _) ae ?_;exact⟨⟨_,ae⟩,.inr ⟨_,by rw[<-l.o];exact take_prefix _ _,hJx3⟩⟩
 . (have U:m<=k*128:=by have:=mt (sJ (m:=m) (k:=k) (n:=128) cN).2 c;omega);clear f;gi_wp2;refine FW (vQ ae _ _ _) ae ?_;exact⟨⟨_,ae⟩,.inl ⟨_,ae,by rw[nV sp_] at d;exact d⟩⟩
def RZ(n c a m cap:Nat)(ao:Option Addr)(b o:Nat)(f:0<m->ao=cu ⟨b,o,cw⟩)(g:m<=cap)(r:m<=1000000)(w:cS)(e:w.cell? ⟨c,0,cw⟩=cu (.slice ao m cap))(d:w.cell? ⟨a,0,cw⟩=cu (.int cq 128)):
 SeqStopsK Fence.wide n prog 292 #[bW (cu ⟨c,0,cw⟩),bW (cu ⟨a,0,cw⟩)] (λx:Fin (fA m 128)=>#[uy b o 1 m 128 x.val]) (np [c,a]) (λt=>t=finRange (fA m 128)) (λh=>h<+:finRange (fA m 128)) (fA m 128) w:=by intro s J j W i l _ q k;exact abx n s c a m cap ao b o f g r J j W l q ((i.cell (p:=⟨c,0,cw⟩) (rM e)).trans e) ((i.cell (p:=⟨a,0,cw⟩) (rM d)).trans d) k
def X3(a:Option Addr)(len cap:Nat)(w:cS):
 CP_ 288 #[bX a len cap,bU cq 128] w λe w'=>e=cj (.func (.func 292) #[] #[bW (cu ⟨w.h.s,0,cw⟩),bW (cu ⟨w.h.s+1,0,cw⟩)])/\w'=(w.alloc (.cells #[bX a len cap] 22)).alloc (.cells #[bU cq 128] 3):=by go_enter func288,ntmps288;go_wp2;go_ret;exact aE
theorem aby(n:Nat)(K h g m cap:Nat)(ao:Option Addr)(b o:Nat)(f:0<m->ao=cu ⟨b,o,cw⟩)(T:m<=cap)(H:m<=1000000)(J D:List (Fin (fA m 8))->cS->Prop)(W:cS)(F:AbidesFrom W.h.s J)(G:∀a x t,J a t->a.n<fA m 8->YieldAt Fence.wide (n-1) prog K #[uy b o 3 m 8 (x:Fin (fA m 8)).val] t λe W'=>
  (e=cj (bZ cx)/\J (a++[x]) W'/\np [h,g] t W')∨(e=cj (bZ cy)/\D (a++[x]) W'))(Q:W.cell? ⟨h,0,cw⟩=cu (.slice ao m cap))(O:W.cell? ⟨g,0,cw⟩=cu (.int cq 8))(H:J [] W):
 CallsIn Fence.wide n prog 293 #[.func (.yield K) #[] #[],bW (cu ⟨h,0,cw⟩),bW (cu ⟨g,0,cw⟩)] W λe W'=>(∃u,e=cj u)/\
  ((∃L,L=finRange (fA m 8)/\J L W')∨(∃a,a<+:finRange (fA m 8)/\D a W')):=by
 have N:=cz G;clear G;have M:=cz F;clear F;refine callsIn_of_wp func293 ae iC ?_ ae;simp only[ntmps293,Ay,lq,ue,reduceAdd,reduceSub,Az,vH,vI,vJ,pL,uG];gi_wp2
 gi_loopw [4] (λi wr=>∃k:Nat,k<=fA m 8/\i=bU cq ((k*8:Nat):Int)/\J ((finRange (fA m 8)).take k) wr/\wr.cell? ⟨h,0,cw⟩=cu (.slice ao m cap)/\wr.cell? ⟨g,0,cw⟩=cu (.int cq 8))
  (λi _=>(m+8)-(intOf i).m)
 grind;obtain⟨k,R,rfl,d,z,w⟩:=hrel;by_cases c:k<fA m 8
 . have B:k*8<m:=(sJ cN).1 c;obtain rfl:=f cN;have l:Hid ((finRange (fA m 8)).take (k+1)=(finRange (fA m 8)).take k++[⟨k,c⟩]):=cz (by
    rw[take_add_one,jG (by simpa using c)];simp)
   (obtain⟨i,A⟩:=dG (k*8);rw[A] at B|-;obtain⟨y,C⟩:=fU (min 8 (m-i));have Y:=λW=>MA ED (s_ b o) m cap i cN W;have Z:∀W,(Instr.sliceAt 107 (bX (s_ b o) m cap) (cu (.int cq i)) (cu (.int cq ((i+y:Nat):Int))) (cu (.int cq ((i+y:Nat):Int)))).run prog W=.ok (uy b o 3 m 8 k) W:=λW=>by rw[UZ ED b o m cap i (i+y) cN cN];unfold uy;rw[A,<-C,show i+y-i=y by omega]);clear f R;have I:((m:Int)-(i:Int))=((m-i:Nat):Int):=cN;have V:min (8:Int) ((m-i:Nat):Int)=(y:Int):=cN;have H:((i:Int)+(y:Int))=((i+y:Nat):Int):=cN;have X:prog.follows .mixedOrders=cx:=dC;have v:=Zy M.o d (gK _ _).drew;obtain⟨fn,tmps,r,E,C,j⟩:=N.o _ ⟨k,c⟩ _ v bp;have s:=cz j;clear j;rw[show uy b o 3 m 8 k=bX (s_ b (o+i*3)) (min 8 (m-i)) (min 8 (m-i)) from by unfold uy;rw[A];skip] at C;gi_wp2;gi_region;gi_wp2;refine⟨Ei,RoundIn.mono s.o ?_⟩;rintro e H (⟨rfl,hJ3,hk3⟩|⟨rfl,hJx3⟩)
   . have q:=(Ci (hk3.same h eQ)).trans z;have p:=(Ci (hk3.same g eQ)).trans w;gi_wp2;go_roundw;exact⟨k+1,cN,by rw[show(k+1)*8=i+8 by omega];go_num,by rw[l.o];exact hJ3,q,p⟩;exact qN
   . gi_wp2;refine iI (vQ ae _ _ _) ae ?_;exact⟨⟨_,ae⟩,.inr ⟨_,by rw[<-l.o];exact take_prefix _ _,hJx3⟩⟩
 . (have U:m<=k*8:=by have:=mt (sJ (m:=m) (k:=k) (n:=8) cN).2 c;omega);clear f;gi_wp2;refine FW (vQ ae _ _ _) ae ?_;exact⟨⟨_,ae⟩,.inl ⟨_,ae,by rw[nV sp_] at d;exact d⟩⟩
def R3(n c a m cap:Nat)(ao:Option Addr)(b o:Nat)(f:0<m->ao=cu ⟨b,o,cw⟩)(g:m<=cap)(r:m<=1000000)(w:cS)(e:w.cell? ⟨c,0,cw⟩=cu (.slice ao m cap))(d:w.cell? ⟨a,0,cw⟩=cu (.int cq 8)):
 SeqStopsK Fence.wide n prog 293 #[bW (cu ⟨c,0,cw⟩),bW (cu ⟨a,0,cw⟩)] (λx:Fin (fA m 8)=>#[uy b o 3 m 8 x.val]) (np [c,a]) (λt=>t=finRange (fA m 8)) (λh=>h<+:finRange (fA m 8)) (fA m 8) w:=by intro s J j W i l _ q k;exact aby n s c a m cap ao b o f g r J j W l q ((i.cell (p:=⟨c,0,cw⟩) (rM e)).trans e) ((i.cell (p:=⟨a,0,cw⟩) (rM d)).trans d) k
def X4(a:Option Addr)(len cap:Nat)(w:cS):
 CP_ 289 #[bX a len cap,bU cq 8] w λe w'=>e=cj (.func (.func 293) #[] #[bW (cu ⟨w.h.s,0,cw⟩),bW (cu ⟨w.h.s+1,0,cw⟩)])/\w'=(w.alloc (.cells #[bX a len cap] 107)).alloc (.cells #[bU cq 8] 3):=by go_enter func289,ntmps289;go_wp2;go_ret;exact aE
attribute [local go_sem] Oper.semAt_some
def qS(l:List du)(id:Nat):Nat:=
 match fp l id with
 |none=>0
 |some i=>if(dH l i).dz=cx then((l.filter λs=>decide (s.dB=id)).find? λs=>decide (s.cZ=(dH l i).cZ)).elim 0 du.id else 0
def DU{F:Fence}(S:St w0 d l L O X W)(c:lT X)(b:w0.h.s<=D)(a:W.h[D]?=cu (.deferred (cu [])))(h:∀W',St w0 d l L O X W'->∃v,(results fn tmps).run P W'=.ok v W'/\R (cj v) W'):LeavesInM F n P fn tmps R [{target:=.collected D,args:=#[]}] .returning W:=
 ⟨by simp,.inl ⟨_,_,ae,run_takeDeferred a,h _ (S.obj (uY (grownBy_putObj' W D _)) (Hk a ae) b c)⟩⟩
theorem U0{l:List dL}{id:Nat}{x:dL}(a:fp (ez l) id=cu i)(b:l[i]?=cu x):qS (ez l) id=if x.dz=cx then(((ez l).filter λs=>decide (s.dB=id)).find? λs=>decide (s.cZ=x.cZ)).elim 0 du.id else 0:=by grind[qS,lG]
theorem EK(l:List dL)(id:Nat):((ez l).filter λs=>decide (s.dB=id))=(rY l id l.n).map λi=>(l.get i).todu:=by have h:=gQ (map dL.todu) (abv l id);rw[wU] at h;unfold ez;rw[filter_map];exact h.symm
theorem abz{l:List dL}{id:Nat}(h:∀z∈rY l id l.n,(l.get z).cZ≠own):(((ez l).filter λs=>decide (s.dB=id)).find? λs=>decide (s.cZ=own))=cw:=by rw[EK,find?_eq_none];grind
theorem abA{l:List dL}{id:Nat}{p:List (Fin l.n)}{z:Fin l.n}(a:p++[z]<+:rY l id l.n)(h:∀z∈p,(l.get z).cZ≠own)(b:(l.get z).cZ=own):(((ez l).filter λs=>decide (s.dB=id)).find? λs=>decide (s.cZ=own))=cu (l.get z).todu:=by grind[EK]
def X5(l:List dL)(v:c7)(id:Nat)(hl:l.n<=1000000)(w:cS)(R:gC w v l):
 CallsIn Fence.wide 5 prog 132 #[v,bU ct id] w λe w'=>e=cj (bU ct (qS (ez l) id:Nat))/\dS w w':=by
 obtain⟨ao,cap,rfl,a4,m⟩:=dQ R.1;have G:=cz R;have m:=cz m;have r:=cz λW(n:dS w W)=>uu l _ id hl W (R.cP n);have S:=qP w;obtain⟨T,u⟩:=dG (qS (ez l) id);rw[u];clear R;refine callsIn_of_wp_marks func132 ae iC ?_ ae;simp only[ntmps132,Ay,lq,ue,reduceAdd,reduceSub,Az,vH,vI,vJ,pL,uG];rcases f:fp (ez l) id with _|i;rw[f] at r;obtain rfl:0=T:=by rw[<-u];unfold qS;rw[f]
 simp only[lF] at r;clear u f
 rotate_left
 obtain⟨a7,x,hx,-⟩:=kP f;have a:=U0 f hx;rw[u] at a;rw[f] at r;simp only[lF] at r;clear u f;obtain⟨b,o,rfl⟩:=m.o cN;have H:=cz (G.o.at hx);have a6:(i:Int)<(l.n:Int):=cN;rcases hs:x.dz with _|_;obtain rfl:T=0:=by rw[a,hs];rfl
 clear a
 rotate_left
 . rw[c8 hs] at a;have HT:=cz a;clear a
   gi_upto_region 0 with fail
   refine ke sM dC vy ?_
   go_wp2_with first|refine DD S (v:=bX (s_ b o) l.n cap) rfl rfl rfl λM S=>?_|refine fu λW S=>?_
   gi_upto_region 1 with fail
   refine ke sM dC vy ?_
   go_wp2_with first|(refine aj (r.o _ S.b) λN n=>?_;replace S:=S.cP n;clear n)|refine fO ?_|refine fu λW S=>?_
   gi_upto_region 2 with fail
   refine ke sM dC vy ?_
   go_wp2_with first|(first|refine jm 13 97 2 S 2 0 (bX (s_ b o) l.n cap) ?_|refine jm 14 3 5 S 0 0 (bU cq i) ?_)|(refine mf dC ?_;refine jF (v:=bZ cx) (by rw[<-hs];exact(H.o.cP S.b).c2) ae tX ?_)|refine fO ?_
   gi_upto_region 4 with fail
   refine ke sM dC vy ?_
   go_wp2_with first|(refine aj (DS (s_ b o) l.n cap id _) λL hW=>?_;have HB:=cz (DT hW);clear hW)|refine fO ?_
   gi_wp2
   replace S:St w cw [] [⟨N.h.s,3,1,λ_=>bU cq i⟩,⟨M.h.s,82,1,λ_=>bU ct 0⟩,⟨w.h.s,97,1,λ_=>bX (s_ b o) l.n cap⟩] [] (λ_ _=>True) W:=S;obtain⟨n,V,U,a3,a,a8⟩:=HB.o;have A:iy w b=cu 109:=dg.ty G.o.1 ae cN;have X:∀k∈ [W.h.s,W.h.s+1]++(Value.slice (s_ b o) l.n cap).ownBlock.t,(W.h.s<=k∨k<w.h.s)/\∃t,iy L k=cu t/\lQ t=cy/\gZ t=cy:=by
    intro k d;simp only[Value.ownBlock,LD,uG,pL,iX,jL,uH] at d;rcases d with rfl|rfl|rfl
    . exact⟨.inl (eN _),_,a3,ae,ae⟩
    . exact⟨.inl (yr _),_,a,ae,ae⟩
    . exact⟨.inr (iA A),_,vZ (vZ A S.b) n,ae,ae⟩
   replace S:=S.UH n X;have Q:=S.x.2;have a9:w.h.s<=L.h.s:=S.fr.size;refine wpIn_rangeFunc_ownF ae cN (gf:=232) (lb:=#[dF W.h.s 0,dF (W.h.s+1) 0]) ae iC (enters_of func232 dC ae)
    (Gt 4 W.h.s (W.h.s+1) _ l id hl L (G.o.cP S.b) V U) np.trans (np.wZ λk d=>let⟨_,h1,_⟩:=(Q k d).2;iA h1) (gK _ _) (λ_=>ae)
    (λj W'=>∃y:Unit,Hid (∀z∈j,(l.get z).cZ≠x.cZ)/\St w cw [] [⟨N.h.s,3,1,λ_=>bU cq i⟩,⟨M.h.s,82,1,λ_=>bU ct 0⟩,⟨w.h.s,97,1,λ_=>bX (s_ b o) l.n cap⟩] [] (λB w=>True/\Tj ([W.h.s,W.h.s+1]++(Value.slice (s_ b o) l.n cap).ownBlock.t) B w) W')
    (λc j W'=>∃y:Fin l.n,Hid (c=.ret/\∃p,j=p++[y]/\(∀z∈p,(l.get z).cZ≠x.cZ)/\(l.get y).cZ=x.cZ)/\St w cw [] [⟨N.h.s,3,1,λ_=>bU cq i⟩,⟨M.h.s,82,1,λ_=>bU ct ((l.get y).id:Nat)⟩,⟨w.h.s,97,1,λ_=>bX (s_ b o) l.n cap⟩] [] (λB w=>True/\Tj ([W.h.s,W.h.s+1]++(Value.slice (s_ b o) l.n cap).ownBlock.t) B w) W')
    (rV S.fr.size _ _ _ _ λ_ _=>lT.t.and (lT.av _)) (λc=>rV S.fr.size _ _ _ _ λ_ _=>lT.t.and (lT.av _))
    ⟨(),cz (λ_ h=>by cases h),S⟩ ?a1 ?assign ?body ?done ?stop
   case assign=>
    intro lp z W' K s
    gi_wp2
    exact s
   case body=>
    clear S;rintro lp j z W0 ⟨-,f,S⟩ -;replace S:=S.eS;obtain⟨y,I⟩:=dG (l.get z);have F:l[z.val]?=cu y:=by rw[jG z.isLt,<-I];rfl
    have J:=cz (G.o.at F);have b1:=z.isLt;have hz:(z.val:Int)<(l.n:Int):=cN;clear F;rcases Bv (y.cZ=x.cZ) with he|he
    . have Y:(((y.cZ:Nat):Int)==((x.cZ:Nat):Int))=cx:=by rw[wX];omega
      gi_wp2
      refine Ak sM S dC dC vy λW S=>?_;refine dh 0 (bX (s_ b o) l.n cap) ?_;refine dh 1 _ ?_;refine dh 2 (dF b (o+z.val*11)) ?_;refine dh 3 (dF b (o+z.val*11+3)) ?_;refine ij 4 (bU ct y.cZ) ae (gW (λw h=>by obtain⟨_,S⟩:=h;exact(J.o.cP S.b).c3) ae gi) ?_;refine dh 5 (bX (s_ b o) l.n cap) ?_;refine dh 6 (bU cq i) ?_;refine dh 7 (dF b (o+i*11)) ?_;refine dh 8 (dF b (o+i*11+3)) ?_;refine ij 9 (bU ct x.cZ) ae (gW (λw h=>by obtain⟨_,S⟩:=h;exact(H.o.cP S.b).c3) ae gi) ?_;refine dh 10 (bZ cx) ?_;refine qG ?_
      gi_upto_region 7 with fail
      refine ke sM dC vy ?_
      go_wp2_with first|(first|refine jo 39 82 38 (v:=bU ct y.id) ((J.o.cP S.b).c0) ?_)|refine fO ?_|refine fu λW S=>?_
      gi_wp2
      have d:=S.kept (xl.still (kH _));refine⟨d.1,z,cz ⟨ae,j,ae,f.o,by rw[I];exact he⟩,?_⟩;rw[I];exact(d.2.2.xO (k:=1) ae (g:=λ_=>bU ct y.id) λi hi=>by have hi:i<1:=hi;obtain rfl:i=0:=cN;rfl)
    . have Y:(((y.cZ:Nat):Int)==((x.cZ:Nat):Int))=cy:=by rw[lr];omega
      gi_wp2
      refine Ak sM S dC dC vy λW S=>?_;refine dh 0 (bX (s_ b o) l.n cap) ?_;refine dh 1 _ ?_;refine dh 2 (dF b (o+z.val*11)) ?_;refine dh 3 (dF b (o+z.val*11+3)) ?_;refine ij 4 (bU ct y.cZ) ae (gW (λw h=>by obtain⟨_,S⟩:=h;exact(J.o.cP S.b).c3) ae gi) ?_;refine dh 5 (bX (s_ b o) l.n cap) ?_;refine dh 6 (bU cq i) ?_;refine dh 7 (dF b (o+i*11)) ?_;refine dh 8 (dF b (o+i*11+3)) ?_;refine ij 9 (bU ct x.cZ) ae (gW (λw h=>by obtain⟨_,S⟩:=h;exact(H.o.cP S.b).c3) ae gi) ?_;refine dh 10 (bZ cy) ?_;refine qG ?_
      gi_wp2
      have d:=S.kept (xl.still (kH _));refine⟨d.1,d.2.1,(),cz λq E=>?_,d.2.2⟩;rcases gH.1 E with E|E
      . exact f.o q E
      . obtain rfl:=fS.1 E;rw[I];exact he
   case done=>
    clear S;rintro D ys W0 hD rfl ⟨-,f,S⟩ s;have O:T=0:=by rw[HT.o,abz f.o];rfl
    replace S:=S.eS
    gi_upto_region 8 with fail
    gi_upto_region 8 with fail
    refine ke sM dC vy ?_
    go_wp2_with refine fu λW S=>?_
    gi_wp2
    have d:=S.kept (xl.still (kH _));refine DU d.2.2 (lT.t.and (lT.av _)) cN (d.1.same D _ s ae) λW' S=>?_;have hc:=S.cell (k:=1) ae (i:=0) zD;exact⟨bU ct 0,by simp[results,f132,go_sem,hc],by rw[O];rfl,S.b⟩
   case stop=>
    clear S;rintro D c j W0 hD C ⟨z,f,S⟩ s;obtain⟨rfl,p,rfl,a2,Z⟩:=f.o;have a5:T=(l.get z).id:=by rw[HT.o,abA C a2 Z];rfl
    gi_wp2
    refine DU S (lT.t.and (lT.av _)) cN s λW' S=>?_;have hc:=S.cell (k:=1) ae (i:=0) zD;exact⟨bU ct ((l.get z).id:Nat),by simp[results,f132,go_sem,hc],by first|rfl,S.b⟩
 all_goals
  gi_upto_region 0 with fail
  refine ke sM dC vy ?_
  go_wp2_with refine fu λW S=>?_
  gi_upto_region 1 with fail
  refine ke sM dC vy ?_
  go_wp2_with first|refine je S (r.o _ S.b) λW S=>?_|refine fO ?_|refine fu λW S=>?_
  gi_upto_region 2 with fail
  refine ke sM dC vy ?_
  go_wp2_with first|(first|refine jm 13 97 2 S 2 0 (bX (s_ b o) l.n cap) ?_|refine jm 14 3 5 S 0 0 (bU cq i) ?_)|(refine mf dC ?_;refine jF (v:=bZ cy) (by rw[<-hs];exact(H.o.cP S.b).c2) ae tX ?_)|refine fO ?_
  gi_upto_region 3 with fail
  refine ke sM dC vy ?_
  go_wp2_with refine fu λW S=>?_
  gi_wp2
  have hc:=S.cell (k:=1) ae (i:=0) (zD);exact⟨_,by simp[results,f132,go_sem,hc],ae,S.b⟩
end
attribute [local go_sem] Oper.semAt_some
def Zz:lD prog 78:=⟨⟨_,vU,ae⟩,dC⟩
instance indde69 :rk 78:=⟨Zz⟩
def xZ(l:List du)(id:Nat):cV:=
 match fp l id with
 |none=> []
 |some i=>if(dH l i).dz=cx then((l.filter λs=>decide (s.dB=id)).filter λs=>!decide (s.cZ=(dH l i).cZ)).map du.id else []
theorem X6{l:List dL}{id:Nat}{x:dL}(a:fp (ez l) id=cu i)(b:l[i]?=cu x):xZ (ez l) id=if x.dz=cx then(((ez l).filter λs=>decide (s.dB=id)).filter λs=>!decide (s.cZ=x.cZ)).map du.id else []:=by grind[xZ,lG]
section
theorem ahT{x:Nat}{o:Nat}(hc:w.cell? ⟨b,o,cw⟩=cu v)(g:a.eval (.tmp x)=bW (cu ⟨b,o,cw⟩))(e:lD P ty)(h:K (a.put (cu dst) v) w):Oper.wp P ⟨cu dst,.load ty (.tmp x),t2,p,af,cw⟩ a w K Q:=by
 obtain⟨⟨d,f,i⟩,j⟩:=e;have c:(isAgg ty).run P w=.ok cy w:=by unfold isAgg;rw[lx,yI f w];cases d<;>simp_all [TypeDesc.isRow]
 unfold Oper.wp execOp;simp only[g,Instr.loadAt,Instr.sureAddr,lx,rN,nX,loadVar,c,cX QR,run_load,hc];exact h
def aiD{F:Fence}(b:Open F){ops:List Oper}(S:St w0 d l L O X w){id:Nat}(f:P.follows .mixedOrders=cx)(e:Hd ops=cx)(c:¬LetsOut Q)(rs:List R4)(g:∀r∈rs,r∈L)(h:∀W,St w0 d l L O X W->wpAnyH P .any ops.toArray Q (SE1 w0 d l rs) ops.toArray.s (Array.replicate ops.toArray.s cy) a W):(Code.region id ops.toArray cx).wpIn F n P Q a w:=
 wpIn_region_any f (Ur b c (λ_ ho=>B6 e cN) _ _ _ _ (wpAny_of_held _ _ _ _ (h _ S.drew)))
end
def rZ(l:List dL)(own:Nat)(a:List (Fin l.n)):cV:=(a.filter λz=>!decide ((l.get z).cZ=own)).map λz=>(l.get z).id
theorem R6(l:List dL)(own:Nat)(a:List (Fin l.n)):(rZ l own a).n<=a.n:=by grind[rZ]
theorem OV(l:List dL)(own:Nat)(a:List (Fin l.n))(z:Fin l.n):rZ l own (a++[z])=rZ l own a++if(l.get z).cZ=own then [] else [(l.get z).id]:=by unfold rZ;grind
theorem R7(l:List dL)(id own:Nat):(((ez l).filter λs=>decide (s.dB=id)).filter λs=>!decide (s.cZ=own)).map du.id=rZ l own (rY l id l.n):=by rw[EK,filter_map,wU];rfl
section
attribute[local irreducible]wpList Code.wp Calls Oper.wp wpAnyH
def R8(l:List dL)(v:c7)(id:Nat)(hl:l.n<=1000000)(w:cS)(R:gC w v l):
 CallsIn Fence.wide 5 prog 130 #[v,bU ct id] w λe w'=>∃r,e=cj r/\KV w' w.h.s r (xZ (ez l) id)/\dS w w':=by
 obtain⟨ao,cap,rfl,a2,n⟩:=dQ R.1;have H:=cz R;have n:=cz n;have q:=cz λW(p:dS w W)=>uu l _ id hl W (R.cP p);have S:=qP w;obtain⟨T,u⟩:=dG (xZ (ez l) id);rw[u];clear R;refine callsIn_of_wp_marks func130 ae iC ?_ ae;simp only[ntmps130,Ay,lq,ue,reduceAdd,reduceSub,Az,vH,vI,vJ,pL,uG];rcases hp:fp (ez l) id with _|i;rw[hp] at q;obtain rfl:[]=T:=by rw[<-u];unfold xZ;rw[hp]
 simp only[lF] at q;clear u hp
 rotate_left
 obtain⟨a5,x,hx,-⟩:=kP hp;have a:=X6 hp hx;rw[u] at a;rw[hp] at q;simp only[lF] at q;clear u hp;obtain⟨b,o,rfl⟩:=n.o cN;have I:=cz (H.o.at hx);have a4:(i:Int)<(l.n:Int):=cN;rcases s:x.dz with _|_;obtain rfl:T=[]:=by rw[a,s];rfl
 clear a
 rotate_left
 . rw[c8 s,R7] at a;have HT:=cz a;clear a
   gi_upto_region 0 with fail
   refine ke sM dC vy ?_
   go_wp2_with refine fu λW S=>?_
   gi_upto_region 1 with fail
   refine ke sM dC vy ?_
   go_wp2_with first|(refine aj (q.o _ S.b) λWC p=>?_;replace S:=S.cP p;clear p)|refine xD S 0 rfl 0 (λ_=>bU cq i) (λj hj=>by have hj:j<1:=hj;obtain rfl:j=0:=cN;rfl) rh rfl rfl rfl Dy λWE S=>?_|refine fO ?_|refine fu λW S=>?_
   gi_upto_region 2 with fail
   refine ke sM dC vy ?_
   go_wp2_with first|(first|refine jm 14 97 2 S 1 0 (bX (s_ b o) l.n cap) ?_|refine jm 15 3 5 S 0 0 (bU cq i) ?_)|(refine mf dC ?_;refine jF (v:=bZ cx) (by rw[<-s];exact(I.o.cP S.b).c2) ae tX ?_)|refine fO ?_
   gi_upto_region 4 with fail
   refine ke sM dC vy ?_
   go_wp2_with refine fu λW S=>?_
   gi_upto_region 5 with fail
   refine ke sM dC vy ?_
   go_wp2_with first|(refine aj (DS (s_ b o) l.n cap id _) λL hW=>?_;have HB:=cz (DT hW);clear hW)|refine fO ?_
   gi_wp2
   replace S:St w cw [] [⟨WE.h.s,78,1,λ_=>bX cw 0 0⟩,⟨WC.h.s,3,1,λ_=>bU cq i⟩,⟨w.h.s,97,1,λ_=>bX (s_ b o) l.n cap⟩] [] (λ_ _=>True) W:=S;obtain⟨p,O,N,V,a,a6⟩:=HB.o;have A:iy w b=cu 109:=dg.ty H.o.1 ae cN;have Q:∀k∈ [W.h.s,W.h.s+1]++(Value.slice (s_ b o) l.n cap).ownBlock.t,(W.h.s<=k∨k<w.h.s)/\∃t,iy L k=cu t/\lQ t=cy/\gZ t=cy:=by
    intro k m;simp only[Value.ownBlock,LD,uG,pL,iX,jL,uH] at m;rcases m with rfl|rfl|rfl
    . exact⟨.inl (eN _),_,V,ae,ae⟩
    . exact⟨.inl (yr _),_,a,ae,ae⟩
    . exact⟨.inr (iA A),_,vZ (vZ A S.b) p,ae,ae⟩
   replace S:=(S.Jn 82 1 ae ae).UH p Q;have M:=S.x.2;have a7:w.h.s<=L.h.s:=S.fr.size;refine wpIn_rangeFunc_ownF ae cN (gf:=232) (lb:=#[dF W.h.s 0,dF (W.h.s+1) 0]) ae iC (enters_of func232 dC ae)
    (Gt 4 W.h.s (W.h.s+1) _ l id hl L (H.o.cP S.b) O N) np.trans (np.wZ λk m=>let⟨_,h1,_⟩:=(M k m).2;iA h1) (gK _ _) (λ_=>ae)
    (λc W'=>∃y:Option Addr×Nat,True/\St w cw [] [⟨WE.h.s,78,1,λ_=>bX y.1 (rZ l x.cZ c).n y.2⟩,⟨WC.h.s,3,1,λ_=>bU cq i⟩,⟨w.h.s,97,1,λ_=>bX (s_ b o) l.n cap⟩] [⟨82,1,bX y.1 (rZ l x.cZ c).n y.2,(rZ l x.cZ c).n,K1 (rZ l x.cZ c)⟩] (λB w=>True/\Tj ([W.h.s,W.h.s+1]++(Value.slice (s_ b o) l.n cap).ownBlock.t) B w) W')
    (λ_ _ _=>False)
    (rV S.fr.size _ _ _ _ λ_ _=>lT.t.and (lT.av _)) (λ_ _ _ _ _ s _ _=>s)
    ⟨(cw,0),iC,S⟩ ?a1 ?assign ?body ?done ?stop
   case assign=>
    intro lp z W' K d
    gi_wp2
    exact d
   case body=>
    clear S;rintro lp c z W0 ⟨⟨Z,yc⟩,-,S⟩ a3;replace S:=S.eS;have F:=R6 l x.cZ c;have f:=cz (OV l x.cZ c z);obtain⟨Y,E⟩:=dG (rZ l x.cZ c);rw[E] at S F f;obtain⟨y,X⟩:=dG (l.get z);rw[X] at f;have G:l[z.val]?=cu y:=by rw[jG z.isLt,<-X];rfl
    have J:=cz (H.o.at G);have a8:=z.isLt;have hz:(z.val:Int)<(l.n:Int):=cN;clear G E X;rcases Bv (y.cZ=x.cZ) with he|he
    . have U:(((y.cZ:Nat):Int)!=((x.cZ:Nat):Int))=cy:=by rw[vL];omega
      gi_wp2
      refine Ak sM S dC dC vy λW S=>?_;refine dh 0 (bX (s_ b o) l.n cap) ?_;refine dh 1 _ ?_;refine dh 2 (dF b (o+z.val*11)) ?_;refine dh 3 (dF b (o+z.val*11+3)) ?_;refine ij 4 (bU ct y.cZ) ae (gW (λw h=>by obtain⟨_,S⟩:=h;exact(J.o.cP S.b).c3) ae gi) ?_;refine dh 5 (bX (s_ b o) l.n cap) ?_;refine dh 6 (bU cq i) ?_;refine dh 7 (dF b (o+i*11)) ?_;refine dh 8 (dF b (o+i*11+3)) ?_;refine ij 9 (bU ct x.cZ) ae (gW (λw h=>by obtain⟨_,S⟩:=h;exact(I.o.cP S.b).c3) ae gi) ?_;refine dh 10 (bZ cy) ?_;refine qG ?_
      gi_wp2
      have m:=S.kept (xl.still (kH _));rw[c8 he,wV] at f;exact⟨m.1,m.2.1,(Z,yc),iC,by rw[f.o];exact m.2.2⟩
    . have U:(((y.cZ:Nat):Int)!=((x.cZ:Nat):Int))=cx:=by rw[fK];omega
      gi_wp2
      refine Ak sM S dC dC vy λW S=>?_;refine dh 0 (bX (s_ b o) l.n cap) ?_;refine dh 1 _ ?_;refine dh 2 (dF b (o+z.val*11)) ?_;refine dh 3 (dF b (o+z.val*11+3)) ?_;refine ij 4 (bU ct y.cZ) ae (gW (λw h=>by obtain⟨_,S⟩:=h;exact(J.o.cP S.b).c3) ae gi) ?_;refine dh 5 (bX (s_ b o) l.n cap) ?_;refine dh 6 (bU cq i) ?_;refine dh 7 (dF b (o+i*11)) ?_;refine dh 8 (dF b (o+i*11+3)) ?_;refine ij 9 (bU ct x.cZ) ae (gW (λw h=>by obtain⟨_,S⟩:=h;exact(I.o.cP S.b).c3) ae gi) ?_;refine dh 10 (bZ cx) ?_;refine qG ?_
      gi_upto_region 8 with fail
      refine aiD sM S dC dC vy [⟨w.h.s,97,1,λ_=>bX (s_ b o) l.n cap⟩] Cz λW S=>?_;refine dh 1 (bX (s_ b o) l.n cap) ?_;refine dh 2 _ ?_;refine dh 3 (dF b (o+z.val*11)) ?_;refine dh 4 (dF b (o+z.val*11)) ?_;refine ij 5 (bU ct y.id) ae (gW (λw h=>by obtain⟨_,_,_,S,_⟩:=h;exact(J.o.cP S.b).c0) ae gi) ?_
      repeat' first|refine Th ?_|refine Bt 0 6 (λK d=>?_) λK d=>?_|refine qf 0 λK d=>?_|refine qf 7 λK d=>?_|refine qf 8 λK d=>?_|refine qf 6 λK d=>?_|(refine Zu S [bU ct y.id] vU Aj cN cN ae ae (by intro v hv;obtain rfl:=fS.1 hv;rfl) ae λW S=>?_;replace S:=S.xO (k:=0) ae (g:=λ_=>Value.int ct y.id) (λi C=>by have C:i<1:=C;obtain rfl:i=0:=cN;rfl);refine gy d ?_)|(first|refine ahT (S.cell (k:=1) ae (i:=0) zD) ae Zz ?_;refine gy d ?_)|(refine aiu S 0 ae 0 ae ae ae ae ad6 (λ_=>ae) CU xY λg9 c9 W S=>?_;refine gy d ?_)|(refine ajQ S 1 ae 0 rh ae ae ae Zz λW S=>?_;refine gy d ?_)|(first|refine ahT (S.cell (k:=0) ae (i:=0) zD) ae Zz ?_;refine gy d ?_)
      all_goals(
      refine cz ?_
      gi_wp2
      have m:=S.kept (xl.still (kH _));rw[cX he] at f;refine⟨m.1,m.2.1,s_ g9 0,c9,?_⟩;rw[f.o];have S9:=m.2.2.pop;unfold K1;rw[nM,jv];exact(S9.xO (k:=0) ae (g:=λ_=>bX (s_ g9 0) (Y.n+1) c9) λi C=>by have C:i<1:=C;obtain rfl:i=0:=cN;rfl).EH (λ_ _ h=>h.2) (kH _).me
      )
   case done=>
    clear S;rintro D ys W0 hD rfl ⟨⟨Z,yc⟩,-,S⟩ d;rw[<-HT.o] at S
    gi_upto_region 9 with fail
    gi_upto_region 9 with fail
    refine ke sM dC vy ?_
    go_wp2_with refine fO ?_
    gi_wp2
    refine DU S (lT.t.and (lT.av _)) cN d λW' S=>?_;exact⟨_,results_tmp ae _ _ _,bX Z T.n yc,ae,S.o0,S.b⟩
   case stop=>
    rintro _ _ _ _ _ _ h _;exact h.elim
 all_goals
  gi_upto_region 0 with fail
  refine ke sM dC vy ?_
  go_wp2_with refine fu λW S=>?_
  gi_upto_region 1 with fail
  refine ke sM dC vy ?_
  go_wp2_with first|refine je S (q.o _ S.b) λW S=>?_|refine fO ?_|refine fu λW S=>?_
  gi_upto_region 2 with fail
  refine ke sM dC vy ?_
  go_wp2_with first|(first|refine jm 14 97 2 S 1 0 (bX (s_ b o) l.n cap) ?_|refine jm 15 3 5 S 0 0 (bU cq i) ?_)|(refine mf dC ?_;refine jF (v:=bZ cy) (by rw[<-s];exact(I.o.cP S.b).c2) ae tX ?_)|refine fO ?_
  gi_wp2
  exact⟨_,results_tmp ae _ _ _,bX cw 0 0,ae,iD _ _ _ _,S.b⟩
end
def OW(l:List dL)(v:c7)(id:Nat)(a:l.n<=1000000)(w:cS)(R:gC w v l):
 CP_ 130 #[v,bU ct id] w λe w'=>∃r,e=cj r/\KV w' w.h.s r (xZ (ez l) id)/\dS w w':=uh.1 (R8 l v id a w R)
def U1(l:List dL)(v:c7)(id:Nat)(a:l.n<=1000000)(w:cS)(R:gC w v l):
 sW 132 #[v,bU ct id] w (bU ct (qS (ez l) id:Nat)):=uh.1 (X5 l v id a w R)
theorem St.aek{r q:R4}(S:St w0 d l (r::q::L) O X w):St w0 d l (q::r::L) O X w:=by
 have a:(eM (q::r::L) O).Perm (eM (r::q::L) O):=by grind[eM]
 refine⟨S.fr,λx f=>S.row x ?_,S.own,λb c=>S.lo b (a.mem_iff.1 c),a.nodup_iff.2 S.nd,S.me.mono S.x λk e=>a.mem_iff.1 e,S.me⟩;grind
theorem St.nm{t:dW}(_:St w0 d l (⟨b,t,n,f⟩::L) O X w):∃a,b=a:=⟨_,ae⟩
def Mw:prog.built 106 []=cu #[bU cq 0,bU ct 0,bU .u32 0]:=dC
section
end
def MU(n D:Nat)(X:cV->cS->Prop):cV->cS->Prop:=λB w=>X B w/\∀k∈oT w D,n<=k/\k∉B
section
variable {l2:cV}
theorem uz(h:lN (cu D) X):lN cw (MU n D X):=by refine⟨fun {B w w'} g b=>?_,fun {B w b} g c=>?_,λg a=>⟨h.mono g.1 a,λk d=>⟨(g.2 k d).1,λc=>(g.2 k d).2 (a k c)⟩⟩,fun {B w w' b t} g c hbut ht ho _=>?_,aJ⟩;have f:=iA (h.dev g.1 ae).1;exact⟨h.cP g.1 b,by rw[sD (b.block D f)];exact g.2⟩;refine⟨h.add g.1 c,λk d=>⟨(g.2 k d).1,λa=>?_⟩⟩;rcases iX.1 a with rfl|a;exact ug _ (pK ((h.dev g.1 ae).2 _ d) c);exact(g.2 k d).2 a;(have f:=(h.dev g.1 ae).1;have j:b∉oT w D:=λa=>(g.2 b a).2 c;have i:D≠b:=by rintro rfl;grind[P4]);exact⟨h.but g.1 c hbut ht ho (.inr λl e=>by grind),by rw[sD (hbut.block D (iA f) i)];exact g.2⟩
end
theorem abB(l:Nat->cQ)(k:Nat)(p:cQ)(i:Nat):eX (jn l k p) i=if k*3<=i/\i<k*3+3 then dE p (i-k*3) else eX l i:=by unfold eX jn;grind
theorem H9{l:Nat->cQ}(h:cL w b 191 24 (eX l))(k:Nat)(p:cQ)(e:w'=w.setCells b (k*3) (cM 3 (dE p)).t):cL w' b 191 24 (eX (jn l k p)):=by rw[e];refine cL.congr (cL.setCells _ _ h) λj c=>?_;unfold L6;rw[nA,cW,abB];by_cases a:k*3<=j/\j<k*3+3;rw[c8 a,c8 a];grind[G'];grind
def U2:ky prog 193 51:=⟨⟨_,underlying193,ae⟩,agq⟩
instance ine6c60 :s7 193 51:=⟨U2⟩
theorem Gu(y:Way):∀i,i<3->nS y (48+i)=dE y.block i:=λi a=>by unfold nS;grind
theorem MV(y:Way):∀i,i<24->nS y (0+i)=eX y.first i:=by simp_all[nS]
theorem Ko(y:Way):∀i,i<24->nS y (24+i)=eX y.mE i:=λi a=>by unfold nS;grind
def MX:prog.built 106 []=cu #[bU cq 0,bU ct 0,bU .u32 0]:=dC
section
theorem ixN{x E:Nat}(c:k<8)(d:a.eval (.tmp x)=bW (cu ⟨E,0,cw⟩))(b:a.eval (.tmp i)=bU cq k)(h:wpList prog ops Q rest (a.put (cu dst) (bW (cu ⟨E,k*3,cw⟩))) w):
 wpList prog ops Q (⟨cu dst,.indexAddr 191 (.tmp x) (.tmp i),t2,p,af,cw⟩::rest) a w:=
 vY (o:=⟨cu dst,.indexAddr 191 (.tmp x) (.tmp i),t2,p,af,cw⟩) ae 191 (.tmp x) (.tmp i) ae (dF E (k*3)) (by grind[yK]) h
end
def ajY:prog.built 193 []=cu (cM 51 (nS P0)):=dC
def ajZ:prog.built 36 []=cu (cM 128 (di fN)):=dC
theorem ak5{x E o:Nat}(c:k<8)(d:a.eval (.tmp x)=bW (cu ⟨E,o,cw⟩))(b:a.eval (.tmp i)=bU cq k)(h:wpList prog ops Q rest (a.put (cu dst) (bW (cu ⟨E,o+k*3,cw⟩))) w):wpList prog ops Q (⟨cu dst,.indexAddr 191 (.tmp x) (.tmp i),t2,p,af,cw⟩::rest) a w:=
 vY (o:=⟨cu dst,.indexAddr 191 (.tmp x) (.tmp i),t2,p,af,cw⟩) ae 191 (.tmp x) (.tmp i) ae (dF E (o+k*3)) (by grind[Rw]) h
theorem aiE(y:Way)(b:k<8):∀i,i<3->nS y (k*3+i)=dE (y.first k) i:=λi a=>by unfold nS eX;grind
theorem aiF(y:Way)(b:k<8):∀i,i<3->nS y (24+k*3+i)=dE (y.mE k) i:=λi a=>by unfold nS eX;grind
def aj0:prog.built 191 []=cu (cM 24 (eX mX)):=dC
def aj1:lD prog 45:=⟨⟨_,underlying45,ae⟩,dC⟩
def aj2:lD prog 104:=⟨⟨_,underlying104,ae⟩,dC⟩
def fh.pc{P:Nat}(h:fh w P D M s)(f:Fr (cu D) l w w')(a:P∉l):mb w' P D M s.cR s.base:=cL.fr h.row f ax (.inr a)
def fh.dv'{P:Nat}{d:Dv}(h:fh w P D M s)(c:iQ w' D d)(f:Fr (cu D) l w w')(b:P∉l)(a:M∉l):fh w' P D M {s with dv:=d}:=⟨h.pc f b,c,h.map.fr f a,h.ok⟩
def aj3:lD prog 67:=⟨⟨_,underlying67,ae⟩,dC⟩
theorem rE{a:Nat}{t:dW}(c:iy w a=cu t)(d:iy w b=cu u)(h:t≠u):a≠b:=by grind
def fh.ahU{P:Nat}(h:fh w P D M s)(d:jZ M w w'){m:Nat->Nat}(b:fD w' M m):fh w' P D M {s with mp:=m}/\Fr cw [M] w w':=by have a:Fr cw [M] w w':=Fr.rO d (cL.ty h.map) ae (fS.2 ae);have c:P∉ [M]:=λb=>rE (cL.ty h.row) (cL.ty h.map) kM (fS.1 b);exact⟨⟨cL.fr h.row a aD (.inr c),h.dev.fr a,b,h.ok⟩,a⟩
theorem fh.aj4{P:Nat}(h:MU 0 D (CR P D M s) B w)(b:jZ M w w'){m:Nat->Nat}(d:fD w' M m):MU 0 D (CR P D M {s with mp:=m}) B w'/\Fr cw [M] w w':=by have a:=fh.ahU h.1 b d;have c:=fh.dlt h.1 D ae;refine⟨⟨a.1,?_⟩,a.2⟩;rw[sD (b.block D (iA c) (by rintro rfl;have:=fh.tyM h.1;grind))];exact h.2
def agS:zeroCells36=cM 128 (di []):=Rl
section
attribute[local irreducible]wpList Code.wp Calls Oper.wp wpAnyH
theorem H'(a:Way)(q:cQ)(i:Nat)(hi:i<64)(N:gJ)(hN:N=cM 51 (nS a))(w:cS):
 CP_ 143 #[bV N,mO q,bU cq i] w λe w'=>∃v,e=cj v/\ir w' w.h.s v (lJ a q i)/\dS w w':=by
 obtain⟨A,E⟩:=fU (cM 3 (dE q));rw[dk E];obtain⟨h,z⟩:=dG (i/8);have B:h<8:=cN;have x:(i:Int)/8=(h:Int):=cN;obtain⟨I,j⟩:=yw (cM 3 (dE a.block));obtain⟨J,l⟩:=yw (cM 3 (dE (a.first h)));obtain⟨L,G⟩:=fU ([a.block,a.first h,q]);have u:L.n=3:=by rw[G];rfl
 obtain⟨X,HX⟩:=yw (cM 9 (eX λi=>L.getD i cY));have K:=cz (show prog.built 278 [(0,bV I),(1,bV J),(2,bV A)]=cu X by rw[j.o,l.o,E,HX.o,G];exact adE _ _ _);have Q:=cz (show lJ a q i=L.filter λp=>decide (p≠cY) by unfold lJ;rw[G,z]);have M:=cz x;have HA:=cz E;have HN:=cz hN;have o:=cz u;have S:=qP w;clear E hN G u x z;go_enter func143,ntmps143;go_upto_region 2 with(first|refine yT S rfl HN.o rfl λW1 S=>?_|refine fu λW S=>?_);have hR:=S.k1;refine eO S dC λW S=>?_;refine dh 0 (dF w.h.s 48) ?_;refine ij 1 (bV I) ae (wD dC 106 (.tmp 10) nF w.h.s 48 nF I _ (λw H=>Rx anZ j.o) Af ae (by rw[j.o,cW];exact ku)) ?_;refine dh 2 _ ?_;refine ij 3 (bU cq h) ae (Or.inl ⟨dC,λw H=>by have h1:=M.o;go_simp;exact kX _ cN⟩) ?_;refine dh 4 (dF w.h.s 0) ?_;refine ij 5 (dF w.h.s (h*3)) ae (Mm dC 191 (.tmp 14) (.tmp 13) nF _ (λww=>yK w.h.s h B ww)) ?_;refine ij 6 (bV J) ae (wD dC 106 (.tmp 15) nF w.h.s (h*3) nF J _ (λw H=>Rv anZ B l.o) Af ae (by rw[l.o,cW];exact ku)) ?_;refine dh 7 (bV A) ?_;refine ij 8 (bV X) ae (yU ae K.o) ?_;refine dh 9 _ ?_;refine qG ?_;replace S:=((S.pop).pop).Jn 106 3 ae ae;have S:=cz S;go_wp2_with fail;go_loopw [7,19] (λv c wr=>∃(k:Nat)(R:Option Addr)(T:Nat)(m:List cQ)(Ls:List R4),k<=3/\c=bU cq k/\m.n<=k/\v=bX R m.n T/\Hid ((L.take k).filter (λp=>decide (p≠cY))=m/\St w cw [] Ls [⟨106,3,bX R m.n T,m.n,iZ m⟩] (λ_ _=>True) wr)) (λ_ c _=>3-(intOf c).m);exact⟨0,cw,0,[],_,gG _,ae,eN _,ae,ae,S.o⟩;clear S;obtain⟨k,R,T,m,Ls,hk,rfl,a2,rfl,hrel⟩:=hrel;obtain⟨hm,S⟩:=hrel.o;have Y:=cz hm;clear hrel hm;by_cases D:k<3
 . (have V:k<L.n:=by rw[o.o];exact D);(have d:=zT (λp=>decide (p≠cY)) L V;obtain⟨p,hp⟩:=dG (L[k]);have y:L.getD k cY=p:=by grind);rw[hp,Y.o] at d;obtain⟨C,F⟩:=fU (cM 3 (dE p));have g:=λW=>Ue (λi=>L.getD i cY) k D W;rw[<-HX.o] at g;simp only[y,<-F] at g;have n:=cz g;obtain⟨b,U⟩:=dG (decide (p=cY));have f:=λW=>F7 p cY b U W;rw[dk F,show mO cY=bV #[Value.int cq 0,bU ct 0,bU .u32 0] from ae] at f;have HC:=cz F;have t:=cz d;have Z:=cz f;have r:=cz U;have a1:m.n<=3:=cN;clear d g y hp F f U;cases b with|true=>have d:=t.o;rw[cX (by simp[mj r.o]),wV] at d;have s:=cz d;clear d;have O:=Z.o;go_wp2_with (first|refine Kb ae ae n.o ?_|refine fO ?_|refine fu λW S=>?_);go_roundw;grind;exact qN|false=>have d:=t.o;rw[c8 (by simp[ym r.o])] at d;have s:=cz d;clear d;have O:=Z.o;go_wp2_with (first|refine Kb ae ae n.o ?_|refine tE S 0 rfl 0 rfl rfl rfl rfl ib (dJ _) CU xY λg9 c9 W S=>?_|refine fO ?_|refine fu λW S=>?_);go_roundw;exact⟨k+1,s_ g9 0,c9,m++[p],_,cN,by go_num,by simp;omega,by simp,s.o,by rw[jv,jw,qd];exact S⟩;exact qN
 . obtain rfl:k=3:=cN;go_wp2;go_ret;refine⟨_,ae,?_,S.b⟩;rw[Q.o];have h9:=Y.o;rw[nV (by rw[o.o];exact eN _)] at h9;rw[h9];exact S.o0
def zX(P D M:Nat)(s:Pl)(q:cQ)(hq:dD q)(w:cS)(h:fh w P D M s):
 CP_ 110 #[bW (cu ⟨P,0,cw⟩),mO q] w λe w'=>∃B,e=cj (cg #[bV B,bU cq (gz s q).2.2])/\B=cM 128 (di (gz s q).2.1)/\fh w' P D M (gz s q).1/\Fr (cu D) [] w w':=by
 obtain⟨A,H⟩:=fU (cM 3 (dE q));have k:=dk H;have S:=St.start w (cu D) [] (dR P D M s) h;have H0:=cz h;obtain⟨T,I⟩:=dG (gz s q);have a:=cz I;unfold gz at a;rw[I,k];have HA:=cz H;obtain⟨o,j⟩:=fU (cM 128 (di fN));have a1:=cz j;have c:=cz (show prog.built 36 []=cu o by rw[j];exact ajZ);obtain⟨V,l⟩:=dG (decide (q=cY));have J:=F6 q cY V l;obtain⟨G,g⟩:=fU (cM 3 (dE cY));rw[k,dk g] at J;have m:=cz (show prog.built 106 []=cu G by rw[g,<-iU];exact MX);have n:=cz l;have E:=cz λW(X:iQ W D s.dv)=>ahM D s.dv (q.1:Int) (by have:=hq.1;unfold eT;omega) W X;have d:=Jh h.dev.ok (q.1:Int);obtain⟨r,U⟩:=dG (iq s.dv (q.1:Int));rw[U] at E a d;obtain⟨d1,bs,c1⟩:=r;simp only at E a d;have F:=cz d;clear H h I j l g k U d;go_enter func110,ntmps110;cases V with
 |true=>rw[c8 (mj n.o)] at a;obtain rfl:=a.o;go_wp2_with first|refine lE (cells:=G) ae m.o ?_|refine lE (cells:=o) ae c.o ?_|(refine mu ?_;exact⟨_,ae,ae,S.x,S.fr⟩)|refine fO ?_|refine fu λW S=>?_
 |false=>
  rw[cX (ym n.o)] at a;obtain⟨B,Q⟩:=fU (cM 128 (di bs));have O:=cz Q;have N:=cz λu W hu=>Xd u bs W hu;obtain⟨cr,v⟩:=dG (kZ bs);rw[v] at N a;obtain⟨Y,x⟩:=dG (((cr:Int)!=((q.2.2:Nat):Int)));have f:=cz x;clear Q v x
  go_upto_region 3 with(first|refine lE (cells:=G) ae m.o ?_|refine fO ?_|refine fu λW S=>?_)
  refine eR S dC [⟨w.h.s,106,3,dE q⟩] Cz λW S=>?_;refine dh 0 _ ?_;refine dh 1 (dF P 0) ?_;refine dh 2 (dF P 0) ?_;refine ij 3 (dF D 0) ae (gW (λw h=>(H0.o.pc h.fr eQ).cells.1) ae aj1) ?_;refine dh 4 (dF w.h.s 0) ?_;refine dh 5 (bU cq q.1) ?_
  repeat' first|refine Th ?_|refine nz 7 _ ?_|refine nz 8 (bV B) ?_|refine nz 9 (bU cq c1) ?_|refine nz 12 _ ?_|refine Bt 6 10 (λK b=>?_) λK b=>?_|refine qf 10 λK b=>?_|refine qf 6 λK b=>?_|refine qf 11 λK b=>?_|(go_wp2_with fail;refine(E.o _ S.x.dev).mono ?_;rintro e W ⟨Z,rfl,t,R,L⟩;obtain rfl:B=Z:=O.o.trans t.symm;replace S:=S.call L aw eQ (dR P D M {s with dv:=d1}) (λB h=>fh.dv' h R L eQ eQ);clear t R L;refine gy b ?_;clear b K)|(refine gu (dst:=6) S zeroValue36 vW ae λE6 W S=>?_;refine gy b ?_;clear b K)|(refine km S 0 ae ae ae O.o Dx (jP _) λW S=>?_;refine gy b ?_;clear b K)
  all_goals(
   refine cz ?_;by_cases p:c1=41
   case pos=>
    subst p;rw[c8 ae] at a;obtain rfl:=a.o
    go_wp2_with first|refine lE (cells:=o) ae c.o ?_|(refine mu ?_;exact⟨_,ae,ae,S.x,S.fr⟩)|refine fu λW S=>?_
   have g2:(c1==41)=cy:=by rw[lr];exact p
   rw[cX p] at a;by_cases y:c1=0
   case neg=>
    have g4:(c1 !=0)=cx:=fK.2 y;rw[c8 y] at a;obtain rfl:=a.o;clear p y
    go_wp2_with first|refine lE (cells:=o) ae c.o ?_|(refine mu ?_;exact⟨_,ae,ae,S.x,S.fr⟩)|refine fu λW S=>?_
   subst y;rw[cX (λh=>h ae)] at a;clear p g2
   go_upto_region 8 with(fail)
   refine eR S dC [⟨w.h.s,106,3,dE q⟩] Cz λW S=>?_;refine dh 0 (bX (s_ E6 0) 128 128) ?_;refine dh 2 (dF w.h.s 2) ?_;refine ij 3 (bU .u32 q.2.2) ae (gW (λw h=>cL.cell (h.row 0 ae) (i:=2) rh) ae aj2) ?_;refine kK 1 λK b=>?_
   go_wp2_with fail
   have C:=S.k0;have C:=lM.ints (lM.sec C F.o);refine mG (N.o _ _ C) ?_;clear C;refine gy b ?_;clear b K;refine ij 4 (bZ Y) ae (Or.inl ⟨dC,λw hw=>by have z:=f.o;go_simp⟩) ?_;refine dh 5 _ ?_;refine qG ?_;cases Y with
   |true=>
    rw[c8 (by have z:=f.o;rw[fK] at z;omega)] at a;obtain rfl:=a.o
    go_wp2_with (first
   |refine lE (cells:=o) ae c.o ?_
   |(refine mu ?_;exact⟨_,ae,ae,S.x,S.fr⟩)
   |refine fu λW S=>?_)
   |false=>
    rw[cX (by have z:=f.o;rw[vL] at z;omega)] at a;obtain rfl:=a.o
    go_wp2_with first|(refine mu ?_;exact⟨_,ae,ae,S.x,S.fr⟩)|refine fO ?_|refine fu λW S=>?_
  )
def Fo(P D M:Nat)(s:Pl)(ho:s.dv.ops<=1000000000)(i:Int)(H:eT i)(T:dW)(v:c7)(b:cV)(y:b.n<=128)(w:cS)(h:fh w P D M s)(hv:lM w T v b):
 CP_ 184 #[bW (cu ⟨P,0,cw⟩),bU cq i,v] w λe w'=>e=cj (cg #[mO (kx s i b).2.1,bU cq (kx s i b).2.2])/\fh w' P D M (kx s i b).1/\Fr (cu D) [] w w':=by
 have S:=St.start w (cu D) [] ((dR P D M s).sl T 1 v b.n (eo b)) ⟨h,hv.1,λ_ _ _=>by simp⟩;have Z:=cz h;have V:=cz hv.2;obtain⟨U,Q⟩:=dG (kx s i b);have a:=cz Q;unfold kx at a;rw[Q];have l:=G9 y hv.2;obtain⟨A,O⟩:=fU (cM 128 (di b));have F:=cz λW(X:iQ W D s.dv)=>adW D s.dv ho i (pD b) l A (O.trans Ub) W X;have C:=Rs (d:=s.dv) (i:=i) (s:=pD b);obtain⟨r,z⟩:=dG (gw s.dv i (pD b));rw[z] at F a C;obtain⟨d1,c1⟩:=r;simp only at F a C;have Y:=cz λu W H=>Xd u (pD b) W H;obtain⟨N,m⟩:=dG (kZ (pD b));rw[m] at Y a;have I:=cz l;have U:=cz O;have R:=y;obtain⟨J,j⟩:=fU (cM 3 (dE cY));have L:=cz j;have G:=cz (show prog.built 106 []=cu J by rw[j,<-iU];exact MX);have H:=cz y;clear h Q z l m O j y R hv;go_enter func184,ntmps184;go_upto_region 3 with(first|refine jb 8 36 S zeroValue36 agS λW S=>?_|refine wJ S xE iU rfl λo S=>?_|refine Um S 0 (s:=[]) (bs:=b) rfl (q:=0) rfl ⟨S.x.2.1,V.o⟩ (by show 0+b.n<=128;have:=H.o;omega) H.o oS Cw rfl rfl λW S=>?_);replace S:=S.EH (X':=CR P D M s) (λB w h=>h.1) (dR P D M s);rw[pL] at S;refine eR S dC [⟨o.h.s,36,128,di b⟩] Cz λW S=>?_;refine dh 0 _ ?_;refine dh 1 (dF P 0) ?_;refine dh 2 (dF P 0) ?_;refine ij 3 (dF D 0) ae (gW (λw h=>(Z.o.pc h.fr eQ).cells.1) ae aj1) ?_;refine dh 4 _ ?_;refine ij 5 (bV A) ae (rA (b:=o.h.s) (t:=36) (n:=128) (f:=di b) bf ae U.o Dx) ?_;refine kK 6 λK c=>?_;go_wp2_with fail;refine(F.o _ S.x.dev).mono ?_;rintro e W ⟨rfl,H,V⟩;replace S:=S.call V aw eQ (dR P D M {s with dv:=d1}) (λB h=>fh.dv' h H V eQ eQ);clear H V;refine gy c ?_;clear c K;refine dh 7 _ ?_;refine qG ?_;by_cases p:c1=0;case neg=>have H:(c1 !=0)=cx:=fK.2 p;rw[cX p] at a;obtain rfl:=a.o;clear p;go_wp2_with first|refine js 106 6 22 S 1 L.o (dJ _) λW S=>?_|refine lE (cells:=J) ae G.o ?_|(refine oW S 1 ae ae ae fL ae ?_;exact⟨by rw[dk (q:=cY) ae];rfl,S.x,S.fr⟩)
 subst p;rw[c8 ae] at a;obtain⟨k,rfl⟩:∃k:Nat,i=(k:Int):=⟨i.m,by have:=(C ae).1;omega⟩;rw[uI] at a;obtain rfl:=a.o;obtain⟨U,g⟩:=fU (cM 3 (dE (k,s.cR,N)));have J:=cz g;have H:=cz (show prog.built 106 [(0,bU cq k),(1,bU ct s.cR),(2,bU .u32 N)]=cu U by rw[g];kernel_rfl);clear g C;go_upto_region 6 with(fail);refine eR S dC [] (by intro r z;cases z) λW S=>?_;refine dh 0 _ ?_;refine dh 1 _ ?_;refine dh 2 (dF P 0) ?_;refine dh 3 (dF P 2) ?_;refine ij 4 (bU ct s.cR) ae (gW (λw h=>(Z.o.pc h.fr eQ).cells.2.2.1) ae gi) ?_;refine dh 5 (bX (s_ o.h.s 0) 128 128) ?_;refine kK 6 λK c=>?_;go_wp2_with fail;have x:=S.k0;have x:=lM.ints (lM.sec (s:=pD b) (E:=o.h.s) (by unfold cL;rw[<-Ub];exact x) I.o);refine(Y.o _ _ x).mono ?_;rintro e W ⟨rfl,rfl⟩;clear x;refine gy c ?_;clear c K;refine ij 7 (bV U) ae (yU ae H.o) ?_;refine kK 8 λK c=>?_;refine km S 1 ae ae ae J.o fL (dJ _) λW S=>?_;refine gy c ?_;clear c K;refine dh 9 _ ?_;refine qG ?_;go_wp2_with first|(refine oW S 1 ae ae ae fL ae ?_;exact⟨by rw[dk (q:=(k,s.cR,N)) ae];rfl,S.x,S.fr⟩)
def Kq(P D M:Nat)(s:Pl)(ho:s.dv.ops<=1000000000)(T:dW)(I:T≠206)(v:c7)(b:cV)(w:cS)(h:fh w P D M s)(hv:lM w T v b):
 CP_ 141 #[bW (cu ⟨P,0,cw⟩),v] w λe w'=>e=cj (cg #[mO (tC s b).2.1,bU cq (tC s b).2.2])/\fh w' P D M (tC s b).1/\Fr (cu D) [M] w w':=by
 obtain⟨H,z,rfl,J,J⟩:=hv.form;obtain⟨V,R⟩:=fU (Value.slice H b.n z);have S:=St.start w (cu D) [M] ((dR P D M s).sl T 1 V b.n (eo b)) ⟨h,by rw[R];exact hv.1,λ_ _ _=>by simp⟩;have H:=cz h;have HB:=cz hv.2;have N:=cz I;obtain⟨U,Q⟩:=dG (tC s b);have a:=cz Q;unfold tC at a;rw[Q];obtain⟨J,m⟩:=fU (cM 3 (dE cY));have l:=cz m;have j:=cz (show prog.built 106 []=cu J by rw[m,<-iU];exact MX);have H:=cz λW(X:fD W M s.mp)=>PV M s.mp W X;have HV:=cz R;clear h hv Q m R I;by_cases K:b.n>128
 . rw[c8 K] at a;obtain rfl:=a.o;have I:decide ((b.n:Int)>128)=cx:=gI cN;go_enter func141,ntmps141;go_wp2_with first|(first|refine jb 4 106 S xE iU λW S=>?_|refine js 106 4 12 S 0 l.o (dJ _) λW S=>?_)|refine lE (cells:=J) ae j.o ?_|(refine oW S 0 ae ae ae fL ae ?_;exact⟨by rw[dk (q:=cY) ae];rfl,S.x.1,S.fr⟩)
 rw[cX K] at a;have HL:=cz (Nat.le_of_not_lt K);have I:decide ((b.n:Int)>128)=cy:=jC cN;clear K;go_enter func141,ntmps141;go_upto_region 3 with(first|refine wJ S xE iU rfl λI S=>?_)
 cases n:nG s.mp with
 |none=>obtain⟨u,x,y⟩:=Mh n;rw[n] at a;obtain rfl:=a.o;have d:=cz H.o;rw[u,x,y] at d;clear u x y n;have c1:=S.x.1.row.cells.2.1;go_wp2_with first|refine js 106 4 23 S 0 l.o (dJ _) λW S=>?_|(refine(d.o _ S.x.1.map).mono ?_;rintro e W ⟨rfl,f,c⟩;clear c1;replace S:=S.call (S.x.1.yL f c).2 aJ (λk F=>.inl F) (dR P D M s) (λB X=>(X.1.yL f c).1);clear f c)|refine lE (cells:=J) ae j.o ?_|(refine oW S 0 ae ae ae fL ae ?_;exact⟨by rw[dk (q:=cY) ae];rfl,S.x,S.fr⟩)
 |some i=>
  obtain⟨Z,I,-,-⟩:=qu n;have G:sO (kE s.mp i 2) (i:Nat) 2 1=s.mp:=by unfold sO isB;rw[c8 (gI ⟨cN,cN,by rw[uI,Je]⟩),uI];exact aa0 I
  have U:=cz λW(X:fD W M (kE s.mp i 2))=>T7 M (kE s.mp i 2) (i:Nat) aW W X;rw[G] at U;clear G I;obtain⟨u,x,y⟩:=Gg n;rw[n] at a;have d:=cz H.o;rw[u,x,y] at d;have o:=cz λW(X:fh W P D M {s with mp:=kE s.mp i 2})(Y:lM W T V b)=>Fo P D M {s with mp:=kE s.mp i 2} ho (i:Nat) aW T V b HL.o W X Y;clear u x y n Z;have I:kx {s with mp:=kE s.mp i 2} (i:Nat) b=({(kx s (i:Nat) b).1 with mp:=kE s.mp i 2},(kx s (i:Nat) b).2):=rfl;have g:(kx s (i:Nat) b).1.mp=s.mp:=rfl;rw[I] at o;obtain⟨r,H⟩:=dG (kx s (i:Nat) b);simp only[H] at o a g;clear I H;obtain⟨s',q,I⟩:=r;simp only at o a g;obtain⟨A,O⟩:=fU (cM 3 (dE q));rw[dk O] at o;have t:=cz O;have L:=cz g;clear O g;have c1:=S.x.1.row.cells.2.1;go_upto_region 4 with(first|(go_at_call 183;refine(d.o _ S.x.1.map).mono ?_;rintro e W ⟨rfl,f,c⟩;clear c1;replace S:=S.call (S.x.1.yL f c).2 aJ (λk F=>.inl F) ((dR P D M {s with mp:=kE s.mp i 2}).sl T 1 V b.n (eo b)) (λB X=>⟨(X.1.yL f c).1,X.2.1.but c X.1.tyM (pU N.o),X.2.2⟩);clear f c));have p:=cz o;clear o;by_cases C:I=0
  . rw[c8 C] at a;obtain rfl:=a.o;subst C;go_wp2_with first|refine jr 42 106 8 S 0 t.o ?_|refine js 106 4 42 S 1 t.o (dJ _) λW S=>?_|(rw[<-HV.o];refine(p.o _ S.x.1 ⟨S.x.2.1,HB.o⟩).mono ?_;rintro e W ⟨rfl,H,E⟩;replace S:=S.call E (λ_ e=>e) aJ (dR P D M {s' with mp:=kE s.mp i 2}) (λB _=>H);clear H E)|refine oV S rfl rfl t.o fL rfl (by rfl) (dJ _) λW S=>?_|(refine oW S 1 ae ae ae fL ae ?_;exact⟨by rw[t.o];rfl,S.x,S.fr⟩)
  . have N:(I !=0)=cx:=fK.2 C;rw[cX C] at a;obtain rfl:=a.o;clear C;go_wp2_with first|refine js 106 4 40 S 1 l.o (dJ _) λW S=>?_|(go_at_call 184;rw[<-HV.o];refine(p.o _ S.x.1 ⟨S.x.2.1,HB.o⟩).mono ?_;rintro e W ⟨rfl,H,E⟩;replace S:=S.call E (λ_ e=>e) aJ (dR P D M {s' with mp:=kE s.mp i 2}) (λB _=>H);clear H E)|((with_reducible refine wI 106 8 30 ?_);refine oV S ae ae t.o fL ae (by rfl) (dJ _) λW S=>?_;have c1:=S.x.row.cells.2.1)|(go_at_call 179;refine(U.o _ S.x.map).mono ?_;rintro e W ⟨rfl,f,c⟩;clear c1;replace S:=S.call (S.x.yL f c).2 aJ (λk F=>.inl F) (dR P D M s') (λB X=>by have H:=(X.yL f c).1;rw[<-L.o] at H;exact H);clear f c)|((with_reducible refine BY 40 106 ?_);refine lE (cells:=J) ae j.o ?_)|((with_reducible refine s6 ?_);go_must (refine oW S 1 ae ae ae fL ae ?_;exact⟨by rw[dk (q:=cY) ae];rfl,S.x,S.fr⟩))
def Ao(P D M:Nat)(s:Pl)(ho:s.dv.ops<=1000000000)(i:Int)(I:eT i)(T:dW)(v:c7)(b:cV)(w:cS)(h:fh w P D M s)(hv:lM w T v b):
 CP_ 259 #[bW (cu ⟨P,0,cw⟩),bU cq i,v] w λe w'=>e=cj (cg #[mO (eY s i b).2.1,bU cq (eY s i b).2.2])/\fh w' P D M (eY s i b).1/\Fr (cu D) [] w w':=by
 obtain⟨O,j,rfl,Q,R⟩:=hv.form;obtain⟨V,u⟩:=fU (Value.slice O b.n j);have S:=St.start w (cu D) [] ((dR P D M s).sl T 1 V b.n (eo b)) ⟨h,by rw[u];exact hv.1,λ_ _ _=>by simp⟩;have H:=cz hv.2;have J:=cz I;obtain⟨U,t⟩:=dG (eY s i b);have c:=cz t;unfold eY at c;rw[t];obtain⟨o,d⟩:=fU (cM 3 (dE cY));have N:=cz d;have g:=cz (show prog.built 106 []=cu o by rw[d,<-iU];exact MX);have F:=cz λW(X:fD W M s.mp)=>Ew M s.mp W X;have L:=cz u;clear h hv t d u;by_cases n:b.n>128;rw[c8 n] at c;obtain rfl:=c.o;have Z:decide ((b.n:Int)>128)=cx:=gI cN;go_enter func259,ntmps259;rotate_left;rw[cX n] at c;have K:=cz (Nat.le_of_not_lt n);have m:=cz λW(X:fh W P D M s)(Y:lM W T V b)=>Fo P D M s ho i J.o T V b K.o W X Y;obtain⟨z,x⟩:=dG (QY (kF s.mp 2) i);have f:=x;rw[aa1] at f;have I:=cz λa r W(J:mT W a r (kF s.mp 2))=>x▸af1 r _ i W (Mi J);have Z:decide ((b.n:Int)>128)=cy:=jC cN;clear n x;go_enter func259,ntmps259;go_upto_region 3 with(refine fu λW S=>?_);have c1:=S.x.1.row.cells.2.1;rcases z with _|_;rw[cX (ym f.symm.symm)] at c;obtain rfl:=c.o;rotate_left;rw[c8 (mj f)] at c;obtain⟨s',q,J⟩:=U;rw[c.o] at m;obtain⟨A,p⟩:=fU (cM 3 (dE q));simp only at m;rw[dk p] at m;have G:=cz p;clear p
 all_goals
  go_wp2_with first|refine lE (cells:=o) ae g.o ?_|(refine(F.o _ S.x.1.map).mono ?_;rintro e W ⟨J,rfl,l,k⟩;have y:=cz (I.o _ _ _ l);clear c1 l;replace S:=S.cP k;clear k)|(refine y.o.mono ?_;rintro e W ⟨rfl,k⟩;clear y;replace S:=S.cP k;clear k)|refine lE (cells:=o) ae g.o ?_|(rw[<-L.o];refine(m.o _ S.x.1 ⟨S.x.2.1,H.o⟩).mono ?_;rintro e W ⟨rfl,E,C⟩;replace S:=S.call C (λ_ e=>e) aJ (dR P D M s') (λB _=>E);clear E C)|refine fu λW S=>?_|(refine mu ?_;exact⟨by rw[dk (q:=cY) ae];rfl,S.x.1,S.fr⟩)|(refine mu ?_;exact⟨by rw[G.o];rfl,S.x,S.fr⟩)
def Ia(P D M:Nat)(s:Pl)(q:cQ)(E:dD q)(w:cS)(h:fh w P D M s):
 CP_ 135 #[bW (cu ⟨P,0,cw⟩),mO q] w λe w'=>e=cj (bU cq (pZ s q).2)/\fh w' P D M (pZ s q).1/\Fr cw [M] w w':=by
 obtain⟨A,p⟩:=fU (cM 3 (dE q));have d:=dk p;have S:=St.start w cw [M] (uz (n:=0) (dR P D M s)) ⟨h,λk C=>⟨gG _,by simp⟩⟩;have m:Hid (∀W,Fr cw [M] w W->mb W P D M s.cR s.base):=cz λW f=>cL.fr h.row f aD (.inr (by rw[fS];exact h.ne));have H:=cz λW(X:fD W M s.mp)=>T7 M s.mp (q.1:Int) (by have:=E.1;unfold eT;omega) W X;have I:=cz λW(X:fD W M s.mp)=>aaU M s.mp (q.1:Int) (by have:=E.1;unfold eT;omega) W X;obtain⟨T,r⟩:=dG (pZ s q);have a:=cz r;unfold pZ at a;rw[r,d];have J:=cz p;obtain⟨F,g⟩:=dG (decide (q=cY));have u:=F6 q cY F g;obtain⟨o,c⟩:=fU (cM 3 (dE cY));rw[d,dk c] at u;have i:=cz (show prog.built 106 []=cu o by rw[c,<-iU];exact MX);have j:=cz g;clear p h r g c d;go_enter func135,ntmps135;cases F with
 |true=>rw[c8 (mj j.o)] at a;obtain rfl:=a.o;go_wp2_with (first|((with_reducible refine BY 7 106 ?_);refine lE (cells:=o) ae i.o ?_)|refine fO ?_|refine fu λW S=>?_);go_ret;exact⟨ae,S.x.1,S.fr⟩
 |false=>
  rw[cX (ym j.o)] at a;go_upto_region 3 with(first|((with_reducible refine BY 7 106 ?_);refine lE (cells:=o) ae i.o ?_)|refine fO ?_|refine fu λW S=>?_);obtain⟨G,l⟩:=dG (decide (s.base<q.2.1));have b:=cz l;clear l;refine eR S dC [⟨w.h.s,106,3,dE q⟩] Cz λW S=>?_;refine dh 0 (dF w.h.s 1) ?_;refine dh 1 (bU ct q.2.1) ?_;refine dh 2 _ ?_;refine dh 3 (dF P 0) ?_;refine dh 4 (dF P 3) ?_;refine ij 5 (bU ct s.base) ae (gW (λw h=>(m.o _ h.fr).cells.2.2.2) ae gi) ?_;refine ij 6 (bZ G) ae (Or.inl ⟨dC,λw L=>by have x:=b.o;go_simp⟩) ?_;refine dh 7 _ ?_;refine qG ?_;rcases G with _|_;rw[cX (by have x:=ym b.o;omega)] at a;obtain rfl:=a.o;go_upto_region 5 with(fail);rotate_left;rw[c8 (by have x:=mj b.o;omega)] at a;obtain rfl:=a.o;go_upto_region 4 with(fail)
  all_goals
   refine eR S dC [⟨w.h.s,106,3,dE q⟩] Cz λW S=>?_
   first|refine dh 0 _ ?_|refine dh 0 _ ?_
   first|refine dh 1 (dF P 0) ?_|refine dh 1 (dF P 0) ?_
   first|refine dh 2 (dF P 1) ?_|refine dh 2 (dF P 1) ?_
   first|refine ij 3 (dF M 0) ae (gW (λw h=>(m.o _ h.fr).cells.2.1) ae aj3) ?_|refine ij 3 (dF M 0) ae (gW (λw h=>(m.o _ h.fr).cells.2.1) ae aj3) ?_
   first|refine dh 4 (dF w.h.s 0) ?_|refine dh 4 (dF w.h.s 0) ?_
   first|refine dh 5 (bU cq q.1) ?_|refine dh 5 (bU cq q.1) ?_
   refine kK 6 λK y=>?_
   go_wp2_with fail
   first|refine(I.o _ S.x.1.map).mono ?_|refine(H.o _ S.x.1.map).mono ?_
   rintro e W ⟨rfl,v,t⟩;have z:=(fh.aj4 S.x t v).2;replace S:=S.call z aJ (λk C=>.inl C) (uz (dR P D M {s with mp:=_})) (λB X=>(fh.aj4 X t v).1);clear v t z;refine gy y ?_;clear y K;refine dh 7 _ ?_;refine qG ?_;go_wp2;go_ret;exact⟨ae,S.x.1,S.fr⟩
def x5(P D M:Nat)(s:Pl)(q:cQ)(F:dD q)(w:cS)(h:fh w P D M s):
 CP_ 155 #[bW (cu ⟨P,0,cw⟩),mO q] w λe w'=>∃N,e=cj (cg #[bV N,bU cq (dw s q).2.2])/\N=cM 24 (eX (dw s q).2.1)/\fh w' P D M (dw s q).1/\Fr (cu D) [] w w':=by
 obtain⟨A,n⟩:=fU (cM 3 (dE q));have d:=dk n;have S:=St.start w (cu D) [] (dR P D M s) h;obtain⟨T,p⟩:=dG (dw s q);have a:=cz p;have i:=cz λW(X:fh W P D M s)=>zX P D M s q F W X;have b:=Dt h.dev.ok q;unfold dw at a;rw[p,d];rw[d] at i;obtain⟨r,y⟩:=dG (gz s q);rw[y] at i a b;obtain⟨G,bs,c1⟩:=r;simp only at i a b;obtain⟨B,o⟩:=fU (cM 128 (di bs));have j:=cz λW=>BU bs b B o W;have C:=cz o;have H:=cz n;obtain⟨m,c⟩:=fU (cM 24 (eX mX));have E:=cz c;have f:=cz (show prog.built 191 []=cu m by rw[c];exact aj0);clear n h p y d b o c;go_enter func155,ntmps155;go_upto_region 2 with(first|(refine(i.o _ S.x).mono ?_;rintro e W ⟨z,rfl,g,x,v⟩;obtain rfl:B=z:=C.o.trans g.symm;replace S:=S.call v aw eQ (dR P D M G) (λB h=>x);clear g x v)|refine fO ?_|refine fu λW S=>?_);by_cases k:c1=0;case neg=>have J:(c1 !=0)=cx:=fK.2 k;rw[c8 k] at a;obtain rfl:=a.o;clear k;go_wp2_with first|refine lE (cells:=m) ae f.o ?_|(refine mu ?_;exact⟨_,ae,ae,S.x,S.fr⟩)|refine fu λW S=>?_
 subst k;rw[cX (λh=>h ae)] at a;rcases hn:pY bs with _|l;rotate_left
 all_goals
  rw[hn] at a j
  first|simp only[gq,Option.isSome_none] at a j|simp only[gq,Option.isSome_some,oQ,kL] at a j
  obtain rfl:=a.o;clear hn
  go_wp2_with first|(refine(j.o _).mono ?_;rintro e W ⟨N,rfl,t,u⟩;have I:=cz t;replace S:=S.cP u;clear t u)|refine lE (cells:=m) ae f.o ?_|refine fO ?_|refine fu λW S=>?_|(refine mu ?_;exact⟨_,ae,ae,S.x,S.fr⟩)
def vh(P D M:Nat)(s:Pl)(ho:s.dv.ops<=1000000000)(l:Nat->cQ)(H:∀i,i<8->dD (l i))(N:gJ)(t:N=cM 24 (eX l))(w:cS)(h:fh w P D M s):
 CP_ 142 #[bW (cu ⟨P,0,cw⟩),bV N] w λe w'=>e=cj (cg #[mO (fE s l).2.1,bU cq (fE s l).2.2])/\fh w' P D M (fE s l).1/\Fr (cu D) [M] w w':=by have S:=St.start w (cu D) [M] (dR P D M s) h;have j:=cz λW=>(show CP_ 185 #[bV N] W λe w'=>∃A,e=cj (cg #[bV A,bU cq (gq 51 (mW l))])/\A=cM 128 (di ((mW l).getD fN))/\dS W w' from by rw[t];exact Fc l H W);have J:=cz t;obtain⟨T,x⟩:=dG (fE s l);have d:=cz x;unfold fE at d;rw[x];obtain⟨y,g⟩:=fU (cM 3 (dE cY));have G:=cz g;have o:=cz (show prog.built 106 []=cu y by rw[g,<-iU];exact MX);clear h x t g;go_enter func142,ntmps142;cases m:mW l with|none=>rw[m] at d j;simp only[gq,Option.isSome_none] at d j;obtain rfl:=d.o;clear m;go_wp2_with (first|(refine(j.o _).mono ?_;rintro e W ⟨A,rfl,k,a⟩;have E:=cz k;replace S:=S.cP a;clear k a)|refine lE (cells:=y) ae o.o ?_|(refine mu ?_;exact⟨by rw[dk (q:=cY) ae];rfl,S.x,S.fr⟩)|refine fO ?_|refine fu λW S=>?_)|some b=>rw[m] at d j;simp only[gq,Option.isSome_some,oQ,kL] at d j;have a:=Gh m;have n:=cz λu W(X:fh W P D M s)R=>Kq P D M s ho 36 kM u b W X R;obtain⟨I,p,c⟩:=T;rw[d.o] at n;simp only at n|-;obtain⟨K,f⟩:=fU (cM 3 (dE p));rw[dk f] at n|-;have r:=cz f;have F:=cz a;clear m f a;go_wp2_with first|(go_at_call 185;refine(j.o _).mono ?_;rintro e L ⟨A,rfl,k,a⟩;have E:=cz k;replace S:=S.cP a;clear k a)|(go_at_call 141;have v:=S.k0;have v:=lM.sec v F.o;refine(n.o _ _ S.x v).mono ?_;rintro e W ⟨rfl,C,z⟩;replace S:=S.call z aw eQ (dR P D M I) (λB h=>C);clear C z)|(refine mu ?_;exact⟨by rw[r.o];rfl,S.x,S.fr⟩)|refine fO ?_|refine fu λW S=>?_
def Cj(P D M:Nat)(s:Pl)(q:cQ)(I:dD q)(i:Nat)(hi:i<64)(w:cS)(h:fh w P D M s):
 CP_ 109 #[bW (cu ⟨P,0,cw⟩),mO q,bU cq i] w λe w'=>∃N,e=cj (cg #[bV N,bU cq (fB s q i).2.2])/\N=cM 51 (nS (fB s q i).2.1)/\fh w' P D M (fB s q i).1/\Fr (cu D) [] w w':=by
 obtain⟨A,V⟩:=fU (cM 3 (dE q));have k:=dk V;have S:=St.start w (cu D) [] (dR P D M s) h;obtain⟨T,Y⟩:=dG (fB s q i);have a:=cz Y;have H:=cz λW(X:fh W P D M s)=>x5 P D M s q I W X;have b:=yO h.dev.ok q;unfold fB at a;rw[Y,k];rw[k] at H;obtain⟨c,y⟩:=dG (i/8);obtain⟨f,z⟩:=dG (i%8);have C:c<8:=cN;have E:f<8:=cN;have I:(i:Int)/8=(c:Int):=cN;have Z:(i:Int)%8=(f:Int):=cN;rw[y,z] at a;obtain⟨r,d⟩:=dG (dw s q);rw[d] at H a b;obtain⟨L,l,c1⟩:=r;simp only at H a b;have I:=cz λW(X:fh W P D M L)=>x5 P D M L (l c) (b c) W X;obtain⟨r,G⟩:=dG (dw L (l c));rw[G] at I a;obtain⟨s2,l2,N⟩:=r;simp only at I a;obtain⟨J,g⟩:=fU (cM 3 (dE (l c)));rw[dk g] at I;have R:=cz g;have J:=cz V;obtain⟨U,j⟩:=fU (cM 51 (nS P0));have J:=cz j;have n:=cz (show prog.built 193 []=cu U by rw[j];exact ajY);clear V h Y d G g k y z hi b j;go_enter func109,ntmps109;go_upto_region 4 with(first|(refine(H.o _ S.x).mono ?_;rintro e W ⟨H,rfl,t,F,x⟩;have O:=cz t;replace S:=S.call x aw eQ (dR P D M L) (λB h=>F);clear t F x)|refine Ka S 0 rfl (o:=0) (m:=24) rh rfl rfl O.o Cy (nR _) (λw' d e=>by rw[e];exact aa4 d l) λW S=>?_|refine fO ?_|refine fu λW S=>?_);by_cases J:c1=0;case neg=>have H:(c1 !=0)=cx:=fK.2 J;rw[c8 J] at a;obtain rfl:=a.o;clear J;go_wp2_with first|refine lE (cells:=U) ae n.o ?_|(refine mu ?_;exact⟨_,ae,ae,S.x,S.fr⟩)|refine fu λW S=>?_
 subst J;rw[cX (λh=>h ae)] at a;go_upto_region 7 with(first|refine ixN C ae amk ?_|refine P7 S 0 ae (o:=c*3) (m:=3) ae (dE (l c)) (show c*3+3<=51 by omega) (aiE _ C) R.o fL ?_|(refine(I.o _ S.x).mono ?_;rintro e W ⟨I,rfl,t,F,x⟩;have Q:=cz t;replace S:=S.call x aw eQ (dR P D M s2) (λB h=>F);clear t F x)|refine Ka S 0 rfl (o:=24) (m:=24) rh rfl rfl Q.o Cy (nR _) (λw' d e=>by rw[e];exact Xz d l2) λW S=>?_);by_cases K:N=0;case neg=>have H:(N !=0)=cx:=fK.2 K;rw[c8 K] at a;obtain rfl:=a.o;clear K;go_wp2_with first|refine lE (cells:=U) ae n.o ?_|(refine mu ?_;exact⟨_,ae,ae,S.x,S.fr⟩)|refine fu λW S=>?_
 subst K;rw[cX (λh=>h ae)] at a;obtain rfl:=a.o;obtain⟨H,u⟩:=fU (cM 3 (dE (l2 f)));have p:=cz u;obtain⟨H,v⟩:=fU (cM 51 (nS ⟨l,l2,l2 f⟩));have H:=cz v;clear u v;go_wp2_with first|refine ak5 E ae (by first|exact gQ (Value.int cq) Z) ?_|refine P7 S 0 ae (o:=24+f*3) (m:=3) ae (dE (l2 f)) (show 24+f*3+3<=51 by omega) (aiF _ E) p.o fL ?_|refine Ka S 0 rfl (o:=48) (m:=3) rh rfl rfl p.o fL (dJ _) (λw' d e=>by rw[e];exact aa5 d (l2 f)) λW S=>?_|(refine mu ?_;exact⟨_,ae,ae,S.x,S.fr⟩)|refine fO ?_|refine fu λW S=>?_
def U3(P D M:Nat)(s:Pl)(q:cQ)(O:dD q)(i:Int)(w:cS)(h:fh w P D M s):
 CP_ 48 #[bW (cu ⟨P,0,cw⟩),mO q,bU cq i] w λe w'=>∃B,e=cj (cg #[bV B,bU cq (qF s q i).2.2])/\B=cM 128 (di (qF s q i).2.1)/\fh w' P D M (qF s q i).1/\Fr (cu D) [] w w':=by
 obtain⟨A,C⟩:=fU (cM 3 (dE q));have n:=dk C;have S:=St.start w (cu D) [] (dR P D M s) h;obtain⟨T,E⟩:=dG (qF s q i);have a:=cz E;have p:=cz λW=>Gi i W;have F:=h.dev.ok;unfold qF at a;rw[E,n];have R:=cz C;obtain⟨z,f⟩:=fU (cM 128 (di fN));have L:=cz f;have g:=cz (show prog.built 36 []=cu z by rw[f];exact ajZ);clear C h E f;go_enter func48,ntmps48;cases c:mY i with
 |false=>rw[c] at p a;rw[c8 ae] at a;obtain rfl:=a.o;clear c;go_wp2_with first|refine mG (p.o _) ?_|refine lE (cells:=z) ae g.o ?_|(refine mu ?_;exact⟨_,ae,ae,S.x,S.fr⟩)|refine fu λW S=>?_
 |true=>
  rw[c] at p a;rw[cX kM] at a;obtain⟨k,rfl⟩:∃k:Nat,i=(k:Int):=⟨i.m,by unfold mY at c;rw[qQ] at c;omega⟩;have J:k<64:=by unfold mY at c;rw[qQ] at c;omega
  rw[uI] at a;have t:=cz λW(X:fh W P D M s)=>Cj P D M s q O k J W X;have b:=rQ F q k;obtain⟨r,K⟩:=dG (fB s q k);rw[K] at t a b;obtain⟨G,y,c1⟩:=r;simp only at t a b;rw[n] at t;have u:=cz λW(X:fh W P D M G)=>zX P D M G y.block b.2.2 W X;obtain⟨Y,d⟩:=fU (cM 3 (dE y.block));rw[dk d] at u;have x:=cz d;clear c K b d J;go_upto_region 4 with(first|refine mG (p.o _) ?_|(refine(t.o _ S.x).mono ?_;rintro e W ⟨N,rfl,I,l,j⟩;have V:=cz I;replace S:=S.call j aw eQ (dR P D M G) (λB h=>l);clear I l j)|refine fO ?_|refine fu λW S=>?_);by_cases v:c1=0;case neg=>have H:(c1 !=0)=cx:=fK.2 v;rw[c8 v] at a;obtain rfl:=a.o;clear v;go_wp2_with first|refine lE (cells:=z) ae g.o ?_|(refine mu ?_;exact⟨_,ae,ae,S.x,S.fr⟩)|refine fu λW S=>?_
  subst v;rw[cX (λh=>h ae)] at a;obtain⟨Q,bs,Z⟩:=T;rw[a.o] at u;simp only at u|-;go_wp2_with first|refine oM_ S 0 ae (o:=48) (m:=3) (dE y.block) (Gu y) x.o ?_|(refine(u.o _ S.x).mono ?_;rintro e W ⟨B,rfl,H,l,j⟩;have U:=cz H;replace S:=S.call j aw eQ (dR P D M Q) (λB h=>l);clear H l j)|(refine mu ?_;exact⟨_,ae,ae,S.x,S.fr⟩)|refine fu λW S=>?_
def U4(P D M:Nat)(s:Pl)(ho:s.dv.ops<=999999000)(q:cQ)(hq:dD q)(i:Int)(v:c7)(b:cV)(w:cS)(h:fh w P D M s)(hv:lM w 5 v b):
 CP_ 80 #[bW (cu ⟨P,0,cw⟩),mO q,bU cq i,v] w λe w'=>∃r,e=cj (cg #[mO (lh s q i b).2.1,r,bU cq (lh s q i b).2.2.2])/\ir w' w.h.s r (lh s q i b).2.2.1/\fh w' P D M (lh s q i b).1/\Fr (cu D) [M] w w':=by
 obtain⟨A,hA⟩:=fU (cM 3 (dE q));have a3:=dk hA;have S:=St.start w (cu D) [M] (dR P D M s) h;have d2:=hv.2;obtain⟨ba,bc,rfl,-,-⟩:=hv.form;obtain⟨bl,a4⟩:=sV b.n;rw[a4.o] at hv|-;have HV:Hid (∀W,Fr (cu D) [M] w W->lM W 5 (bX ba bl bc) b):=cz λW f=>hv.fr f (.inr rfl) rfl;have C1:=cz λW=>Gi i W;have h0:=And.intro h.dev.ok h.ok.1;obtain⟨T,a⟩:=sV (lh s q i b);rw[a.o,a3];have HA:=cz hA;clear hA h hv;unfold lh at a;go_enter func80,ntmps80;cases O:mY i with
 |false=>rw[O] at C1 a;rw[c8 rfl] at a;obtain rfl:=a.o;clear O;go_wp2_with first|refine mG (C1.o _) ?_|(refine mu ?_;exact⟨_,by rw[dk (q:=q) rfl];rfl,ir.nil _ _,S.x,S.fr⟩)|refine fO ?_|refine fu λW S=>?_
 |true=>
  rw[O] at C1 a;rw[cX kM] at a;obtain⟨k,rfl⟩:∃k:Nat,i=(k:Int):=⟨i.m,by unfold mY at O;rw[qQ] at O;omega⟩;have hk:k<64:=by unfold mY at O;rw[qQ] at O;omega
  rw[a4.o] at a;clear O;by_cases g1:128<(bl:Int);case pos=>rw[c8 cN] at a;obtain rfl:=a.o;go_wp2_with first|refine mG (C1.o _) ?_|(refine mu ?_;exact⟨_,by rw[dk (q:=q) rfl];rfl,ir.nil _ _,S.x,S.fr⟩)|refine fO ?_|refine fu λW S=>?_
  rw[cX cN,uI] at a;obtain⟨p,b4⟩:=dG (k/8);obtain⟨x,b5⟩:=dG (k%8);have d4:p<8:=cN;have d5:x<8:=cN;have d9:(k:Int)/8=(p:Int):=cN;have d3:(k:Int)%8=(x:Int):=cN;rw[b4,b5] at a;have C2:=cz λW(X:fh W P D M s)=>Cj P D M s q hq k hk W X;have Q:=uT s q k;have H:=rQ h0.1 q k;have J:=uU s q k;obtain⟨r,hr⟩:=dG (fB s q k);rw[hr] at C2 a Q H J;obtain⟨j,y,c1⟩:=r;simp only at C2 a Q H J;rw[a3] at C2;have a7:=cz H;have b1:=cz (show gU j.cR by rw[J];exact h0.2);have a8:Hid (∀W,CP_ 143 #[bV (cM 51 (nS y)),mO q,bU cq k] W λe w'=>∃v,e=cj v/\ir w' W.h.s v (lJ y q k)/\dS W w'):=cz λW=>H' y q k hk _ rfl W;clear hr H J b4 b5;go_upto_region 6 with(first|refine yT S rfl HA.o rfl λWB S=>?_|refine mG (C1.o _) ?_|(refine(C2.o _ S.x).mono ?_;rintro e WW ⟨N,rfl,hN,hp,hf⟩;have HN:=cz hN;replace S:=S.call hf (λD e=>e) eQ (dR P D M j) (λB h=>hp);clear hN)|refine fO ?_|refine fu λW S=>?_);rw[<-HN.o,a3] at a8;by_cases z:c1=0;case neg=>have g9:(c1 !=0)=cx:=fK.2 z;rw[c8 z] at a;obtain rfl:=a.o;clear z;go_wp2_with first|(refine mu ?_;exact⟨_,by rw[dk (q:=q) rfl];rfl,ir.nil _ _,S.x,S.fr⟩)|refine fO ?_|refine fu λW S=>?_
  subst z;rw[cX (λh=>h rfl)] at a;have C5:=cz λW(X:fh W P D M j)=>mD P D M j.cR j.base W X.row;have C6:=cz λW(X:fh W P D M j)=>count_map M j.mp W X.map;obtain⟨cn,b3⟩:=dG (fI j.mp);rw[b3] at C6 a;clear b3;by_cases g3:cn<3;case pos=>rw[c8 g3] at a;obtain rfl:=a.o;go_wp2_with first|refine mG (C5.o _ S.x) ?_|refine mG (C6.o _ S.x) ?_|(refine mu ?_;exact⟨_,by rw[dk (q:=q) rfl];rfl,ir.nil _ _,S.x,S.fr⟩)|refine fO ?_|refine fu λW S=>?_
  rw[cX g3] at a;have C7:=cz λW(X:fh W P D M j)hv=>Kq P D M j cN 5 kM (bX ba bl bc) b W X hv;have G:=J' b1.o b d2;have b6:=Jm j b;have I:=Dw j b;obtain⟨u,R⟩:=dG (tC j b);rw[R] at C7 a G b6 I;obtain⟨Y,U,c2⟩:=u;simp only at C7 a G b6 I;obtain⟨PB,a2⟩:=fU (cM 3 (dE U));rw[dk a2] at C7;have c5:=cz a2;have b9:=cz G;have a9:=cz (show gU Y.cR by rw[I];exact b1.o);clear R a2 G I;go_upto_region 11 with(first|refine mG (C5.o _ S.x) ?_|refine mG (C6.o _ S.x) ?_|(refine(C7.o _ S.x (HV.o _ S.fr)).mono ?_;rintro e W ⟨rfl,hp,hf⟩;replace S:=S.call hf (λD e=>e) eQ (dR P D M Y) (λB h=>hp))|refine fu λW S=>?_);by_cases C:c2=0;case neg=>have g9:(c2 !=0)=cx:=fK.2 C;rw[c8 C] at a;obtain rfl:=a.o;clear C;go_wp2_with first|(refine mu ?_;exact⟨_,by rw[dk (q:=q) rfl];rfl,ir.nil _ _,S.x,S.fr⟩)|refine fO ?_|refine fu λW S=>?_
  subst C;rw[cX (λh=>h rfl)] at a;obtain⟨N2,b8⟩:=yw (cM 24 (eX y.mE));obtain⟨N1,b7⟩:=yw (cM 24 (eX y.first));obtain⟨M2,a1⟩:=fU (cM 24 (eX (jn y.mE x U)));have d7:=cz a1;have C8:=cz λW(X:fh W P D M Y)=>vh P D M Y cN (jn y.mE x U) (λi _=>we a7.o.2.1 b9.o i) M2 a1 W X;have c:=oh (s:=Y) (by exact a9.o) (jn y.mE x U);have l:=nI Y (jn y.mE x U);have d:=oj Y (jn y.mE x U);obtain⟨u,R⟩:=dG (fE Y (jn y.mE x U));rw[R] at C8 a l d c;obtain⟨L,V,c3⟩:=u;simp only at C8 a l d c;obtain⟨PC,g⟩:=fU (cM 3 (dE V));rw[dk g] at C8;have c6:=cz g;have d1:=cz c;have c9:=cz (show gU L.cR by rw[d];exact a9.o);have a5:=cz (show L.dv.ops<=1000000000-0 by omega);clear a1 R g c d;go_upto_region 16 with(first|refine oM_ S 1 rfl (o:=24) (m:=24) (eX y.mE) (Ko y) b8.o ?_|refine ixN d5 rfl (by first|exact gQ (Value.int cq) d3) ?_|refine Ka S 0 rfl (o:=x*3) (m:=3) (show x*3+3<=24 by omega) rfl rfl c5.o fL (dJ _) (λw' hr e=>H9 hr x U e) λW S=>?_|(refine(C8.o _ S.x).mono ?_;rintro e W ⟨rfl,hp,hf⟩;replace S:=S.call hf (λD e=>e) eQ (dR P D M L) (λB h=>hp))|refine fO ?_|refine fu λW S=>?_);by_cases E:c3=0;case neg=>have g9:(c3 !=0)=cx:=fK.2 E;rw[c8 E] at a;obtain rfl:=a.o;clear E;go_wp2_with first|(refine mu ?_;exact⟨_,by rw[dk (q:=q) rfl];rfl,ir.nil _ _,S.x,S.fr⟩)|refine fO ?_|refine fu λW S=>?_
  subst E;rw[cX (λh=>h rfl)] at a;obtain⟨M1,Z⟩:=fU (cM 24 (eX (jn y.first p V)));have d6:=cz Z;have C9:=cz λW(X:fh W P D M L)=>vh P D M L (by have:=a5.o;omega) (jn y.first p V) (λi _=>we a7.o.1 d1.o i) M1 Z W X;have c:=oh (s:=L) (by exact c9.o) (jn y.first p V);have l:=nI L (jn y.first p V);have d:=oj L (jn y.first p V);obtain⟨u,R⟩:=dG (fE L (jn y.first p V));rw[R] at C9 a l d c;obtain⟨s4,p4,c4⟩:=u;simp only at C9 a l d c;obtain⟨PE,g⟩:=fU (cM 3 (dE p4));rw[dk g] at C9;have a6:=cz g;have d8:=cz c;clear Z R g c d;go_upto_region 21 with(first|refine oM_ S 3 rfl (o:=0) (m:=24) (eX y.first) (MV y) b7.o ?_|refine ixN d4 rfl (by first|rfl) ?_|refine Ka S 0 rfl (o:=p*3) (m:=3) (show p*3+3<=24 by omega) rfl rfl c6.o fL (dJ _) (λw' hr e=>H9 hr p V e) λW S=>?_|(refine(C9.o _ S.x).mono ?_;rintro e W ⟨rfl,hp,hf⟩;replace S:=S.call hf (λD e=>e) eQ (dR P D M s4) (λB h=>hp))|refine fO ?_|refine fu λW S=>?_);by_cases F:c4=0;case neg=>have g9:(c4 !=0)=cx:=fK.2 F;rw[c8 F] at a;obtain rfl:=a.o;clear F;go_wp2_with first|(refine mu ?_;exact⟨_,by rw[dk (q:=q) rfl];rfl,ir.nil _ _,S.x,S.fr⟩)|refine fO ?_|refine fu λW S=>?_
  subst F;rw[cX (λh=>h rfl)] at a;obtain rfl:=a.o;go_upto_region 23 with(fail);try simp only[By,FQ] at S
  obtain⟨TC,b2⟩:=S.nm;rw[b2] at S|-;clear b2;refine eR S dC [⟨TC,106,3,dE p4⟩,⟨WW.h.s,193,51,nS y⟩,⟨w.h.s,106,3,dE q⟩] Cz λW S=>?_;refine ij 0 (bV PE) rfl (rA (λw h=>h.row 0 rfl) rfl a6.o fL) ?_;refine ij 1 (bV N) rfl (rA (b:=WW.h.s) (t:=193) (n:=51) (f:=nS y) (λw h=>h.row 1 rfl) rfl HN.o U2) ?_;refine ij 2 (bV A) rfl (rA (b:=w.h.s) (t:=106) (n:=3) (f:=dE q) (λw h=>h.row 2 rfl) rfl HA.o fL) ?_;refine dh 3 _ ?_;refine kK 4 λK hK=>?_;go_wp2_with fail;refine(a8.o _).mono ?_;rintro e W ⟨v,rfl,ho,hb⟩;replace S:=S.iw hb ho rfl rfl;clear ho;refine gy hK ?_;refine kK 5 λK hK=>?_;refine km S 6 rfl rfl rfl a6.o fL (dJ _) λW S=>?_;refine gy hK ?_;refine dh 6 _ ?_;refine dh 7 _ ?_;refine qG ?_;go_wp2_with (refine mu ?_;exact⟨_,by rw[dk (q:=p4) rfl];rfl,S.o0,S.x,S.fr⟩)
end