/- Part 9 of the proof of WholeSnaps. No conditions. -/
import Derived.Test.YtklligbjoplbgaaGreatPah
import Derived.Shelf.Sort.Plain
import Derived.Sort.OwnSortedInts
import Derived.Shelf.Slices.In.SortNone
import Derived.Lib.SortBridge
import Derived.Lib.SlBytesConst
set_option linter.all false
open List renaming length->List.n
open String renaming length->String.n
open Array renaming size->Array.s,toList->Array.t
open ByteArray renaming size->ByteArray.s,toList->ByteArray.t
open Go.TypeInfo renaming size->Go.TypeInfo.s
open Go.RowKit.Below renaming size->Go.RowKit.Below.s
open Option renaming toList->Option.t,some->cu,none->cw
open Go.World renaming heap->Go.World.h
open Int renaming toNat->Int.m
open Go.Value renaming int->bU,agg->bV,pointer->bW,slice->bX,string->bY,bool->bZ,tuple->cg
open Go.Ending renaming returned->cj
open Go.IntKind renaming i64->cq,u64->ct
open Bool renaming true->cx,false->cy
namespace Go.Proofs.YtklligbjoplbgaaGreat
set_option maxRecDepth 100000
set_option maxHeartbeats 64000000
open Go.RowKit Lib List Nat _root_.Go.Proofs.Tryz Go.Shelf
variable {a:Act}{af:Array Edge}{ops:Array Oper}{Q:Exit->Act->cS->Prop}{y:GT}{i:Int}{B ats bs l l2 text:cV}{X X':cV->cS->Prop}{C tk:List (Int×Int)}{ms:List (List cQ)}{zs:List Int}{ts:List cV}{O:List O4}{rest:List Oper}{h dK ps:List cQ}{L:List R4}{xs:List c7}{K N b b0 base c dst k n o r st sz z:Nat}{D E:Nat->cV}{m m':Nat->Nat}{A:Nat->Prop}{d:Option Nat}{P:oN}{s:Pl}{t:Pl×(cQ×(List cQ×Int))}{q top:cQ}{p:String}{T e t2:dU}{u:rC}{v:c7}{W w w' w0:cS}
def oJ{α:Type}(n:Nat):Nat->List α->List (List α)
 |0,_=> []
 |k+1,l=>l.take n::oJ n k (l.drop n)
theorem JC{α:Type}(n:Nat):∀(k:Nat)(l:List α),(finRange k).map (λj=>(l.drop (j.val*n)).take n)=oJ n k l
 |0,_=>rfl
 |k+1,l=>by
  rw[finRange_succ,yq,wO,oJ,<-JC n k (l.drop n)];congr 1
  . simp
  . apply map_congr_left;intro j _;simp only[Function.comp,drop_drop,Fin.val_succ];grind
theorem uE{α:Type}(n:Nat):∀(k:Nat)(l:List α),(oJ n k l).n=k
 |0,_=>rfl
 |k+1,l=>by rw[oJ,lr,uE]
def vq(D:Nat->cV)(st:Nat)(zs:cV):List cQ:=zs.map λa=>(a,st,kU (D a))
def Lv(D:Nat->cV)(n:Nat):List cQ->List cQ->Prop
 | [],low=>low=[]
 |q::high,low=>low≠ []/\q≠cX/\GN D n q/\nd D q=(λi=>(low.take 8).getD i cX)/\Lv D n high (low.drop 8)
theorem ZX(c:Nat):∀(d a b:List cQ)(s:Pl),s.dv.di=cy->(∀q∈a,q≠cX)->Lv s.dv.nw s.dv.n d a->b.n+a.n=c->∃t,d.foldl (fU c) (s,(b,0))=(t,(b++a,0))/\PW (λ_=>False) s t/\t.mp=s.mp/\t.dv.di=cy
 | [],a,b,s,hd,_,h,_=>by cases h;exact⟨s,by simp,.refl _,ae,hd⟩
 |q::d,a,b,s,hd,hn,h,hw=>by
  obtain⟨o,r,g,i,j⟩:=h;have x:=IE hd g;have e:=ye (A:=λ_=>False) s q;have f:(du s q).1.dv.di=cy:=by grind[du,gr,ik,fC]
  have v:min 8 (c-b.n)=(a.take 8).n:=by grind
  have u:Aa (nd s.dv.nw q) (a.take 8).n=cx:=by
   unfold Aa;grind
  have tk:(mr (nd s.dv.nw q)).take (a.take 8).n=a.take 8:=by
   rw[i];unfold mr;apply xK;grind
  have st:fU c (s,(b,0)) q=((du s q).1,(b++a.take 8,0)):=by
   simp_all[fU]
  rw[zG,st];obtain⟨t,w,l,m,n⟩:=ZX c d (a.drop 8) (b++a.take 8) (du s q).1 f (λp k=>hn p (mS k)) (by rw[e.1.nn,e.1.wr.n];exact j) jv;exact⟨t,by simp_all,e.1.trans l,m.trans e.2,n⟩
theorem Lv.congr:∀{a b:List cQ},Lv D n a b->(∀q∈a,E q.1=D q.1)->Lv E n a b
 | [],b,h,_=>h
 |q::a,b,⟨h1,h2,h3,h4,h5⟩,e=>by
  have c:=e q nC;refine⟨h1,h2,⟨?_,λ_=>by rw[c];exact h3.2 h2⟩,by grind[xq],h5.congr λp d=>e p (lu _ d)⟩;rcases h3.1 with h|h<;>grind[GP]
theorem ahU{D:Nat->cV}{n st:Nat}(d:1<=st):∀(zs:cV)(b:List cQ),(∀q∈b,dD q)->b.n<=8*zs.n->8*zs.n<b.n+8->(∀a∈zs,a<n)->(∀j(h:j<zs.n)(k:j<(oJ 8 zs.n b).n),(mW λi=>(oJ 8 zs.n b)[j].getD i cX)=cu (D zs[j]))->Lv D n (vq D st zs) b
 | [],b,_,h,_,_,_=>(by simp_all:b=[])
 |a::zs,b,hp,h1,h2,h3,h4=>by
  have e:=h4 0 eQ (by simp[oJ]);simp only[getElem_cons_zero,oJ,lr] at e;have g:((a,st,kU (D a)):cQ)≠cX:=λe=>by simp_all[cX]
  have r:=(Kz e (λi _=>by
   grind[dV]) (λi m=>by
   grind)).2
  have o:0<b.n:=by grind
  refine⟨λh=>by grind,g,⟨.inr ⟨h3 a nC,ae⟩,λ_=>by rw[r];rfl⟩,by simp_all[nd],?_⟩;refine ahU d zs (b.drop 8) (λq f=>hp q (mS f)) jv jv (λc hc=>h3 c (lu _ hc)) λj l h6=>?_;have:=h4 (j+1) jv (by grind[uE])
  grind[oJ]
theorem SO{D:Nat->cV}{st:Nat}:∀(zs:cV)(ps:List cV),zs.n=ps.n->(∀j(h:j<zs.n)(e:j<ps.n),D zs[j]=pF ps[j])->zipWith (λa p=>(a,st,kU (pF p))) zs ps=vq D st zs
 | [],_,_,_=>by rfl
 |a::zs,[],h,_=>by simp at h
 |a::zs,p::ps,h,g=>by
  have b:=g 0 eQ eQ;simp only[getElem_cons_zero] at b;have:=SO (D:=D) (st:=st) zs ps bL λj c d=>by have:=g (j+1) am9 (by simpa using d);simpa using this
  unfold vq at*;simp[b,this]
theorem afd(l:Nat):l<=8*fu l 8/\8*fu l 8<l+8:=by grind[fu]
theorem Yq(B:1<=s.cR){zs post:cV}(C:zs.n=fu ps.n 8)(A:zs.Nodup)(b:∀q∈ps,dD q):
 ((eU s ps (zs++post)).2.2=0->(eU s ps (zs++post)).2.1=vq (eU s ps (zs++post)).1.dv.nw s.cR zs/\PW (·∈zs) s (eU s ps (zs++post)).1/\Lv (eU s ps (zs++post)).1.dv.nw s.dv.n (eU s ps (zs++post)).2.1 ps/\(∀a∈zs,j0 ((eU s ps (zs++post)).1.dv.nw a))/\∀a∈zs,a<s.dv.n)/\
 (s.dv.al->(∀a∈zs,s.mp a=2/\a<1024/\a<s.dv.n)->(∀q∈ps,ij q=cx)->(eU s ps (zs++post)).2.2=0):=by
 have x:eU s ps (zs++post)=(oJ 8 zs.n ps).foldl (gQ (zs++post)) (s,([],0)):=by unfold eU;rw[C,<-JC];rfl
 rw[x];have c:∀p∈oJ 8 zs.n ps,(mW λi=>p.getD i cX).isSome=cx->j0 (FQ p):=λp _ h=>by grind[FQ,mW,q8,mE,pX,j0]
 have t:=NN (dZ:=zs++post) ((oJ 8 zs.n ps).map FQ) zs [] post s [] ae (by simp[uE]) eQ A;refine⟨λh=>?_,λu v F=>?_⟩
 . (have r:=JB (oJ 8 zs.n ps) (s,([],0)) (.inl h);have ns:=r.2 ae h;rw[r.1] at h|-;obtain⟨m,D,o,E⟩:=t.1 h;have e:∀j(h:j<zs.n)(f:j<((oJ 8 zs.n ps).map FQ).n),(foldl (ib (zs++post)) (s,([],0)) ((oJ 8 zs.n ps).map FQ)).1.dv.nw zs[j]=((oJ 8 zs.n ps).map FQ)[j]:=λj h f=>by rw[o j h f,getElem_map];have z:=mP (l:=oJ 8 zs.n ps) (n:=j) jv;exact Ji (c _ z jv).1);have w:=SO (st:=s.cR) zs _ (by simp[uE]) o;rw[pN] at m;refine⟨m.trans w,D,?_,λa y=>?_,E⟩;(case refine_2=>obtain⟨j,G,rfl⟩:=zF y;grind[uE]);grind[afd,ahU]
 (have d:∀p∈oJ 8 zs.n ps,(mW λi=>p.getD i cX).isSome=cx:=by(have:∀(k:Nat)(l:List cQ),(∀q∈l,ij q=cx)->∀p∈oJ 8 k l,(mW λi=>p.getD i cX).isSome=cx:=by intro k;induction k with|zero=>intro l _ p b;cases b|succ k ih=>intro l H p b;rcases iZ.1 b with rfl|b;(have:KP (λi=>(l.take 8).getD i cX) 8=cx:=by grind[KP,ij]);simp_all[mW];grind);grind);rw[(JB (oJ 8 zs.n ps) (s,([],0)) (.inr d)).1];refine t.2 u v λp b=>?_;obtain⟨q,g,rfl⟩:=gI.1 b;rw[(c q g (d q g)).1];omega
inductive Path(D:Nat->cV)(n:Nat):List cQ->List (List cQ)->List cQ->Prop
 |nil (h:List cQ):Path D n h [] h
 |cons {h m l:List cQ} {ms:List (List cQ)} (a:Lv D n h m) (b:Path D n m ms l):Path D n h (m::ms) l
theorem Path.snoc{m l:List cQ}(p:Path D n h ms m)(a:Lv D n m l):Path D n h (ms++[l]) l:=by induction p with|nil h=>exact .cons a (.nil l)|cons b _ ih=>exact .cons b (ih a)
theorem QF:∀(ms:List (List cQ))(c e d:List cQ)(s:Pl),s.dv.di=cy->Path s.dv.nw s.dv.n c ms e->(∀m∈ms,∀q∈m,q≠cX)->∃t,(ms.map length).foldl iW (s,(c,d,0))=(t,(e,d++ms.flatten,0))/\PW (λ_=>False) s t/\t.mp=s.mp/\t.dv.di=cy
 | [],c,e,d,s,hd,p,_=>by cases p;exact⟨s,by simp,.refl _,ae,hd⟩
 |m::ms,c,e,d,s,hd,p,hn=>by
  cases p with
  |cons a b=>
   obtain⟨t,o,f,k,l⟩:=ZX m.n c m [] s hd (hn m nC) a eQ;have st:iW (s,(c,d,0)) m.n=(t,(m,d++m,0)):=by
    grind[iW,fV]
   obtain⟨u,n,h,i,j⟩:=QF ms m e (d++m) t l (by rw[f.nn,f.wr.n];exact b) (λx g=>hn x (lu _ g));exact⟨u,by grind,f.trans h,i.trans k,j⟩
def ahV{t:Pl}(p:PW A s t)(h:lX s.dv.nw)(g:∀a,A a->j0 (t.dv.nw a)):lX t.dv.nw:=λa=>by by_cases e:A a;exact g a e;rw[p.nw a e];exact h a
theorem QG(D:Nat->cV)(st:Nat)(zs:cV):(vq D st zs).map Prod.fst=zs:=by unfold vq;rw[wO];exact map_id'' (λ_=>ae) _
theorem IJ{D:Nat->cV}{st:Nat}{zs:cV}(h:lX D)(c:gy st)(e:∀a∈zs,a<1024):∀q∈vq D st zs,dD q:=by intro q b;obtain⟨a,d,rfl⟩:=gI.1 b;exact⟨by grind,c,DE _ (h a).2⟩
theorem Lk{α:Type}{f:Pl×(List cQ×Int)->α->Pl×(List cQ×Int)}(h:∀a x,(f a x).1.mp=a.1.mp):∀(l:List α)(a:Pl×(List cQ×Int)),(l.foldl f a).1.mp=a.1.mp
 | [],_=>rfl
 |x::l,a=>(Lk h l (f a x)).trans (h a x)
theorem GH(dZ:cV)(a:Pl×(List cQ×Int))(b:cV):(ib dZ a b).1.mp=a.1.mp:=by grind[By,ib]
theorem VJ(dZ:cV)(a:Pl×(List cQ×Int))(b:List cQ):(gQ dZ a b).1.mp=a.1.mp:=by grind[Ee,GH]
theorem VK(s:Pl)(ps:List cQ)(dZ:cV):(eU s ps dZ).1.mp=s.mp:=Lk (VJ dZ) _ _
theorem IK{f:Nat}{s:Pl}{c:Int}{dZ:cV}{L:List cQ}(h:c≠0):iX f (s,(L,c)) dZ=(s,(L,c)):=by cases f with|zero=>rfl|succ f=>simp_all[iX]
structure ahW(D:Nat->cV)(n st:Nat)(top:cQ)(ms:List (List cQ))(L:List cQ)(ats:cV)(ls:cV):Prop where
 path:Path D n [top] ms L
 len:([top]::ms).map length=ls.reverse
 perm:(([top]::ms).flatten.map Prod.fst).Perm (ats++L.map Prod.fst)
 st:∀m∈ [top]::ms,∀q∈m,q∈L∨(q.2.1=st/\q≠cX)
 parts:dD top
theorem QH:∀(f:Nat)(s:Pl)(L:List cQ)(ats:cV),1<=s.cR->gy s.cR->lX s.dv.nw->s.dv.n<=1024->(∀q∈L,dD q)->1<=L.n->L.n<=8^f->ats.n+L.n=(jW f L.n).sum->ats.Nodup->
 ((iX f (s,(L,0)) ats).2.2=0->∃top ms,(iX f (s,(L,0)) ats).2.1=[top]/\ahW (iX f (s,(L,0)) ats).1.dv.nw s.dv.n s.cR top ms L ats (jW f L.n)/\PW (·∈ats) s (iX f (s,(L,0)) ats).1/\lX (iX f (s,(L,0)) ats).1.dv.nw)/\
 (s.dv.al->(∀a∈ats,s.mp a=2/\4<=a/\a<s.dv.n)->s.cR<=281474976710655->(∀q∈L,ij q=cx)->(iX f (s,(L,0)) ats).2.2=0):=by
 have o:∀(g:Nat)(s:Pl)(L:List cQ)(ats:cV),lX s.dv.nw->(∀q∈L,dD q)->L.n=1->ats.n+L.n=(jW g L.n).sum->∃top ms,L=[top]/\ahW s.dv.nw s.dv.n s.cR top ms L ats (jW g L.n)/\PW (·∈ats) s s/\lX s.dv.nw:=by
  intro g s L ats j l u v;have e:jW g 1=[1]:=by cases g<;>rfl
  match L,u with
  | [top],_=>
   simp only[length_singleton,e,sum_singleton] at v;have:ats=[]:=yr cN;subst this;exact⟨top,[],ae,⟨.nil _,by simp[e],by simp,λm k q n=>.inl jv,l top nC⟩,.refl _,j⟩
 intro f;induction f with|zero=>intro s L ats _ _ j _ l u v p _;obtain⟨top,ms,t,d⟩:=o 0 s L ats j l cN p;exact⟨λ_=>⟨top,ms,t,d⟩,λ_ _ _ _=>ae⟩|succ f ih=>intro s L ats B O j M l u v p I;by_cases J:1<L.n;(have e:iX (f+1) (s,(L,0)) ats=iX f (eU s L ats) (ats.drop (eU s L ats).2.1.n):=by rw[iX];grind);(have z:jW (f+1) L.n=L.n::jW f ((L.n+7)/8):=by rw[jW,df J]);(have hh:=tE f ((L.n+7)/8);rw[z,sum_cons] at p;have pn:fu L.n 8=(L.n+7)/8:=by rfl);have y:ats=ats.take ((L.n+7)/8)++ats.drop ((L.n+7)/8):=(Aj _ _).symm;have i:=I;rw[y,yy] at i;have ns:=Yq B (post:=ats.drop ((L.n+7)/8)) (by grind) i.1 l;rw[<-y] at ns;rw[e];have ZQ:=VK s L ats;generalize eU s L ats=N at*;obtain⟨V,A,c⟩:=N;simp only at ns ZQ|-;generalize hk1:(L.n+7)/8=K at*;have Y:K<=8^f:=cN;by_cases hc:c=0;(subst hc;obtain⟨x,b,U,X,lt⟩:=ns.1 ae;have T:A.n=K:=by grind[vq]);have w:=ahV b j X;(have H:A.map Prod.fst=ats.take K:=by grind[QG]);obtain⟨C,Q⟩:=ih V A (ats.drop K) (by rw[b.st];exact B) (by rw[b.st];exact O) w (by rw[b.wr.n];exact M) (by grind[IJ]) cN cN jv i.2.1;rw[T] at C|-;refine⟨λh=>?_,λE F G Z=>Q (b.wr.al E) (λa r=>?_) (by rw[b.st];exact G) ?_⟩;obtain⟨top,ms,t,d,D,R⟩:=C h;rw[b.wr.n,b.st] at d;refine⟨top,ms++[L],t,⟨d.path.snoc (U.congr λq n=>D.nw _ λh=>?_),?_,?_,?_,d.parts⟩,(b.mono λa r=>lQ r).trans (D.mono (λa h=>mS h)),R⟩;grind;rw[z,reverse_cons,<-d.len];simp;have:=d.perm;grind;intro m k q n;rw[<-uG,gH] at k;rcases k with k|k;rcases d.st m k q n with h|h;rw[x] at h;obtain⟨a,_,rfl⟩:=gI.1 h;exact .inr ⟨ae,λe=>by have:=gD (·.2.1) e;grind[cX]⟩;grind;grind;rw[ZQ,b.wr.n];grind;intro q n;rw[x] at n;obtain⟨a,r,rfl⟩:=gI.1 n;have:=F a (lQ r);unfold ij;grind;grind[IK];(obtain⟨top,ms,t,d⟩:=o (f+1) s L ats j l cN p;have e:iX (f+1) (s,(L,0)) ats=(s,(L,0)):=by simp_all[iX]);grind
theorem QI:∀(zs:cV)(st:Nat)(b:cV)(D:Nat->cV)(s:Pl),1<=st->s.dv.di=cy->(∀a∈zs,a<s.dv.n/\s.dv.nw a=D a)->∃t,(vq D st zs).foldl jU (s,(b,0))=(t,(b++zs.flatMap D,0))/\PW (λ_=>False) s t/\t.mp=s.mp/\t.dv.di=cy
 | [],st,b,D,s,_,hd,_=>⟨s,by simp[vq],.refl _,ae,hd⟩
 |a::zs,st,b,D,s,h0,hd,h=>by
  have f:=h a nC;have m:((a,st,kU (D a)):cQ)≠cX:=λe=>by simp_all[cX]
  have g:=SJ (q:=(a,st,kU (D a))) hd (.inr ⟨f.1,by rw[f.2]⟩);have d:=NA (A:=λ_=>False) s (a,st,kU (D a));have j:(gr s (a,st,kU (D a))).1.dv.di=cy:=by grind[gr,ik,fC]
  have e:jU (s,(b,0)) (a,st,kU (D a))=((gr s (a,st,kU (D a))).1,(b++D a,0)):=by
   simp_all[jU,Ea]
  obtain⟨t,l,k,i⟩:=QI zs st (b++D a) D (gr s (a,st,kU (D a))).1 h0 j λc hc=>by
   rw[d.1.wr.n,d.1.nn];grind
  refine⟨t,?_,d.1.trans k,i.1.trans d.2,i.2⟩
  grind[vq]
theorem QJ:∀(k:Nat)(bs:cV),bs.n<=128*k->128*k<bs.n+128->(oJ 128 k bs).flatMap pF=bs++replicate (128*k-bs.n) 0
 |0,bs,h,_=>by
  grind[oJ]
 |k+1,bs,h1,h2=>by
  rw[oJ,BF];by_cases h:k=0
  . subst h;have e:bs.take 128=bs:=nU cN;rw[oJ,e,flatMap_nil,wR];rfl
  . have:=QJ k (bs.drop 128) (by rw[tY];omega) (by rw[tY];omega);rw[this,Ji bj,<-wP,Aj,tY];congr 2;omega
structure Ef(D:Nat->cV)(n st:Nat)(cO:cQ)(bs:cV)(all:List cQ)(ats:cV):Prop where
 load:∀u:Pl,u.dv.di=cy->u.dv.n=n->(∀a∈ats,u.dv.nw a=D a)->∃t,eP u cO (bs.n:Nat)=(t,(bs,all,0))/\PW (λ_=>False) u t/\t.mp=u.mp/\t.dv.di=cy
 perm:(all.map Prod.fst).Perm ats
 st:∀q∈all,q.2.1=st/\q≠cX
 top:cO∈all
 parts:dD cO
def afe:∀k:Fin 513,jW 20 k=jW 10 k:=by decide+kernel
theorem Path.congr{l:List cQ}(p:Path D n h ms l)(e:∀m∈h::ms,m≠l->∀q∈m,E q.1=D q.1)(c:∀q∈l,E q.1=D q.1):Path E n h ms l:=by induction p with|nil h=>exact .nil h|@cons h m l ms a b ih=>refine .cons (a.congr λq f=>?_) (ih (λx d=>e x (lu _ d)) c);grind
theorem EU(hs:1<=s.cR)(hu:gy s.cR)(hd:lX s.dv.nw)(hn:s.dv.n<=1024)(hb:∀x∈bs,x<256)(nd:ats.Nodup):
 ((fH s bs ats).2.2=0->1<=bs.n/\PW (·∈ats) s (fH s bs ats).1/\lX (fH s bs ats).1.dv.nw/\∃all,Ef (fH s bs ats).1.dv.nw s.dv.n s.cR (fH s bs ats).2.1 bs all ats)/\(fH s bs ats).1.mp=s.mp/\
 (s.dv.al->(∀a∈ats,s.mp a=2/\4<=a/\a<s.dv.n)->s.cR<=281474976710655->1<=bs.n->bs.n<=65535->ats.n=jS (bs.n:Nat)->(fH s bs ats).2.2=0):=by
 have g:(fH s bs ats).1.mp=s.mp:=by
  have lm:∀(f:Nat)(a:Pl×(List cQ×Int))(l:cV),(iX f a l).1.mp=a.1.mp:=by intro f;induction f<;>grind[iX,VK]
  unfold fH;split;rfl;simp only;split<;>exact(lm _ _ _).trans (Lk (GH ats) _ _)
 refine⟨?_,g,?_⟩<;>clear g
 all_goals
  by_cases hc:jS (bs.n:Nat)=0∨ats.n≠jS (bs.n:Nat)
 simp_all[fH];rotate_left;(intro _ _ _ h1 h2 h3;exfalso;have h4:=tE 10 ((bs.n+127)/128);have:jS (bs.n:Nat)=(jW 10 ((bs.n+127)/128)).sum:=by unfold jS kM;grind);omega;rotate_left
 all_goals
  have H:1<=bs.n/\bs.n<=65535:=by
   apply Dk;intro h;apply hc;left;unfold jS kM;grind
  have b3:jS (bs.n:Nat)=(jW 10 ((bs.n+127)/128)).sum:=by
   unfold jS kM;grind
  have a9:ats.n=(jW 10 ((bs.n+127)/128)).sum:=cN;have ek:fu bs.n 128=(bs.n+127)/128:=by rfl
  have b2:=tE 10 ((bs.n+127)/128);have G:jW 20 ((bs.n+127)/128)=jW 10 ((bs.n+127)/128):=afe ⟨(bs.n+127)/128,cN⟩;have I:kM (bs.n:Nat)=jW 10 ((bs.n+127)/128):=by unfold kM;grind
  generalize hK:(bs.n+127)/128=K at*;have ea:ats=ats.take K++ats.drop K:=(Aj _ _).symm;have hz:(ats.take K).n=K:=by grind
  have i:=nd;rw[ea,yy] at i;have et:gz s bs ats=(oJ 128 K bs).foldl (ib ats) (s,([],0)):=by
   unfold gz;rw[<-JC,ek];rfl
  have y:=NN (dZ:=ats) (oJ 128 K bs) (ats.take K) [] (ats.drop K) s [] ae (by rw[hz,uE]) ea i.1;rw[<-et] at y;have cl:∀p∈oJ 128 K bs,p.n<=128/\∀x∈p,x<256:=by
   have:∀(k:Nat)(l:cV),(∀x∈l,x<256)->∀p∈oJ 128 k l,p.n<=128/\∀x∈p,x<256:=by
    intro k
    induction k with
    |zero=>grind[oJ]
    |succ k ih=>
     intro l H p z;rcases iZ.1 z with rfl|z
     . grind
     . exact ih _ (λx hx=>H x (mS hx)) p z
   exact this K bs hb
  unfold fH;rw[cZ hc];generalize gz s bs ats=T at*;obtain⟨d,L,c⟩:=T;simp only at y|-;have lp:c=0->1<=d.cR/\gy d.cR/\lX d.dv.nw/\d.dv.n<=1024/\(∀q∈L,dD q)/\L=vq d.dv.nw s.cR (ats.take K)/\L.n=K/\(ats.drop K).n+L.n=(jW 20 L.n).sum/\d.cR=s.cR:=λr=>by
   obtain⟨k1,n,k3,k4⟩:=y.1 r;have F:L=vq d.dv.nw s.cR (ats.take K):=by grind[SO,uE]
   have lL:L.n=K:=by grind[vq]
   have O:lX d.dv.nw:=ahV n hd λa v=>by
    obtain⟨j,hj,rfl⟩:=zF v
    grind[G6]
   refine⟨by rw[n.st];exact hs,by rw[n.st];exact hu,O,by rw[n.wr.n];exact hn,?_,F,lL,?_,n.st⟩
   . grind[IJ]
   grind
 by_cases r:c=0;subst r;obtain⟨Q,U,V,Y,Z,p6,p7,p8,p9⟩:=lp ae;obtain⟨k1,n,k3,k4⟩:=y.1 ae;have sl:=(QH 20 d L (ats.drop K) Q U V Y Z cN cN p8 i.2.1).1;rw[p7] at sl|-;generalize iX 20 (d,(L,0)) (ats.drop K)=R at*;obtain⟨s2,X,c2⟩:=R;simp only at sl|-;split;grind;(next h=>(intro _;obtain⟨top,ms,F,B,q1,q2⟩:=sl cN;subst F;rw[p9,n.wr.n,G] at B;have o:∀a∈ats.take K,a∈ats:=λa h=>lQ h;have D:∀a∈ats.drop K,a∈ats:=λa h=>mS h;have b1:L.map Prod.fst=ats.take K:=by grind[QG]);(have E:∀q∈L,q.2.1=s.cR/\q≠cX:=λq b=>by rw[p6] at b;obtain⟨a,_,rfl⟩:=gI.1 b;exact⟨ae,λe=>by have:=gD (·.2.1) e;grind[cX]⟩);(have st:∀m∈ [top]::ms,∀q∈m,q.2.1=s.cR/\q≠cX:=λm g q b=>(B.st m g q b).elim (E q) id;have C:(([top]::ms).flatten.map Prod.fst).Perm ats:=by refine B.perm.trans ?_;grind);have M:∀m∈ [top]::ms,∀q∈m,q.1∈ats:=λm g q b=>C.mem_iff.1 (gI.2 ⟨q,List.mem_flatten.2 ⟨m,g,b⟩,ae⟩);refine⟨H.1,(n.mono o).trans (q1.mono D),q2,([top]::ms).flatten,⟨λu J A w=>?_,C,λq b=>?_,by simp,B.parts⟩⟩;(have a7:Path u.dv.nw u.dv.n [top] ms L:=by rw[A];exact B.path.congr (λm g _ q b=>w _ (M m g q b)) λq b=>w _ (o _ jv));(obtain⟨t,j1,N,j3,j4⟩:=QF ms [top] L [top] u J a7 λm g q b=>(st m (lu _ g) q b).2;obtain⟨t2,j5,j6,j7⟩:=QI (ats.take K) s.cR [] d.dv.nw t hs j4 λa v=>by rw[N.wr.n,N.nn,A,w a (o a v),q1.nw a λh=>i.2.2 a v a h ae];grind);(have dn:qW (bs.n:Nat)=ms.map length:=by unfold qW;rw[I,<-tail_reverse,<-B.len];rfl);(have a8:(ats.take K).flatMap d.dv.nw=bs++replicate (128*K-bs.n) 0:=by rw[<-QJ K bs cN cN,flatMap_def,flatMap_def];congr 1;apply ext_getElem;grind[uE];grind);(refine⟨t2,?_,N.trans j6,j7.1.trans j3,j7.2⟩;have tx:pH t L=(t2,(bs++replicate (128*K-bs.n) 0,0)):=by grind[pH]);(have ld:eX t L (bs.n:Int).m=(t2,(bs,0)):=by unfold eX;rw[tx];simp);(show eP u top (bs.n:Nat)=_;unfold eP;rw[cZ jv];simp only[dn,j1,ne_eq,xy,mq,ld,flatten_cons]);obtain⟨m,g,b⟩:=List.mem_flatten.1 b;grind);rw[IK r];grind;(intro a1 a2 a3 a4 a5 a6;have c0:c=0:=y.2 a1 (λa v=>by grind) λp z=>(cl p z).1;subst c0;obtain⟨Q,U,V,Y,Z,p6,p7,p8,p9⟩:=lp ae;obtain⟨k1,n,k3,k4⟩:=y.1 ae;have ZQ:d.mp=s.mp:=by grind[Lk,GH]);(have sl:=(QH 20 d L (ats.drop K) Q U V Y Z cN cN p8 i.2.1).2 (n.wr.al a1) (λa v=>by rw[ZQ,n.wr.n];grind) cN λq b=>by rw[p6] at b;obtain⟨a,v,rfl⟩:=gI.1 b;have:=a2 a (lQ v);unfold ij;grind);grind
theorem JD(m:Nat->Nat):∀k,k<=fR m->(iI m k).1.n=k/\(iI m k).1.Nodup/\(∀a∈(iI m k).1,m a=1)/\∀a,(a∈(iI m k).1->(iI m k).2 a=2)/\(a∉(iI m k).1->(iI m k).2 a=m a):=by
 intro k
 induction k with
 |zero=>intro _;exact⟨ae,nodup_nil,λa h=>absurd h jK,λa=>⟨λh=>absurd h jK,λ_=>ae⟩⟩
 |succ k ih=>
  intro h;obtain⟨g,j,l,c⟩:=ih cN;have hc:=(zN m (k:=k) cN).1;obtain⟨i,b⟩:=Gd (st:=(iI m k).2) cN;have d:=(qv b).2.1;have f:i∉(iI m k).1:=λe=>by grind
  rw[(c i).2 f] at d;rw[BZ m b];grind[kC]
def Bz(c:cQ)(a:Nat)(d:cQ)(b:Nat):cV:=(iM c++qQ 4 a)++(iM d++qQ 4 b)
theorem Yr{a b:cQ}{c d:Nat}{t:cV}(h:Az a c b d=cu t):ij a=cx/\ij b=cx/\t=Bz a c b d:=by grind[Az,qj,ij,Bz]
def ZY(c:cQ)(a:Nat)(d:cQ)(b:Nat):(Bz c a d b).n=40:=by rfl
theorem aiX(d:cQ)(b:Nat)(e:cQ)(c:Nat):∀x∈Bz d b e c,x<256:=by unfold Bz;intro x a;simp only[gH] at a;rcases a with(h|h)|h|h;exact pX _ x h;exact yG _ _ x h;exact pX _ x h;exact yG _ _ x h
theorem aiY{l:List kQ}{b:List Int}(h:pB l=cu b):∀x∈ry b,x<256:=by
 unfold pB at h;split at h;next hc=>cases h;intro x c;unfold ry at c;obtain⟨y,a,rfl⟩:=gI.1 c;obtain⟨m,d,a⟩:=Dh.1 a;have:=rz.1 hc.2 m d;unfold Wh ku at this;unfold tp at a;grind
 cases h
theorem IL{t:Int}{l:List (Int×Int)}{b:cV}(h:jA t l=cu b):b.n=fX t/\∀x∈b,x<256:=by grind[jA,gh,ry,yG,aiY]
theorem Ys{d:Dv}{i:Int}{s:cV}(h:(iq d i s).2=0):(iq d i s).1.di=cy:=by
 have k:(j8 (fC d)).2=cx->(j8 (fC d)).1.di=cy:=by grind[j8]
 unfold iq at*;grind
theorem NO{b:cV}(h:(eW s i b).2.2=0):(eW s i b).1.dv.di=cy:=by
 unfold eW at*;split at h;cases h
 next h1=>
 split at h;next h2=>rw[cZ h1,df h2];grind[ky,Ys]
 cases h
structure Laid(D:Nat->cV)(n st:Nat)(q:cQ)(text:cV)(tk:List (Int×Int))(dK:List cQ)(ats:cV):Prop where
 tab:∃p1 p2 l m sp ats1 ats2,jA (n:Nat) tk=cu sp/\ij p1=cx/\ij p2=cx/\dD p1/\dD p2/\D q.1=pF (Bz p1 text.n p2 sp.n)/\q.2.2=kU (D q.1)/\q.1<n/\q≠cX/\Ef D n st p1 text l ats1/\Ef D n st p2 sp m ats2/\dK=([q]++l)++m/\(∀a∈ats1,a∈ats)/\(∀a∈ats2,a∈ats)/\q.1∈ats
 perm:(dK.map Prod.fst).Perm ats
 st:∀q∈dK,q.2.1=st/\q≠cX
def Ef.congr{cO:cQ}{all:List cQ}(h:Ef D n st cO bs all ats)(e:∀a∈ats,E a=D a):Ef E n st cO bs all ats:=
 ⟨λu c d f=>h.load u c d λa b=>(f a b).trans (e a b),h.perm,h.st,h.top,h.parts⟩
theorem NP(O:1<=s.cR)(Q:gy s.cR)(hd:lX s.dv.nw)(N:s.dv.n<=1024)(hb:∀x∈text,x<256)(nd:ats.Nodup)(hl:ats.n=1+jS (text.n:Nat)+jS (fX (s.dv.n:Nat):Nat))(hr:∀a∈ats,a<1024):
 ((gG s text ats).2.2.2=0->Laid (gG s text ats).1.dv.nw s.dv.n s.cR (gG s text ats).2.1 text (lq s.mp 2) (gG s text ats).2.2.1 ats/\PW (·∈ats) s (gG s text ats).1/\(gG s text ats).1.mp=s.mp):=by
 intro h;have ea:ats.n-1<ats.n:=cN;have split:ats=ats.take (jS (text.n:Nat))++((ats.take (ats.n-1)).drop (jS (text.n:Nat))++[ats.getD (ats.n-1) 0]):=by
  have h1:ats.take (jS (text.n:Nat))=(ats.take (ats.n-1)).take (jS (text.n:Nat)):=by grind
  grind[append_assoc,take_append_drop,drop_eq_getElem_cons]
 have d:=nd;rw[split,yy,yy] at d;have E:=EU O Q hd N hb d.1;unfold gG mw2 at h|-;generalize fH s text (ats.take (jS (text.n:Nat)))=X at*;obtain⟨K,n,V⟩:=X;simp only at h E|-;by_cases e1:V=0;case neg=>grind
 rw[cZ cN] at h|-;obtain⟨w1,f,k2,l,v⟩:=E.1 e1;have ZQ:K.mp=s.mp:=E.2.1;rw[f.wr.n,ZQ] at h|-;split at h;simp at h
 next sp hsp=>
 have F:=EU (s:=K) (by rw[f.st];exact O) (by rw[f.st];exact Q) k2 (by rw[f.wr.n];exact N) (IL hsp).2 d.2.1.1;unfold mw3 at h|-;generalize fH K sp ((ats.take (ats.n-1)).drop (jS (text.n:Nat)))=Y at*;obtain⟨B,o,c2⟩:=Y;simp only at h F|-;by_cases e2:c2=0;case neg=>grind
 rw[cZ cN] at h|-;obtain⟨w2,u,k4,m,p⟩:=F.1 e2;rw[f.wr.n,f.st] at p;split at h;simp at h
 next t ht=>
 obtain⟨r1,r2,rfl⟩:=Yr ht;generalize hc:ats.getD (ats.n-1) 0=c at*;have w:=By B c (Bz n text.n o sp.n);unfold mw4 at h|-;have L:=NO (s:=B) (i:=(c:Int)) (b:=Bz n text.n o sp.n);generalize eW B c (Bz n text.n o sp.n)=Z at*;obtain⟨g,q,c3⟩:=Z;simp only at h w L|-;by_cases M:c3=0;case neg=>grind
 rw[cZ cN] at h|-;obtain⟨_,lt,eq,nw⟩:=w.2.2.1 M;have A:PW (λa=>a=c) B g:=w.1.mono λa h=>h.1;have C:Ef g.dv.nw s.dv.n s.cR n text l (ats.take (jS (text.n:Nat))):=v.congr λa y=>(A.nw a λe=>(λh=>d.2.2 c h c (Dj _ nC) ae) (e▸y)).trans (u.nw a ((λa h h'=>d.2.2 a h a (I3 _ h') ae) a y));have D:Ef g.dv.nw s.dv.n s.cR o sp m ((ats.take (ats.n-1)).drop (jS (text.n:Nat))):=p.congr λa y=>A.nw a λe=>(λh=>d.2.1.2.2 c h c nC ae) (e▸y);have T:g.dv.n=s.dv.n:=(A.wr.n).trans ((u.wr.n).trans f.wr.n);have m3:g.mp=s.mp:=(w.2.1.trans F.2.1).trans ZQ;obtain⟨t1,j1,z,j3⟩:=C.load g (L M) T λ_ _=>ae;obtain⟨t2,j4,R,j6⟩:=D.load t1 j3.2 ((z.wr.n).trans T) λa _=>by rw[z.nn]
 rw[j1];unfold mw5;simp only[ne_eq,xy,mq,j4];have wn:t2.dv.nw=g.dv.nw:=(R.nn).trans z.nn;have H:q=(c,s.cR,kU (pF (Bz n text.n o sp.n))):=by rw[eq,u.st,f.st]
 have r:q.1=c:=by rw[H]
 have J:q≠cX:=λe=>by rw[e] at H;have:=gD (·.2.1) H;grind[cX]
 have G:c∈ats:=by grind
 have j:∀a∈ats.take (jS (text.n:Nat)),a∈ats:=λa h=>lQ h;have k:∀a∈(ats.take (ats.n-1)).drop (jS (text.n:Nat)),a∈ats:=λa h=>lQ (mS h);have dq:g.dv.nw c=pF (Bz n text.n o sp.n):=by rw[nw];simp[jH]
 refine⟨⟨⟨n,o,l,m,sp,_,_,hsp,r1,r2,?_,?_,?_,?_,?_,J,?_,?_,ae,j,k,by grind⟩,?_,?_⟩,?_,?_⟩;exact v.parts;exact p.parts;grind;grind;rw[r,<-f.wr.n,<-u.wr.n];exact lt;grind;grind;rw[split];simp only[nL,yq,map_nil,r];rw[wP];refine List.perm_append_comm.trans ?_;rw[<-wP];exact(Perm.append v.perm p.perm).append_right [c];intro U I;rcases gH.1 I with h|h;rcases gH.1 h with h|h;grind;exact v.st U h;exact p.st U h;exact((((f.mono j).trans (u.mono k)).trans (A.mono λa h=>h▸G)).trans (z.mono λ_ h=>h.elim)).trans (R.mono λ_ h=>h.elim);grind
theorem NQ(d:Dv):(gW d).1.n=d.n/\(gW d).1.nw=d.nw/\(d.al->(gW d).2=0/\(gW d).1.al):=by obtain⟨o,f,k,e,h⟩:=GA d;unfold gW;split;rw[e];exact⟨ae,ae,λg=>⟨ae,(h g).2⟩⟩;grind
theorem Eg(d:Dv)(u:rC):(eY d u).1.n=d.n/\((eY d u).2=0->lJ u=cx/\(eY d u).1.nw=jH d.nw (u.lT%4) (ui u))/\(d.al->lJ u=cx->4<=d.n->(eY d u).2=0/\(eY d u).1.al):=by
 unfold eY lK;by_cases h:lJ u=cx;simp only[h,oR];have b:=NQ d;have w:=Nz (A:=λ_=>True) (gW d).1 ((u.lT%4:Nat):Int) (ui u) λ_ _=>iG;have e:=NQ (iq (gW d).1 ((u.lT%4:Nat):Int) (ui u)).1;split;grind;split;(next e1 e2=>exact⟨w.1.n.trans b.1,λf=>absurd f e2,λa _ c=>absurd (w.2.2 (b.2.2 a).2 cN cN) e2⟩);next e1 e2=>refine⟨e.1.trans (w.1.n.trans b.1),λ_=>⟨iG,?_⟩,λa _ c=>e.2.2 (w.1.al (b.2.2 a).2)⟩;grind
 simp[h]
theorem NR(m:Nat->Nat)(a:Nat):mV m a=2↔m a=2:=by grind[mV]
def aff(h:∀a,m' a=2↔m a=2):lq m' 2=lq m 2:=Xt λa _=>h a
structure IM(x y:GT):Prop where
 oC:Good y
 b:y.b=x.b
 n:y.s.dv.n=x.s.dv.n
 laid:∃text ats,iU x.b=cu text/\Laid y.s.dv.nw x.s.dv.n x.s.cR y.ub.iL text (lq y.s.mp 2) y.dK ats/\(∀a∈ats,4<=a/\a<x.s.dv.n)
 ub:y.ub.lT=iR x.ub.lT/\y.ub.cR=x.s.cR/\y.ub.len=40/\y.ub.gm=x.s.dv.n/\lJ y.ub=cx
 slot:y.s.dv.nw (y.ub.lT%4)=ui y.ub
 ring:∀a,a<4->a≠y.ub.lT%4->y.s.dv.nw a=x.s.dv.nw a
 cR:y.s.cR=iR x.s.cR/\y.s.base=x.s.cR
 dK:∀text,iU x.b=cu text->y.dK.n=nF text.n x.s.dv.n
 free:∀a,y.s.mp a≠3
 two:∀a,(y.s.mp a=2↔(x.s.mp a=2/\¬∃q∈x.dK,q.1=a)∨∃q∈y.dK,q.1=a)/\((∃q∈y.dK,q.1=a)->x.s.mp a≠2∨∃q∈x.dK,q.1=a)
theorem VL{x:GT}(G:Good x)(hd:lX x.s.dv.nw)(F:gy x.s.cR)(T:x.s.cR<=281474976710655)(U:∀text,iU x.b=cu text->∀c∈text,c<256)(d:(gC x.s x.b x.dK).2.2.2=0){dv:Dv}(t:dv.n=(gC x.s x.b x.dK).1.dv.n)(u:dv.nw=jH (gC x.s x.b x.dK).1.dv.nw ((qX x (gC x.s x.b x.dK)).lT%4) (ui (qX x (gC x.s x.b x.dK))))(w:lJ (qX x (gC x.s x.b x.dK))=cx):
 IM x {x with dK:=(gC x.s x.b x.dK).2.2.1,ub:=qX x (gC x.s x.b x.dK),s:=oU {(gC x.s x.b x.dK).1 with dv:=dv}}:=by
 unfold gC at*;cases J:iU x.b with
 |none=>grind
 |some text=>
  rw[J] at d t u w;simp only at d t u w|-;have lt:∀q∈x.dK,q.1<1024:=λq i=>by
   have:=(G.hd q i).1;have:=(G.map q.1).2.1 cN;have:=G.n;omega
  have H:=rk x.dK x.s lt;by_cases hc:fR (dM x.s x.dK).mp<nF text.n (dM x.s x.dK).dv.n
  . grind
  rw[cZ hc] at d t u w|-;generalize hs1:dM x.s x.dK=s1 at*;obtain⟨B,d2,F,F⟩:=H;rw[d2] at hc d t u w|-;have R:nF text.n x.s.dv.n<=fR s1.mp:=cN;have H:zU s1.mp (nF text.n x.s.dv.n:Nat)=cu (iI s1.mp (nF text.n x.s.dv.n)):=by simp_all[zU]
  have H:xg s1.mp (nF text.n x.s.dv.n:Nat)=(iI s1.mp (nF text.n x.s.dv.n)).1:=by grind[xg]
  have I:A6 s1.mp (nF text.n x.s.dv.n:Nat)=(iI s1.mp (nF text.n x.s.dv.n)).2:=by grind[A6]
  rw[H,I] at d t u w|-;obtain⟨V,X,I,Y⟩:=JD s1.mp _ R;generalize iI s1.mp (nF text.n x.s.dv.n)=MN at*;obtain⟨ats,o⟩:=MN;simp only at V X I Y d t u w|-;have Z:=G.n;have R:∀a∈ats,4<=a/\a<x.s.dv.n:=λa n=>(G.map a).2.1 (by have:=(B.zero a).2;grind);have H:=NP (s:=⟨x.s.dv,o,s1.cR,s1.base⟩) (by show 1<=s1.cR;rw[F];exact G.VH) jv hd Z.2 (text:=text) (U text J) X (by rw[V];rfl) (λa n=>by grind);generalize gG ⟨x.s.dv,o,s1.cR,s1.base⟩ text ats=W at*;obtain⟨b,q,dK,c⟩:=W;simp only at d t u w H|-;obtain⟨L,K,f⟩:=H d;have u3:=u;have H:b.dv.n=x.s.dv.n:=K.wr.n;have r:b.cR=x.s.cR:=K.st.trans F;have L:Laid b.dv.nw x.s.dv.n x.s.cR q text (lq o 2) dK ats:=by grind
  have f:b.mp=o:=f;have N:(qX x (b,(q,(dK,c)))).lT=iR x.ub.lT/\(qX x (b,(q,(dK,c)))).cR=x.s.cR/\(qX x (b,(q,(dK,c)))).iL=q/\(qX x (b,(q,(dK,c)))).len=40/\(qX x (b,(q,(dK,c)))).gm=x.s.dv.n:=⟨ae,r,ae,ae,H⟩;generalize qX x (b,(q,(dK,c)))=ub at*;have A:∀a,mV o a=2↔(x.s.mp a=2/\∀q∈x.dK,q≠cX->q.1≠a)∨a∈ats:=λa=>by
   rw[NR];by_cases e:a∈ats
   . grind
   . rw[(Y a).2 e,B.two];grind
  have j:∀a,4<=a->dv.nw a=b.dv.nw a:=λa n=>by rw[u3];unfold jH;grind
  have v:∀a∈ats,x.s.mp a≠2∨∃q∈x.dK,q.1=a:=λa n=>by
   have y:=I a n;rcases B.one a y with h|⟨_,q,i,e,_⟩<;>grind
  have E:∀a∈ats,¬Re (pt x.s.dv.nw) (·∈x.b.cU) a:=λa n h=>by
   rcases v a n with y|⟨q,i,e⟩
   . exact y (G.tk a h)
   . exact(G.hd q i).2.1 (e▸h)
  have F:∀s∈x.b.cU,∀k,pt x.s.dv.nw s.cO k≠cX->dv.nw (pt x.s.dv.nw s.cO k).1=x.s.dv.nw (pt x.s.dv.nw s.cO k).1:=λs z k U=>by
   have I:Re (pt x.s.dv.nw) (·∈x.b.cU) (pt x.s.dv.nw s.cO k).1:=⟨s,k,z,U,ae⟩;have:=G.tk _ I;rw[j _ ((G.map _).2.1 cN).1];exact K.nw _ λn=>E _ n I
  have e:∀s∈x.b.cU,∀k,pt dv.nw s.cO k=pt x.s.dv.nw s.cO k:=λs z=>((G.rd s z).congr (F s z)).2;have Q:=λa=>Re.GC (M:=(·∈x.b.cU)) e a;have O:dv.n=x.s.dv.n:=t.trans H;have D:∀p,p∈dK->p.1∈ats:=λp g=>L.perm.mem_iff.1 (gI.2 ⟨p,g,ae⟩);have Y:iR x.s.cR=x.s.cR+1:=tH T;have H:lq (mV o) 2=lq o 2:=aff λa=>NR o a;have H:Laid dv.nw x.s.dv.n x.s.cR q text (lq o 2) dK ats:=by
   obtain⟨⟨p1,p2,l,m,sp,I,U,b1,b2,b3,b4,b5,H,H,b8,b9,c1,c2,c3,Z,H,c6⟩,k2,k3⟩:=L;exact⟨⟨p1,p2,l,m,sp,I,U,b1,b2,b3,b4,b5,by grind,by grind,b8,b9,c1.congr λa h=>j a (R _ (Z a h)).1,c2.congr λa h=>j a (R _ (H a h)).1,c3,Z,H,c6⟩,k2,k3⟩
  have H:Good ⟨x.b,dK,ub,oU {b with dv:=dv}⟩:=by
   refine⟨G.inc,G.q6,G.xE,?_,λs z=>?_,λa=>?_,?_,λa h=>?_,λa h=>?_,λp g=>?_,?_,?_,G.nx⟩
   . show TI (pt dv.nw) (iR b.cR) _;rw[r,Y];exact(G.ti.GC e).later
   . show Rd dv.nw dv.n s.cO;rw[O];exact((G.rd s z).congr (F s z)).1
   . show mV b.mp a<=3/\(mV b.mp a≠0↔4<=a/\a<dv.n);rw[O,f];have y:=G.map a;have I:=B.zero a;have F:=B.le (λa=>(G.map a).1) a
     grind[mV]
   . grind[oU]
   . have h:=(Q a).1 h;show mV b.mp a=2;rw[f,A];exact .inl ⟨G.tk a h,λp g _ e=>(G.hd p g).2.1 (e▸h)⟩
   . have h:mV b.mp a=2:=h;rw[f,A] at h;rcases h with⟨y,I⟩|h
     . refine .inl ((Q a).2 ((G.ac a y).resolve_right ?_));rintro⟨p,g,e⟩;exact I p g (G.hd p g).2.2.2 e
     . obtain⟨p,g,e⟩:=gI.1 (L.perm.mem_iff.2 h)
       grind
   . have n:=D p g;refine⟨by simp_all[oU],λh=>E _ n ((Q _).1 h),?_,(L.st p g).2⟩;show p.2.1<=b.cR;rw[(L.st p g).1,r];omega
   . exact L.perm.nodup_iff.2 X
   . show b.cR<iR b.cR;grind
  refine⟨H,ae,O,⟨text,ats,J,?_,R⟩,⟨N.1,N.2.1,N.2.2.2.1,N.2.2.2.2,w⟩,?_,λa y I=>?_,⟨by grind[oU],r⟩,λF h=>?_,λa=>?_,λa=>?_⟩
  . grind[oU]
  . simp_all[jH,oU]
  . show dv.nw a=_;rw[u3];unfold jH;rw[cZ I];exact K.nw a λh=>by grind
  . rw[J] at h;cases h;show dK.n=_;rw[<-V,<-L.perm.length_eq,mQ]
  . show mV b.mp a≠3;grind[mV]
  . have C:(∃q∈dK,q.1=a)↔a∈ats:=⟨λ⟨q,i,e⟩=>e▸D q i,λh=>by
     obtain⟨p,g,e⟩:=gI.1 (L.perm.mem_iff.2 h);grind⟩
    refine⟨?_,λh=>v a (C.1 h)⟩;show mV b.mp a=2↔_;rw[f,A,C];refine or_congr_left (and_congr_right λ_=>⟨λh ⟨q,i,e⟩=>h q i (G.hd q i).2.2.2 e,λh q i _ e=>h ⟨q,i,e⟩⟩)
theorem Eh{x:GT}(G:Good x)(f:lX x.s.dv.nw)(g:gy x.s.cR)(d:x.s.cR<=281474976710655)(e:∀text,iU x.b=cu text->∀c∈text,c<256)(h:(ju x).2=0):IM x (ju x).1:=by unfold ju uy at*;by_cases a:(gC x.s x.b x.dK).2.2.2≠0;grind;rw[cZ a] at h|-;by_cases b:(eY (gC x.s x.b x.dK).1.dv (qX x (gC x.s x.b x.dK))).2≠0;grind;rw[cZ b];grind[Eg,VL]
theorem VM{ts:List cV}{r:cV}(h:uf ts=cu r):r.n=2+(ts.map λt=>2+t.n).sum:=by
 rw[(Co h).2.2,ji];have e:∀ts:List cV,(ts.flatMap uO).n=(ts.map λt=>2+t.n).sum:=by intro ts;induction ts<;>grind[uO,vr]
 grind[vr]
theorem ZZ(a:ts.n<=65535)(b:∀t∈ts,t.n<=65535):∃r,uf ts=cu r:=by unfold uf;simp_all
def xF(s:dw):Nat:=58+s.name.s+16*s.di.n
theorem NS{s:dw}(h:fx s=cx):s.name.s<=24/\s.di.n<=4000:=by grind[fx,eo]
theorem ahh(s:dw):(fx s=cx->∃t,o7 s=cu t/\t.n=xF s)/\(fx s≠cx->o7 s=cw):=by
 unfold o7;constructor
 . (intro h;rw[df h];have a:=NS h;have b:(kT qi (pT s)++iM s.cO).n=50:=by rfl);have l2:(rW s.name).n=s.name.s:=by simp_all[rW]
   have c:=vZ s.di;obtain⟨r,e⟩:=ZZ (ts:=[kT qi (pT s)++iM s.cO,rW s.name,qh s.di]) eQ (by
    grind)
   grind[VM,xF]
 grind
def eZ(l:List dw):Nat:=12+(l.map λs=>2+xF s).sum
theorem NT:∀l:List dw,((∀s∈l,fx s=cx)->∃ts,kH l=cu ts/\ts.n=l.n/\(∀t∈ts,t.n<=65535)/\(ts.map λt=>2+t.n).sum=(l.map λs=>2+xF s).sum)/\(kH l≠cw->∀s∈l,fx s=cx)
 | []=>⟨λ_=>⟨[],ae,ae,by simp,ae⟩,by simp⟩
 |s::l=>by
  have r:=ahh s;have i:=NT l;constructor
  . intro h;obtain⟨t,e,g⟩:=r.1 (h s nC);obtain⟨ts,j,a,b,c⟩:=i.1 λx f=>h x (lu _ f);refine⟨t::ts,by grind[kH],by simp[a],λu d=>?_,by simp[c,g]⟩;rcases iZ.1 d with rfl|d
    . grind[NS,xF]
    grind
  . intro h x f;unfold kH at h
    grind
theorem sg(b:ee):(∃t,iU b=cu t/\t.n=eZ b.cU)/\(b.next<=281474976710655/\b.cU.n<=32/\(∀s∈b.cU,fx s=cx)/\eZ b.cU<=65535)∨
 iU b=cw/\¬(b.next<=281474976710655/\b.cU.n<=32/\(∀s∈b.cU,fx s=cx)/\eZ b.cU<=65535):=by
 unfold iU jD;by_cases h:281474976710655<b.next∨32<b.cU.n;grind;rw[cZ h];have r:=NT b.cU;by_cases i:∀s∈b.cU,fx s=cx
 . obtain⟨ts,e,a,c,d⟩:=r.1 i;rw[e];obtain⟨t,g⟩:=ZZ (ts:=kT [8] [b.next]::ts) sp_ (λt f=>by
    rcases iZ.1 f with rfl|f
    . rw[sq (ws:=[8]) (ns:=[b.next]) ae];decide
    grind)
   (have l:=VM g;rw[yq,sum_cons,d,sq (ws:=[8]) (ns:=[b.next]) ae] at l;have l:t.n=eZ b.cU:=by grind[eZ,sY]);grind
 grind
theorem ab6{m:Nat}(e:1<=m)(h:m<=n)(g:n<=65535):jS (m:Nat)<=jS (n:Nat):=by
 have c:∀(f a b:Nat),a<=b->(jW f a).sum<=(jW f b).sum:=by intro f;induction f with|zero=>grind[jW]|succ f ih=>intro a b h;unfold jW;by_cases d:1<a;rw[df d,df cN];have:=ih ((a+7)/8) ((b+7)/8) cN;simp;omega;grind
 unfold jS kM;rw[cZ cN,cZ cN];exact c _ _ _ sp_
theorem ab7{b c:ee}{n:Int}(d:0<nq b n)(g:c.next<=281474976710655)(h:c.cU.n<=32)(i:∀s∈c.cU,fx s=cx)(j:eZ c.cU<=eZ b.cU):0<nq c n/\nq c n<=nq b n:=by unfold nq at*;rcases sg b with⟨⟨t,e,l⟩,k⟩|⟨e,_⟩;rw[e] at d|-;rcases sg c with⟨⟨u,a,l2⟩,f⟩|⟨a,f⟩;rw[a];simp only at d|-;split;grind;unfold nF;have:=ab6 (m:=u.n) (n:=t.n) (by grind[eZ]) cN cN;omega;grind;grind
noncomputable def cn(p:Nat->Prop):Nat->Nat
 |0=>0
 |k+1=>cn p k+ @ite _ (p k) (Classical.propDecidable _) 1 0
theorem SP{p q:Nat->Prop}(h:∀a,a<k->p a->q a):cn p k<=cn q k:=by induction k with|zero=>simp_all[cn]|succ k ih=>have:=ih λa b=>h a cN;have g:=h k cN;unfold cn;grind
theorem NU{p q r:Nat->Prop}(h:∀a,a<k->(r a↔p a∨q a)/\¬(p a/\q a)):cn r k=cn p k+cn q k:=by induction k with|zero=>rfl|succ k ih=>have:=ih λa b=>h a cN;have g:=h k cN;unfold cn;grind
def VN{p q:Nat->Prop}(h:∀a,a<k->(p a↔q a)):cn p k=cn q k:=by have:=SP (k:=k) λa b=>(h a b).1;have:=SP (k:=k) λa b=>(h a b).2;omega
theorem IN{k:Nat}:cn (λ_=>False) k=0:=by induction k<;>grind[cn]
theorem aiZ(h:b<k):cn (λa=>a=b) k=1:=by induction k with|zero=>omega|succ k ih=>unfold cn;by_cases e:b=k;(subst e;have:cn (λa=>a=b) b=cn (λ_=>False) b:=VN λa c=>by simp;omega);grind[IN];grind
def Z0{k:Nat}:∀(l:cV),l.Nodup->(∀a∈l,a<k)->cn (·∈l) k=l.n
 | [],_,_=>by simp[IN]
 |b::l,h,g=>by
  rw[yx] at h;rw[NU (p:=λa=>a=b) (q:=(·∈l)) λa _=>⟨by simp,λ⟨e,e2⟩=>h.1 (e▸e2)⟩,aiZ (g b nC),Z0 l h.2 λa c=>g a (lu _ c),lr];omega
theorem VO(m:Nat->Nat):fR m=cn (λa=>m a=1) 1024:=by
 rw[Et];have:∀k,qu m 0 k=cn (λa=>m a=1) k:=by intro k;induction k with|zero=>rfl|succ k ih=>simp_all[BY,cn]
 grind
theorem sW.all(h:sW n m)(d:n<=1024)(c:4<=n):fR m+cn (λa=>m a=2) 1024+cn (λa=>m a=3) 1024=n-4:=by
 have b:∀k,cn (λa=>4<=a/\a<n) k=min k n-4:=by intro k;induction k<;>grind[cn]
 rw[VO,<-NU (r:=λa=>m a=1∨m a=2) λa _=>⟨.rfl,cN⟩,<-NU (r:=λa=>4<=a/\a<n) λa _=>?_,b];omega;have:=h a;omega
theorem Ae(x:GT):Bt x=0↔0<nq x.b x.s.dv.n/\nq x.b x.s.dv.n<=fR x.s.mp/\2*nq x.b x.s.dv.n<=fR x.s.mp+x.dK.n:=by simp_all[Bt,Bm]
theorem Z2{x:GT}(G:Good x):cn (λa=>∃q∈x.dK,q.1=a) 1024=x.dK.n:=by rw[VN (q:=(·∈x.dK.map Prod.fst)) λa _=>by grind,Z0 _ G.nd λa b=>?_,mQ];obtain⟨q,c,rfl⟩:=gI.1 b;have:=(G.hd q c).1;have:=(G.map q.1).2.1 cN;have:=G.n;omega
def IM.count{x:GT}(D:IM x y):fR y.s.mp+cn (λa=>y.s.mp a=2) 1024=x.s.dv.n-4:=by
 have:=D.oC.map.all D.oC.n.2 (by have:=D.oC.n;omega);have e:cn (λa=>y.s.mp a=3) 1024=0:=by rw[VN (q:=λ_=>False) λa _=>by simp;exact D.free a,IN]
 rw[<-D.n];omega
theorem IM.fit{x:GT}(G:Good x)(D:IM x y)(h:Bt x=0):Bt y=0:=by
 rw[Ae] at h|-;have j:=Z2 D.oC;have i:=Z2 G;have d:=D.count;have f:=G.map.all G.n.2 (by have:=G.n;omega);have b:=NU (p:=λa=>x.s.mp a=2/\¬∃q∈x.dK,q.1=a) (q:=λa=>∃q∈y.dK,q.1=a) (r:=λa=>y.s.mp a=2) (k:=1024) λa _=>⟨(D.two a).1,λ⟨h1,h2⟩=>by
  rcases(D.two a).2 h2 with h|h<;>grind⟩
 have c:=NU (p:=λa=>x.s.mp a=2/\¬∃q∈x.dK,q.1=a) (q:=λa=>∃q∈x.dK,q.1=a) (r:=λa=>x.s.mp a=2) (k:=1024) λa _=>⟨⟨λh=>by grind,λh=>h.elim And.left λ⟨q,hq,e⟩=>e▸(G.hd q hq).1⟩,λh=>h.1.2 h.2⟩;rw[D.b,D.n];have g:y.dK.n=nq x.b x.s.dv.n:=by rcases sg x.b with⟨⟨t,e,_⟩,_⟩|⟨e,_⟩;rw[D.dK t e];unfold nq at*;grind;grind[nq]
 omega
def Fit(x:GT):Prop:=Bt x=0
theorem xu{x:GT}(F:Fit x){k:GT->GT×Int}(b:(k x).1.s.dv.n=x.s.dv.n)(a:(k x).2=0->Fit (k x).1):Fit (dX x k).1:=by grind[dX,td,Fit,Ae,asked]
def Z3{x:GT}{r:ee×Int}(h:(pJ x r).2=0):Fit (pJ x r).1:=by unfold pJ at*;split at h;omega;next h1=>rw[cZ h1];exact h
theorem VP{x:GT}(F:Fit x)(cT:fF)(n:Int):Fit (dX x (mB cT n)).1:=by refine xu F ?_ λh=>?_<;>unfold mB at*;split;rfl;unfold pJ;split<;>rfl;split at h;cases h;simp_all[cZ,Z3]
theorem Yt{x:GT}(F:Fit x)(f t:fF):Fit (dX x (qN f t)).1:=by refine xu F ?_ λh=>?_<;>unfold qN at*;split;rfl;unfold pJ;split<;>rfl;split at h;cases h;simp_all[cZ,Z3]
theorem QK{x:GT}(F:Fit x)(cT:fF):Fit (dX x (qA cT)).1:=by refine xu F ?_ λh=>?_<;>unfold qA at*;grind[tS];split at h;cases h;next h1=>split at h;omega;simp_all[cZ,Fit,im]
theorem afg{id:Nat}{iP:List cQ}{x:GT}(h:(se id top iP x).2=0):Fit (se id top iP x).1:=by unfold se zx at*;split at h;grind[vD];next h1=>rw[cZ h1];exact h
theorem VQ{id:Nat}{x:GT}(h:(sV id x t).2=0):Fit (sV id x t).1:=by unfold sV at*;split at h;grind[vD];simp_all[afg]
theorem afh{id:Nat}{x:GT}(h:t.1.dv.n=x.s.dv.n):(sV id x t).1.s.dv.n=x.s.dv.n:=by grind[sV,se,zx,qk]
theorem Yu{x:GT}(G:Good x)(b:lX x.s.dv.nw)(c:gy x.s.cR)(F:Fit x)(cT:fF)(i:Int)(bs:cV)(a:∀y∈bs,y<256):Fit (dX x (mL cT i bs)).1:=by
 refine xu F ?_ λh=>?_<;>unfold mL at*;split;rfl;split;rfl;next h _=>exact afh (SL b c G.n.2 G.map (G.two (G.JA cN).1) a).1.wr.n
 split at h;omega;next h1=>split at h;cases h;simp_all[cZ,VQ]
theorem ab8{x:GT}(G:Good x)(a:lX x.s.dv.nw)(b:gy x.s.cR)(F:Fit x)(cT:fF)(i:Int):Fit (dX x (rL cT i)).1:=by
 refine xu F ?_ λh=>?_<;>unfold rL at*;split;rfl;next h=>exact afh (Lj a b G.n.2 G.map (G.two (G.JA cN).1)).1.wr.n
 split at h;omega;simp_all[VQ]
theorem KC(h:∀a,m a=1->m' a=1):fR m<=fR m':=by simp_all[VO,SP]
theorem JE:∀(l:List cQ)(s:Pl)(a:Nat),s.mp a=1->(dM s l).mp a=1
 | [],_,_,h=>h
 |q::l,s,a,h=>by
  refine JE l (qd s q).1 a ?_;have e:∀v,sQ s.mp q.1 2 v a=1:=λv=>by unfold sQ isB kC;split<;>simp_all;intro e;subst e;omega
  unfold qd;split
  . exact h
  split<;>exact e _
theorem Yv{x:GT}(F:Fit x)(j:y.s.dv.n=x.s.dv.n)(i:y.dK=x.dK)(f:∀a,x.s.mp a=1->y.s.mp a=1)(h:y.b.next=x.b.next)(b:y.b.cU.n<=32)(d:(∀s∈x.b.cU,fx s=cx)->∀s∈y.b.cU,fx s=cx)(e:eZ y.b.cU<=eZ x.b.cU):Fit y:=by
 unfold Fit at*;rw[Ae] at*;have g:x.b.next<=281474976710655/\∀s∈x.b.cU,fx s=cx:=by grind[sg,nq]
 have c:=ab7 (n:=x.s.dv.n) F.1 (c:=y.b) cN b (d g.2) e;have:=KC f;grind
theorem JF:∀(l:List dw)(k:Nat)(y:dw),k<l.n->eZ (l.set k y)+xF (dH l k)=eZ l+xF y
 | [],k,y,h=>by simp at h
 |s::l,0,y,_=>by grind[eZ,dH]
 |s::l,k+1,y,h=>by
  have:=JF l k y bL;unfold eZ dH at*;simp at*;omega
theorem Ei:∀(l:List dw)(k:Nat),k<l.n->eZ (l.eraseIdx k)+(2+xF (dH l k))=eZ l
 | [],k,h=>by simp at h
 |s::l,0,_=>by grind[eZ,dH]
 |s::l,k+1,h=>by
  have:=Ei l k bL;unfold eZ dH at*;simp at*;omega
theorem ab9(l:List dw)(g:dw->dw)(h:∀s,xF (g s)=xF s):eZ (l.map g)=eZ l:=by grind[eZ,map_congr_left]
theorem QL{x:GT}(F:Fit x){b:ee}{iP:dw}(c:b.next=x.b.next)(d:b.cU.n<=32)(e:(∀s∈x.b.cU,fx s=cx)->∀s∈b.cU,fx s=cx)(f:eZ b.cU<=eZ x.b.cU)(h:(oM b iP x).2=0):Fit (oM b iP x).1:=by have p:=Bv x.s iP.cO (gj x.b.cU iP.id);unfold oM vj at*;generalize gY x.s iP.cO (gj x.b.cU iP.id)=r at*;split at h;grind[vD];next h0=>rw[cZ h0];exact Yv F (by show(dM r.1 r.2.1).dv.n=_;rw[qk];exact p.1.wr.n) ae (λa g=>JE _ _ a jv) c d e f
theorem Z4(b:ee)(iP:dw)(x:GT):(oM b iP x).1.s.dv.n=x.s.dv.n:=by have p:=(Bv x.s iP.cO (gj x.b.cU iP.id)).1.wr.n;grind[oM,vj,qk]
theorem lV(s:dw):fx s=cx↔(1<=s.id/\s.id<=281474976710655)/\(1<=s.cY/\s.cY<=281474976710655)/\s.dB<=281474976710655/\(1<=s.blocks/\s.blocks<=64)/\eo s.name=cx/\ij s.cO=cx/\s.di.n<=4000/\ou s.di=cx/\(if s.dz=cx then 1<=s.cR/\s.cR<=281474976710655 else s.cR=0/\s.cY=s.id):=by simp_all[fx,and_assoc]
theorem aca{x:GT}(G:Good x)(F:Fit x)(cT:fF):Fit (dX x (uA cT)).1:=by refine xu F ?_ λh=>?_<;>unfold uA oA at*;grind[Z4];split at h;omega;next h1=>rw[cZ h1];unfold jI at*;split at h1;grind[nK];next i c hi=>have b:=qO G hi;split at h1;simp at h1;next j hj=>have e:=kN hj;simp only[hi,hj] at h|-;refine QL F ae amd (λa s d=>?_) ?_ h;rcases(G.inc.set b.1 s).1 d with h|rfl;exact a s h.1;grind[lV,ou];grind[JF,xF]
theorem GI{p q r:cQ}(h:nY p q=cx)(g:nY q r=cx):nY p r=cx:=by grind[nY]
theorem Cz(l:List cQ):ou l=cx↔(∀q∈l,ze q=cx)/\l.Pairwise λp q=>nY p q=cx:=by unfold ou tN;rw[rz];constructor;(intro h;have b:∀q∈l,ze q=cx:=λq e=>by obtain⟨i,c,rfl⟩:=zF e;simp_all);(have g:∀i,(a:i+1<l.n)->nY l[i] l[i+1]=cx:=λi a=>by have:=h (i+1) (yo.2 a);grind);refine⟨b,Lw.2 λi j c f d=>?_⟩;induction j<;>grind[GI];grind[pairwise_iff_getElem]
theorem CB:∀(a b r:List cQ),a.Pairwise (λp q=>nY p q=cx)->b.Pairwise (λp q=>nY p q=cx)->jP a b=cu r->r.Pairwise (λp q=>nY p q=cx)/\r.n=a.n+b.n
 | [],b,r,_,h,e=>by grind[jP]
 |p::a,[],r,h,_,e=>by grind[jP]
 |p::a,c::b,r,h,g,e=>by
  rw[Dd] at h g;unfold jP at e;split at e
  . next h1=>
    obtain⟨r',f,rfl⟩:=Ak.1 e;have k:=CB a (c::b) r' h.2 (Dd.2 g) f;refine⟨Dd.2 ⟨λq d=>?_,k.1⟩,by grind⟩;rcases(yn _ _ _ f q).1 d with d|d
    . grind
    . rcases iZ.1 d with rfl|d
      . exact h1
      grind[GI]
  split at e
  . next _ h1=>
    obtain⟨r',f,rfl⟩:=Ak.1 e;have k:=CB (p::a) b r' (Dd.2 h) g.2 f;refine⟨Dd.2 ⟨λq d=>?_,k.1⟩,by grind⟩;rcases(yn _ _ _ f q).1 d with d|d
    . rcases iZ.1 d with rfl|d
      . exact h1
      grind[GI]
    grind
  . cases e
termination_by a b=>a.n+b.n
theorem SQ{x:GT}(G:Good x)(F:Fit x)(cT:fF):Fit (dX x (kY cT)).1:=by
 refine xu F ?_ λh=>?_<;>unfold kY at*;grind[eO,oA,Z4,tW,qk]
 cases n:eO cT with
 |none=>grind
 |some p=>
  rw[n] at h;simp only[Option.elim] at h|-;split at h;next hv=>rw[df hv];unfold oA at*;split at h;omega;next h1=>rw[cZ h1];unfold fp at*;split at h1;grind[nK];next i c hi=>have b:=qO G hi;split at h1;simp at h1;next hw=>simp only[hi,hw,mq] at h|-;refine QL F ae (iE (I1 _ _) G.q6) (λd s f=>d s (BK f)) ?_ h;grind[Ei]
  next hv=>rw[cZ hv];unfold tW at*;split at h;cases h;next h1=>split at h;omega;next h2=>rw[cZ h1,cZ h2];unfold ez at*;split at h2;simp at h2;next vs hfs=>split at h2;simp at h2;next i hi=>split at h2;simp at h2;next hcl=>split at h2;simp at h2;next j hj=>split at h2;simp at h2;next all hall=>split at h2;simp at h2;next hlen=>simp only[hfs,hi,hcl,hj,hall,hlen,mq];obtain⟨w,sn⟩:=vs;have b:=oB G.inc (qB hfs).1 hi;have g:=kN hj;refine Yv F (by grind[qk]) ae (λa m=>JE _ _ a m) ae (iE (I1 _ _) amd) (λd s f=>?_) ?_;rcases vy (BK f) with h|rfl;grind;have a:=(lV _).1 (d _ g.2.1);have c:=(lV _).1 (d _ (kf b.1).1);have k:=(Cz _).1 a.2.2.2.2.2.2.2.1;have t:=(Cz _).1 c.2.2.2.2.2.2.2.1;have ms:=CB _ _ _ (k.2.sublist filter_sublist) t.2 hall;rw[lV];refine⟨a.1,a.2.1,c.2.2.1,a.2.2.2.1,a.2.2.2.2.1,a.2.2.2.2.2.1,by grind,(Cz _).2 ⟨λq o=>?_,ms.1⟩,a.2.2.2.2.2.2.2.2⟩;rcases(yn _ _ _ hall q).1 o with h|h;exact k.1 q (AE.1 h).1;grind;(have u:all.n<=(dH x.b.cU j).di.n+(dH x.b.cU i).di.n:=by(have:∀(a b r:List cQ),jP a b=cu r->r.n=a.n+b.n:=by intro a b;fun_induction jP a b<;>intro r e;grind;grind;(next ih=>obtain⟨r',l,rfl⟩:=Ak.1 e;grind);(next ih=>obtain⟨r',l,rfl⟩:=Ak.1 e;grind);cases e);grind[o5]);(have v:=JF x.b.cU j {dH x.b.cU j with di:=all,dB:=(dH x.b.cU i).dB} g.1;have t2:=Ei (x.b.cU.set j {dH x.b.cU j with di:=all,dB:=(dH x.b.cU i).dB}) i jv;show eZ ((x.b.cU.set j _).eraseIdx i)<=_;by_cases e:i=j);grind[dH];(have:dH (x.b.cU.set j {dH x.b.cU j with di:=all,dB:=(dH x.b.cU i).dB}) i=dH x.b.cU i:=by simp_all[dH,pU]);grind[xF]
theorem SR{x:GT}(G:Good x)(F:Fit x)(cT:fF):Fit (dX x (l9 cT)).1:=by refine xu F ?_ λh=>?_<;>unfold l9 at*;split<;>rfl;split at h;omega;next h1=>rw[cZ h1];obtain⟨v,i,j,e,sn,_⟩:=Cy G h1;rw[e];refine Yv F ae ae (λa d=>d) ae (by show(map _ _).n<=32;simp;exact G.q6) (λb s f=>?_) (Nat.le_of_eq (ab9 _ _ λ_=>ae));obtain⟨t,g,rfl⟩:=gI.1 f;have a:=(lV _).1 (b t g);have c:=(lV _).1 (b v i);rw[lV];grind
structure VR(x y:GT):Prop where
 dK:y.dK=x.dK
 ub:y.ub=x.ub
 base:y.s.base=x.s.base
 st:x.s.cR<=y.s.cR/\y.s.cR<=x.s.cR+1
 nx:y.b.next<=x.b.next+1
theorem NW(n:Nat):iR n<=n+1:=by grind[iR]
theorem VR.refl(x:GT):VR x x:=⟨ae,ae,ae,cN,cN⟩
theorem xv{x:GT}{k:GT->GT×Int}(h:(k x).2=0->VR x (k x).1):VR x (dX x k).1:=by unfold dX td;split;exact .refl x;split;exact⟨ae,ae,ae,by simp[asked],by simp[asked]⟩;grind
theorem NX{x:GT}{r:ee×Int}(h:r.1.next<=x.b.next+1):VR x (pJ x r).1:=by unfold pJ rK;split;exact .refl x;exact⟨ae,ae,ae,by simp,h⟩
theorem VS(x:GT)(cT:fF)(n:Int):VR x (dX x (mB cT n)).1:=by grind[xv,NW,mB,NX,iK,u0]
theorem Yw(x:GT)(f t:fF):VR x (dX x (qN f t)).1:=xv λ_=>by have:=NW x.b.next;unfold qN;split;exact .refl x;refine NX ?_;unfold jy u0;grind
theorem QM(x:GT)(cT:fF):VR x (dX x (qA cT)).1:=xv λ_=>by have:=NW x.b.next;unfold qA;split;exact .refl x;next h=>split;exact .refl x;refine⟨ae,ae,ae,?_,?_⟩;grind[tH,tS];grind[im,rK]
theorem SU(x:GT)(cT:fF):VR x (dX x (l9 cT)).1:=xv λ_=>by unfold l9;split;exact .refl x;refine⟨ae,ae,ae,by simp[rK],?_⟩;grind[fQ,rK]
theorem JG(l:List cQ):∀s:Pl,(dM s l).cR=s.cR/\(dM s l).base=s.base:=by
 induction l with
 |nil=>intro s;exact aE
 |cons q l ih=>
  intro s;have:=ih (qd s q).1;have e:(qd s q).1.cR=s.cR/\(qd s q).1.base=s.base:=by unfold qd;grind
  simp_all[dM]
theorem QN(b:ee)(iP:dw)(x:GT)(h:b.next<=x.b.next+1):VR x (oM b iP x).1:=by have p:=Bv x.s iP.cO (gj x.b.cU iP.id);unfold oM vj;split;exact⟨ae,ae,p.1.ba,by show _<=Pl.cR _/\Pl.cR _<=_;rw[p.1.st];omega,by grind⟩;have d:=JG (gY x.s iP.cO (gj x.b.cU iP.id)).2.1 (gY x.s iP.cO (gj x.b.cU iP.id)).1;exact⟨ae,ae,d.2.trans p.1.ba,by show _<=(dM _ _).cR/\(dM _ _).cR<=_;rw[d.1,p.1.st];omega,h⟩
theorem acb(x:GT)(cT:fF):VR x (dX x (uA cT)).1:=by grind[xv,uA,oA,QN,jI]
theorem SV(x:GT)(cT:fF):VR x (dX x (kY cT)).1:=xv λ_=>by unfold kY;cases eO cT with|none=>exact .refl x|some p=>simp only[Option.elim];split;unfold oA;split;exact .refl x;grind[QN,fp];unfold tW;split;exact .refl x;split;exact .refl x;have d:=JG (ez x.b cT).2.1 x.s;refine⟨ae,ae,d.2,by grind,?_⟩;show(ez x.b cT).1.next<=_;unfold ez;grind
theorem VT{id:Nat}{x:GT}(h:PW A x.s t.1):VR x (sV id x t).1:=by unfold sV;split;exact anr;unfold se zx;split;exact anr;have d:=JG (jT (gK x.b id t.2.1) id t.2.2.1).2.1 t.1;refine⟨ae,ae,d.2.trans h.ba,by show _<=(dM _ _).cR/\(dM _ _).cR<=_;rw[d.1,h.st];omega,?_⟩;grind[jT,gK]
theorem Yx{x:GT}(G:Good x)(b:lX x.s.dv.nw)(c:gy x.s.cR)(cT:fF)(i:Int)(bs:cV)(a:∀y∈bs,y<256):VR x (dX x (mL cT i bs)).1:=xv λ_=>by unfold mL;split;exact .refl x;split;exact .refl x;next h _=>exact VT (SL b c G.n.2 G.map (G.two (G.JA cN).1) a).1
theorem acd{x:GT}(G:Good x)(a:lX x.s.dv.nw)(b:gy x.s.cR)(cT:fF)(i:Int):VR x (dX x (rL cT i)).1:=xv λ_=>by unfold rL;split;exact .refl x;next h=>exact VT (Lj a b G.n.2 G.map (G.two (G.JA cN).1)).1
theorem Fit.right{x:GT}(F:Fit x):∀s∈x.b.cU,fx s=cx:=by unfold Fit at F;rw[Ae] at F;rcases sg x.b with⟨_,k⟩|⟨e,_⟩<;>grind[nq]
theorem Good.afi{x:GT}(G:Good x){s:dw}(b:s∈x.b.cU)(f:s.dz=cx):∃j c,fj x.b.cU (qV x.b.cU s.id)=cu j/\dH x.b.cU j=c/\c∈x.b.cU/\c.dB=s.id/\c.cY=s.cY:=by
 obtain⟨k,g,h⟩:=G.inc.xP b;obtain⟨c,hc,o,p⟩:=G.xE.nxt b f;have n:qV x.b.cU s.id=((x.b.cU.filter λt=>decide (t.dB=s.id)).find? λt=>decide (t.cY=s.cY)).elim 0 dw.id:=by simp_all[qV]
 cases a:((x.b.cU.filter λt=>decide (t.dB=s.id)).find? λt=>decide (t.cY=s.cY)) with|none=>grind|some d=>have m:=find?_some a;have e:=AE.1 (mem_of_find?_eq_some a);obtain⟨j,i,l⟩:=G.inc.xP e.1;grind
theorem Good.cT{x:GT}(G:Good x)(F:Fit x){t:dw}(d:t∈x.b.cU):∃i p,k8 x.b.cU (l7 x.b.cU t.id)=cu i/\dH x.b.cU i=t/\eO (l7 x.b.cU t.id)=cu p/\(p.2=sG↔t.dz=cy):=by
 obtain⟨k,D,E⟩:=G.inc.xP d;have f:=λs A=>((lV s).1 (F.right s A)).2.2.2.2.1;have a:∀n ir dz,eO n=cu (ir,dz)->uC x.b.cU ir dz t->(∀u∈x.b.cU,uC x.b.cU ir dz u->u=t)->∃i,k8 x.b.cU n=cu i/\dH x.b.cU i=t:=λn ir dz e g j=>by cases v:k8 x.b.cU n with|none=>exact absurd g (Cx G.inc G.names e v d)|some i=>have b:=oB G.inc e v;exact⟨i,ae,j _ (kf b.1).1 b.2.1⟩
 cases l:t.dz with
 |false=>
  have q:l7 x.b.cU t.id=t.name:=by simp_all[l7,kX]
  have c:dG t=(0,t.name):=by grind[dG]
  rw[q];obtain⟨i,e,g⟩:=a t.name t.name sG (Bw (f t d)) (by unfold uC;grind) λu m h=>by unfold uC at h;rw[df ae] at h;exact G.xE.name m d (h.trans c.symm)
  simp_all[Bw]
 |true=>
  obtain⟨o,ho,K,J⟩:=G.xE.own d l;obtain⟨I,q,H⟩:=G.inc.xP ho;have z:l7 x.b.cU t.id=o.name++yh++t.name:=by simp_all[l7,kX,NJ]
  have c:dG t=(o.id,t.name):=by grind[dG]
  have y:dG o=(0,o.name):=by grind[dG]
  have C:=NJ (f t d);rw[z];obtain⟨i,e,g⟩:=a _ o.name t.name (NI (f o ho) (f t d)) (by unfold uC;grind) λu m h=>by unfold uC at h;rw[cZ C] at h;obtain⟨w,B,j,r⟩:=h;rw[G.xE.name B ho (j.trans y.symm)] at r;exact G.xE.name m d (r.trans c.symm)
  grind[NI]
theorem Good.cP{x:GT}(G:Good x):∀(k:Nat)(s:dw),x.s.cR-s.cR<=k->s∈x.b.cU->s.dz=cx->∃v∈x.b.cU,v.dz=cy/\s.cR<=gj x.b.cU v.id
 |0,s,hk,hs,hn=>by have:=G.ti.st hs hn;omega
 |k+1,s,hk,hs,hn=>by
  obtain⟨c,hc,a,f⟩:=G.xE.nxt hs hn;cases h:c.dz with
  |true=>
   have:=(G.xE.xQ hc hs a.symm).2.1 h;have:=G.ti.st hc h;obtain⟨v,m,i,l⟩:=G.cP k c cN hc h
   grind
  |false=>
   obtain⟨n,b,d⟩:=G.inc.xP hc;obtain⟨j,e,g⟩:=G.inc.xP hs;refine⟨c,hc,h,?_⟩;unfold gj;rw[b];simp only[d];rw[cZ (by rw[a];exact G.ti.pos hs),a,e];grind
theorem Yy{e:Int}(l: -1<=e)(d:iQ e C=cx)(f:Nat->Bool)(m:∀n:Nat,rP C (n:Int)=cx->f n=cy):
 ∃g,rB f (C.map (Prod.mk cx))=cu g/\∀n:Nat,g n=if rP C (n:Int)=cx then cx else f n:=by
 induction C generalizing e f with
 |nil=>exact⟨f,ae,λn=>by simp[rP]⟩
 |cons x r ih=>
  have h:=(ig _ _ _).1 d;have o:=(gg _ _).1 h.1;have i:qF f x.1.m cx x.2.m=cy:=by
   unfold qF;rw[<-Bool.not_eq_true,any_eq_true]
   grind[kP]
  obtain⟨g,b,c⟩:=ih (e:=x.1+x.2) cN h.2.2 (yF f x.1.m cx x.2.m) (λn j=>by
   have:=sh h.2.2 j;unfold yF;rw[cZ cN]
   grind[kP])
  refine⟨g,(show rB f ((x::r).map (Prod.mk cx))=_ by grind[GS]).trans b,λn=>?_⟩;rw[c n];by_cases k:rP r (n:Int)=cx
  . simp_all[kP]
  . rw[cZ k];unfold yF;by_cases a:x.1.m<=n/\n<x.1.m+x.2.m
    . rw[df a,df ((kP _ _ _).2 (.inl cN))]
    . rw[cZ a,cZ]
      grind[kP]
theorem IP{l:List (Int×Int)}(h:gT l=cx):pO [] l=l.map (Prod.mk cx):=by
 have a:jQ [] l=[]:=by rfl
 have b:jQ l []=l:=by unfold jQ;rw[show iN (λn=>rA l n&& !rA [] n)=iN (qC l) from wy λn _=>by simp[rA,h,qC,rP]];exact Dm h
 unfold pO;rw[df (by simp[h];rfl),a,b];simp
theorem Yz{l:List (Int×Int)}(h:gT l=cx):uM [] (pO [] l)=cu l:=by
 rw[IP h];obtain⟨g,a,b⟩:=Yy (C:=l) (e:=-1) (Int.le_refl _) h (qC []) (λn _=>by rfl);unfold uM;rw[df (show gT []=cx from ae),a];show cu (iN g)=_
 conv=>rhs;rw[<-Dm h]
 grind[wy,qC,rP]
theorem NY(f:Nat->Bool):∀k,2*(gx f k).n<=k+(if 0<k/\f (k-1)=cx then 1 else 0)
 |0=>by simp[gx]
 |k+1=>by
  have c:=NY f k;have a:=QY f k;unfold gx;cases b:f k with
  |false=>grind
  |true=>
   simp only[oR,QS,b];unfold Ly
   grind
def NZ{f:Nat->Bool}{n:Nat}(h:∀a,n<=a->f a=cy):∀j,gx f (n+j)=gx f n
 |0=>rfl
 |j+1=>by
  show(if f (n+j)=cx then Ly (gx f (n+j)) (n+j) else gx f (n+j))=_;rw[h (n+j) cN,cZ eQ];exact NZ h j
theorem N0(C:64<=n)(D:n<=1024)(t:sW n m):∃b,jA (n:Nat) (lq m 2)=cu b/\pI (n:Nat) b=cu (lq m 2):=by
 have sl:fX (n:Nat)=2+5*((n+1)/2):=by unfold fX;grind
 have l:gT (lq m 2)=cx:=qY _;have w:∀a:Int,rP (lq m 2) a=cx↔0<=a/\a<1024/\m a.m=2:=λa=>by grind[lq,zI]
 have inr:∀a,m a=2->4<=a/\a<n:=λa h=>(t a).2.1 cN;have u:2*(lq m 2).n<=n+1:=by
  unfold lq iN;have e:=NZ (f:=λa=>decide (a<1024/\m a=2)) (n:=n) (λa F=>by
   grind) (4096-n)
  rw[show n+(4096-n)=4096 by omega] at e;rw[e];have:=NY (λa=>decide (a<1024/\m a=2)) n
  grind
 have c:∀x∈lq m 2,ku x.1 x.2=cx:=λx g=>by obtain⟨i,q,rfl⟩:=zF g;exact GM l q
 have o:∀x∈lq m 2,4<=x.1/\x.1+x.2<=n:=λx g=>by have s:=(gg _ _).1 (c x g);have z:rP (lq m 2) x.1=cx:=List.any_eq_true.2 ⟨x,g,by simp;omega⟩;have A:rP (lq m 2) (x.1+x.2-1)=cx:=List.any_eq_true.2 ⟨x,g,by simp;omega⟩;grind
 have d:pB (pO [] (lq m 2))=cu ((pO [] (lq m 2)).flatMap tp):=by refine LO ?_ λk r=>?_;grind[IP];simp only[IP l,getElem_map] at r|-;exact c _ (mP jv)
 have B:=MV d;have I:(pO [] (lq m 2)).n=(lq m 2).n:=by grind[IP]
 generalize hlog:(pO [] (lq m 2)).flatMap tp=log at*;have j:jA (n:Nat) (lq m 2)=cu (qQ 2 (pO [] (lq m 2)).n++ry log++replicate (fX (n:Nat)-(2+log.n)) 0):=by unfold jA;rw[cZ jv,cZ,d];grind;rintro⟨E,p⟩;unfold Jw Qs at p;cases G:lq m 2<;>grind[getLast_mem,getLast?_eq_getLast]
 refine⟨_,j,?_⟩;have H:=IL j;have tk:(qQ 2 (pO [] (lq m 2)).n++ry log++replicate (fX (n:Nat)-(2+log.n)) 0).take 2=qQ 2 (pO [] (lq m 2)).n:=by rfl
 have J:(ry log).n=log.n:=by grind
 unfold pI;rw[cZ cN,tk,rh 2 _ cN,cZ cN];have v:((qQ 2 (pO [] (lq m 2)).n++ry log++replicate (fX (n:Nat)-(2+log.n)) 0).take (2+5*(pO [] (lq m 2)).n)).drop 2=ry log:=by grind
 have y:dN (ry log)=log:=by
  unfold dN ry;rw[wO];conv=>rhs;rw[<-map_id log]
  apply map_congr_left;grind[D3]
 rw[v,y,(TM d).1];show(uM [] (pO [] (lq m 2))).bind _=_;rw[Yz l];show(jA (n:Nat) (lq m 2)).bind _=_;rw[j];simp
theorem KD{cO:cQ}{all:List cQ}(h:Ef D n st cO bs all ats)(d:1<=st)(e:st<=281474976710655)(c:∀a∈ats,4<=a/\a<1024):ij cO=cx:=by have a:=c _ (h.perm.mem_iff.1 (gI.2 ⟨cO,h.top,ae⟩));have b:=(h.st cO h.top).1;simp_all[ij]
theorem afj(D:1<=s.cR)(j:s.cR<=281474976710655)(J:lX s.dv.nw)(C:64<=s.dv.n/\s.dv.n<=1024)(Y:sW s.dv.n s.mp)(I:s.dv.al)(G:∀x∈text,x<256)(V:1<=text.n/\text.n<=65535)(H:ats.Nodup)(F:ats.n=1+jS (text.n:Nat)+jS (fX (s.dv.n:Nat):Nat))(U:∀a∈ats,s.mp a=2/\4<=a/\a<s.dv.n):
 (gG s text ats).2.2.2=0/\(gG s text ats).1.dv.al/\(gG s text ats).2.1.1∈ats/\(gG s text ats).2.1.2.1=s.cR:=by
 have F:gy s.cR:=by grind[gy]
 have R:ats.n-1<ats.n:=cN;have split:ats=ats.take (jS (text.n:Nat))++((ats.take (ats.n-1)).drop (jS (text.n:Nat))++[ats.getD (ats.n-1) 0]):=by
  have R:ats.take (jS (text.n:Nat))=(ats.take (ats.n-1)).take (jS (text.n:Nat)):=by grind
  grind[append_assoc,take_append_drop,drop_eq_getElem_cons]
 have d:=H;rw[split,yy,yy] at d;have K:ats.getD (ats.n-1) 0∈ats:=by grind
 have k:∀a∈ats.take (jS (text.n:Nat)),a∈ats:=λa h=>lQ h;have H:∀a∈ats,4<=a/\a<1024:=λa h=>by grind
 have A:=EU D F J C.2 G d.1;have t:=A.2.2 I (λa h=>U a (k a h)) j V.1 V.2 jv;unfold gG mw2;generalize fH s text (ats.take (jS (text.n:Nat)))=X at*;obtain⟨Q,n,G⟩:=X;simp only at A t|-;subst t;obtain⟨_,f,G,l,R⟩:=A.1 ae;have ZQ:Q.mp=s.mp:=A.2.1;rw[cZ eQ,f.wr.n,ZQ];obtain⟨g,r,_⟩:=N0 C.1 C.2 Y;rw[r];simp only;have sl:=IL r;have J:=EU (s:=Q) (by rw[f.st];exact D) (by rw[f.st];exact F) G (by rw[f.wr.n];exact C.2) sl.2 d.2.1.1;have z:1<=g.n/\g.n<=65535:=by rw[sl.1];unfold fX;rw[cZ cN];omega
 have u:=J.2.2 (f.wr.al I) (λa h=>by rw[ZQ,f.wr.n];grind) (by rw[f.st];exact j) z.1 z.2 (by rw[tY,lP,sl.1];omega);unfold mw3;generalize fH Q g ((ats.take (ats.n-1)).drop (jS (text.n:Nat)))=Y at*;obtain⟨w,o,F⟩:=Y;simp only at J u|-;subst u;obtain⟨_,E,F,m,G⟩:=J.1 ae;rw[f.wr.n,f.st] at G;have F:=KD R D j λa h=>H a (k a h);have F:=KD G D j λa h=>H a ((λa h=>lQ (mS h)) a h);have F:Az n text.n o g.n=cu (Bz n text.n o g.n):=by grind[Az,qj,Bz]
 rw[cZ eQ,F];simp only;generalize hc:ats.getD (ats.n-1) 0=c at*;have p:=By w c (Bz n text.n o g.n);have T:=NO (s:=w) (i:=(c:Int)) (b:=Bz n text.n o g.n);have F:=U c K;have al2:=E.wr.al (f.wr.al I);have J:w.dv.n=s.dv.n:=(E.wr.n).trans f.wr.n;have v:=p.2.2.2 al2 (by rw[ZY];omega) jv cN cN;unfold mw4;generalize eW w c (Bz n text.n o g.n)=Z at*;obtain⟨y,q,F⟩:=Z;simp only at p T v|-;subst v;obtain⟨_,lt,I,nw⟩:=p.2.2.1 ae;have O:PW (λa=>a=c) w y:=p.1.mono λa h=>h.1;have N:c∉(ats.take (ats.n-1)).drop (jS (text.n:Nat)):=λh=>d.2.1.2.2 c h c nC ae;have L:∀a∈ats.take (jS (text.n:Nat)),a∉(ats.take (ats.n-1)).drop (jS (text.n:Nat)):=λa h F=>d.2.2 a h a (I3 _ F) ae;have F:Ef y.dv.nw s.dv.n s.cR n text l (ats.take (jS (text.n:Nat))):=R.congr λa B=>(O.nw a λe=>(λh=>d.2.2 c h c (Dj _ nC) ae) (e▸B)).trans (E.nw a (L a B));have H:Ef y.dv.nw s.dv.n s.cR o g m ((ats.take (ats.n-1)).drop (jS (text.n:Nat))):=G.congr λa B=>O.nw a λe=>N (e▸B);have G:y.dv.n=s.dv.n:=(O.wr.n).trans J;obtain⟨V,J,M,R⟩:=F.load y (T ae) G λ_ _=>ae;obtain⟨t2,F,U,Y⟩:=H.load V R.2 ((M.wr.n).trans G) λa _=>by rw[M.nn]
 rw[cZ eQ,J];unfold mw5;simp only[ne_eq,xy,mq,F];have F:q=(c,s.cR,kU (pF (Bz n text.n o g.n))):=by rw[I,E.st,f.st]
 exact⟨iG,U.wr.al (M.wr.al (p.1.wr.al al2)),by grind,by rw[F]⟩
theorem Z5{x:GT}(G:Good x)(F:Fit x)(v:lX x.s.dv.nw)(r:x.s.dv.al)(J:x.s.cR<=281474976710652)(K:x.ub.lT<=281474976710652)(d:∀text,iU x.b=cu text->∀c∈text,c<256)(H:x.b.next<=281474976710652):(iC x).2=0/\(iC x).1.s.dv.al/\iC x=ju x:=by
 have u:=G.n;have X:=F;unfold Fit at F;rw[Ae] at F;unfold iC;rw[cZ (by rw[r.1];simp),cZ cN,cZ cN];rcases sg x.b with⟨⟨text,m,M⟩,k⟩|⟨e,_⟩;case inr=>grind[nq]
 have l:nq x.b x.s.dv.n=nF text.n x.s.dv.n:=by unfold nq at F|-;grind
 unfold ju gC;rw[m];simp only;have lt:∀q∈x.dK,q.1<1024:=λq I=>by have:=(G.hd q I).1;have:=(G.map q.1).2.1 cN;omega
 have B:=rk x.dK x.s lt;generalize hs1:dM x.s x.dK=s1 at*;obtain⟨i,d2,Z,j⟩:=B;have Y:=KC i.aiS;rw[d2];have E:nF text.n x.s.dv.n<=fR s1.mp:=cN;rw[cZ cN];have mo:zU s1.mp (nF text.n x.s.dv.n:Nat)=cu (iI s1.mp (nF text.n x.s.dv.n)):=by simp_all[zU]
 have C:xg s1.mp (nF text.n x.s.dv.n:Nat)=(iI s1.mp (nF text.n x.s.dv.n)).1:=by grind[xg]
 have D:A6 s1.mp (nF text.n x.s.dv.n:Nat)=(iI s1.mp (nF text.n x.s.dv.n)).2:=by grind[A6]
 rw[C,D];obtain⟨n,o,N,w⟩:=JD s1.mp _ E;generalize iI s1.mp (nF text.n x.s.dv.n)=MN at*;obtain⟨ats,g⟩:=MN;simp only at n o N w|-;have mk:sW x.s.dv.n s1.mp:=λa=>⟨i.le (λa=>(G.map a).1) a,by have:=(G.map a).2;have:=i.zero a;grind⟩;have p:sW x.s.dv.n g:=λa=>by have h:=mk a;by_cases b:a∈ats<;>grind
 have t:∀a∈ats,4<=a/\a<x.s.dv.n:=λa b=>(mk a).2.1 jv;have z:=afj (s:=⟨x.s.dv,g,s1.cR,s1.base⟩) (by show 1<=s1.cR;rw[j];exact G.VH) jv v u p r (text:=text) (d text m) (by grind[eZ]) o (by rw[n];rfl) (λa b=>⟨(w a).1 b,t a b⟩);have y:=NP (s:=⟨x.s.dv,g,s1.cR,s1.base⟩) (by show 1<=s1.cR;rw[j];exact G.VH) ami v u.2 (text:=text) (d text m) o (by rw[n];rfl) (λa b=>by grind);generalize gG ⟨x.s.dv,g,s1.cR,s1.base⟩ text ats=W at*;obtain⟨f,q,dK,c⟩:=W;simp only at z y|-;obtain⟨c0,al2,Q,qb⟩:=z;subst c0;obtain⟨L,A,O⟩:=y ae;unfold uy;simp only[ne_eq,xy,mq];have R:f.dv.n=x.s.dv.n:=A.wr.n;have T:f.cR=x.s.cR:=A.st.trans j;have V:lJ (qX x (f,(q,(dK,0))))=cx:=by
  have fq:=t q.1 Q;have qn:q≠cX:=λe=>by grind[cX]
  have rq:ij q=cx:=by unfold ij;rw[qS];right;have:=G.VH;omega
  have:=G.VH;have e3:iR x.ub.lT=x.ub.lT+1:=tH cN;unfold lJ qX;grind
 have U:=(Eg f.dv (qX x (f,(q,(dK,0))))).2.2 al2 V cN;rw[cZ cN];exact⟨ae,U.2,by trivial⟩
theorem Z6{ts:List cV}(h:∀t∈ts,t.n<=65535)(q:cV):∀k,k<=ts.n->qG k (ts.flatMap uO++q)=cu (ts.take k,(ts.drop k).flatMap uO++q)
 |0,_=>by rfl
 |k+1,hk=>by
  have a:k<ts.n:=cN;have b:=h ts[k] (mP a);unfold qG;rw[Z6 h q k cN,De a];have tk:Fa ((ts[k]::ts.drop (k+1)).flatMap uO++q)=cu (ts[k],(ts.drop (k+1)).flatMap uO++q):=by
   rw[BF];have e:uO ts[k]=ts[k].n%256::ts[k].n/256::ts[k]:=rfl;rw[e];show(if ts[k].n%256+256*(ts[k].n/256)<=_ then _ else _)=_;have:ts[k].n%256+256*(ts[k].n/256)=ts[k].n:=cN
   simp_all
  simp_all
def N3{r:cV}(h:uf ts=cu r):vT r=cu ts:=by
 obtain⟨b,a,rfl⟩:=Co h;have e:vr ts.n++ts.flatMap uO=ts.n%256::ts.n/256:: (ts.flatMap uO++[]):=by simp[vr]
 rw[e];unfold vT;simp only;have:ts.n%256+256*(ts.n/256)=ts.n:=cN;rw[this,Z6 a [] ts.n (eN _)];simp
def JH:∀(ws ns rest:cV),ns.n=ws.n->fitAll ws ns=cx->pz ws (kT ws ns++rest)=ns
 | [],[],_,_,_=>rfl
 | [],_::_,_,h,_=>by simp at h
 |_::_,[],_,h,_=>by simp at h
 |w::ws,n::ns,rest,h,g=>by
  unfold fitAll at g;simp only[wN,qS] at g;unfold kT pz;have l:=gh w n;rw[wP,take_append_of_le_length cN,nU cN,rh w n g.1,drop_append_of_le_length cN,Df cN,pN,JH ws ns rest bL g.2]
theorem afk(s:fF):Wk (rW s)=s:=by
 unfold Wk rW;rw[wO];have:(UInt8.ofNat ∘ UInt8.toNat)=id:=by funext x;simp
 simp_all
def Z7:∀(l:List cQ)(k:Nat),(∀q∈l,dD q/\ij q=cx)->k<=l.n->s7 k (qh l)=cu (l.take k)
 |l,0,_,_=>rfl
 |l,k+1,h,hk=>by
  have a:k<l.n:=cN;unfold s7;rw[Z7 l k h cN];simp only;have e:((qh l).drop (16*k)).take 16=iM l[k]:=by
   have d:qh l=qh (l.take k)++(iM l[k]++qh (l.drop (k+1))):=by
    unfold qh
    conv=>lhs;rw[<-Aj k l,De a,flatMap_append,BF]
   rw[d,drop_append_of_le_length (by rw[vZ,lP];omega),Df (by rw[vZ,lP];omega),pN,take_append_of_le_length (by rw[fY];exact eN _),nU (by rw[fY];exact eN _)]
  have b:=h l[k] (mP a);rw[e,xp b.1 b.2,yv a]
theorem ace{l:List cQ}(e:l.n<=4000)(c:ou l=cx)(a:∀q∈l,dD q):kW (qh l)=cu l:=by unfold kW;have d:=vZ l;rw[df cN,show(qh l).n/16=l.n by omega,Z7 l l.n (λq b=>⟨a q b,?_⟩) (eN _),qq];simp[c];grind[Cz,ze]
theorem acf{s:dw}{t:cV}(h:o7 s=cu t)(a:tU s):vd t=cu s:=by
 unfold o7 at h;split at h
 next hr=>
  have r:=(lV s).1 hr;unfold vd;rw[N3 h];simp only;have b:(kT qi (pT s)).n=34:=(sq (ws:=qi) (ns:=pT s) ae).trans ae;rw[cZ jv,take_append_of_le_length cN,nU cN,drop_append_of_le_length cN,Df cN,pN];have g:sw qi (kT qi (pT s))=cu (pT s):=by
   unfold sw;have e:=JH qi (pT s) [] ae (by
    unfold qi pT fitAll;simp only[fitAll,wN,qS,Bool.and_true]
    grind)
   rw[wR] at e;rw[e,df ⟨by decide,b⟩]
  rw[g,xp a.1 r.2.2.2.2.2.1,ace r.2.2.2.2.2.2.1 r.2.2.2.2.2.2.2.1 a.2,afk]
  simp_all[pT]
 cases h
theorem N4:∀(l:List dw)(ts:List cV),kH l=cu ts->(∀s∈l,tU s)->mK ts=cu l
 | [],ts,h,_=>by grind[kH,mK]
 |s::l,ts,h,hp=>by
  unfold kH at h;split at h
  . cases h
  next t ht=>
  split at h
  . cases h
  next ts' hts=>
  cases h;unfold mK;rw[acf ht (hp s nC),N4 l ts' hts λx a=>hp x (lu _ a)]
theorem YA{b:ee}{t:cV}(h:iU b=cu t)(d:∀s∈b.cU,tU s):lM t=cu (b.next,b.cU):=by
 unfold iU at h;cases a:jD b.next b.cU with
 |none=>grind
 |some t'=>
  rw[a] at h;simp only at h;split at h;cases h;cases h;have c:=a;unfold jD at a;split at a;cases a
  next hn=>
  split at a;cases a
  next ts hts=>
  have rs:=NT b.cU;have f:ts.n=b.cU.n:=by grind
  unfold lM;rw[N3 a];simp only[lr,headD_cons,drop_succ_cons,drop_zero];rw[cZ cN];have g:sw [8] (kT [8] [b.next])=cu [b.next]:=by have e:=JH [8] [b.next] [] ae (by grind[fitAll]);rw[wR] at e;unfold sw;rw[e,df ⟨by decide,sq ae⟩]
  rw[g,N4 _ _ hts d];grind
theorem VU(next:Nat):∀(l:List dw)(a:Nat)(b:List (Nat×fF)),(∀s∈l,fx s=cx/\a<s.id/\s.id<next/\dG s∉b)->Da l->(∀s t,s∈l->t∈l->dG s=dG t->s=t)->oF next a b l=cx
 | [],_,_,_,_,_=>rfl
 |x::r,a,b,h,hi,hn=>by
  have c:=h x nC;unfold Da at hi;rw[Dd] at hi;unfold oF;simp only[c.1,c.2.1,c.2.2.1,decide_true,Lt,wN,Bool.not_eq_true'];refine⟨by grind[D5],VU next r x.id _ (λs d=>?_) hi.2 λs t d e=>hn s t (lu _ d) (lu _ e)⟩
  grind
theorem Good.afl{x:GT}(G:Good x)(F:Fit x):nt x.b.next x.b.cU=cx:=by
 have H:x.b.next<=281474976710655:=by grind[Fit,Ae,sg,nq]
 unfold nt;have C:=G.q6;rw[cZ cN,wN,rz];refine⟨VU _ _ _ _ (λs f=>⟨F.right s f,by have:=G.xE.lt f;omega,(G.xE.lt f).2,by simp⟩) G.inc G.names,λs f=>?_⟩;rw[wN];constructor;unfold kz;by_cases i:s.dB=0;rw[df i,G.ti.Ad f i];rfl;rw[cZ i];obtain⟨p,m,e,sn,_⟩:=G.ti.pr f i;obtain⟨j,n,o⟩:=G.inc.xP m;rw[<-e,n];simp only[o,sn,Lt,wN,rz,qS];refine⟨?_,λq A=>?_⟩;(cases h:s.dz with|false=>rfl|true=>have:=(G.xE.xQ f m e).2.1 h;simp;omega);obtain⟨u,k,rfl,_⟩:=(G.ti.di f m e).1 A;have:=(G.ti.bt m u).2;simp_all[Dc]
 . unfold jM;cases h:s.dz with
   |false=>simp
   |true=>
    (rw[cZ eQ];obtain⟨v,B,a,b⟩:=G.xE.own f h;obtain⟨j,n,o⟩:=G.inc.xP B;rw[<-b,n];simp only[o,a,Lp,mq,qS];rw[b];obtain⟨c,hc,u,z⟩:=G.xE.nxt f h;have w:((x.b.cU.filter λt=>decide (t.dB=s.id)).filter λt=>decide (t.cY=s.cY)).Pairwise λa b=>a.id<b.id:=(G.inc.filter _).filter _;have all:∀d∈((x.b.cU.filter λt=>decide (t.dB=s.id)).filter λt=>decide (t.cY=s.cY)),d=c:=λd g=>by obtain⟨g,E⟩:=AE.1 g;obtain⟨g,D⟩:=AE.1 g;exact G.xE.one f h g hc jv u jv z);have y:c∈((x.b.cU.filter λt=>decide (t.dB=s.id)).filter λt=>decide (t.cY=s.cY)):=AE.2 ⟨AE.2 ⟨hc,by grind⟩,by grind⟩;generalize ((x.b.cU.filter λt=>decide (t.dB=s.id)).filter λt=>decide (t.cY=s.cY))=l at*
    match l,w,all,y with
    | [_],_,_,_=>rfl
    |a::b::r,w,all,_=>
     simp_all
theorem JI(h:lJ u=cx)(l:dD u.iL):kb (ui u)=cu u:=by
 have i:=h;unfold lJ at i;rw[qS] at i;have e:ui u=[65,81,70,82]++(qQ 8 u.lT++(qQ 8 u.cR++(iM u.iL++(qQ 4 u.len++(qQ 4 u.gm++(replicate 80 0++qQ 4 (kU (rD u)))))))):=by rfl
 have tk:∀(a b:cV)n,a.n=n->(a++b).take n=a:=λa b n h=>by grind
 have o:∀(a b:cV)n k,a.n=n->(a++b).drop (n+k)=b.drop k:=λa b n k h=>by simp_all[drop_append]
 have j:(ui u).drop 4=qQ 8 u.lT++(qQ 8 u.cR++(iM u.iL++(qQ 4 u.len++(qQ 4 u.gm++(replicate 80 0++qQ 4 (kU (rD u))))))):=by rfl
 have c:(ui u).drop 12=qQ 8 u.cR++(iM u.iL++(qQ 4 u.len++(qQ 4 u.gm++(replicate 80 0++qQ 4 (kU (rD u)))))):=by rfl
 have d:(ui u).drop 20=iM u.iL++(qQ 4 u.len++(qQ 4 u.gm++(replicate 80 0++qQ 4 (kU (rD u))))):=by rfl
 have f:(ui u).drop 36=qQ 4 u.len++(qQ 4 u.gm++(replicate 80 0++qQ 4 (kU (rD u)))):=by rfl
 have g:(ui u).drop 40=qQ 4 u.gm++(replicate 80 0++qQ 4 (kU (rD u))):=by rfl
 have m:Gm (ui u) u.iL=u:=by unfold Gm;rw[j,c,f,g,tk _ _ 8 (gh 8 u.lT),tk _ _ 8 (gh 8 u.cR),tk _ _ 4 (gh 4 u.len),tk _ _ 4 (gh 4 u.gm),rh 8 _ cN,rh 8 _ cN,rh 4 _ cN,rh 4 _ cN]
 unfold kb;rw[d,tk _ _ 16 (fY u.iL),xp l i.2.2.2.2.1];simp only;rw[m];unfold lK;rw[df h];simp
theorem acg{l:List rC}(g:u∈l)(h:∀v∈l,v=u∨v.lT<u.lT):(oZ l).getLast?=cu u:=by
 have c:=(Sort.insertionSort_holds ad4 l.toArray 0 l.toArray.s (gw _) (eN _));have a:=sF l;have f:=c.2;have sz:=c.1.1;have e:(oZ l).toArray=Sort.insertionSort (ltOf λx y:rC=>Hd x.lT y.lT) l.toArray 0 l.toArray.s:=by rfl
 rw[<-e] at f;have b:=a.mem_iff.2 g;have d:oZ l≠ []:=ne_nil_of_mem b;rw[getLast?_eq_getLast d];congr 1;obtain⟨i,k,j⟩:=zF b;have n:=a.length_eq;rcases h _ (a.mem_iff.1 (getLast_mem d)) with h1|h1;exact h1;exfalso;by_cases m:i=(oZ l).n-1;grind;have:=f i ((oZ l).n-1) (gw _) cN sp_;grind[ltOf,Hd]
structure Ring(D:Nat->cV)(u:rC):Prop where
 here:D (u.lT%4)=ui u
 right:lJ u=cx
 parts:dD u.iL
 iP:∀i,i<4->i≠u.lT%4->∀v,kb (D i)=cu v->v.lT%4=i->v.lT<u.lT
theorem ach{d:Dv}(R:Ring d.nw u)(n:d.di=cy)(z:4<=d.n):(fW d).2=cu u/\Wr (λ_=>False) d (fW d).1/\(fW d).1.di=cy:=by
 have b:∀(k:Nat),k<=4->Wr (λ_=>False) d (kj d k).1/\(kj d k).1.di=cy/\(∀v∈(kj d k).2,v=u∨v.lT<u.lT)/\(u.lT%4<k->u∈(kj d k).2):=by intro k;induction k with|zero=>intro _;exact⟨.refl _,n,by simp[kj],cN⟩|succ k ih=>(intro y;obtain⟨a,m,j,f⟩:=ih cN;have e:kj d (k+1)=rX (kj d k) k:=by grind[kj,range_succ]);(rw[e];generalize kj d k=x at*;obtain⟨d',l⟩:=x;simp only at a m j f;have wr:=ZO (A:=λ_=>False) d' (k:Int);have c:(ik d' (k:Int)).1.di=cy:=by grind[ik,fC]);(have p:(ik d' (k:Int)).2=(d.nw k,0):=by unfold ik Ri;rw[df (by rw[a.n];simp;omega),cZ (by rw[m];simp)];simp[a.nw id]);unfold rX;simp only[p];rw[cZ eQ];by_cases g:k=u.lT%4;rw[g,R.here,JI R.right R.parts];simp only[oR];refine⟨a.trans (g▸wr),g▸c,λv B=>?_,λ_=>Dj _ nC⟩;grind;cases o:kb (d.nw k) with|none=>exact⟨a.trans wr,c,j,λh=>f cN⟩|some v=>simp only;split;(next h5=>refine⟨a.trans wr,c,λw i=>?_,λh=>I3 _ (f cN)⟩;rcases gH.1 i with i|i;grind;rw[fM.1 i];exact .inr (R.iP k cN g v o h5));exact⟨a.trans wr,c,j,λh=>f cN⟩
 obtain⟨q,r,s,t⟩:=b 4 (eN _);exact⟨acg (t (mod_lt _ kB)) s,q,r⟩
theorem YB{u:Pl}{t:cV}(b:u.dv.di=cy)(e:t.n=40)(f:q≠cX)(c:q.1<u.dv.n)(h:u.dv.nw q.1=pF t)(hc:q.2.2=kU (u.dv.nw q.1)):∃v,eP u q 40=(v,(t,[q],0))/\PW (λ_=>False) u v/\v.mp=u.mp/\v.dv.di=cy:=by
 have g:=SJ (q:=q) b (.inr ⟨c,hc.symm⟩);have a:=NA (A:=λ_=>False) u q;have j:kM 40=[1]:=by decide
 have k:pH u [q]=((gr u q).1,(pF t,0)):=by simp_all[pH,jU,Ea]
 have i:eX u [q] 40=((gr u q).1,(t,0)):=by simp_all[eX,pF]
 refine⟨(gr u q).1,?_,a.1,a.2,(by grind[gr,ik,fC])⟩;unfold eP;rw[cZ jv];have d:qW 40=[]:=by rfl
 grind
theorem YC(c:cQ)(a:Nat)(d:cQ)(b:Nat):(Bz c a d b).take 20=iM c++qQ 4 a/\(Bz c a d b).drop 20=iM d++qQ 4 b:=by unfold Bz;grind[fY,gh,take_left,drop_left]
theorem VV{u:Pl}{p:cQ}(b:dD p)(c:ij p=cx)(a:n<4294967296):jZ u (iM p++qQ 4 n)=eP u p (n:Nat):=by grind[fY,jZ,xp,rh]
theorem aci{b:ee}(L:Laid D n st q text (lq m 2) dK ats)(K:sW n m)(j:64<=n/\n<=1024)(O:iU b=cu text)(M:∀s∈b.cU,tU s)(J:nt b.next b.cU=cx){u:Pl}(I:u.dv.di=cy)(i:u.dv.n=n)(uw:∀a∈ats,u.dv.nw a=D a):∃v,ke u q=(v,(b,(lq m 2,(dK,0))))/\PW (λ_=>False) u v/\v.mp=u.mp/\v.dv.di=cy:=by
 obtain⟨⟨p,r,l,mm,g,a1,a2,e,V,X,R,T,hD,hc,lt,N,z,A,G,t,w,U⟩,_,_⟩:=L;obtain⟨Y,c,d⟩:=N0 j.1 j.2 K;rw[e] at c;cases c;have sl:=IL e;have tl:text.n<=65535:=by grind[iU]
 have h:g.n<4294967296:=by grind[fX]
 obtain⟨Z,C,w1,Q,B⟩:=YB (u:=u) (q:=q) I (ZY p text.n r g.n) N cN jv jv;obtain⟨v2,E,f,k⟩:=z.load Z B ((w1.wr.n).trans i) λa H=>by rw[w1.nn];grind
 obtain⟨v3,F,y,o⟩:=A.load v2 k.2 ((f.wr.n).trans ((w1.wr.n).trans i)) λa H=>by rw[f.nn,w1.nn];grind
 have x:=YC p text.n r g.n;refine⟨v3,?_,(w1.trans f).trans y,(o.1.trans k.1).trans Q,o.2⟩;unfold ke;rw[C];simp only[ne_eq,xy,mq];unfold ml1;simp only[x.1];rw[VV R V cN,E];simp only[ne_eq,xy,mq];unfold ml2;simp only[x.2];rw[VV T X h,F];simp only[ne_eq,xy,mq];unfold ml3;simp only[YA O M,J,(y.wr.n).trans ((f.wr.n).trans ((w1.wr.n).trans i)),d];rw[cZ eQ,G]
theorem QO:∀(l:List Int)(m:Nat->Nat)(a:Nat),(∀i∈l,0<=i/\i<1024)->(∀b,m b=1∨m b=2∨m b=0)->zA m l a=if(a:Int)∈l/\m a=1 then 2 else m a
 | [],m,a,_,_=>by rfl
 |i::l,m,a,h,g=>by
  have d:=h i nC;have e:sQ m i 1 2=λb:Nat=>if(b:Int)=i/\m b=1 then 2 else m b:=by
   funext b;have c:isB m i 1=decide (m i.m=1):=by unfold isB;simp[d.1,d.2]
   unfold sQ kC;rw[c];by_cases f:m i.m=1<;>simp[f]<;>grind
  have n:=QO l (sQ m i 1 2) a (λj k=>h j (lu _ k)) (λb=>by rw[e];have:=g b;show(if _ then _ else _)=1∨_;grind);show zA (sQ m i 1 2) l a=_;rw[n,e];simp only[iZ];have:=g a
  grind
abbrev Af:=fF×(Nat×(Nat×fF))
def Ej(i:Af):Nat->c7:=λj=>if j=0 then bY i.1 else if j=1 then bU cq i.2.1 else if j=2 then bU cq i.2.2.1 else bY i.2.2.2
def EV(i:Af):∀j,(Ej i j).oneCell'=cx:=by intro j;unfold Ej;split;rfl;split;rfl;split<;>rfl
instance in1942d(i:Af):OF (Ej i):=⟨EV i⟩
def Z8(i:Af):List c7:=(cL 4 (Ej i)).t
def zB(l:List Af):List c7:=l.flatMap Z8
def xG(l:List dw)(s:dw):Af:=(l7 l s.id,(s.blocks,(s.di.n,if s.dz=cx then sG else l7 l (uX l s.id).2)))
def pL(x:GT):List Af:=x.b.cU.map (xG x.b.cU)
theorem N5(l:List Af)(i:Af):zB (l++[i])=zB l++(cL 4 (Ej i)).t:=by grind[zB,Z8]
def afm:(#[bY ⟨#[]⟩,bU cq 0,bU cq 0,bY ⟨#[]⟩]:gE)=cL 4 (Ej (sG,(0,(0,sG)))):=rfl
instance in5b630 :ZR 52 4 (Ej (sG,(0,(0,sG)))):=⟨_,zeroValue52,afm⟩
def akj:kg prog 52 4:=⟨⟨_,underlying52,ae⟩,dC⟩
instance in00884 :sE 52 4:=⟨akj⟩
def ai0:(prog.info? 52).map (λi=>(i.zero,i.s,i.bytes))=cu (cu (bV #[bY ⟨#[]⟩,bU cq 0,bU cq 0,bY ⟨#[]⟩]),4,48):=dC
def XB:xi prog 24 52 4 48:=⟨underlying24,_,ai0,ae,cN⟩
section
attribute[local irreducible]wpList Code.wp Calls Oper.wp wpAnyH
def SW(K D G M:Nat)(g:iV)(s:Pl)(ht:fG g.b.t)(w:cS)(h:vf w K G g D M s):
 CP_ 12 #[bW (cu ⟨K,0,cw⟩)] w λe w'=>∃r,e=cj r/\w'.ownsRow w.h.s 52 4 r (pL (g.gt s)).n (zB (pL (g.gt s)))/\dR w w':=by
 have H0:=cz h;have S:=qR w;have C1:=cz λW(hb:dR w W)=>lU G D M g s ht.fit W (h.KX.cP hb);have Q:=cz ht;obtain⟨T,U⟩:=sO (pL (g.gt s));rw[U.o];clear h ht;go_enter func12,ntmps12;go_upto_region 4 with(first|refine zC (v:=dE G 0) (cM.cell (cM.cP H0.o.row S.b) (i:=0) cN) ?_|(refine(C1.o _ S.b).mono ?_;rintro e W ⟨B,rfl,⟨⟨cn,a,l,d⟩,rfl,hc,ho⟩,hb⟩;have HC:=cz hc;replace S:=S.Vv hb ho;clear hb hc;rw[show cL 2 (dO ⟨cn,a,l,d⟩)=#[bU ct cn,bX l a.n d] from ae];have Y:=λW=>Qz cn l a.n d W));have a1:Hid (0<a.n->∃b o,l=s_ b o):=cz λhn=>by obtain⟨Z,cap,t,-,h3⟩:=dP S.x.2.1.1;simp only[dW.sv,ly] at t;obtain⟨b,o,h4⟩:=h3 hn;exact⟨b,o,t.1.trans h4⟩
 have f:g.b.t.cU=eM a:=by rw[<-HC.o];rfl
 have HL:=cz (show T=(eM a).map (xG (eM a)) from by rw[<-U.o];unfold pL;rw[show(g.gt s).b=g.b.t from ae,f]);have y:a.n<=1000000:=by have t:=Q.o.fit.1;rw[f,iu] at t;exact t
 have u:rG a:=by have t:=Q.o.fit.2;rw[f] at t;exact t
 have C2:=cz λid W R=>aec a (bX l a.n d) id y u W R;have C3:=cz λid W R=>Mw a (bX l a.n d) id y W R;replace S:=S.Jl 52 4 ae ae;change St w cw [] [] _ (λB w=>True/\rY (bX l a.n d) a B w) W at S;have HS:=cz S;clear u f S Y;go_loopw [4,16] (λlv kv wr=>∃(k:Nat)(Z:Option Addr)(c:Nat),k<=a.n/\kv=bU cq k/\lv=bX Z k c/\Hid (∃L,St w cw [] L [⟨52,4,bX Z k c,k,zB (((eM a).take k).map (xG (eM a)))⟩] (λB w=>True/\rY (bX l a.n d) a B w) wr)) (λ_ kv _=>a.n-(intOf kv).m);exact⟨0,cw,0,cN,ae,ae,cz ⟨_,HS.o⟩⟩;clear HS;obtain⟨k,Z,c,hk,rfl,rfl,hS⟩:=hrel;obtain⟨L,S⟩:=hS.o;clear hS;by_cases p:k<a.n
 . obtain⟨C,J,rfl⟩:=a1.o cN;obtain⟨x,hx⟩:=dI (a[k]);have I:a[k]?=cu x:=by rw[jE p,hx]
   have N:=cz I;have n:=cz p;have HT:=cz (show((eM a).take (k+1)).map (xG (eM a))=((eM a).take k).map (xG (eM a))++[xG (eM a) x.todw] from by
    rw[yv (by rw[iu];exact p),nL];congr 1;have V:(eM a)[k]?=cu x.todw:=by rw[mZ,I];rfl
    rw[jE (by rw[iu];exact p)] at V;rw[wT V];rfl)
   obtain⟨O,F⟩:=dI (l7 (eM a) x.id);have C4:=cz (C2.o x.id);rw[F] at C4;obtain⟨og,H⟩:=dI ((uX (eM a) x.id).2);have C5:=cz (C3.o x.id);rw[H] at C5;obtain⟨q,m⟩:=dI (l7 (eM a) og);have C6:=cz (C2.o og);rw[m] at C6;obtain⟨sp,z⟩:=sO x.dz;have HI:=cz (show xG (eM a) x.todw=(O,(x.blocks,(x.di.n,if sp=cx then sG else q))) from by
    unfold xG;rw[show x.todw.id=x.id from ae,F,H,m,<-z.o])
   obtain⟨A,HA⟩:=yB (cL 4 (Ej (O,(x.blocks,(x.di.n,sG)))));obtain⟨A2,a3⟩:=yB (cL 4 (Ej (O,(x.blocks,(x.di.n,q)))));clear hx I F H m;go_upto_region 7 with(fail);refine MF S dC [] (by intro r hr;cases hr) λW S=>?_;refine dh 0 _ ?_;refine dh 1 _ ?_;refine dh 2 (dE C (J+k*11)) ?_;refine dh 3 (dE C (J+k*11)) ?_;refine gZ 4 (bU ct x.id) ae (gO (λw h=>by obtain⟨_,_,S,_⟩:=h;exact(S.x.2.sl.at N.o).c0) ae fZ) ?_;refine dh 6 _ ?_;refine dh 7 (dE C (J+k*11)) ?_;refine dh 8 (dE C (J+k*11+6)) ?_;refine gZ 9 (bU cq x.blocks) ae (gO (λw h=>by obtain⟨_,_,S,_⟩:=h;exact(S.x.2.sl.at N.o).c6) ae DG) ?_;refine dh 10 _ ?_;refine dh 11 (dE C (J+k*11)) ?_;refine dh 12 (dE C (J+k*11+10)) ?_;refine gZ 13 (bX x.dZ x.di.n x.cap) ae (gO (λw h=>by obtain⟨_,_,S,_⟩:=h;exact(S.x.2.sl.at N.o).c10) ae ox) ?_;refine dh 14 (bU cq x.di.n) ?_;repeat' first|refine Te ?_|refine nv_ 15 (bV A) ae (y8 ae amU) ?_|refine BE 5 16 (λK E=>?_) λK E=>?_|refine qg 5 λK E=>?_|refine qg 17 λK E=>?_|refine qg 16 λK E=>?_|(refine gl S zeroValue52 afm ae λE7 W S=>?_;refine gq E ?_)|(go_wp2_with fail;refine je S (C4.o _ S.x.2.sl) λW S=>?_;refine gq E ?_)|(refine kq S 0 ae ae ae HA.o akj (EV _) λW S=>?_;refine gq E ?_)
   all_goals(
    refine cz ?_;have a2:=λ(W:cS)(X:rY (bX (s_ C J) a.n d) a [] W)=>iG;clear a2;cases sp with
    |true=>
     go_wp2_with first|refine jF (v:=bZ cx) (by rw[(S.x.2.sl.at N.o).c2,z.o]) ae tT ?_|refine tA S 0 rfl 0 rfl rfl rfl rfl XB (EV _) CK xZ λg9 c9 W S=>?_|refine fL ?_|refine fg λW S=>?_
     rw[<-N5] at S;go_roundw
     case rel=>
      have:=n.o;have hI:xG (eM a) x.todw=(O,(x.blocks,(x.di.n,sG))):=HI.o;rw[<-hI,<-HT.o] at S;exact ank
     case measure=>have:=n.o;simp[intOf];omega
    |false=>
     go_wp2_with first|refine jF (v:=bZ cy) (by rw[(S.x.2.sl.at N.o).c2,z.o]) ae tT ?_|refine zC (S.x.2.sl.at N.o).c0 ?_|refine je S (C5.o _ S.x.2.sl) λW S=>?_|refine je S (C6.o _ S.x.2.sl) λW S=>?_|refine xA S 0 rfl 3 (Ej (O,(x.blocks,(x.di.n,q)))) (λj hj=>by rcases j with(_|_|_|_|j)<;>first|rfl|(exfalso;have hj:j+4<4:=hj;omega)) rn rfl rfl rfl Gt λW S=>?_|refine tA S 0 rfl 0 rfl rfl rfl rfl XB (EV _) CK xZ λg9 c9 W S=>?_|refine fL ?_|refine fg λW S=>?_
     rw[<-N5] at S;go_roundw
     case rel=>
      have:=n.o;have hI:xG (eM a) x.todw=(O,(x.blocks,(x.di.n,q))):=HI.o;rw[<-hI,<-HT.o] at S;exact ank
     case measure=>have:=n.o;simp[intOf];omega)
 . obtain rfl:k=a.n:=cN;have HE:=cz (show((eM a).take a.n).map (xG (eM a))=T from by rw[<-iu,qq,HL.o]);go_wp2;go_ret;have V:=S.o0;rw[HE.o] at V;exact⟨_,ae,by rw[show T.n=a.n from by rw[HL.o,mQ,iu]];exact V,S.b⟩
end
structure Inv(x:GT):Prop where
 oC:Good x
 fit:Fit x
 al:x.s.dv.al
structure Far(x y:GT)(k:Nat):Prop where
 ub:y.ub=x.ub
 n:y.s.dv.n=x.s.dv.n
 st:y.s.cR<=x.s.cR+k
 nx:y.b.next<=x.b.next+k
 ring:∀a,a<4->y.s.dv.nw a=x.s.dv.nw a
theorem Far.trans{x y z:GT}{a b:Nat}(h:Far x y a)(g:Far y z b):Far x z (a+b):=
 ⟨g.ub.trans h.ub,g.n.trans h.n,by have:=h.st;have:=g.st;omega,by have:=h.nx;have:=g.nx;omega,λi c=>(g.ring i c).trans (h.ring i c)⟩
def YD{x:GT}(G:Good x)(g:GW x y)(s:VR x y):Far x y 1:=
 ⟨s.ub,g.2.n,s.st.2,s.nx,λa b=>g.2.nw λh=>by have:=(G.map a).2.1 cN;omega⟩
def N6(k:Int)(i:Nat):Bool:=
 if i=0 then decide (0<=k/\k<=8) else if i=1 then decide (k=5) else if i=2 then decide ((0<=k/\k<=3)∨k=10∨k=12) else if i=3 then decide (k=1∨k=12) else decide (k=11)
def kindOk(k:Int):Bool:=decide (0<=k/\k<=12)
def SX(p:Nat->Bool):Nat->c7:=λi=>bZ (p i)
def YE(p:Nat->Bool):∀i,(SX p i).oneCell'=cx:=λ_=>ae
instance incb23c(p:Nat->Bool):OF (SX p):=⟨YE p⟩
def Zl:(#[bZ cy,bZ cy,bZ cy,bZ cy,bZ cy]:gE)=cL 5 (SX λ_=>cy):=rfl
instance in9169f :ZR 272 5 (SX λ_=>cy):=⟨_,zeroValue272,Zl⟩
def akk:kg prog 272 5:=⟨⟨_,underlying272,ae⟩,dC⟩
instance in70151 :sE 272 5:=⟨akk⟩
def ad0:prog.built 272 []=cu #[bZ cy,bZ cy,bZ cy,bZ cy,bZ cy]:=dC
structure YF where
 kind:Int
 name:fF
 toN:fF
 n:Int
 data:cV
 fI:List Bool
structure IQ extends YF where
 da:Option Addr
 dc:Nat
 ka:Option Addr
 kc:Nat
def opF(o:IQ):Nat->c7:=λi=>if i=0 then bU cq o.kind else if i=1 then bY o.name else if i=2 then bY o.toN else if i=3 then bU cq o.n else if i=4 then bX o.da o.data.n o.dc else bX o.ka o.fI.n o.kc
def ahj(o:IQ):∀i,(opF o i).oneCell'=cx:=by intro i;unfold opF;split;rfl;split;rfl;split;rfl;split;rfl;split<;>rfl
instance inea6f6(o:IQ):OF (opF o):=⟨ahj o⟩
def Ek(w:cS)(b o:Nat)(x:IQ):Prop:=∀k,k<6->w.cell? ⟨b,o+k,cw⟩=cu (opF x k)
section
variable {x:IQ}
def Ek.c0(h:Ek w b o x):w.cell? ⟨b,o,cw⟩=cu (.int cq x.kind):=h 0 cN
end
def afn(o:YF):Bool:=
 kindOk o.kind&& ((N6 o.kind 0||decide (o.name=sG))&& (decide (o.name.s<=60)&& ((N6 o.kind 1||decide (o.toN=sG))&& (decide (o.toN.s<=60)&& ((N6 o.kind 2||decide (o.n=0))&& (decide (-1<=o.n)&& (decide (o.n<=65534)&& ((N6 o.kind 3||decide (o.data.n=0))&& (decide (o.data.n<=129)&& ((N6 o.kind 4||decide (o.fI.n=0))&&decide (o.fI.n<=64)))))))))))
def akl:lD prog 39:=⟨⟨_,underlying39,ae⟩,dC⟩
instance in197e3 :ru 39:=⟨akl⟩
structure alY(o:YF):Prop where
 kind:0<=o.kind/\o.kind<=12
 name:o.name.s<=60
 toN:o.toN.s<=60
 n: -1<=o.n/\o.n<=65534
 data:o.data.n<=129
 fI:o.fI.n<=64
structure akm where
 ack:Int
 ops:List YF
structure alJ(s:akm):Prop where
 ack:64<=s.ack/\s.ack<=1024
 q6:s.ops.n<=200
 op:∀o∈s.ops,afn o=cx
def opE(x:IQ):List c7:=(cL 6 (opF x)).t
def Ll(x:IQ):(opE x).n=6:=by rfl
def opC(l:List IQ):List c7:=l.flatMap opE
structure VW where
 ack:Int
 l:List IQ
 dZ:Option Addr
 cap:Nat
def VW.sv(s:VW):c7:=bX s.dZ s.l.n s.cap
def afo(s:VW):Nat->c7:=λi=>if i=0 then bU cq s.ack else s.sv
def afp(s:VW):∀i,(afo s i).oneCell'=cx:=by intro i;unfold afo;split<;>rfl
instance in9322e(s:VW):OF (afo s):=⟨afp s⟩
def Z9:VW:=⟨0,[],cw,0⟩
def afq:IQ:=⟨⟨0,sG,sG,0,[],[]⟩,cw,0,cw,0⟩
def adU:(#[bU cq 0,bX cw 0 0]:gE)=cL 2 (afo Z9):=rfl
instance in1dcef :ZR 32 2 (afo Z9):=⟨_,zeroValue32,adU⟩
def adV:(#[bU cq 0,bY ⟨#[]⟩,bY ⟨#[]⟩,bU cq 0,bX cw 0 0,bX cw 0 0]:gE)=cL 6 (opF afq):=rfl
instance in80665 :ZR 41 6 (opF afq):=⟨_,zeroValue41,adV⟩
def alg:kg prog 32 2:=⟨⟨_,underlying32,ae⟩,dC⟩
instance inf2ec7 :sE 32 2:=⟨alg⟩
def alh:kg prog 41 6:=⟨⟨_,underlying41,ae⟩,dC⟩
instance ina6a03 :sE 41 6:=⟨alh⟩
def agu:prog.built 32 []=cu #[bU cq 0,bX cw 0 0]:=dC
def agv:prog.built 41 []=cu #[bU cq 0,bY ⟨#[]⟩,bY ⟨#[]⟩,bU cq 0,bX cw 0 0,bX cw 0 0]:=dC
def akn:lD prog 30:=⟨⟨_,underlying30,ae⟩,dC⟩
instance in66103 :ru 30:=⟨akn⟩
def ai3:(prog.info? 41).map (λi=>(i.zero,i.s,i.bytes))=cu (cu (bV #[bU cq 0,bY ⟨#[]⟩,bY ⟨#[]⟩,bU cq 0,bX cw 0 0,bX cw 0 0]),6,96):=dC
def ail:xi prog 30 41 6 96:=⟨underlying30,_,ai3,ae,cN⟩
def ali:lD prog 5:=⟨⟨_,yU,ae⟩,dC⟩
instance in6ae8b :ru 5:=⟨ali⟩
def ako:(prog.info? 4).map (λi=>(i.zero,i.s,i.bytes))=cu (cu (.bool cy),1,1):=dC
def afr:xi prog 39 4 1 1:=⟨underlying39,_,ako,ae,cN⟩
abbrev Wl:=Dv ⊕ GT
def rM(x:GT)(o:YF):GT×(cV×Int):=
 let put (r:GT×Int):GT×(cV×Int):=(r.1,(ff,r.2))
 if o.kind=0 then put (dX x (mB o.name o.n))
 else if o.kind=1 then put (dX x (mL o.name o.n o.data))
 else if o.kind=2 then put (dX x (rL o.name o.n))
 else if o.kind=3 then ny o.name o.n x
 else if o.kind=4 then put (dX x (qA o.name))
 else if o.kind=5 then put (dX x (qN o.name o.toN))
 else if o.kind=6 then put (dX x (l9 o.name))
 else if o.kind=7 then put (dX x (uA o.name))
 else if o.kind=8 then put (dX x (kY o.name))
 else if o.kind=9 then put (dX x iC)
 else(x,(ff,0))
def afs:Wl->Dv
 | .inl d=>d
 | .inr x=>x.s.dv
def JJ(K D:Nat)(x:GT):cV->cS->Prop:=λB w=>∃G g M,zy K G g D M x.s B w/\g.gt x.s=x/\fO x.dK
def yf(K D:Nat)(x:GT):lO (cu D) (JJ K D x):=
 ⟨λ⟨G,g,M,h,e⟩ b=>⟨G,g,M,(kt K G g D M x.s).cP h b,e⟩,λ⟨G,g,M,h,e⟩ b=>⟨G,g,M,(kt K G g D M x.s).add h b,e⟩,λ⟨G,g,M,h,e⟩ b=>⟨G,g,M,(kt K G g D M x.s).mono h b,e⟩,
  λ⟨G,g,M,h,e⟩ b c t u v=>⟨G,g,M,(kt K G g D M x.s).but h b c t u v,e⟩,λ⟨G,g,M,h,_⟩ f=>(kt K G g D M x.s).dev h f⟩
def JJ.at{D:Nat}{x:GT}(h:JJ K D x B w):fA w K D x:=by obtain⟨G,g,M,a,e⟩:=h;exact⟨G,g,M,a.at,e⟩
def fA.xB{D:Nat}{x:GT}(h:fA w K D x)(c:∀b∈B,iA w b≠cu 109/\iA w b≠cu 106):JJ K D x B w:=by obtain⟨G,g,M,a,e⟩:=h;exact⟨G,g,M,⟨a.KX.xB c,a.row⟩,e⟩
def fA.x{D:Nat}{x:GT}(h:fA w K D x):JJ K D x [] w:=h.xB λ_ h=>absurd h jK
def fA.dev{D:Nat}{x:GT}(h:fA w K D x):jN w D x.s.dv:=by obtain⟨G,g,M,a,e⟩:=h;exact a.KX.lf.dev
def akq(D:Nat)(d:Dv):cV->cS->Prop:=λ_ w=>jN w D d
def stX(D:Nat)(s:Wl)(v:c7):cV->cS->Prop:=λB w=>match s with
 | .inl d=>v=bW cw/\akq D d B w
 | .inr x=>∃K,v=bW (cu ⟨K,0,cw⟩)/\JJ K D x B w
def JK(w:cS)(D:Nat)(s:Wl)(v:c7):Prop:=match s with
 | .inl d=>v=bW cw/\jN w D d
 | .inr x=>∃K,v=bW (cu ⟨K,0,cw⟩)/\fA w K D x
def lO.imp{p:Prop}(h:lO d X):lO d (λB w=>p/\X B w):=
 ⟨λa b=>⟨a.1,h.cP a.2 b⟩,λa b=>⟨a.1,h.add a.2 b⟩,λa b=>⟨a.1,h.mono a.2 b⟩,λa b c t u f=>⟨a.1,h.but a.2 b c t u f⟩,λa f=>h.dev a.2 f⟩
def ahk(D:Nat)(s:Wl)(v:c7):lO (cu D) (stX D s v):=by cases s with|inl d=>exact(show lO (cu D) (akq D d) from gU D d).imp|inr x=>exact⟨λ⟨K,e,h⟩ b=>⟨K,e,(yf K D x).cP h b⟩,λ⟨K,e,h⟩ b=>⟨K,e,(yf K D x).add h b⟩,λ⟨K,e,h⟩ b=>⟨K,e,(yf K D x).mono h b⟩,λ⟨K,e,h⟩ b c t u f=>⟨K,e,(yf K D x).but h b c t u f⟩,λ⟨K,_,h⟩ f=>(yf K D x).dev h f⟩
def JK.xB{D:Nat}{s:Wl}(h:JK w D s v)(a:∀b∈B,iA w b≠cu 109/\iA w b≠cu 106):stX D s v B w:=by cases s with|inl d=>exact h|inr x=>obtain⟨K,e,h⟩:=h;exact⟨K,e,h.xB a⟩
def JK.dev{D:Nat}{s:Wl}(h:JK w D s v):jN w D (afs s):=by cases s with|inl d=>exact h.2|inr x=>obtain⟨K,e,h⟩:=h;exact h.dev
section
variable {D:Nat}
theorem St.akr(S:St w0 (cu D) l L O X w){s:Wl}(h:JK w' D s v)(f:Fr (cu D) l2 w w')(d:∀k∈l2,k∈l∨w0.h.s<=k)(i:∀r∈L,r.t≠109/\r.t≠106)(j:∀o∈O,o.e≠109/\o.e≠106):St w0 (cu D) l L O (stX D s v) w':=by have a:=S.Nc f (λ_ e=>e) d (gU D (afs s)) h.dev;refine a.Yk (ahk D s v) (h.xB λb c=>?_);rcases iB.1 c with⟨r,g,rfl⟩|⟨o,ho,e⟩;rw[cM.ty (a.row r g).1];grind;rw[wC (a.own o ho).1 e];grind
theorem St.AA(S:St w0 (cu D) l L O X w){x:GT}(h:fA w' K D x)(f:Fr (cu D) l2 w w')(d:∀k∈l2,k∈l∨w0.h.s<=k)(b:∀r∈L,r.t≠109/\r.t≠106)(c:∀o∈O,o.e≠109/\o.e≠106):St w0 (cu D) l L O (JJ K D x) w':=
 (St.akr (s:=.inr x) S ⟨K,ae,h⟩ f d b c).Yk (yf K D x) (by
  have a:=(St.akr (s:=.inr x) S ⟨K,ae,h⟩ f d b c).x;obtain⟨g,e,a⟩:=a
  grind)
end
def aft(r:cV×Int):Nat->c7:=λi=>if i=0 then bU cq r.2 else dg r.1 (i-1)
def afu(r:cV×Int):∀i,(aft r i).oneCell'=cx:=by intro i;unfold aft;split;rfl;rfl
instance inbc77e(r:cV×Int):OF (aft r):=⟨afu r⟩
def alm:kg prog 38 129:=⟨⟨_,underlying38,ae⟩,dC⟩
instance in91779 :sE 38 129:=⟨alm⟩
def adW:zeroCells38=cL 129 (aft (ff,0)):=dC
instance ind4ac6 :ZR 38 129 (aft (ff,0)):=⟨_,zeroValue38,adW⟩
theorem ai4{m:Nat}{t:dU}{f f' g:Nat->c7}(h:cM w b t n f)(c:∀i,i<n->f' i=if o<=i/\i<o+m then g (i-o) else f i):cM (w.setCells b o (cL m g).t) b t n f':=by refine cM.congr (cM.setCells _ o h) λj d=>?_;unfold KO;rw[mT,cW];by_cases a:o<=j/\j<o+m;rw[df a,DD m _ j o a,c j d,df a];grind
def ahl{D:Nat}{d:Dv}(h:jN w D d):∃l,vt w D d l:=by obtain⟨a,e,c,pv,b⟩:=h;exact⟨_,a,e,c,pv,b,ae⟩
def KE(D:Nat)(d:Dv)(ho:d.ops<=1000000000)(v:c7)(fI:List Bool)(m:cV)(w:cS)(a:jN w D d)(c:LY w v fI):
 CP_ 16 #[bW (cu ⟨D,0,cw⟩),v] w λe w'=>e=cj (cg #[])/\jN w' D (qI d fI)/\Fr (cu D) m w w':=by obtain⟨l,b⟩:=ahl a;exact(adw D d l ho v fI w b c).mono λe w' ⟨he,hs⟩=>⟨he,hs.shut,hs.fr b m⟩
def agw:prog.built 38 []=cu zeroCells38:=dC
structure aln(s:Wl):Prop where
 ops:(afs s).ops<=990000000
 ok:∀x,s=.inr x->E0 x
def kh(n:Nat):Dv:=⟨n,λ_=>ff,λ_=>ff,[],0,-1,cy⟩
def VX(n:Nat):pD (kh n):=⟨λ_=>xf,λ_=>xf,λp h=>absurd h jK,eN _,amj,⟨amj,amj⟩⟩
structure TrT where
 rs:List (cV×Int)
 ls:List Af
 room:Nat
 down:Bool
theorem N7{x:GT}(h:tG x N)(b:pD x.s.dv)(c:gy x.s.cR)(o:YF):tG (rM x o).1 (N+20000):=by have a:=fun {k:GT->GT×Int} (d:tG (k x).1 (N+9))=>Cw h (k:=k) (d.le cN);unfold rM;split;exact a ((QA h _ _).le cN);split;exact a ((VD h b c _ _ _).le cN);split;exact a ((ag9 h b c _ _).le cN);split;exact(Nx h _ _).le cN;split;exact a ((ZL h _).le cN);split;exact a ((aeV h _ _).le cN);split;exact a ((Yn h _).le cN);split;grind[ag7];split;grind[Yo];split;grind[Cw,Nu];exact h.le cN
def VY{d:Dv}(h:pD d)(fI:List Bool):lX (qI d fI).nw:=λi=>T3 h.ps 0 h.st i
structure TrV where
 rv:c7
 rs:List (cV×Int)
 lv:c7
 ls:List Af
 room:Nat
 down:Bool
def trF(x:TrV):Nat->c7:=λi=>if i=0 then x.rv else if i=1 then x.lv else if i=2 then bU cq x.room else bZ x.down
def afv:TrV:=⟨bX cw 0 0,[],bX cw 0 0,[],0,cy⟩
def adX:(#[bX cw 0 0,bX cw 0 0,bU cq 0,bZ cy]:gE)=cL 4 (trF afv):=rfl
instance in70aac :ZR 26 4 (trF afv):=⟨_,zeroValue26,adX⟩
def alo:kg prog 26 4:=⟨⟨_,underlying26,ae⟩,dC⟩
instance inbe5e8 :sE 26 4:=⟨alo⟩
def agx:prog.built 26 []=cu #[bX cw 0 0,bX cw 0 0,bU cq 0,bZ cy]:=dC
def akt:lD prog 23:=⟨⟨_,underlying23,ae⟩,dC⟩
instance in59288 :ru 23:=⟨akt⟩
def aku:lD prog 24:=⟨⟨_,underlying24,ae⟩,dC⟩
instance in22a2e :ru 24:=⟨aku⟩
def ai5:(prog.info? 38).map (λi=>(i.zero,i.s,i.bytes))=cu (cu (bV zeroCells38),129,136):=dC
def aim:xi prog 23 38 129 136:=⟨underlying23,_,ai5,ae,cN⟩
theorem afw{D c b:Nat}(h:zO w D (yN n c b) (λ_=>ff) (λ_=>ff)):jN w D (kh n)/\∀k∈oK w D,k=D∨k=c∨k=b:=by have d:od w D ((kh n).head c b (bX cw 0 0)) (kh n).st (kh n).nw (kh n).ps:=⟨h,iD _ _ _ _,λp e=>by cases e⟩;refine⟨⟨VX n,c,b,_,d⟩,λk a=>?_⟩;rw[d.oK] at a;unfold fS at a;simp only[iZ] at a;rcases a with h|h|h|h;omega;exact .inr (.inl h);exact .inr (.inr h);exact absurd h (by show k∉([]:cV);grind)
structure Ok(x:GT)(k:Nat):Prop where
 inv:Inv x
 ring:Ring x.s.dv.nw x.ub
 st:x.s.cR<=k
 nx:x.b.next<=k
 tx:x.ub.lT<=k
def Ok.far{x:GT}{j:Nat}(h:Ok x k)(I:Inv y)(f:Far x y j):Ok y (k+j):=by refine⟨I,?_,by have:=f.st;have:=h.st;omega,by have:=f.nx;have:=h.nx;omega,by rw[f.ub];have:=h.tx;omega⟩;rw[f.ub];exact⟨(f.ring _ (mod_lt x.ub.lT (show 4>0 by decide))).trans h.ring.here,h.ring.right,h.ring.parts,λi b a v c=>by rw[f.ring i b] at c;exact h.ring.iP i b a v c⟩
theorem Laid.parts(L:Laid D n st q text tk dK ats)(g:n<=1024)(d:gy st):dD q:=by obtain⟨⟨h,i,l,m,j,e,f,_,_,_,_,_,c,hc,lt,_,_,_,b,_⟩,_,a⟩:=L;have:=a q (by rw[b];simp);refine⟨cN,by rw[this.1];exact d,?_⟩;rw[hc,c];grind[DE,aiX,pF]
theorem El{x:GT}(h:Ok x k)(p:k<=281474976710600)(d:lX x.s.dv.nw):(dX x iC).2=0/\Ok (dX x iC).1 (k+1)/\IM x (dX x iC).1:=by
 have I:=h.inv;have m:=h.st;have n:=h.nx;have o:=h.tx;have g:=Z5 I.oC I.fit d I.al cN cN (λt e=>ux e) cN;have e:dX x iC=((iC x).1,0):=by unfold dX td;rw[cZ (by rw[I.al.1];simp),cZ cN]
 have D:=Eh I.oC d ami cN (λt e=>ux e) jv;rw[<-g.2.2] at D;rw[e];refine⟨ae,?_,D⟩;have l:iR x.ub.lT=x.ub.lT+1:=tH cN;have q:iR x.s.cR=x.s.cR+1:=tH cN;refine⟨⟨D.oC,D.fit I.oC I.fit,g.2.1⟩,?_,by show(iC x).1.s.cR<=_;rw[D.cR.1];omega,by show(iC x).1.b.next<=_;rw[D.b];omega,by show(iC x).1.ub.lT<=_;rw[D.ub.1];omega⟩;obtain⟨text,ats,_,L,_⟩:=D.laid;refine⟨D.slot,D.ub.2.2.2.2,L.parts I.oC.n.2 ami,λi f a v b j=>?_⟩;show v.lT<(iC x).1.ub.lT;rw[D.ub.1,l];rw[D.ring i f a] at b;by_cases c:i=x.ub.lT%4
 rw[c,h.ring.here,JI h.ring.right h.ring.parts] at b;grind;have:=h.ring.iP i f c v b j;omega
def acn:kb ff=cw:=by rfl
theorem N8(h:64<=n/\n<=1024):Good (gF (kh n)):=by
 have b:∀a,¬Re (pt (gF (kh n)).s.dv.nw) (·∈(gF (kh n)).b.cU) a:=by grind[Re,gF]
 have mk:sW n (qH (n:Nat)):=λa=>by grind[qH]
 refine⟨.nil,gw _,⟨bw,bd,bd,bd,bw,bd,bw,bd⟩,⟨bw,bd,bd,(by intro s k h;cases h),anc,(by intro s t k h;cases h),bd,anc,anc,bd⟩,bd,mk,h,λa h=>absurd h (b a),λa h=>?_,(by intro q h;cases h),.nil,bw,eN _⟩;have h:qH (n:Nat) a=2:=h;grind[qH]
theorem N9(h:64<=n/\n<=400):(iY (kh n)).2=0/\Ok (iY (kh n)).1 2/\IM (gF (kh n)) (iY (kh n)).1/\Fit (gF (kh n)):=by
 have G:=N8 (n:=n) cN;have e:iY (kh n)=ju (gF (kh n)):=by unfold iY;rw[cZ amj]
 have b:fR (gF (kh n)).s.mp=n-4:=by
  have:=G.map.all G.n.2 (by have:=G.n.1;omega);have r:cn (λa=>(gF (kh n)).s.mp a=2) 1024=0:=by rw[VN (q:=λ_=>False) λa _=>by show qH (n:Nat) a=2↔_;grind[qH],IN]
  have s:cn (λa=>(gF (kh n)).s.mp a=3) 1024=0:=by rw[VN (q:=λ_=>False) λa _=>by show qH (n:Nat) a=3↔_;grind[qH],IN]
  have u:(gF (kh n)).s.dv.n=n:=rfl;omega
 have F:Fit (gF (kh n)):=by
  unfold Fit;rw[Ae,b];have k:(gF (kh n)).b=⟨1,[]⟩:=rfl;have l:(gF (kh n)).dK=[]:=rfl;have o:(gF (kh n)).s.dv.n=n:=rfl;rw[k,l,o];have d:∀m:Fin 401,64<=m.val->0<nq ⟨1,[]⟩ (m.val:Int)/\2*nq ⟨1,[]⟩ (m.val:Int)<=m.val-4:=by decide+kernel
  have:=d ⟨n,cN⟩ h.1;grind
 have g:lX (gF (kh n)).s.dv.nw:=(VX n).nw;have f:=Z5 G F g ⟨ae,ae⟩ bw (by show(0:Nat)<=_;decide) (λt e=>ux e) bw;have D:=Eh G g (by show(1:Nat)<_;decide) bw (λt e=>ux e) jv;rw[e,<-f.2.2] at*;refine⟨f.1,?_,D,F⟩;refine⟨⟨D.oC,D.fit G F,f.2.1⟩,?_,by rw[D.cR.1];simp[iR,gF],by rw[D.b];grind[gF],by rw[D.ub.1];show iR 0<=2;decide⟩;obtain⟨text,ats,_,L,_⟩:=D.laid;refine⟨D.slot,D.ub.2.2.2.2,L.parts G.n.2 (by show(1:Nat)<_;decide),λi p c v j w=>?_⟩;rw[D.ring i p c] at j;have:kb ff=cu v:=j;rw[acn] at this;cases this
def afx(s:Pl)(cO:cQ)(i:Int):PW A s (oV s cO i).1/\(oV s cO i).1.mp=s.mp:=by have w:=IF (A:=A) s cO i.m;have g:=NA (A:=A) (fi s cO i.m).1 (fi s cO i.m).2.1.block;unfold oV;split;exact⟨.refl _,ae⟩;split;exact w;exact⟨w.1.trans g.1,g.2.trans w.2⟩
theorem BB(cT:fF)(i:Int)(x:GT):∃d,(ny cT i x).1=asked x d/\∀A,Wr A x.s.dv d:=by
 unfold ny;split;exact⟨x.s.dv,ae,λ_=>.refl _⟩;unfold EP;split;exact⟨x.s.dv,ae,λ_=>.refl _⟩;have g:=λA=>afx (A:=A) x.s (r8 x.b cT i).1.cO i;have e:(oV x.s (r8 x.b cT i).1.cO i).1= {x.s with dv:=(oV x.s (r8 x.b cT i).1.cO i).1.dv}:=by have h:=g λ_=>False;have f:=h.1.st;have j:=h.1.ba;have k:=h.2;generalize (oV x.s (r8 x.b cT i).1.cO i).1=t at*;obtain⟨a,b,c,d⟩:=t;grind
 refine⟨_,?_,λA=>(g A).1.wr⟩;grind[Ix,asked]
theorem Fit.dev{x:GT}(F:Fit x){d:Dv}(h:d.n=x.s.dv.n):Fit (asked x d):=by grind[Fit,Ae,asked]
theorem N'{x:GT}(G:Good x)(F:Fit x)(c:lX x.s.dv.nw)(f:gy x.s.cR)(o:YF)(b:∀y∈o.data,y<256)(a:o.kind≠9):GW x (rM x o).1/\Fit (rM x o).1/\VR x (rM x o).1:=by unfold rM;simp only;split;grind[IG,VP,VS];split;grind[KB,Yu,Yx];split;grind[NL,ab8,acd];split;obtain⟨d,e,w⟩:=BB o.name o.n x;rw[e];exact⟨⟨G.dev (w _),w _⟩,F.dev (w λ_=>False).n,ae,ae,ae,⟨eN _,le_succ _⟩,le_succ _⟩;split;grind[GF,QK,QM];split;grind[KA,Yt,Yw];split;grind[FP,SR,SU];split;grind[NK,aca,acb];split;grind[FN,SQ,SV];exact⟨⟨G,.refl _⟩,F,.refl x⟩
theorem Oa(x:GT){o:YF}(h:o.kind=9):(rM x o).1=(dX x iC).1:=by grind[rM]
def ahm{x:GT}(h:Ok x k)(c:k<=281474976710600)(a:lX x.s.dv.nw)(e:gy x.s.cR)(o:YF)(d:∀y∈o.data,y<256):Ok (rM x o).1 (k+1)/\(rM x o).1.s.dv.n=x.s.dv.n:=by by_cases b:o.kind=9;rw[Oa x b];exact⟨(El h c a).2.1,(El h c a).2.2.n⟩;have I:=h.inv;obtain⟨g,f,s⟩:=N' I.oC I.fit a e o d b;exact⟨h.far ⟨g.1,f,g.2.al I.al⟩ (YD I.oC g s),g.2.n⟩
abbrev ki:=Nat×(cQ×Bool)
def ql(b:Bool)(a:List ki×Bool)(q:cQ):List ki×Bool:=
 match a.1.find? λm=>decide (m.1=q.1) with
 |none=>(a.1++[(q.1,(q,b))],a.2)
 |some m=>if m.2.1=q then a else(a.1,cx)
def sX(b:Bool)(l:List cQ)(a:List ki×Bool):List ki×Bool:=l.foldl (ql b) a
def BC:List dw->Pl->List ki×Bool->Pl×((List ki×Bool)×Int)
 | [],s,a=>(s,(a,0))
 |t::ts,s,a=>if(gY s t.cO 0).2.2=42 then((gY s t.cO 0).1,(a,42)) else if(gY s t.cO 0).2.2≠0 then((gY s t.cO 0).1,(a,91)) else
  BC ts (gY s t.cO 0).1 (sX cy (gY s t.cO 0).2.1 a)
structure GJ where
 Ag:List (Int×Int)
 taken:List (Int×Int)
 Z':Bool
 cU:Nat
 blocks:Nat
def zD:GJ:=⟨[],[],cy,0,0⟩
noncomputable def ahY(r:Pl×(ee×(List (Int×Int)×(List cQ×Int)))):Dv×(GJ×Int):=
 if r.2.2.2.2≠0 then(r.1.dv,(zD,r.2.2.2.2)) else
 let w:=BC r.2.1.cU r.1 (sX cx r.2.2.2.1 ([],cy))
 if w.2.2≠0 then(w.1.dv,(zD,w.2.2)) else
 (w.1.dv,(⟨iN (pW (w.2.1.1.map λm=>((m.1:Nat):Int))),r.2.2.1,w.2.1.2,r.2.1.cU.n,(w.2.1.1.filter λm=>!m.2.2).n⟩,0))
noncomputable def aaa(d:Dv)(o:Option rC):Dv×(GJ×Int):=
 if o.isSome=cy then(d,(zD,91)) else
 if(o.getD mu).gm≠d.n then(d,(zD,91)) else
 if(o.getD mu).len≠40 then(d,(zD,91)) else
 ahY (ke ⟨d,qH d.n,0,0⟩ (o.getD mu).iL)
noncomputable def Ob(d:Dv):Dv×(GJ×Int):=if d.di=cx then(d,(zD,42)) else aaa (fW d).1 (fW d).2
def Oc(r:GJ):Bool:=decide (r.Ag=r.taken)&& !r.Z'
structure Marks(S:cQ->Prop)(a:List ki×Bool):Prop where
 no:a.2=cy
 in_:∀m∈a.1,m.2.1.1=m.1/\S m.2.1
theorem QP(s:Pl)(q:cQ):(du s q).1.dv.di=s.dv.di:=by grind[du,gr,ik,fC]
section
open Go.ChangeMaps Go.MapKept Go.WideShapes
def BD(m:cQ×Bool):Nat->c7:=λi=>if i<3 then dF m.1 i else bZ m.2
def Ah(m:cQ×Bool):c7:=bV (cL 4 (BD m))
def VZ(m:ki):c7×c7:=(bU cq m.1,Ah m.2)
def lZ(w:cS)(b:Nat)(M:List ki):Prop:=∃c a,w.h[b]?=cu (.map c a)/\c.t.map (λe=>(e.key,e.val))=M.map VZ/\c.t.map MapEntry.born=range a
def YG(w:cS):lZ (w.alloc (.map #[] 0)) w.h.s []:=⟨#[],0,(SY w _).1,ae,ae⟩
theorem lZ.lt{w:cS}{b:Nat}{M:List ki}(h:lZ w b M):b<w.h.s:=by obtain⟨a,c,h,_⟩:=h;grind
theorem lZ.same{M:List ki}(h:lZ w b M)(e:w'.h[b]?=w.h[b]?):lZ w' b M:=by grind[lZ]
theorem Od(n:Nat):∀(a:List MapEntry)(M:List ki)(k:Nat),a.map (λe=>(e.key,e.val))=M.map VZ->
 Instr.findNow (.int .i64) (.int .i64 n) a k=some (match M.findIdx? (λm=>decide (m.1=n)) with|none=>none|some i=>some (k+i,((M.find? λm=>decide (m.1=n)).map λm=>Ah m.2).getD undef))
 | [],[],_,_=>by rfl
 | [],_::_,_,h=>by simp at h
 |_::_,[],_,h=>by simp at h
 |e::a,m::M,k,h=>by
  simp only[yq,cons.injEq] at h;obtain⟨b,c⟩:=h;have d:e.key=.int .i64 m.1:=gD Prod.fst b;have f:e.val=Ah m.2:=gD Prod.snd b;have g:=Od n a M (k+1) c;unfold Instr.findNow;rw[d,f];simp only[Instr.sameNow,oR]
  grind
def Oe(M:List ki)(n:Nat):c7:=cg #[Ah (((M.find? λm=>decide (m.1=n)).map Prod.snd).getD (cX,cy)),bZ (M.find? λm=>decide (m.1=n)).isSome]
theorem YH{M:List ki}(h:lZ w b M)(n:Nat):(Instr.lookup 172 (.map (cu b)) (bU cq n) cx).run prog w=.ok (Oe M n) w:=by
 obtain⟨a,c,h,g,_⟩:=h;have f:=Od n a.t M 0 g;have e:(Instr.checkKey a.isEmpty 10000 3 (bU cq n)).run prog w=.ok () w:=by rfl
 have j:(Instr.findKey 3 (bU cq n) a.t).run prog w=.ok (match M.findIdx? (λm=>decide (m.1=n)) with|none=>cw|some i=>cu (0+i,((M.find? λm=>decide (m.1=n)).map λm=>Ah m.2).getD undef)) w:=by simp_all[Instr.findKey]
 have d:M.findIdx? (λm=>decide (m.1=n))=cw↔M.find? (λm=>decide (m.1=n))=cw:=by grind
 unfold Instr.lookup;simp only[lh,yO underlying172,Result.andThen,MapKept.run_getObj_map h,rR,e,j];unfold Oe;cases k:M.findIdx? λm=>decide (m.1=n) with|none=>rw[d.1 k];rfl|some i=>cases l:M.find? λm=>decide (m.1=n)<;>simp_all
theorem aco{M:List ki}(h:lZ w b M)(m:ki)(n:M.find? (λx=>decide (x.1=m.1))=cw):
 ∃w',(Instr.mapUpdate 172 (.map (cu b)) (bU cq m.1) (Ah m.2)).run prog w=.ok () w'/\lZ w' b (M++[m])/\w.grownBy w' (cu b)/\w'.h.s=w.h.s:=by
 obtain⟨a,c,h,g,st⟩:=h;have f:=Od m.1 a.t M 0 g;have l:M.findIdx? (λx=>decide (x.1=m.1))=cw:=by grind
 have d:(Instr.checkKey cy 10000 3 (bU cq m.1)).run prog w=.ok () w:=by rfl
 have j:(Instr.findKey 3 (bU cq m.1) a.t).run prog w=.ok cw w:=by simp_all[Instr.findKey]
 refine⟨ChangeMaps.setBlock w b (.map (a.push ⟨bU cq m.1,Ah m.2,c⟩) (c+1)),?_,⟨_,_,ChangeMaps.heap_setBlock_same h _,?_,?_⟩,⟨ae,ae,ae,by simp[ChangeMaps.setBlock],λi _ k=>ChangeMaps.heap_setBlock_other h _ λe=>k (by rw[e])⟩,by simp[ChangeMaps.setBlock]⟩;unfold Instr.mapUpdate;simp only[lh,yO underlying172,Result.andThen,MapKept.run_getObj_map h,d,j,MapKept.run_setObj_map _ h];rfl;simp[g,VZ];grind[range_succ]
def afy:c7->Nat
 |bU _ n=>n.m
 |_=>0
def akv:c7->Bool
 |bZ b=>b
 |_=>cy
def unE:c7×c7->ki
 |(k,bV cs)=>(afy k,((afy (cs.getD 0 undef),afy (cs.getD 1 undef),afy (cs.getD 2 undef)),akv (cs.getD 3 undef)))
 |(k,_)=>(afy k,(cX,cy))
def ahn(m:ki):unE (VZ m)=m:=by rfl
def pq(w:cS)(b r:Nat)(M S L:List ki):Prop:=∃d a c,w.h[b]?=cu (.map d a)/\d.t.map (λe=>(e.key,e.val))=M.map VZ/\d.t.map MapEntry.born=range a/\
 w.h[r]?=cu (.mapIter (cu b) a c a)/\(S++L).Perm M/\(leftOf d c).t.map (λe=>unE (e.key,e.val))=L
theorem pq.lt{w:cS}{b r:Nat}{M S L:List ki}(h:pq w b r M S L):b<w.h.s/\r<w.h.s:=by obtain⟨_,_,_,h,_,_,g,_⟩:=h;grind
theorem pq.same{M S L:List ki}(h:pq w b r M S L)(e:w'.h[b]?=w.h[b]?)(f:w'.h[r]?=w.h[r]?):pq w' b r M S L:=by grind[pq]
def V0{M:List ki}(h:lZ w b M):∃w',(Instr.range 172 (.map (cu b))).run prog w=.ok (bW (cu ⟨w.h.s,0,cw⟩)) w'/\pq w' b w.h.s M [] M/\w.grownBy w' cw/\w'.h.s=w.h.s+1:=by
 have lt:=h.lt;obtain⟨a,c,h,g,st⟩:=h;refine⟨_,run_range_map w 172 3 177 b a c underlying172 h,⟨a,c,#[],((SY w _).2 b lt).trans h,g,st,(SY w _).1,.refl _,?_⟩,World.grownBy_alloc w _ cw,by simp⟩;have e:(leftOf a #[]).t=a.t:=by simp[leftOf]
 rw[e];have:a.t.map (λe=>unE (e.key,e.val))=(a.t.map λe=>(e.key,e.val)).map unE:=by simp
 rw[this,g,wO];conv=>rhs;rw[<-map_id M]
 rfl
theorem KF:∀(l:List MapEntry),(l.map MapEntry.born).Nodup->∀e∈l,l.Perm (e::l.filter λx=>!(x.born==e.born))
 | [],_,_,h=>by cases h
 |a::l,nd,e,h=>by
  simp only[yq,yx] at nd;rcases iZ.1 h with rfl|h
  . have:l.filter (λx=>!(x.born==e.born))=l:=List.filter_eq_self.2 λx d=>by
     grind
    simp[this]
  . have c:a.born≠e.born:=λb=>nd.1 (gI.2 ⟨e,h,b.symm⟩);have:(a::l).filter (λx=>!(x.born==e.born))=a::l.filter λx=>!(x.born==e.born):=by simp[c]
    rw[this];exact((KF l nd.2 e h).cons a).trans (.swap _ _ _)
theorem pq.next{M S L:List ki}(h:pq w b r M S L)(ty:dU):
 (L=[]/\S.Perm M/\(Instr.next (bW (cu ⟨r,0,cw⟩)) cy ty).run prog w=.ok (cg #[bZ cy]) w)∨
 ∃m u w',(Instr.next (bW (cu ⟨r,0,cw⟩)) cy ty).run prog w=.ok (cg #[bZ cx,bU cq m.1,Ah m.2]) w'/\pq w' b r M (S++[m]) u/\u.n<L.n/\w.grownBy w' (cu r)/\w'.h.s=w.h.s/\
  (Instr.entry (bW (cu ⟨r,0,cw⟩))).run prog w'=.ok (cg #[bU cq m.1,Ah m.2]) w':=by
 obtain⟨j,c,a,v,g,st,A,J,D⟩:=h;have H:(j.t.map MapEntry.born).Nodup:=by grind
 rcases run_next_at w ty r b c c a j c A v (λx G=>yo.1 (st▸gI.2 ⟨x,G,ae⟩)) (eN _) with⟨I,f⟩|⟨e,y,w1,k,f⟩;(have:L=[]:=by grind);subst this;exact .inl ⟨ae,by grind,f⟩;(obtain⟨n,E⟩:=mem_left y;obtain⟨m,_,p⟩:=gI.1 (g▸gI.2 ⟨e,n,ae⟩);have z:e.key=bU cq m.1:=(gD Prod.fst p).symm;have B:e.val=Ah m.2:=(gD Prod.snd p).symm;have s:w1.h[r]?=cu (.mapIter (cu b) c a c):=by rcases k with rfl|rfl<;>exact A);(have q:w1.h[b]?=cu (.map j c):=by rcases k with rfl|rfl<;>exact v);(have d:=heap_set (o':=.mapIter (cu b) c (a.push e.born) c) s;have l:=(d.2 b (λo=>(λe=>by grind) o.symm)).trans q;have l2:(leftOf j (a.push e.born)).t=(leftOf j a).t.filter λx=>!(x.born==e.born):=by unfold leftOf;rw[Array.toList_filter,Array.toList_filter,filter_filter];grind);(have t:((leftOf j a).t.map MapEntry.born).Nodup:=by grind[leftOf]);have C:=(KF _ t e y).map λe=>unE (e.key,e.val);rw[<-l2,D,yq,<-p,ahn] at C;refine .inr ⟨m,(leftOf j (a.push e.born)).t.map λe=>unE (e.key,e.val),_,by rw[<-z,<-B];exact f,⟨j,c,a.push e.born,l,g,st,d.1,?_,ae⟩,by have:=C.length_eq;grind,?_,?_,?_⟩;grind;rcases k with rfl|rfl<;>exact⟨ae,ae,ae,by simp[ChangeMaps.setBlock],λi _ F=>d.2 i (λo=>F (by rw[o]))⟩;rcases k with rfl|rfl<;>simp[ChangeMaps.setBlock];rw[<-z,<-B];exact run_entry_at _ r b c a j c e d.1 l n H
end
def JL(m:cQ×Bool):∀i,(BD m i).oneCell'=cx:=by intro i;unfold BD;split;exact dJ _ _;rfl
def aab:kg prog 177 4:=⟨⟨_,underlying177,ae⟩,dC⟩
instance inbd671 :sE 177 4:=⟨aab⟩
def afz(q:cQ)(o:Bool):prog.built 177 [(0,bV (cL 3 (dF q))),(1,bZ o)]=cu (cL 4 (BD (q,o))):=dC
theorem acp(m:cQ×Bool):∀i,i<3->BD m (0+i)=dF m.1 i:=by simp_all[BD]
theorem lZ.ty{M:List ki}(h:lZ w b M):iA w b=cw:=by obtain⟨a,c,h,_⟩:=h;grind[iA]
theorem c8.akw{T:Nat}(h:c8 w T sz v n xs)(r:jX c w w')(hc:iA w c=cw):c8 w' T sz v n xs:=by obtain⟨k,d,cap,l,m,p,q⟩:=h;refine⟨k,d,cap,l,m,p,λs=>?_⟩;obtain⟨b,o,f,j,g,a,i⟩:=q s;have lt:=(rN.1 a).1;refine⟨b,o,f,j,g,(r.block b lt λe=>?_).trans a,i⟩;grind[iA]
def reX(b:Nat)(w:cS)(M:List ki):cV->cS->Prop:=λB W=>lZ W b M/\b∉B/\jX b w W/\∀c∈B,w.h.s<=c
theorem jX.then{a:cS}(h:jX b w W)(g:jX b W a):jX b w a:=
 by grind[trans]
def V1(b:Nat)(w:cS)(M:List ki):lO none (reX b w M) where
 cP:=λh hb=>⟨h.1.same (hb.block b h.1.lt),h.2.1,h.2.2.1.then ⟨hb.os,hb.tape,hb.output,hb.size,λk hk _=>hb.block k hk⟩,h.2.2.2⟩
 add:=fun {B W c} h hc=>⟨h.1,λhm=>by
  rcases iZ.1 hm with e|hm
  . have:=h.1.lt;omega
  . exact h.2.1 hm,h.2.2.1,λd hd=>by
  rcases iZ.1 hd with e|hd
  . have:=h.2.2.1.size;omega
  . exact h.2.2.2 d hd⟩
 mono:=λh hs=>⟨h.1,λhm=>h.2.1 (hs _ hm),h.2.2.1,λd hd=>h.2.2.2 d (hs _ hd)⟩
 but:=fun {B W W' c t} h hc hb _ _ _=>⟨h.1.same (hb.block b h.1.lt λe=>h.2.1 (e▸hc)),h.2.1,⟨hb.os.trans h.2.2.1.os,hb.tape.trans h.2.2.1.tape,hb.output.trans h.2.2.1.output,iE h.2.2.1.size hb.size,λk hk hne=>(hb.block k (pM hk h.2.2.1.size) (λe=>by have:=h.2.2.2 c hc;omega)).trans (h.2.2.1.block k hk hne)⟩,h.2.2.2⟩
 dev:=λ_ e=>by cases e
section
variable {w1:cS}{m x v:Nat}{ty:dU}
def acq{M:List ki}(S:St w0 cw l L O (reX b w1 M) w){A:gE}{t:Bool}(f:a.eval (.tmp m)=.map (cu b))(g:a.eval (.tmp x)=bU cq n)(e:Oe M n=cg #[bV A,bZ t])(h:wpList prog ops Q rest (a.put (cu dst) (cg #[bV A,bZ t])) w):
 wpList prog ops Q (⟨cu dst,.lookup 172 (.tmp m) (.tmp x) cx,t2,p,af,cw⟩::rest) a w:=by refine mC ae λK d=>?_;unfold Oper.wp;have c:=YH S.x.1 n;rw[e] at c;simp[execOp,f,g,c,Result.andThen];exact d _ _ h
def afA{M:List ki}(S:St w0 cw l L O (reX b w1 M) w)(g:w0.h.s<=b)(n:b<w1.h.s){q:ki}{A:gE}(i:A=cL 4 (BD q.2))(s:M.find? (λy=>decide (y.1=q.1))=cw)(r:a.eval (.tmp m)=.map (cu b))(t:a.eval (.tmp x)=bU cq q.1)(e:a.eval (.tmp v)=bV A)(h:∀W,St w0 cw l L O (reX b w1 (M++[q])) W->wpList prog ops Q rest (a.put cw undef) W):
 wpList prog ops Q (⟨cw,.mapUpdate 172 (.tmp m) (.tmp x) (.tmp v),t2,p,af,cw⟩::rest) a w:=by
 obtain⟨w',d,k,o,u⟩:=aco S.x.1 q s;have e:a.eval (.tmp v)=Ah q.2:=by rw[e,i];rfl
 refine mC ae λK j=>?_;unfold Oper.wp;simp only[execOp,r,t,e,lh,d,Result.andThen];have f:=uW o;have c:=(S.EY (X':=λ_ _=>True) (λ_ _ _=>iG) xh).obj f S.x.1.ty g lW.t;exact j _ _ (h _ ⟨c.fr,c.row,c.own,c.lo,c.nd,⟨k,S.x.2.1,S.x.2.2.1.then f,S.x.2.2.2⟩,V1 _ _ _⟩)
end
section
attribute[local irreducible]wpList Code.wp Calls Oper.wp wpAnyH
def acr(a:Bool)(l:List cQ)(v:c7)(b:Nat)(p:List ki)(w:cS)(R:c8 w 106 3 v l.n (iS l))(H:lZ w b p):
 CP_ 88 #[.map (cu b),v,bZ a] w λe w'=>e=cj (bZ (sX a l (p,cy)).2)/\lZ w' b (sX a l (p,cy)).1/\jX b w w':=by
 have T:l.n<=maxLen:=by obtain⟨_,_,_,_,h1,h2,_⟩:=R;omega
 unfold maxLen at T;obtain⟨ao,cap,rfl,X,Q⟩:=dP R;have HR:=cz R;have HN:=cz H.ty;have F:=H.lt;have S:St {w with heap:=#[]} cw [] [] [] (reX b w p) w:=⟨⟨ae,ae,ae,gw _,(λk Y=>absurd Y (wQ _)),(λD e=>by cases e),(λD e=>by cases e)⟩,(λr hr=>by cases hr),(λo ho=>by cases ho),(λc hc=>by cases hc),nodup_nil,⟨H,jK,.refl _ _,λc hc=>by cases hc⟩,V1 _ _ _⟩;clear R H;go_enter func88,ntmps88;go_upto_region 3 with(fail);go_loopw [7,14] (λtw i wr=>∃(k:Nat)(M:List ki)(t:Bool),k<=l.n/\i=bU cq k/\tw=bZ t/\Hid (sX a (l.take k) (p,cy)=(M,t)/\St {w with heap:=#[]} cw [] [] [] (reX b w M) wr)) (λ_ i _=>l.n-(intOf i).m);exact⟨0,p,cy,cN,ae,ae,cz ⟨ae,S⟩⟩;clear S;obtain⟨k,M,t,Y,rfl,rfl,hS⟩:=hrel;by_cases z:k<l.n
 . (obtain⟨bb,o,rfl⟩:=Q cN;obtain⟨q,U⟩:=dI (l[k]);have d:=Mh (ql a) (p,cy) l z;have x:=hS.o.1;unfold sX at x;rw[x,U] at d;obtain⟨J,s⟩:=fP (cL 3 (dF q));have G:=cz (kE l z (A:=J) (by rw[U];exact s));have j:=cz s;have S:=hS.o.2;have a1:(k:Int)<(l.n:Int):=cN;have O:∀{W:cS},jX b w W->c8 W 106 3 _ l.n (iS l):=λh=>HR.o.akw h HN.o;clear hS x U s;rcases hf:M.find? λy=>decide (y.1=q.1) with _|m;obtain⟨I,g⟩:=yB (cL 4 (BD (cX,cy)));obtain⟨V,B⟩:=yB (cL 4 (BD (q,a)));have E:=cz (show Oe M q.1=cg #[bV I,bZ cy] by unfold Oe;rw[hf,g.o];rfl);have K:=cz (show prog.built 177 [(0,bV J),(1,bZ a)]=cu V by rw[j.o,B.o];exact afz q a);have L:=cz hf;have f:ql a (M,t) q=(M++[(q.1,(q,a))],t):=by unfold ql;rw[hf]);rw[f] at d;have n:=cz d;clear hf f d;rotate_left;(obtain⟨I,g⟩:=yB (cL 4 (BD m.2));obtain⟨Z,C⟩:=yB (cL 3 (dF m.2.1));obtain⟨bq,u⟩:=dI (decide (m.2.1=q));have E:=cz (show Oe M q.1=cg #[bV I,bZ cx] by unfold Oe;rw[hf,g.o];rfl);have a2:∀W,(binOp .neq 106 (bV Z) (bV J)).run prog W=.ok (bZ !bq) W:=λW=>by have:=F9 m.2.1 q bq u W;rw[C.o,j.o];exact this);(have N:=cz (acp m.2);have f:ql a (M,t) q=(M,if bq=cx then t else cx):=by unfold ql;rw[hf,<-u];by_cases e:m.2.1=q<;>simp[e]);rw[f] at d;have n:=cz d;clear hf f d u;rcases bq with _|_;rotate_left
   all_goals
    go_wp2_with first|(first|refine jl 21 3 20 S 0 0 (bU cq q.1) ?_|refine jl 29 3 28 S 1 0 (bU cq q.1) ?_)|refine oX S rfl rfl j.o fK rfl nz (dJ _) λW S=>?_|refine acq S ae ae E.o ?_|refine oX S rfl rfl g.o aab rfl nz (JL _) λW S=>?_|refine lE (cells:=V) ae K.o ?_|refine afA S (gw _) F (q:=(q.1,(q,a))) B.o L.o rfl rfl rfl λW S=>?_|(first|refine AD (O S.x.2.2.1) z (vu j) G.o ?_|refine oM_ S 0 ae (o:=0) (m:=3) (dF m.2.1) N.o C.o ?_)|refine fL ?_
    go_roundw
    case rel=>first|exact⟨k+1,_,t,cN,by go_num,ae,cz ⟨n.o,S.pop.pop⟩⟩|exact⟨k+1,M,cx,cN,by go_num,ae,cz ⟨n.o,S.pop.pop⟩⟩|exact⟨k+1,M,t,cN,by go_num,ae,cz ⟨n.o,S.pop.pop⟩⟩
    case measure=>exact pR
 . obtain rfl:k=l.n:=cN;have S:=hS.o.2;have L:=cz (show sX a l (p,cy)=(M,t) by have:=hS.o.1;rwa [qq] at this);clear hS;go_wp2;go_ret;rw[L.o];exact⟨ae,S.x.1,S.x.2.2.1⟩
def ai6:Ren:=⟨fun|189=>90|125=>157|257=>156|128=>217|129=>218|294=>208|295=>209|296=>210|297=>211|298=>212|299=>213|216=>214|300=>215|301=>216|328=>250|329=>251|330=>252|331=>253|332=>254|215=>255|343=>278|n=>n,fun|28=>81|46=>222|51=>104|53=>82|183=>304|182=>303|131=>156|218=>339|222=>342|228=>356|229=>357|n=>n,λn=>n⟩
def AB{o:Option Func}{b c:Func}(h:o=cu b)(e:b=c:=by kernel_rfl):o=cu c:=by rw[h,e]
def SZ:Lays.n189 prog ai6:=
 ⟨dC,AB func157,AB func217,AB func218,AB func90,AB func255,AB func214,AB func156,AB func208,AB func209,AB func210,AB func211,AB func212,AB func213,AB func215,AB func216,AB func250,AB func251,AB func252,AB func253,AB func254,AB func278,
  underlying0,isAgg0,sizeOf0,zeroValue0,vP,isAgg3,sizeOf3,zeroValue3,underlying4,isAgg4,sizeOf4,zeroValue4,yU,isAgg5,sizeOf5,zeroValue5,za,isAgg9,sizeOf9,zeroValue9,qt,isAgg81,sizeOf81,zeroValue81,underlying222,isAgg222,sizeOf222,zeroValue222,underlying104,isAgg104,sizeOf104,zeroValue104,underlying82,isAgg82,sizeOf82,zeroValue82,underlying156,isAgg156,sizeOf156,zeroValue156,underlying303,isAgg303,sizeOf303,zeroValue303,underlying304,isAgg304,sizeOf304,zeroValue304,underlying339,isAgg339,sizeOf339,zeroValue339,underlying342,isAgg342,sizeOf342,zeroValue342,underlying356,isAgg356,sizeOf356,zeroValue356,underlying357,isAgg357,sizeOf357,zeroValue357⟩
theorem acs(v u:c7)(l m:List (Int×Int))(w:cS)(L:fm w v l)(K:fm w u m):
 tf 92 #[v,u] w (bZ (decide (l=m))):=by
 obtain⟨M,cap,rfl,E,_,hc⟩:=L;obtain⟨O,D,rfl,B,_,n⟩:=K;have F:=cz hc;clear hc;have t:=cz n;clear n;by_cases d:l.n=m.n
 . (have q:=cz d;have I:((l.n:Int)!=(m.n:Int))=cy:=by simp[d]);clear d;go_enter func92,ntmps92;go_wp2_with (fail)
   go_loopw [13] (λi wr=>∃(k:Nat),k<=l.n/\i=bU cq k/\Hid (∀j(z:j<k)(r:j<l.n)(s:j<m.n),l[j]=m[j])/\dR w wr)
    (λi _=>l.n-(intOf i).m)
   exact⟨0,gw _,ae,λj z=>absurd z (wQ _),gJ _ _⟩;obtain⟨k,V,rfl,C,hbel⟩:=hrel;by_cases f:k<l.n
   . (have e:k<m.n:=by have:=q.o;omega);obtain⟨b,o,rfl,y,c⟩:=F.o (by intro h;simp[h] at f);obtain⟨N,o',rfl,g,a⟩:=t.out (by intro h;simp[h] at e);obtain⟨Q,R⟩:=yC y c hbel f;obtain⟨T,U⟩:=yC g a hbel e;clear c a;have G:(k:Int)<(l.n:Int):=cN;have H:(k:Int)<(m.n:Int):=cN;by_cases p:l[k]=m[k]
     . have x:=cz p;have J:=acV l[k].1 l[k].2 m[k].1 m[k].2 cy (by rw[p];simp);clear p;go_wp2_with (go_quiet (fail));go_roundw;(case rel=>refine⟨k+1,cN,by go_num,λj z r s=>?_,by refine below_drewN ?_ _;go_grown⟩;by_cases A:j=k;subst A;exact x.o;exact C.o j cN r s);case measure=>exact pR
     . have x:=cz p;have J:=acV l[k].1 l[k].2 m[k].1 m[k].2 cx (by
        grind)
       clear p;go_wp2_with (go_quiet (fail));go_ret;exact⟨AK (by rw[jG (Tq f e x.o)]),by refine below_drewN ?_ _;go_grown⟩
   . go_wp2;go_ret;exact⟨AK (by rw[gM (aav q.o (λj r s=>C.o j cN r s))]),hbel⟩
 . (have q:=cz d;have I:((l.n:Int)!=(m.n:Int))=cx:=by rw[fJ];omega);clear d;go_enter func92,ntmps92;go_wp2;go_ret;exact⟨AK (by rw[jG (λh=>q.o (by rw[h]))]),gJ _ _⟩
def CD(a b:c7)(r:GJ):Nat->c7:=λi=>if i=0 then a else if i=1 then b else if i=2 then bZ r.Z' else if i=3 then bU cq r.cU else bU cq r.blocks
def akx:kg prog 91 5:=⟨⟨_,underlying91,ae⟩,dC⟩
instance in0de67 :sE 91 5:=⟨akx⟩
def ahZ:lD prog 66:=⟨⟨_,underlying66,ae⟩,dC⟩
instance in9a29d :ru 66:=⟨ahZ⟩
def fm.afB{l:List (Int×Int)}(h:fm w v l)(a:dR w w'):fm w' v l:=fm.cP h a
def acu(a b:c7)(r:GJ)(A:gE)(g:A=cL 5 (CD a b r))(w:cS)(e:fm w a r.Ag)(f:fm w b r.taken):
 tf 36 #[bV A] w (bZ (Oc r)):=by have j:=cz g;have S:=qR w;have d:=cz λW(h:dR w W)=>acs a b r.Ag r.taken W (e.afB h) (f.afB h);obtain⟨c,hc⟩:=dI (decide (r.Ag=r.taken));rw[hc] at d;obtain⟨t,i⟩:=dI r.Z';rw[show Oc r=(c&& !t) by unfold Oc;rw[hc,i]];clear g e f hc;go_enter func36,ntmps36;cases c with|false=>go_wp2_with (first|(with_reducible first|refine jl 4 66 3 S 0 0 (a) ?_|refine jl 6 66 5 S 0 1 (b) ?_)|(go_at_call 92;refine je S (d.o _ S.b) λW S=>?_)|refine fg λW S=>?_);go_ret;exact az|true=>go_wp2_with (first|(with_reducible first|refine jl 4 66 3 S 0 0 (a) ?_|refine jl 6 66 5 S 0 1 (b) ?_|refine jm 10 4 9 S 0 2 (bZ r.Z') ?_)|(go_at_call 92;refine je S (d.o _ S.b) λW S=>?_)|refine fg λW S=>?_);go_ret;exact⟨by cases t<;>rfl,S.b⟩
end
section
open Go.Sort
theorem afC(h:w.ownsRow base 3 1 v n (zs.map (Value.int cq)))(m:zs.n<=100000000):
 CP_ 90 #[v] w λe w'=>e=cj (cg #[])/\w'.ownsRow base 3 1 v n ((zs.mergeSort λx y=>decide (x<=y)).map (Value.int cq))/\w.grownBy w' v.ownBlock:=by
 have i:zs.n=n:=by have:=h.1;grind
 subst i;rcases vK zs.n with h0|h0;have f:zs=[]:=yr h0;subst f;rcases h.2 with⟨rfl,_⟩|⟨g,cap,b,rfl,_⟩;exact(calls_of_every_depth λD=>AnyS.slices_Sort_int_none_in SZ D cw 0 w).mono λe w' ⟨a,h2⟩=>⟨a,by simp_all,by grind[World.grownBy.refl]⟩;exact(calls_of_every_depth λD=>AnyS.slices_Sort_int_none_in SZ D (s_ g 0) cap w).mono λe w' ⟨a,h2⟩=>⟨a,by simp_all,by grind[World.grownBy.refl]⟩;obtain⟨_,⟨_,a⟩|⟨g,cap,b,rfl,j,c,k,hc,l,d⟩⟩:=h;omega;rw[sM] at d;have lt:=(rN.1 c).1;refine(Any.slices_Sort_int SZ g 0 cap zs w (holds_of_blockI (ss:=zs) c d) lt cN).mono λe w' ⟨a,n,os,h2⟩=>⟨a,?_,?_⟩;simp_all[ownsRow_sortedI];subst h2;exact grownBy_sortedI _
end
def mkX(b:Nat)(M:List ki):cV->cS->Prop:=λB w=>lZ w b M/\b∉B
theorem lZ.fr{w w':cS}{b:Nat}{M:List ki}{d:Option Nat}{l:cV}(h:lZ w b M)(f:Fr d l w w'):lZ w' b M:=
 h.same (f.block b h.lt λ⟨t,ht,_⟩=>by rw[h.ty] at ht;cases ht)
def tJ(b:Nat)(M:List ki):vB (mkX b M) where
 cP:=λh hb=>⟨h.1.same (hb.block b h.1.lt),h.2⟩
 add:=λh hb=>⟨h.1,λhm=>by
  rcases iZ.1 hm with e|hm
  . have:=h.1.lt;omega
  . exact h.2 hm⟩
 mono:=λh hs=>⟨h.1,λhm=>h.2 (hs _ hm)⟩
 but:=fun {B w w' c} h hc hb=>⟨h.1.same (hb.block b h.1.lt λe=>h.2 (e▸hc)),h.2⟩
 fr:=λh f=>⟨h.1.fr f,h.2⟩
def lW.sl(e:dU)(z:Nat)(v:c7)(n:Nat)(xs:List c7):lW (yX e z v n xs):=λ_ _ _ _ h a b=>⟨h.1.akw a b,h.2⟩
def lW.cU(v:c7)(l:List dL):lW (rY v l):=λ_ _ _ _ h a b=>⟨lW.sl _ _ _ _ _ _ _ _ _ h.1 a b,λx c=>lW.sl _ _ _ _ _ _ _ _ _ (h.2 x c) a b⟩
def ai7:(#[bX cw 0 0,bX cw 0 0,bZ cy,bU cq 0,bU cq 0]:gE)=cL 5 (CD (bX cw 0 0) (bX cw 0 0) zD):=rfl
def aho:prog.built 91 []=cu (cL 5 (CD (bX cw 0 0) (bX cw 0 0) zD)):=dC
def S4(w:cS)(base:Nat)(A:gE)(r:GJ):Prop:=∃a b,A=cL 5 (CD a b r)/\(nX w base a r.Ag/\nX w base b r.taken)/\fm w a r.Ag/\fm w b r.taken
def Ai(w:cS)(base:Nat):S4 w base (cL 5 (CD (bX cw 0 0) (bX cw 0 0) zD)) zD:=⟨_,_,ae,⟨iD _ _ _ _,iD _ _ _ _⟩,tO w,tO w⟩
def c8.afD{l:List (Int×Int)}(h:c8 w 141 2 v l.n (jw l))(p:∀x∈l,fh x.1/\fh x.2)(m:l.n<=9223372036854775807):fm w v l:=by obtain⟨c,cap,rfl,_⟩:=id h.2;refine⟨c,cap,ae,m,p,λn=>?_⟩;obtain⟨s,d,a,e,_,_,g⟩:=id h;obtain⟨b,o,q,r,f,i,hc⟩:=g (BH.2 n);cases e;subst f;refine⟨b,o,ae,(rN.1 i).1,λk j=>?_⟩;have:=wz l k j;exact⟨h.cellAt cN this.1,by rw[FT];exact h.cellAt cN this.2⟩
def tK{a b:c7}{r:GJ}(c:a.oneCell'=cx)(d:b.oneCell'=cx):∀i,(CD a b r i).oneCell'=cx:=by intro i;unfold CD;split;exact c;split;exact d;split;rfl;split<;>rfl
def afE(a:Option Addr)(n c k:Nat)(b:List (Int×Int)):prog.built 91 [(1,bX a n c),(3,bU cq k)]=cu (cL 5 (CD (bX cw 0 0) (bX a n c) ⟨[],b,cy,k,0⟩)):=dC
section
variable {M M':List ki}
variable {ty:dU}
def ahp(S:St w0 d l L O X w)(h:∀b W,w0.h.s<=b->St w0 d l L O (λB w=>X B w/\mkX b [] B w) W->wpList prog ops Q rest (a.put (cu dst) (.map (cu b))) W):
 wpList prog ops Q (⟨cu dst,.makeMap ty cw,t2,p,af,cw⟩::rest) a w:=by refine mC ae λK c=>?_;unfold Oper.wp;simp only[execOp,lh,rR,Result.andThen,run_makeMap];exact c _ _ (h _ _ S.fr.size ((S.cP ((gJ _ _).alloc (eN _) _)).DN (tJ _ []) ⟨YG w,λe=>ud _ (S.lt _ e)⟩))
theorem Lm{x:Nat}{m:Nat}{A:gE}(hc:∀i,i<m->w.cell? ⟨b0,o+i,cw⟩=A[i]?)(j:A.s=m)(g:a.eval (.tmp x)=bW (cu ⟨b0,o,cw⟩))(e:kg P ty m)(h:wpList P ops Q rest (a.put (cu dst) (bV A)) w):wpList P ops Q (⟨cu dst,.load ty (.tmp x),t2,p,af,cw⟩::rest) a w:=by
 obtain⟨⟨b,f,c⟩,k⟩:=e;have d:w.rangeAt b0 o A.t:=by intro i v l;grind
 have:=wpList_load_mid (op:=⟨cu dst,.load ty (.tmp x),t2,p,af,cw⟩) (ops:=ops) (rest:=rest) (Q:=Q) ae ty (.tmp x) ae b0 _ g A.t b d f c jv;rw[vx] at this;exact this h
def nE.cO{x:dL}(h:nE w b0 o x){A:gE}(b:A=cL 3 (dF x.cO)):∀i,i<3->w.cell? ⟨b0,o+7+i,cw⟩=A[i]?:=by intro i a;rw[FT,h (7+i) cN,b,dy,df a,wj x i a]
theorem St.aac(S:St w0 d l L O X w')(g:∀k∈eS L O,k<base)(ho:w'.ownsRow base e z v n xs)(c:lS e=cy)(f:gV e=cy):St w0 d l L O (λB w=>X B w/\yX e z v n xs B w) w':=
 S.DN (fE e z v n xs c f) ⟨c8.jR ho,λ_ b a i=>by have h:=(ho.lt b a).1;grind⟩
def St.marks(S:St w0 d l L O (λB w=>X B w/\mkX b M B w) w)(c:lW X)(g:lO d X)(a:w0.h.s<=b)(e:jX b w w')(f:lZ w' b M'):St w0 d l L O (λB w=>X B w/\mkX b M' B w) w':=
 ((S.EY (X':=X) (λ_ _ h=>h.1) g).obj e S.x.2.1.ty a c).DN (tJ b M') ⟨f,S.x.2.2⟩
end
def rgX(b r:Nat)(M S L:List ki):cV->cS->Prop:=λB w=>pq w b r M S L/\b∉B/\r∉B
theorem pq.tys{M S L:List ki}(h:pq w b r M S L):iA w b=cw/\iA w r=cw:=by obtain⟨_,_,_,a,_,_,c,_⟩:=h;unfold iA;grind
def V2(b r:Nat)(M S L:List ki):vB (rgX b r M S L) where
 cP:=λh hb=>⟨h.1.same (hb.block b h.1.lt.1) (hb.block r h.1.lt.2),h.2⟩
 add:=λh hb=>⟨h.1,λhm=>by
  rcases iZ.1 hm with e|hm
  . have:=h.1.lt.1;omega
  . exact h.2.1 hm,λhm=>by
  rcases iZ.1 hm with e|hm
  . have:=h.1.lt.2;omega
  . exact h.2.2 hm⟩
 mono:=λh hs=>⟨h.1,λhm=>h.2.1 (hs _ hm),λhm=>h.2.2 (hs _ hm)⟩
 but:=fun {B w w' c} h hc hb=>⟨h.1.same (hb.block b h.1.lt.1 λe=>h.2.1 (e▸hc)) (hb.block r h.1.lt.2 λe=>h.2.2 (e▸hc)),h.2⟩
 fr:=λh f=>⟨h.1.same (f.block _ h.1.lt.1 λ⟨t,ht,_⟩=>by rw[h.1.tys.1] at ht;cases ht) (f.block _ h.1.lt.2 λ⟨t,ht,_⟩=>by rw[h.1.tys.2] at ht;cases ht),h.2⟩
def pq.perm{M S L:List ki}(h:pq w b r M S L):(S++L).Perm M:=by obtain⟨_,_,_,_,_,_,_,h,_⟩:=h;exact h
theorem pq.left_eq{M S L:List ki}(h:pq w b r M S L):w.rangeLeft b r=L.n:=by obtain⟨d,c,a,f,_,_,g,_,e⟩:=h;grind[World.rangeLeft]
section
variable {M Sn Lf:List ki}
variable {m:Nat}{ty:dU}
def YI(S:St w0 d l L O (λB w=>X B w/\mkX b M B w) w)(j:lO d X)(e:a.eval (.tmp m)=.map (cu b))(h:∀r W,w0.h.s<=r->St w0 d l L O (λB w=>X B w/\rgX b r M [] M B w) W->wpList prog ops Q rest (a.put (cu dst) (bW (cu ⟨r,0,cw⟩))) W):
 wpList prog ops Q (⟨cu dst,.range 172 (.tmp m),t2,p,af,cw⟩::rest) a w:=by obtain⟨w',c,g,i,_⟩:=V0 S.x.2.1;refine mC ae λK f=>?_;unfold Oper.wp;simp[execOp,e,c,Result.andThen];exact f _ _ (h _ _ S.fr.size (((S.cP (zk i)).EY (X':=X) (λ_ _ h=>h.1) j).DN (V2 _ _ _ _ _) ⟨g,S.x.2.2,λe=>ud _ (S.lt _ e)⟩))
def acv(S:St w0 d l L O (λB w=>X B w/\rgX b r M Sn Lf B w) w)(t:lW X)(x:lO d X)(k:w0.h.s<=r)(j:a.eval (.tmp m)=bW (cu ⟨r,0,cw⟩))(n:Lf=[]->Sn.Perm M->wpList prog ops Q rest (a.put (cu dst) (cg #[bZ cy])) w)(o:∀q f W,f.n<Lf.n->St w0 d l L O (λB w=>X B w/\rgX b r M (Sn++[q]) f B w) W->(Instr.entry (bW (cu ⟨r,0,cw⟩))).run prog W=.ok (cg #[bU cq (q.1:Nat),Ah q.2]) W->wpList prog ops Q rest (a.put (cu dst) (cg #[bZ cx,bU cq (q.1:Nat),Ah q.2])) W):
 wpList prog ops Q (⟨cu dst,.next (.tmp m) cy,t2,p,af,cw⟩::rest) a w:=by refine mC ae λK i=>?_;unfold Oper.wp;rcases S.x.2.1.next t2 with⟨e,y,c⟩|⟨q,f,w',c,s,v,u,_,g⟩;simp[execOp,j,c,Result.andThen];exact i _ _ (n e y);simp[execOp,j,c,Result.andThen];exact i _ _ (o q f w' v (((S.EY (X':=X) (λ_ _ h=>h.1) x).obj (uW u) S.x.2.1.tys.2 k t).DN (V2 _ _ _ _ _) ⟨s,S.x.2.2.1,S.x.2.2.2⟩) g)
end
theorem S5(b:Bool)(B:Nat):∀(l:List cQ)(a:List ki×Bool),(∀q∈l,q.1<=B)->(∀m∈a.1,m.1<=B)->(∀m∈(sX b l a).1,m.1<=B)/\(sX b l a).1.n<=a.1.n+l.n
 | [],a,_,h=>⟨h,by simp[sX]⟩
 |q::l,a,hl,h=>by
  have e:sX b (q::l) a=sX b l (ql b a q):=rfl;rw[e];have st:(∀m∈(ql b a q).1,m.1<=B)/\(ql b a q).1.n<=a.1.n+1:=by
   unfold ql
   grind
  obtain⟨d,f⟩:=S5 b B l (ql b a q) (λx c=>hl x (lu _ c)) st.1
  grind
def acw(l:cV):qK l=(dN l).map (Value.int cq):=by simp[qK,dN]
theorem YJ{l m:List Int}(h:l.Perm m):pW l=pW m:=by grind[pW]
section
variable {m:Nat}
def St.sorted{a:List c7}(S:St w0 d l L (⟨3,1,v,n,xs⟩::O) X w)(b:w.grownBy w' v.ownBlock)(c:w'.ownsRow w0.h.s 3 1 v n a):St w0 d l L (⟨3,1,v,n,a⟩::O) X w':=by rcases hb:v.ownBlock with _|g;(have f:n=0:=by rcases c.2 with⟨_,h⟩|⟨g,cap,e,rfl,_⟩;exact h;cases hb);have i:=S.o0.1;have j:=c.1;subst f;rw[hb] at b;obtain rfl:xs=[]:=yr cN;obtain rfl:a=[]:=yr cN;exact S.cP (zk b);exact S.grow (k:=0) ae b c hb (.inl hb)
def Of(b:(Instr.entry (bW (cu ⟨r,0,cw⟩))).run prog w=.ok v w)(d:a.eval (.tmp m)=bW (cu ⟨r,0,cw⟩))(h:wpList prog ops Q rest (a.put (cu dst) v) w):
 wpList prog ops Q (⟨cu dst,.entry (.tmp m),t2,p,af,cw⟩::rest) a w:=by refine mC ae λK c=>?_;unfold Oper.wp;simp[execOp,d,b,Result.andThen];exact c _ _ h
end
theorem ahq(h:w.ownsRow b 3 1 v n (zs.map (Value.int cq)))(d:∀x∈zs,0<=x/\x<=4294967296)(g:zs.n<=100000000):eT cq w v zs:=by
 have a:n=zs.n:=by have:=h.1;grind
 subst a;exact qZ h (λx c=>by have:=d x c;have e:IntKind.i64.min= -9223372036854775808:=rfl;have f:IntKind.i64.max=9223372036854775807:=rfl;grind[Lit.wf]) cN
def EW(a:Bool):∀(l:List cQ)(M:List ki)(t:Bool),sX a l (M,t)=((sX a l (M,cy)).1,t||(sX a l (M,cy)).2)
 | [],M,t=>by simp[sX]
 |q::l,M,t=>by
  have h:∀t,sX a (q::l) (M,t)=sX a l (ql a (M,t) q):=λ_=>ae;rw[h,h];unfold ql;simp only;cases M.find? λm=>decide (m.1=q.1) with
  |none=>exact EW a l _ t
  |some m=>
   simp only;split
   . exact EW a l M t
   . rw[EW a l M cx];simp
def aad(tk:List (Int×Int))(k:Nat)(w:Pl×((List ki×Bool)×Int)):Dv×(GJ×Int):=
 if w.2.2≠0 then(w.1.dv,(zD,w.2.2)) else
 (w.1.dv,(⟨iN (pW (w.2.1.1.map λm=>((m.1:Nat):Int))),tk,w.2.1.2,k,(w.2.1.1.filter λm=>!m.2.2).n⟩,0))
section
attribute[local irreducible]wpList Code.wp Calls Oper.wp wpAnyH
def afF(D:Nat)(d:Dv)(w:cS)(a:jN w D d):
 CP_ 35 #[bW (cu ⟨D,0,cw⟩)] w λe w'=>∃A,e=cj (cg #[bV A,bU cq (Ob d).2.2])/\S4 w' w.h.s A (Ob d).2.1/\jN w' D (Ob d).1/\Fr (cu D) [] w w':=by
 have S:=St.start w (cu D) [] (gU D d) a;have C1:=cz λW(X:jN W D d)=>K8 D d W X;have C2:=cz λW(X:jN W D d)=>He D d W X;obtain⟨T,hT⟩:=dI (Ob d);have s:=cz (show(if d.di=cx then(d,(zD,42)) else aaa (fW d).1 (fW d).2)=T from by rw[<-hT];rfl);have b2:=(vh d a.1.nw).2.2;obtain⟨d1,c5⟩:=dI ((fW d).1);obtain⟨o,ho⟩:=dI ((fW d).2);obtain⟨dd,f7⟩:=dI d.di;rw[hT];rw[c5,ho,f7] at s;rw[c5,ho] at C2;rw[f7] at C1;rw[ho] at b2;obtain⟨AZ,a6⟩:=fP (cL 5 (CD (bX cw 0 0) (bX cw 0 0) zD));have E:=cz (show prog.built 91 []=cu AZ by rw[a6];exact aho);have J:=cz a6;have HG:=cz (show∀W,S4 W w.h.s AZ zD from λW=>by rw[a6];exact Ai W _);have e6:=cz (show lX d1.nw by rw[<-c5,(vh d a.1.nw).1];exact a.1.nw);clear a6;go_enter func35,ntmps35;cases dd with
 |true=>rw[df ae] at s;go_wp2_with (first|refine jb 2 91 S zeroValue91 ai7 λW S=>?_|refine js 91 2 21 S 0 J.o (tK rfl rfl) λW S=>?_|refine mY (C1.o _ S.x) ?_|refine A7 E.o ?_|(refine mA ?_;refine Hid.o ?_));rw[<-s.o];exact cz ⟨_,⟨ae,ae⟩,Ai _ _,S.x,S.fr⟩
 |false=>
  rw[cZ kB] at s;obtain⟨u,hu⟩:=dI (o.getD mu);obtain⟨th,j4⟩:=dI o.isSome;unfold aaa at s;rw[hu,j4] at C2 s;rw[hu] at b2;have HU:=cz b2;clear b2
  go_upto_region 4 with(first|refine jb 2 91 S zeroValue91 ai7 λW S=>?_|refine js 143 4 25 S 0 i6.o (ug _) λW S=>?_|refine mY (C1.o _ S.x) ?_|(refine ah (C2.o _ S.x) λU WK⟨hU,hd,F⟩=>?_;have i6:=cz hU;replace S:=S.call F ax eQ (gU D d1) (λB h=>hd);clear hU)|refine fg λW S=>?_)
  have C3:=cz λW(X:jN W D d1)=>Am D d1 W X;obtain⟨n,hn⟩:=dI d1.n;have k4:n<=1024:=by rw[<-hn];obtain⟨_,sb,nb,pv,h1⟩:=S.x;exact h1.q6
  rw[hn] at C3 s;have HN:=cz hn;clear hn;cases th with
  |false=>
   rw[df ae] at s;obtain rfl:=s.o;refine eu S dC λW S=>?_;refine dh 0 _ ?_;refine dh 1 (bZ cx) ?_;refine dh 2 _ ?_;refine pQ 3 ?_;refine pQ 4 ?_;refine pQ 5 ?_;refine pQ 6 ?_;refine pQ 7 ?_;refine dh 8 (bZ cx) ?_;refine dh 9 _ ?_;refine pQ 10 ?_;refine pQ 11 ?_;refine pQ 12 ?_;refine dh 13 (bZ cx) ?_;refine qx ?_
   go_wp2_with first|refine js 91 2 41 S 1 J.o (tK rfl rfl) λW S=>?_|refine A7 E.o ?_|(refine mA ?_;refine Hid.o ?_)
   exact am8
  |true=>
   rw[cZ kB] at s;by_cases q1:u.gm=n
   case neg=>
    have e1:((u.gm:Int)!=(n:Int))=cx:=by rw[fJ];omega
    rw[df q1] at s;obtain rfl:=s.o;refine eu S dC λW S=>?_;refine dh 0 _ ?_;refine dh 1 (bZ cy) ?_;refine dh 2 _ ?_;refine dh 3 (dE WK.h.s 6) ?_;refine dh 4 (bU cq u.gm) ?_;refine dh 5 _ ?_;refine kI 6 λK hK=>?_
    go_wp2_with fail
    refine mY (C3.o _ S.x) ?_;refine gq hK ?_;clear hK;refine dh 7 (bZ cx) ?_;refine dh 8 (bZ cx) ?_;refine dh 9 _ ?_;refine pQ 10 ?_;refine pQ 11 ?_;refine pQ 12 ?_;refine dh 13 (bZ cx) ?_;refine qx ?_
    go_wp2_with first|refine js 91 2 41 S 1 J.o (tK rfl rfl) λW S=>?_|refine A7 E.o ?_|(refine mA ?_;refine Hid.o ?_)
    exact am8
   rw[cZ (λh=>h q1)] at s;have e1:((u.gm:Int)!=(n:Int))=cy:=by rw[vI,q1]
   by_cases q2:u.len=40
   case neg=>
    have e2:((u.len:Int) !=40)=cx:=by rw[fJ];omega
    rw[df q2] at s;obtain rfl:=s.o;refine eu S dC λW S=>?_;refine dh 0 _ ?_;refine dh 1 (bZ cy) ?_;refine dh 2 _ ?_;refine dh 3 (dE WK.h.s 6) ?_;refine dh 4 (bU cq u.gm) ?_;refine dh 5 _ ?_;refine kI 6 λK hK=>?_
    go_wp2_with fail
    refine mY (C3.o _ S.x) ?_;refine gq hK ?_;clear hK;refine dh 7 (bZ cy) ?_;refine dh 8 (bZ cy) ?_;refine dh 9 _ ?_;refine dh 10 (dE WK.h.s 5) ?_;refine dh 11 (bU cq u.len) ?_;refine dh 12 (bZ cx) ?_;refine dh 13 (bZ cx) ?_;refine qx ?_
    go_wp2_with first|refine js 91 2 41 S 1 J.o (tK rfl rfl) λW S=>?_|refine A7 E.o ?_|(refine mA ?_;refine Hid.o ?_)
    exact am8
   rw[cZ (λh=>h q2)] at s;have e2:((u.len:Int) !=40)=cy:=by rw[vI,q2];rfl
   refine eu S dC λW S=>?_;refine dh 0 _ ?_;refine dh 1 (bZ cy) ?_;refine dh 2 _ ?_;refine dh 3 (dE WK.h.s 6) ?_;refine dh 4 (bU cq u.gm) ?_;refine dh 5 _ ?_;refine kI 6 λK hK=>?_
   go_wp2_with fail
   refine mY (C3.o _ S.x) ?_;refine gq hK ?_;clear hK;refine dh 7 (bZ cy) ?_;refine dh 8 (bZ cy) ?_;refine dh 9 _ ?_;refine dh 10 (dE WK.h.s 5) ?_;refine dh 11 (bU cq u.len) ?_;refine dh 12 (bZ cy) ?_;refine dh 13 (bZ cy) ?_;refine qx ?_;have C6:=cz λz l W(X:fc W z D l ⟨d1,qH n,0,0⟩)=>Ip z D l ⟨d1,qH n,0,0⟩ u.iL HU.o.2.2.1 W X;obtain⟨A,hA⟩:=fP (cL 3 (dF u.iL));rw[dk hA] at C6;have HA:=cz hA;obtain⟨r,hr⟩:=dI (ke ⟨d1,qH n,0,0⟩ u.iL);rw[hr] at C6 s;obtain⟨s2,bk,C,ps,c⟩:=r;simp only at C6;have d8:=cz (show ps.n<=20000/\bk.cU.n<=1000000 from by have:=zw ⟨d1,qH n,0,0⟩ e6.o u.iL;rw[hr] at this;exact⟨this.2.1,this.1.fit.1⟩);have i1:=cz (show∀t∈bk.cU,dD t.cO from by have:=(zw ⟨d1,qH n,0,0⟩ e6.o u.iL).1.parts;rw[hr] at this;exact λt ht=>(this t ht).1);unfold ahY at s;simp only at s;have i5:=cz λi(hi:i<3)=>DH (u:=u) i hi;clear hA hr
   go_upto_region 8 with(first|refine mY (C3.o _ S.x) ?_|(refine ah ((Rp (n:Nat) aW _).mono λe w'(N:_/\_/\_)=>(show∃k,e=cj (dE k 0)/\w.h.s<=k/\fB w' k (qH n)/\dR _ w' from⟨_,N.1,S.fr.size,N.2.1,N.2.2⟩)) λl W⟨f1,hm,hb⟩=>?_;have j8:=cz f1;replace S:=(S.cP hb).wJ hm ae;clear f1)|(refine ah ((zV D l 0 0 _).mono λe w'(N:_/\_/\_)=>(show∃k,e=cj (dE k 0)/\w.h.s<=k/\mf w' k D l 0 0/\dR _ w' from⟨_,N.1,S.fr.size,N.2.1,N.2.2⟩)) λz W⟨f3,hm,hb⟩=>?_;have j9:=cz f3;replace S:=((S.cP hb).wJ hm ae).EY (X':=C' z D l ⟨d1,qH n,0,0⟩) (λB w h=>⟨h.2,h.1.1,h.1.2,⟨(show(0:Nat)<18446744073709551616 by decide),(show(0:Nat)<18446744073709551616 by decide)⟩⟩) (dQ z D l _);clear f3)|refine oM_ S 0 ae (o:=2) (m:=3) (dF u.iL) i5.o HA.o ?_|(refine(C6.o z l _ S.x).mono ?_;rintro e W ⟨B,r,q,rfl,⟨f,hB,hc,a8⟩,g1,g5,p,g4,R,F⟩;have HB:=cz hB;have HC:=cz hc;have h8:=cz g4;have e7:=cz (And.intro (show∀x∈C,fh x.1/\fh x.2 from by obtain⟨_,_,_,_,N,_⟩:=g5;exact N) (show C.n<=9223372036854775807 from by obtain⟨_,_,_,N,_⟩:=g5;exact N));have h4:=cz (dx g1);have h5:=cz (dx p);replace S:=(S.uh F ax eQ (dQ z D l s2) (λB h=>R) g1 ae ae).Vy a8 p eQ eQ eQ eQ;clear hB hc g4;obtain⟨ra,rc,rfl⟩:=h4.o;obtain⟨qa,qc,rfl⟩:=h5.o)|refine fg λW S=>?_)
   obtain rfl:=HC.o;clear HC;by_cases g2:c=0
   case neg=>
    have g3:(c !=0)=cx:=fJ.2 g2;rw[df g2] at s;obtain rfl:=s.o;clear g2
    go_wp2_with first|refine js 91 2 58 S 2 J.o (tK rfl rfl) λW S=>?_|refine A7 E.o ?_|(refine mA ?_;refine Hid.o ?_)
    exact cz ⟨Ai _ _,S.x.1.1.dev,S.fr⟩
   subst g2;rw[cZ aH] at s;obtain⟨k0,j2⟩:=dI f.l.n;obtain⟨AR,c2⟩:=fP (cL 5 (CD (bX cw 0 0) (bX ra C.n rc) ⟨[],C,cy,f.l.n,0⟩));have g8:=cz (show prog.built 91 [(1,bX ra C.n rc),(3,bU cq f.l.n)]=cu AR by rw[c2];exact afE _ _ _ _ _);have g7:=cz c2;have C7:=cz λj5 q v b M W h2 h3=>acr j5 q v b M W h2 h3;clear c2;obtain⟨m0,c8⟩:=dI (sX cx ps ([],cy));rw[c8] at s;have e3:=cz c8;clear c8 j2
   go_upto_region 14 with(first|(first|refine jl 62 97 61 S 0 1 (bX f.dZ f.l.n f.cap) ?_|refine jl 71 97 70 S 1 1 (bX f.dZ f.l.n f.cap) ?_)|refine lE (cells:=AR) ae g8.o ?_|refine oX S rfl rfl g7.o akx rfl nz (tK rfl rfl) λW S=>?_|(refine ahp S λG W f2 S=>?_;have b8:=cz f2;clear f2)|(refine aj (C7.o cx ps _ G [] _ S.x.1.2.1 S.x.2.1) λW⟨hm,hb⟩=>?_;rw[e3.o] at hm|-;replace S:=S.marks (((lW.pl z D l s2).and (lW.cU _ _)).and (lW.sl _ _ _ _ _)) (((dQ z D l s2).still (fN f.sv f.l)).still (fE 106 3 _ _ _ ae ae)) b8.o hb hm)|refine xA S 0 rfl 2 (CD (bX cw 0 0) (bX ra C.n rc) ⟨[],C,m0.2,f.l.n,0⟩) (λj hj=>by have hj:j<5:=hj;rcases j with(_|_|_|_|_|j)<;>first|rfl) rn rfl rfl rfl tT λW S=>?_)
   have s:=cz (show aad C f.l.n (BC (eM f.l) s2 m0)=T from by rw[<-s.o,<-iu f.l];rfl);have b5:=cz (show(∀q∈m0.1,q.1<=4294967296)/\m0.1.n<=20000 from by
    have:=S5 cx 4294967296 ps ([],cy) (λq hq=>by have:=(h8.o q hq).1;omega) eQ;rw[e3.o] at this;exact⟨this.1,by have h2:=this.2;simp at h2;have:=d8.o.1;omega⟩)
   go_loopw [73] (λi wr=>∃(k:Nat)(s':Pl)(m:List ki×Bool),k<=f.l.n/\i=bU cq k/\Hid ((aad C f.l.n (BC ((eM f.l).drop k) s' m)=T/\(∀q∈m.1,q.1<=4294967296)/\m.1.n<=20000+73*k)/\St w (cu D) [] [⟨_,91,5,CD (bX cw 0 0) (bX ra C.n rc) ⟨[],C,m.2,f.l.n,0⟩⟩,⟨_,99,2,dO f⟩,⟨_,143,7,kV u⟩,⟨_,91,5,CD (bX cw 0 0) (bX cw 0 0) zD⟩] [⟨141,2,bX ra C.n rc,C.n,_⟩] (λB w=>((C' z D l s' B w/\rY f.sv f.l B w)/\yX 106 3 (bX qa ps.n qc) ps.n (iS ps) B w)/\mkX G m.1 B w) wr)) (λi _=>f.l.n-(intOf i).m)
   case atStart=>exact⟨0,s2,m0,cN,ae,cz ⟨⟨s.o,b5.o.1,by have:=b5.o.2;omega⟩,S⟩⟩
   case round=>
    clear S s b5;obtain⟨k,s',m,hk,rfl,hS⟩:=hrel;by_cases a7:k<f.l.n
    . obtain⟨x,hx⟩:∃x,f.l[k]?=cu x:=⟨_,jE a7⟩;have S:=hS.o.2;have g:=hS.o.1.1;have V:=cz hS.o.1.2;have f8:(eM f.l).drop k=x.todw:: (eM f.l).drop (k+1):=by rw[drop_eq_getElem?_toList_append,mZ,hx];rfl
      rw[f8] at g;unfold BC at g;have d3:dD x.cO:=i1.o x.todw (kA (i:=k) (by show(eM f.l)[k]?=_;rw[mZ,hx];rfl));obtain⟨j1,k1,e9,_,b4⟩:=dP S.x.1.1.2.sl.1;have O:f.dZ=j1:=by unfold dW.sv at e9;cases e9;rfl
      obtain⟨bb,o9,f6⟩:=b4 cN;rw[f6] at O;have a3:=cz (show dO f 1=bX (s_ bb o9) f.l.n f.cap by show f.sv=_;unfold dW.sv;rw[O]);have a5:∀{B:cV}{W:cS},rY f.sv f.l B W->nE W bb (o9+k*11) x:=λh=>by
       have h:=h.sl;unfold dW.sv at h;rw[O] at h;exact h.at hx
      have C8:=cz λW X=>Kl z D l s' x.cO d3 0 W X;obtain⟨AX,c4⟩:=fP (cL 3 (dF x.cO));rw[dk c4] at C8;have I:=cz c4;have a2:=FH S.x.1.1.1.dev.1.nw d3 0;obtain⟨r3,j3⟩:=dI (gY s' x.cO 0);rw[j3] at C8 g a2;obtain⟨Q,l3,c3⟩:=r3;simp only at C8 g a2;have d7:=cz (And.intro a2.1 a2.2.1);have k2:(k:Int)<(f.l.n:Int):=cN;have k3:f.l.n<=9223372036854775807:=by
       obtain⟨_,_,_,_,h1,h2,_⟩:=S.x.1.1.2.sl.1;unfold maxLen at h2;omega
      clear a2 f8 d3 e9 b4 f6 O c4;by_cases z1:c3=42
      . subst z1;rw[df ae] at g;have H:=cz g;clear g
        go_wp2_with first|refine js 91 2 89 S 3 J.o (tK rfl rfl) λW S=>?_|refine EC S 1 ae 1 (v:=bX (s_ bb o9) f.l.n f.cap) a3.o ?_|refine Lm (nE.cO (a5 S.x.1.1.2) I.o) (vu I) ae fK ?_|(refine ah (C8.o _ S.x.1.1.1) λrv W⟨p,R,F⟩=>?_;have L:=cz (dx p);replace S:=S.uh (X':=λB w=>((C' z D l Q B w/\rY f.sv f.l B w)/\yX 106 3 (bX qa ps.n qc) ps.n (iS ps) B w)/\mkX G m.1 B w) F ax eQ ((((dQ z D l Q).still (fN f.sv f.l)).still (fE 106 3 _ _ _ ae ae)).still (tJ G m.1)) (λB h=>⟨⟨⟨R,(fN f.sv f.l).fr h.1.1.2 F⟩,(fE 106 3 _ _ _ ae ae).fr h.1.2 F⟩,(tJ G m.1).fr h.2 F⟩) p ae ae;obtain⟨va,vc,rfl⟩:=L.o)|refine A7 E.o ?_|(refine mA ?_;refine Hid.o ?_)
        rw[<-H.o];exact anH
      rw[cZ z1] at g;by_cases z2:c3=0
      case neg=>
       rw[df z2] at g;have H:=cz g;have z3:(c3==42)=cy:=by rw[lR];exact z1
       have z4:(c3 !=0)=cx:=fJ.2 z2;clear g
       go_wp2_with first|refine js 91 2 93 S 3 J.o (tK rfl rfl) λW S=>?_|refine EC S 1 ae 1 (v:=bX (s_ bb o9) f.l.n f.cap) a3.o ?_|refine Lm (nE.cO (a5 S.x.1.1.2) I.o) (vu I) ae fK ?_|(refine ah (C8.o _ S.x.1.1.1) λrv W⟨p,R,F⟩=>?_;have L:=cz (dx p);replace S:=S.uh (X':=λB w=>((C' z D l Q B w/\rY f.sv f.l B w)/\yX 106 3 (bX qa ps.n qc) ps.n (iS ps) B w)/\mkX G m.1 B w) F ax eQ ((((dQ z D l Q).still (fN f.sv f.l)).still (fE 106 3 _ _ _ ae ae)).still (tJ G m.1)) (λB h=>⟨⟨⟨R,(fN f.sv f.l).fr h.1.1.2 F⟩,(fE 106 3 _ _ _ ae ae).fr h.1.2 F⟩,(tJ G m.1).fr h.2 F⟩) p ae ae;obtain⟨va,vc,rfl⟩:=L.o)|refine A7 E.o ?_|(refine mA ?_;refine Hid.o ?_)
       rw[<-H.o];exact anH
      subst z2;rw[cZ eQ] at g;obtain⟨m1,d2⟩:=dI (sX cy l3 (m.1,cy));rw[show sX cy l3 m=(m1.1,m.2||m1.2) from by rw[<-d2];exact EW cy l3 m.1 m.2] at g;have H:=cz g;have e4:=cz d2;have d5:=cz (show(∀q∈m1.1,q.1<=4294967296)/\m1.1.n<=20000+73*(k+1) from by
       have:=S5 cy 4294967296 l3 (m.1,cy) (λq hq=>by have:=(d7.o.1 q hq).1;omega) V.o.1;rw[e4.o] at this;exact⟨this.1,by have h2:=this.2;simp only at h2;have:=d7.o.2;have:=V.o.2;omega⟩)
      obtain⟨b1,f5⟩:=dI m1.2;have C7:=cz λv W h2 h3=>(show CP_ 88 #[.map (cu G),v,bZ cy] W λe w'=>e=cj (bZ b1)/\lZ w' G m1.1/\jX G W w' from by have:=C7.o cy l3 v G m.1 W h2 h3;rw[e4.o,f5] at this;exact this);rw[f5] at H;clear g d2;cases b1 with
      |false=>
       go_wp2_with first|refine EC S 1 ae 1 (v:=bX (s_ bb o9) f.l.n f.cap) a3.o ?_|refine Lm (nE.cO (a5 S.x.1.1.2) I.o) (vu I) ae fK ?_|(refine ah (C8.o _ S.x.1.1.1) λrv W⟨p,R,F⟩=>?_;have L:=cz (dx p);replace S:=S.uh (X':=λB w=>((C' z D l Q B w/\rY f.sv f.l B w)/\yX 106 3 (bX qa ps.n qc) ps.n (iS ps) B w)/\mkX G m.1 B w) F ax eQ ((((dQ z D l Q).still (fN f.sv f.l)).still (fE 106 3 _ _ _ ae ae)).still (tJ G m.1)) (λB h=>⟨⟨⟨R,(fN f.sv f.l).fr h.1.1.2 F⟩,(fE 106 3 _ _ _ ae ae).fr h.1.2 F⟩,(tJ G m.1).fr h.2 F⟩) p ae ae;obtain⟨va,vc,rfl⟩:=L.o)|(refine aj (C7.o _ _ S.q0 S.x.2.1) λW⟨hm,hb⟩=>?_;replace S:=S.marks (((lW.pl z D l Q).and (lW.cU _ _)).and (lW.sl _ _ _ _ _)) (((dQ z D l Q).still (fN f.sv f.l)).still (fE 106 3 _ _ _ ae ae)) b8.o hb hm)
       go_roundw
       case rel=>exact⟨k+1,Q,(m1.1,m.2||false),cN,by go_num,cz ⟨⟨H.o,d5.o⟩,by rw[Bool.or_false];exact S.OJ⟩⟩
       case measure=>exact pR
      |true=>
       go_wp2_with first|refine EC S 1 ae 1 (v:=bX (s_ bb o9) f.l.n f.cap) a3.o ?_|refine Lm (nE.cO (a5 S.x.1.1.2) I.o) (vu I) ae fK ?_|(refine ah (C8.o _ S.x.1.1.1) λrv W⟨p,R,F⟩=>?_;have L:=cz (dx p);replace S:=S.uh (X':=λB w=>((C' z D l Q B w/\rY f.sv f.l B w)/\yX 106 3 (bX qa ps.n qc) ps.n (iS ps) B w)/\mkX G m.1 B w) F ax eQ ((((dQ z D l Q).still (fN f.sv f.l)).still (fE 106 3 _ _ _ ae ae)).still (tJ G m.1)) (λB h=>⟨⟨⟨R,(fN f.sv f.l).fr h.1.1.2 F⟩,(fE 106 3 _ _ _ ae ae).fr h.1.2 F⟩,(tJ G m.1).fr h.2 F⟩) p ae ae;obtain⟨va,vc,rfl⟩:=L.o)|(refine aj (C7.o _ _ S.q0 S.x.2.1) λW⟨hm,hb⟩=>?_;replace S:=S.marks (((lW.pl z D l Q).and (lW.cU _ _)).and (lW.sl _ _ _ _ _)) (((dQ z D l Q).still (fN f.sv f.l)).still (fE 106 3 _ _ _ ae ae)) b8.o hb hm)|refine xA S 0 rfl 2 (CD (bX cw 0 0) (bX ra C.n rc) ⟨[],C,cx,f.l.n,0⟩) (λj hj=>by have hj:j<5:=hj;rcases j with(_|_|_|_|_|j)<;>first|rfl) rn rfl rfl rfl tT λW S=>?_
       go_roundw
       case rel=>exact⟨k+1,Q,(m1.1,m.2||true),cN,by go_num,cz ⟨⟨H.o,d5.o⟩,by rw[Bool.or_true];exact S.OJ⟩⟩
       case measure=>exact pR
    . obtain rfl:k=f.l.n:=cN;have g:=hS.o.1.1;have V:=cz hS.o.1.2;rw[drop_eq_nil_of_le (by rw[iu];omega)] at g;have H:=cz g;have S:=cz (hS.o.2.Jl 3 1 ae ae);clear g;have S:=S.o
      go_upto_region 26 with(refine YI S (((dQ z D l s').still (fN f.sv f.l)).still (fE 106 3 _ _ _ ae ae)) ae λRB W f4 S=>?_;have i2:=cz f4;clear f4)
      go_frame
      go_loopw [16] (λv wr=>∃(Sn Lf:List ki)(ao:Option Addr)(cp:Nat),v=bX ao Sn.n cp/\Hid (St w (cu D) [] [⟨_,91,5,CD (bX cw 0 0) (bX ra C.n rc) ⟨[],C,m.2,f.l.n,(Sn.filter λq=>!q.2.2).n⟩⟩,⟨_,99,2,dO f⟩,⟨_,143,7,kV u⟩,⟨_,91,5,CD (bX cw 0 0) (bX cw 0 0) zD⟩] [⟨3,1,bX ao Sn.n cp,Sn.n,qK (Sn.map Prod.fst)⟩,⟨141,2,bX ra C.n rc,C.n,_⟩] (λB w=>((C' z D l s' B w/\rY f.sv f.l B w)/\yX 106 3 (bX qa ps.n qc) ps.n (iS ps) B w)/\rgX G RB m.1 Sn Lf B w) wr)) (λ_ wr=>wr.rangeLeft G RB)
      case atStart=>exact⟨[],m.1,cw,0,ae,cz S⟩
      case round=>
       clear S;obtain⟨Sn,Lf,ao,cp,rfl,hS⟩:=hrel;have S:=hS.o;have b7:=cz S.x.2.1.left_eq;have h7:=cz S.x.2.1.perm;have f9:Sn.n<=100000000:=by have h1:=h7.o.length_eq;have h2:=V.o.2;have h3:(eM f.l).n<=1000000:=d8.o.2;rw[ji] at h1;rw[iu] at h3;omega
       have hX:=cz (((lW.pl z D l s').and (lW.cU f.sv f.l)).and (lW.sl 106 3 (bX qa ps.n qc) ps.n (iS ps)));have hs:=cz (((dQ z D l s').still (fN f.sv f.l)).still (fE 106 3 (bX qa ps.n qc) ps.n (iS ps) ae ae))
       go_upto_region 27 with(refine acv S hX.o hs.o i2.o ae (λhl R=>?_) (λq L' W a7 S c6=>?_))
       . obtain⟨Z,hZ⟩:=dI ((dN (Sn.map Prod.fst)).mergeSort (λx y=>decide (x<=y)));have HZ:=cz (show Z.Perm (dN (Sn.map Prod.fst)) from hZ▸mergeSort_perm _ _);have i7:=cz (show∀x∈Z,0<=x/\x<=4294967296 from λx hx=>by
          have:=HZ.o.mem_iff.1 hx;unfold dN at this;simp only[gI] at this;obtain⟨_,⟨q,hq,rfl⟩,rfl⟩:=this;have:=V.o.1 q (R.mem_iff.1 hq);omega)
         have i8:=cz (show Z.n<=100000000 by have:=HZ.o.length_eq;simp[dN] at this;omega);have i9:=cz (show pW Z=pW (m.1.map λq=>((q.1:Nat):Int)) from YJ (HZ.o.trans (by unfold dN;rw[wO];exact R.map _)));have Y:=cz (show(Sn.filter λq=>!q.2.2).n=(m.1.filter λq=>!q.2.2).n from(R.filter _).length_eq);have CS:=cz λ(W:cS)(v:c7)(h:W.ownsRow w.h.s 3 1 v Sn.n (qK (Sn.map Prod.fst)))=>(show CP_ 90 #[v] W λe w'=>e=cj (cg #[])/\w'.ownsRow w.h.s 3 1 v Sn.n (Z.map (Value.int cq))/\W.grownBy w' v.ownBlock from by
          rw[acw] at h;have:=afC h (by simp[dN];omega);rw[hZ] at this;exact this)
         obtain⟨sr,a9⟩:=dI (iN (pW Z));have CO:=cz λ(W:cS)(v:c7)(h:W.ownsRow w.h.s 3 1 v Sn.n (Z.map (Value.int cq)))=>(show CP_ 91 #[v] W λe w'=>∃v',e=cj v'/\w'.ownsRow W.h.s 141 2 v' sr.n (jw sr)/\dR W w' from by
          have:=Xs v Z W (ahq h i7.o i8.o);rw[a9] at this;exact this)
         obtain⟨cn,a1⟩:=dI ((Sn.filter λq=>!q.2.2).n);rw[a1] at S Y;have i3:=cz a9;have i4:=cz (show(s'.dv,((⟨sr,C,m.2,f.l.n,cn⟩:GJ),(0:Int)))=T from by
          rw[<-H.o,<-a9,i9.o,Y.o];rfl)
         clear a9
         go_wp2_with first|refine js 91 2 122 S 3 g6.o (tK rfl rfl) λW S=>?_|(refine aj (CS.o _ _ S.o0) λW⟨ho,hg⟩=>?_;replace S:=S.sorted hg ho)|(refine ah (CO.o _ _ S.o0) λrv W⟨ho,hb⟩=>?_;have h6:=cz (dx ho);replace S:=S.iv hb ho ae ae;obtain⟨va,vc,rfl⟩:=h6.o;obtain⟨AF,e8⟩:=fP (cL 5 (CD (bX va sr.n vc) (bX ra C.n rc) ⟨sr,C,m.2,f.l.n,cn⟩));have g6:=cz e8;clear e8)|refine xA S 0 rfl 0 (CD (bX va sr.n vc) (bX ra C.n rc) ⟨sr,C,m.2,f.l.n,cn⟩) (λj hj=>by have hj:j<5:=hj;rcases j with(_|_|_|_|_|j)<;>first|rfl) rn rfl rfl rfl ahZ λW S=>?_|(refine mA ?_;refine Hid.o ?_)|refine fL ?_
         rw[<-i4.o];exact cz ⟨_,⟨ae,ae⟩,⟨_,_,ae,⟨S.o0,S.o2⟩,by have N:=S.o0;rw[<-i3.o] at N|-;exact nX.sl N,uK S.o2 e7.o.1 e7.o.2⟩,S.x.1.1.1.dev,S.fr⟩
       . obtain⟨AQ,b9⟩:=fP (cL 4 (BD q.2));have e9:Ah q.2=bV AQ:=by rw[b9];rfl
         rw[e9] at c6|-;have d4:=cz b9;have d6:=cz c6;have d9:=cz a7;have j7:=b7;obtain⟨ob,a8⟩:=dI q.2.2;have b3:=cz (show BD q.2 3=bZ ob by unfold BD;rw[cZ kB,a8]);obtain⟨cn,a1⟩:=dI ((Sn.filter λq=>!q.2.2).n);rw[a1] at S;have j6:cn<=100000000:=by rw[<-a1];exact iE (FW _ _) f9
         have Y:=cz (show((Sn++[q]).filter λq=>!q.2.2).n=if ob=cx then cn else cn+1 by rw[filter_append,ji,a1];cases ob<;>simp[a8]);have a4:=cz (show(Sn++[q]).n=Sn.n+1 by simp);have e5:=cz (show qK ((Sn++[q]).map Prod.fst)=qK (Sn.map Prod.fst)++[bU cq q.1] by simp[qK]);clear e9 b9 c6 a7;cases ob with
         |true=>
          go_wp2_with first|refine Of d6.o ae ?_|refine oX S rfl rfl d4.o aab rfl nz (JL _) λW S=>?_|refine mH S cq (dN [q.1]) qt uT cN cN rfl rfl rfl λW S=>?_|refine tA S 0 rfl 0 rfl rfl rfl rfl XX (Hn _ _) CK xZ λg9 c9 W S=>?_|refine EC S 1 ae 3 (v:=bZ cx) b3.o ?_
          have b6:=cz S.x.2.1.left_eq;go_roundw
          case rel=>exact⟨Sn++[q],L',s_ g9 0,c9,(by rw[a4.o]),cz (by have S:=S.pop.pop;rw[a4.o,e5.o,Y.o,df ae];exact S)⟩
          case measure=>rw[b6.o,b7.o];exact d9.o
         |false=>
          go_wp2_with first|refine jl 114 3 113 S 2 4 (bU cq cn) ?_|refine Of d6.o ae ?_|refine oX S rfl rfl d4.o aab rfl nz (JL _) λW S=>?_|refine mH S cq (dN [q.1]) qt uT cN cN rfl rfl rfl λW S=>?_|refine tA S 0 rfl 0 rfl rfl rfl rfl XX (Hn _ _) CK xZ λg9 c9 W S=>?_|refine EC S 1 ae 3 (v:=bZ cy) b3.o ?_|refine xA S 2 rfl 4 (CD (bX cw 0 0) (bX ra C.n rc) ⟨[],C,m.2,f.l.n,cn+1⟩) (λj hj=>by have hj:j<5:=hj;rcases j with(_|_|_|_|_|j)<;>first|rfl|omega) rn rfl rfl rfl DG λW S=>?_
          have b6:=cz S.x.2.1.left_eq;go_roundw
          case rel=>exact⟨Sn++[q],L',s_ g9 0,c9,(by rw[a4.o];try simp),cz (by have S:=S.pop.pop;rw[a4.o,e5.o,Y.o,cZ eQ];exact S)⟩
          case measure=>rw[b6.o,b7.o];exact d9.o
end
def KG(K D:Nat)(y:GT)(c:fG y.b)(w:cS)(h:fA w K D y):
 CP_ 12 #[bW (cu ⟨K,0,cw⟩)] w λe w'=>∃r,e=cj r/\w'.ownsRow w.h.s 52 4 r (pL y).n (zB (pL y))/\dR w w':=by obtain⟨G,g,M,b,e,-⟩:=h;have a:=SW K D G M g y.s (by rw[show g.b.t=y.b from gD GT.b e];exact c) w b;rw[e] at a;exact a
section
theorem akz(S:St w0 d l L O X w){K:Act->cS->Prop}{t:dU}{by':Nat}(k:xi P t e z by')(f:gV e=cy)(i:lS e=cy)(h:∀g W,St w0 d l L (⟨e,z,bX (cu ⟨g,0,cw⟩) 0 0,0,[]⟩::O) X W->K (a.put (cu dst) (bX (cu ⟨g,0,cw⟩) 0 0)) W):
 Oper.wp P ⟨cu dst,.buildSlice t 0 #[],t2,p,af,cw⟩ a w K Q:=by
 obtain⟨m,v,j,s,r⟩:=k;obtain⟨u,c,n,o,q⟩:=oG j;have b:(Instr.buildSlice t 0 #[]).run P w=.ok (bX (s_ w.h.s 0) 0 0) (w.alloc (.cells #[] e)):=by simp[Instr.buildSlice,yO m,sizeOf,typeInfo,c,Instr.fill,newRow];grind
 unfold Oper.wp execOp;simp only[lh,map_toArray,map_nil,b,nW];exact h _ _ (S.made (cap:=0) eQ (gw _) f i)
end
section
attribute[local irreducible]wpList Code.wp Calls Oper.wp wpAnyH
theorem ai8(K D:Nat)(x:GT)(l:E0 x)(o:IQ)(A:gE)(L:A=cL 6 (opF o))(f:o.name.s<=140737488355328)(u:o.toN.s<=140737488355328)(H:o.data.n<=140737488351232)(w:cS)(h:fA w K D x)(T:dU)(z:∀W,Fr (cu D) [K] w W->c8 W T 1 (bX o.da o.data.n o.dc) o.data.n (ej o.data))(p:∀y∈o.data,y<256):
 CP_ 11 #[bW (cu ⟨K,0,cw⟩),bV A] w λe w'=>(∃B s,e=cj (cg #[bV B,bU cq (rM x o.toYF).2.2])/\B=cL 128 (dg s))/\fA w' K D (rM x o.toYF).1/\Fr (cu D) [K] w w':=by
 have S:=St.start w (cu D) [K] (yf K D x) h.x;obtain⟨⟨d,b,v,n,t,N⟩,I,J,Q,R⟩:=o;simp only at f u H z p|-;obtain⟨⟨y,O,c⟩,a⟩:∃T,rM x ⟨d,b,v,n,t,N⟩=T:=⟨_,ae⟩;have U:=cz L;have F:=cz p;have G:=cz z;have q:d=1∨d=3∨(d≠0/\d≠1/\d≠2/\d≠3/\d≠4/\d≠5/\d≠6/\d≠7/\d≠8/\d≠9)∨d=0∨d=2∨d=4∨d=5∨d=6∨d=7∨d=8∨d=9:=cN;rw[a];simp only;clear L h z p;rcases q with rfl|rfl|⟨n0,n1,n2,n3,n4,n5,n6,n7,n8,n9⟩|rfl|rfl|rfl|rfl|rfl|rfl|rfl|rfl;have C:=cz λba bc W(X:fA W K D x)E=>FK K D x l b f n t ba bc W X E;rw[show dX x (mL b n t)=(y,c) from xI (gD Prod.fst a:) (gD (λr=>r.2.2) a:)] at C;clear a;go_enter func11,ntmps11;go_upto_region 5 with(first|refine jl 7 3 6 S 1 0 (bU cq 1) ?_|refine fg λW S=>?_);refine eR S dC [⟨w.h.s,41,6,opF ⟨⟨1,b,v,n,t,N⟩,I,J,Q,R⟩⟩] CI λW S=>?_;refine gZ 0 (bV zeroCells36) ae (y8 ae Rv) ?_;refine dh 1 _ ?_;refine dh 2 (dE w.h.s 1) ?_;refine dh 3 (bY b) ?_;refine dh 4 (dE w.h.s 3) ?_;refine dh 5 (bU cq n) ?_;refine dh 7 (dE w.h.s 4) ?_;refine dh 8 (bX I t.n J) ?_;refine kI 6 λK m=>?_;refine akz S Cg ae ae λg W S=>?_;refine gq m ?_;refine kI 9 λK m=>?_;refine aeb S 0 ae ae ae (G.o _ S.fr) Cg (A' _) CK xZ λG G W S=>?_;refine gq m ?_;refine kI 10 λK m=>?_;go_wp2_with fail;refine aj (C.o _ _ _ S.x.at ⟨by have E:=S.q0;simp only[oQ,pN] at E;exact E,F.o⟩) λW⟨j,i⟩=>?_;replace S:=S.AA j i eQ jv jv;refine gq m ?_;refine kI 11 λK m=>?_;refine kq S 0 ae ae ae vU Cd (jC _) λW S=>?_;refine gq m ?_;refine dh 12 _ ?_;refine qx ?_;rotate_left;have C:=cz λW(X:fA W K D x)=>yd K D x l b f n W X;rw[show ny b n x=(y,O,c) from a] at C;clear a;go_enter func11,ntmps11;rotate_left;obtain⟨rfl,-,rfl⟩:x=y/\ff=O/\(0:Int)=c:=by unfold rM at a;grind
 have e:∀k:Int,d≠k->(d==k)=cy:=λk h=>by rw[lR];exact h
 have V:=e 0 n0;have Y:=e 1 n1;have Z:=e 2 n2;have F:=e 3 n3;have F:=e 4 n4;have F:=e 5 n5;have F:=e 6 n6;have F:=e 7 n7;have F:=e 8 n8;have F:=e 9 n9;clear a e n0 n1 n2 n3 n4 n5 n6 n7 n8 n9;go_enter func11,ntmps11;rotate_left;have C:=cz λW(X:fA W K D x)=>D8 K D x l b f n W X;rw[show dX x (mB b n)=(y,c) from xI (gD Prod.fst a:) (gD (λr=>r.2.2) a:)] at C;clear a;go_enter func11,ntmps11;rotate_left;have C:=cz λW(X:fA W K D x)=>SI K D x l b f n W X;rw[show dX x (rL b n)=(y,c) from xI (gD Prod.fst a:) (gD (λr=>r.2.2) a:)] at C;clear a;go_enter func11,ntmps11;rotate_left;have C:=cz λW(X:fA W K D x)=>IA K D x l b f W X;rw[show dX x (qA b)=(y,c) from xI (gD Prod.fst a:) (gD (λr=>r.2.2) a:)] at C;clear a;go_enter func11,ntmps11;rotate_left;have C:=cz λW(X:fA W K D x)=>Pn K D x l b v f u W X;rw[show dX x (qN b v)=(y,c) from xI (gD Prod.fst a:) (gD (λr=>r.2.2) a:)] at C;clear a;go_enter func11,ntmps11;rotate_left;have C:=cz λW(X:fA W K D x)=>K1 K D x l b f W X;rw[show dX x (l9 b)=(y,c) from xI (gD Prod.fst a:) (gD (λr=>r.2.2) a:)] at C;clear a;go_enter func11,ntmps11;rotate_left;have C:=cz λW(X:fA W K D x)=>SH K D x l b f W X;rw[show dX x (uA b)=(y,c) from xI (gD Prod.fst a:) (gD (λr=>r.2.2) a:)] at C;clear a;go_enter func11,ntmps11;rotate_left;have C:=cz λW(X:fA W K D x)=>K3 K D x l b f W X;rw[show dX x (kY b)=(y,c) from xI (gD Prod.fst a:) (gD (λr=>r.2.2) a:)] at C;clear a;go_enter func11,ntmps11;rotate_left;have C:=cz λW(X:fA W K D x)=>Cv K D x l W X;rw[show dX x iC=(y,c) from xI (gD Prod.fst a:) (gD (λr=>r.2.2) a:)] at C;clear a;go_enter func11,ntmps11
 all_goals
  go_wp2_with first|(first|refine jl 7 3 6 S 1 0 (bU cq 3) ?_|refine jl 43 9 42 S 1 1 (bY b) ?_|refine jl 45 3 44 S 1 3 (bU cq n) ?_|refine jl 7 3 6 S 1 0 (bU cq 0) ?_|refine jl 13 9 12 S 1 1 (bY b) ?_|refine jl 15 3 14 S 1 3 (bU cq n) ?_|refine jl 7 3 6 S 1 0 (bU cq 2) ?_|refine jl 35 9 34 S 1 1 (bY b) ?_|refine jl 37 3 36 S 1 3 (bU cq n) ?_|refine jl 7 3 6 S 1 0 (bU cq 4) ?_|refine jl 54 9 53 S 1 1 (bY b) ?_|refine jl 7 3 6 S 1 0 (bU cq 5) ?_|refine jl 61 9 60 S 1 1 (bY b) ?_|refine jl 63 9 62 S 1 2 (bY v) ?_|refine jl 7 3 6 S 1 0 (bU cq 6) ?_|refine jl 70 9 69 S 1 1 (bY b) ?_|refine jl 7 3 6 S 1 0 (bU cq 7) ?_|refine jl 77 9 76 S 1 1 (bY b) ?_|refine jl 7 3 6 S 1 0 (bU cq 8) ?_|refine jl 84 9 83 S 1 1 (bY b) ?_)|(refine ah (C.o _ S.x.at) λB W⟨M,j,i⟩=>?_;have z:=cz M;replace S:=S.AA j i eQ jv bh;clear M)|refine jl 7 3 6 S 1 0 (bU cq d) ?_|(refine aj (C.o _ S.x.at) λW⟨j,i⟩=>?_;replace S:=S.AA j i eQ jv bh)|(refine aj (C.o _ S.x.at) λW⟨j,i⟩=>?_;replace S:=S.AA j i eQ jv bh)|(refine aj (C.o _ S.x.at) λW⟨j,i⟩=>?_;replace S:=S.AA j i eQ jv bh)|(refine aj (C.o _ S.x.at) λW⟨j,i⟩=>?_;replace S:=S.AA j i eQ jv bh)|(refine aj (C.o _ S.x.at) λW⟨j,i⟩=>?_;replace S:=S.AA j i eQ jv bh)|(refine aj (C.o _ S.x.at) λW⟨j,i⟩=>?_;replace S:=S.AA j i eQ jv bh)|(refine aj (C.o _ S.x.at) λW⟨j,i⟩=>?_;replace S:=S.AA j i eQ jv bh)|refine jl 7 3 6 S 1 0 (bU cq 9) ?_|(refine aj (C.o _ S.x.at) λW⟨j,i⟩=>?_;replace S:=S.AA j i eQ jv bh)|refine fg λW S=>?_|refine fL ?_|(refine mA ?_;exact⟨⟨_,_,ae,ae⟩,S.x.at,S.fr⟩)
def afG(K D:Nat)(x:GT)(k:E0 x)(o:IQ)(A:gE)(j:A=cL 6 (opF o))(f:o.name.s<=140737488355328)(g:o.toN.s<=140737488355328)(d:o.data.n<=140737488351232)(w:cS)(h:fA w K D x)(T:dU)(i:∀W,Fr (cu D) [K] w W->c8 W T 1 (bX o.da o.data.n o.dc) o.data.n (ej o.data))(c:∀y∈o.data,y<256):
 CP_ 11 #[bW (cu ⟨K,0,cw⟩),bV A] w λe w'=>(∃B,e=cj (cg #[bV B,bU cq (rM x o.toYF).2.2]))/\fA w' K D (rM x o.toYF).1/\Fr (cu D) [K] w w':=
 (ai8 K D x k o A j f g d w h T i c).mono λe w2 ⟨⟨B,_,a,_⟩,b⟩=>⟨⟨B,a⟩,b⟩
end
section
variable {D:Nat}{x:GT}
structure YK(w w':cS)(K D:Nat)(x:GT):Prop where
 bel:dR w w'
 alr:fA w' K D x
 dev:∀k∈oK w' D,w.h.s<=k
 new:w.h.s<=K
theorem St.YL(S:St w0 cw l L O X w)(h:YK w w' K D x)(i:∀r∈L,r.t≠109/\r.t≠106)(j:∀o∈O,o.e≠109/\o.e≠106):St w0 cw l L O (KY w0.h.s D (JJ K D x)) w':=by have a:=S.cP h.bel;refine a.Yk (yl (yf K D x)) ⟨h.alr.xB λb d=>?_,λk c=>⟨iE S.fr.size (h.dev k c),λf=>ud _ (pM (S.lt k f) (h.dev k c))⟩⟩;rcases iB.1 d with⟨r,g,rfl⟩|⟨o,ho,e⟩;rw[cM.ty (a.row r g).1];grind;rw[wC (a.own o ho).1 e];grind
theorem St.aae(S:St w0 none l L O (KY w0.heap.size D X) w)(f:Fr (some D) l2 w w')(p:∀k∈l2,k∈l∨w0.heap.size<=k)(q:lO (some D) X')(s:X' (eS L O) w'):St w0 none l L O (KY w0.heap.size D X') w':=by
 have n:=S.x.2;refine⟨⟨f.os.trans S.fr.os,f.tape.trans S.fr.tape,f.output.trans S.fr.output,iE S.fr.size f.size,λk d j=>?_,aK,aK⟩,λr g=>⟨cM.frX (S.row r g).1 f (λi=>(n _ i).2 (iB.2 (.inl ⟨r,g,ae⟩))) (.inl (S.row r g).2.1),(S.row r g).2.1,.inr aK⟩,
  λo ho=>⟨B5 (S.own o ho).1 f (.inr (S.own o ho).2.2) (S.own o ho).2.1,(S.own o ho).2⟩,S.lo,S.nd,⟨s,λk d=>?_⟩,yl q⟩
 have e:=S.fr.block k d j;rw[<-e];refine f.block k (pM d S.fr.size) ?_;rintro⟨t,m,hc⟩;rw[wA e] at m;rcases hc with⟨u,a,b,c⟩|⟨a,b⟩;grind;refine j ⟨t,m,.inr ⟨a,(p k b).resolve_right cN⟩⟩;rcases f.dev D ae k d with h|h;grind;exact⟨iE S.fr.size h,λi=>ud _ (pM (S.lt k i) h)⟩
theorem St.qP(S:St w0 cw l L O (KY w0.h.s D X) w)(h:fA w' K D x)(f:Fr (cu D) l2 w w')(d:∀k∈l2,k∈l∨w0.h.s<=k)(i:∀r∈L,r.t≠109/\r.t≠106)(j:∀o∈O,o.e≠109/\o.e≠106):St w0 cw l L O (KY w0.h.s D (JJ K D x)) w':=by have a:=S.aae f d (gU D x.s.dv) h.dev;refine a.Yk (yl (yf K D x)) ⟨h.xB λb c=>?_,a.x.2⟩;rcases iB.1 c with⟨r,g,rfl⟩|⟨o,ho,e⟩;rw[cM.ty (a.row r g).1];grind;rw[wC (a.own o ho).1 e];grind
theorem c8.iP(h:c8 w0 T sz v n xs)(a:dR w0 w)(f:Fr (some D) l2 w W)(c:∀k∈oK w D,w0.heap.size<=k)(d:∀k∈l2,w0.heap.size<=k):c8 W T sz v n xs:=
 h.cP ⟨f.os.trans a.os,f.tape.trans a.tape,f.output.trans a.output,iE a.size f.size,λk b=>(f.block k (pM b a.size) (by
  grind[PU])).trans (a.block k b)⟩
end
section
attribute[local irreducible]wpList Code.wp Calls Oper.wp wpAnyH
theorem V3(n:Int)(L:fh n)(w:cS):
 CP_ 10 #[bU cq n] w λe w'=>if 64<=n/\n<=400 then ∃K D,e=cj (cg #[bW (cu ⟨K,0,cw⟩),bW (cu ⟨D,0,cw⟩)])/\YK w w' K D (iY (kh n.m)).1 else e=cj (cg #[bW cw,bW cw])/\dR w w':=by
 by_cases c:64<=n/\n<=400
 . (simp only[df c];have t:J0 n=n.m:=by unfold J0;omega);(have s:=cz λW=>af9 n L W;rw[t] at s;have v:=N9 (n:=n.m) cN;have i:=cz λD W a=>VA D (kh n.m) (by show(0:Nat)<=_;omega) W a;rw[v.1] at i;have S:=qR w;obtain⟨x,B⟩:=dI ((iY (kh n.m)).1);obtain⟨d,b⟩:=dI (kh n.m);have C:=cz λ(w:cS)(D r q:Nat)(h:zO w D (yN n.m r q) (λ_=>ff) (λ_=>ff))=>(show jN w D d/\∀k∈oK w D,k=D∨k=r∨k=q from b▸afw h);rw[B] at i|-;rw[b] at i;have y:decide (n<(64:Int))=cy:=by rw[QV];omega);(have F:decide ((400:Int)<n)=cy:=by rw[QV];omega);clear B b v t c;go_enter func10,ntmps10;go_upto_region 4 with(first|(go_at_call 37;refine(s.o _).mono ?_;rintro e W ⟨D,r,q,rfl,⟨b,I⟩,G,o,m⟩;obtain⟨b,f⟩:=C.o _ _ _ _ b;have p:=S.fr.size;have l:=λk g=>S.lt k g;replace S:=(S.cP I).Yk (yl (n:=w.h.s) (gU D d)) ⟨b,λk g=>⟨by rcases f k g with rfl|rfl|rfl<;>omega,λM=>by grind⟩⟩;clear b f G o m p l));go_wp2_with (first|(go_at_call 38;refine ah (i.o D _ S.x.1) λu W⟨A,J⟩=>?_;obtain⟨K,rfl,H,z⟩:=A.1 ae;have E:=cz (iE S.fr.size H);replace S:=St.qP S z J eQ eQ eQ;clear A z));go_ret2;exact⟨K,D,ae,S.b,S.x.1.at,λk g=>(S.x.2 k g).1,E.o⟩
 . simp only[cZ c];go_enter func10,ntmps10;by_cases j:n<64
   . have y:decide (n<(64:Int))=cx:=gM j;clear c;go_wp2;go_ret2;exact⟨ae,gJ _ _⟩
   . (have y:decide (n<(64:Int))=cy:=jG j;have F:decide ((400:Int)<n)=cx:=by rw[decide_eq_true_iff];omega);clear c j;go_wp2;go_ret2;exact⟨ae,gJ _ _⟩
end
def S6(next:Nat):Nat->List (Nat×fF)->List dw->Bool
 |_,_,[]=>cx
 |last,seen,x::r=>fx x&&decide (last<x.id)&&decide (x.id<next)&& !seen.any (λc=>decide (c.1=(dG x).1/\c.2.data.t=(dG x).2.data.t))&&S6 next x.id (seen++[dG x]) r
theorem aaf(next:Nat):∀(l:List dw)(e:Nat)(d:List (Nat×fF)),oF next e d l=S6 next e d l
 | [],_,_=>rfl
 |x::r,e,d=>by
  unfold oF S6;rw[aaf next r];have:D5 d (dG x)=d.any (λc=>decide (c.1=(dG x).1/\c.2.data.t=(dG x).2.data.t)):=by
   rw[wM,Bp,any_eq_true];constructor
   . grind
   . rintro⟨⟨a,b⟩,g,f⟩;obtain⟨h,i⟩:=l6 f
     grind[ByteArray.ext,Array.ext']
  rw[this]
def ai9(next:Nat)(l:List dw):Bool:=
 if 281474976710655<next∨32<l.n then cy else
 S6 next 0 [] l&&l.all λx=>kz l x&&jM l x
theorem akB:nt=ai9:=by grind[nt,ai9,aaf]
def aja(n:Nat)(top:List cQ)(h g:Pl×(cV×List cQ×Int)):ee×(List (Int×Int)×(List cQ×Int)):=
 match lM h.2.1 with
 |none=>(tF,([],([],91)))
 |some nl=>if ai9 nl.1 nl.2=cy then(tF,([],([],91))) else
  match pI (n:Nat) g.2.1 with
  |none=>(tF,([],([],91)))
  |some zs=>(⟨nl.1,nl.2⟩,(zs,((top++h.2.2.1)++g.2.2.1,0)))
theorem akC:ml3=aja:=by funext n t h g;grind[ml3,aja,akB]
def ajb(a:Pl×(cV×List cQ×Int)):Pl×(ee×(List (Int×Int)×(List cQ×Int))):=
 let h:=jZ a.1 (a.2.1.take 20)
 if h.2.2.2≠0 then(h.1,(tF,([],([],CX h.2.2.2)))) else
 let g:=jZ h.1 (a.2.1.drop 20)
 if g.2.2.2≠0 then(g.1,(tF,([],([],CX g.2.2.2)))) else(g.1,aja g.1.dv.n a.2.2.1 h g)
theorem akD:ml1=ajb:=by grind[ml1,ml2,ajb,akC]
def aag(s:Pl)(iL:cQ):Pl×(ee×(List (Int×Int)×(List cQ×Int))):=
 let b:=eP s iL 40
 if b.2.2.2≠0 then(b.1,(tF,([],([],CX b.2.2.2)))) else ajb b
theorem afH:ke=aag:=by grind[ke,aag,akD]
def YM:fF:=⟨#[118]⟩
def al1:GT:=(iY (kh 64)).1
def al2:GT×Int:=dX al1 (mB YM 4)
def al3:GT×Int:=dX al2.1 (mL YM 1 [97])
def al4:GT×Int:=dX al3.1 iC
def ajc(d:Dv):GT×Int:=
 if d.di=cx then(vm d,42) else
 let u:=fW d
 if u.2.isSome=cy then(vm u.1,91) else
 if(u.2.getD mu).gm≠u.1.n then(vm u.1,91) else
 if(u.2.getD mu).len≠40 then(vm u.1,91) else
 let r:=aag ⟨u.1,qH u.1.n,0,0⟩ (u.2.getD mu).iL
 if r.2.2.2.2≠0 then(vm r.1.dv,r.2.2.2.2) else
 if 281474976710652<(u.2.getD mu).lT∨281474976710652<r.2.1.next∨281474976710652<(u.2.getD mu).cR then(vm r.1.dv,192) else
 (⟨r.2.1,r.2.2.2.1,u.2.getD mu,⟨r.1.dv,zA r.1.mp (nV r.2.2.1),iR (u.2.getD mu).cR,(u.2.getD mu).cR⟩⟩,0)
theorem akE:mM=ajc:=by grind[mM,ym,Bu,ajc,afH]
def ajd(r:Pl×(ee×(List (Int×Int)×(List cQ×Int)))):Dv×(GJ×Int):=
 if r.2.2.2.2≠0 then(r.1.dv,(zD,r.2.2.2.2)) else
 let w:=BC r.2.1.cU r.1 (sX cx r.2.2.2.1 ([],cy))
 if w.2.2≠0 then(w.1.dv,(zD,w.2.2)) else
 (w.1.dv,(⟨iN (pW (w.2.1.1.map λm=>((m.1:Nat):Int))),r.2.2.1,w.2.1.2,r.2.1.cU.n,(w.2.1.1.filter λm=>!m.2.2).n⟩,0))
def afI(d:Dv):Dv×(GJ×Int):=
 if d.di=cx then(d,(zD,42)) else
 let u:=fW d
 if u.2.isSome=cy then(u.1,(zD,91)) else
 if(u.2.getD mu).gm≠u.1.n then(u.1,(zD,91)) else
 if(u.2.getD mu).len≠40 then(u.1,(zD,91)) else
 ajd (aag ⟨u.1,qH u.1.n,0,0⟩ (u.2.getD mu).iL)
def aje:Ob=afI:=by funext d;unfold Ob aaa afI;rw[afH];rfl
def al5:GT×Int:=ajc (qI al4.1.s.dv [])
def al6:GT×(cV×Int):=ny YM 1 al5.1
def al7:Dv×(GJ×Int):=afI al6.1.s.dv
def afJ:(((iY (kh 64)).2=0/\al2.2=0)/\al3.2=0/\al4.2=0)/\(al5.2=0/\(pL al5.1).n=1)/\(al6.2.2=0/\al6.2.1.getD 0 0=97)/\al7.2.2=0/\Oc al7.2.1=cx/\al7.2.1.blocks=3:=by decide+kernel
def acx:∃(b c d f a g:GT)(bs:cV)(i:Dv)(r:GJ),iY (kh 64)=(b,0)/\dX b (mB YM 4)=(c,0)/\dX c (mL YM 1 [97])=(d,0)/\dX d iC=(f,0)/\mM (qI f.s.dv [])=(a,0)/\(pL a).n=1/\ny YM 1 a=(g,(bs,0))/\bs.getD 0 0=97/\Ob g.s.dv=(i,(r,0))/\Oc r=cx/\r.blocks=3:=by
 obtain⟨⟨⟨j,k⟩,l,m⟩,⟨n,o⟩,⟨q,s⟩,t,u,v⟩:=afJ;have e:∀p:GT×Int,p.2=0->p=(p.1,0):=λp h=>xI ae h;refine⟨al1,al2.1,al3.1,al4.1,al5.1,al6.1,al6.2.1,al7.1,al7.2.1,e _ j,?_,?_,?_,?_,o,?_,s,?_,u,v⟩;show al2=_;exact e _ k
 show al3=_;exact e _ l
 show al4=_;exact e _ m
 rw[akE];show al5=_;exact e _ n
 show al6=_;exact xI ae (xI ae q)
 rw[aje];show al7=_;exact xI ae (xI ae t)
def afK(h:bs.getD 0 0=97):dg bs 0=bU .u8 97:=by unfold dg;rw[h];rfl
def ahr(S:St w0 d l L O X W)(f:Nat×Nat):St w0 d l L O X (W.alloc (.cells #[bU .u8 97] 5 f))/\lN (W.alloc (.cells #[bU .u8 97] 5 f)) 5 (bX (cu ⟨W.h.s,0,cw⟩) [97].n 1) [97]:=
 ⟨S.cP ((gJ _ _).alloc (eN _) _),⟨ae,_,_,ae,eN _,by decide,λ_=>⟨_,0,_,_,ae,(SY W _).1,λj u h=>by
  rcases j with _|j
  . exact h
  . simp at h⟩⟩,by simp⟩
section
attribute[local irreducible]wpList Code.wp Calls Oper.wp wpAnyH
def acy(w:cS):tf 9 #[] w (bZ cx):=by
 obtain⟨L,d,M,i,p,y6,bs,d7,r,f1,f2,f3,f4,f5,f6,f7,f8,f9,fa,fb⟩:=acx;have G:tG L 20000:=by have:=Nv (kh 64);rw[f1] at this;exact this.le anV
 have H:tG d 40000:=by have:=Cw G ((QA G YM 4).le cN);rw[f2] at this;exact this
 have I:pD d.s.dv/\gy d.s.cR->tG M 60000:=λh=>by have:=Cw H ((VD H h.1 h.2 YM 1 [97]).le cN);rw[f3] at this;exact this
 have b4:pD d.s.dv/\gy d.s.cR->tG i 80000:=λh=>by have:=Cw (I h) (Nu (I h));rw[f4] at this;exact this
 have b5:pD d.s.dv/\gy d.s.cR->pD i.s.dv->tG p 100004:=λh y=>by have:=Nw (qI i.s.dv []) (VY y []);rw[f5] at this;exact this.le (by have:=(b4 h).ops;show i.s.dv.ops+20004<=_;omega)
 have J:YM.s<=140737488355328:=by decide
 have N:=cz λW=>(show CP_ 10 #[bU cq 64] W λe w'=>∃K D,e=cj (cg #[dE K 0,dE D 0])/\YK W w' K D L from by
  refine(V3 64 aW W).mono λe w' h=>?_;rw[df kB,show((64:Int)).m=64 from ae,f1] at h;exact h)
 have V:=cz λK D W(X:fA W K D L)=>(by have:=D8 K D L (G.ok cN) YM J 4 W X;rw[f2] at this;exact this:CP_ 33 #[dE K 0,bY YM,bU cq 4] W λe w'=>K0 W w' K D (d,0) e);have Y:=cz λK D ba bc W(X:fA W K D d)h9=>(by have:=FK K D d (H.ok cN) YM J 1 [97] ba bc W X h9;rw[f3] at this;exact this:CP_ 34 #[dE K 0,bY YM,bU cq 1,bX ba 1 bc] W λe w'=>K0 W w' K D (M,0) e);have R:=cz λK D W(X:fA W K D M)(g:pD d.s.dv/\gy d.s.cR)=>(by have:=Cv K D M ((I g).ok cN) W X;rw[f4] at this;exact this:CP_ 15 #[dE K 0] W λe w'=>K0 W w' K D (i,0) e);have T:=cz λD W(X:jN W D i.s.dv)(g:pD d.s.dv/\gy d.s.cR)=>KE D i.s.dv (by have:=(b4 g).ops;omega) (bX cw 0 0) [] [] W X ⟨ae,cw,0,ae,eN _,gw _,λh=>absurd h (ud _)⟩;have U:=cz λD W(X:jN W D (qI i.s.dv []))=>(by have:=IB D _ W X;rw[f5] at this;exact this:CP_ 17 #[dE D 0] W λe w'=>∃v,e=cj (cg #[v,bU cq 0])/\Lg w' W.h.s D p 0 v/\Fr (cu D) [] W w');have O:=cz λK D W(X:fA W K D p)(g:pD d.s.dv/\gy d.s.cR)(y:pD i.s.dv)=>(by have:=KG K D p (b5 g y).text W X;rw[f6] at this;exact this:CP_ 12 #[dE K 0] W λe w'=>∃r,e=cj r/\w'.ownsRow W.h.s 52 4 r 1 (zB (pL p))/\dR W w');have Q:=cz λK D W(X:fA W K D p)(g:pD d.s.dv/\gy d.s.cR)(y:pD i.s.dv)=>(by have:=yd K D p ((b5 g y).ok cN) YM J 1 W X;rw[f7] at this;exact this:CP_ 13 #[dE K 0,bY YM,bU cq 1] W λe w'=>∃B,e=cj (cg #[bV B,bU cq 0])/\B=cL 128 (dg bs)/\fA w' K D y6/\Fr (cu D) [] W w');have Z:=cz λD W(X:jN W D y6.s.dv)=>(by have:=afF D _ W X;rw[f9] at this;exact this:CP_ 35 #[dE D 0] W λe w'=>∃A,e=cj (cg #[bV A,bU cq 0])/\S4 w' W.h.s A r/\jN w' D d7/\Fr (cu D) [] W w');have HF:=cz f8;have HC:=cz fa;have a1:=cz fb;have S:=qR w;clear f1 f2 f3 f4 f5 f6 f7 f8 f9 fa fb G H I b4 b5 J;have kc:=λ(w:cS)(C:gE)(n c:Nat)=>Lib.run_convert_bytes_const (P:=prog) w 22 5 C n c oT yU;go_enter func9,ntmps9;go_wp2_with (first|refine jj 73 91 7 S 0 HA.o ?_|refine jb 7 91 S zeroValue91 ai7 λW S=>?_|refine js 91 7 59 S 0 HA.o (tK rfl rfl) λW S=>?_|(refine(N.o _).mono ?_;rintro e W ⟨K,D,rfl,hm⟩;have HK:=cz (iE S.fr.size hm.new);replace S:=S.YL hm eQ eQ;clear hm)|(refine aj (V.o K D _ S.x.1.at) λW⟨l,f⟩=>?_;replace S:=S.qP l f (λk m=>.inr (fM.1 m▸HK.o)) eQ eQ;have j:=cz l.facts)|(go_at_call 34;have F:=ahr S (1,2);clear S;go_must (refine aj (Y.o K D _ _ _ F.1.x.1.at F.2) λW⟨l,f⟩=>?_;have S:=F.1.qP l f (λk m=>.inr (fM.1 m▸HK.o)) eQ eQ;clear F))|(go_at_call 15;refine aj (R.o K D _ S.x.1.at j.o) λW⟨l,f⟩=>?_;replace S:=S.qP l f (λk m=>.inr (fM.1 m▸HK.o)) eQ eQ;have s:=cz l.facts.1)|(refine aj (T.o D _ S.x.1.at.dev j.o) λW⟨z,f⟩=>?_;replace S:=S.aae f eQ (gU D _) z;clear z)|(refine ah (U.o D _ S.x.1) λu W⟨hg,f⟩=>?_;obtain⟨K2,rfl,hK,hP⟩:=hg.1 ae;replace S:=S.qP hP f eQ eQ eQ;clear hg hP)|(refine ah (O.o K2 D _ S.x.1.at j.o s.o) λrr W⟨ho,hb⟩=>?_;obtain⟨a9,z9,rfl⟩:=dx ho;replace S:=S.cP hb)|(refine ah (Q.o K2 D _ S.x.1.at j.o s.o) λB W⟨hB,l,f⟩=>?_;have HB:=cz hB;replace S:=S.qP l f eQ eQ eQ;clear hB)|(refine ah (Z.o D _ S.x.1.at.dev) λA W⟨⟨rv,tv,hA,⟨o1,o2⟩,h1,g⟩,z,f⟩=>?_;have HA:=cz hA;have E:=cz (And.intro (show(∀x∈r.Ag,fh x.1/\fh x.2)/\r.Ag.n<=9223372036854775807 from by obtain⟨_,_,_,a,b,_⟩:=h1;exact⟨b,a⟩) (show(∀x∈r.taken,fh x.1/\fh x.2)/\r.taken.n<=9223372036854775807 from by obtain⟨_,_,_,a,b,_⟩:=g;exact⟨b,a⟩));have q:=cz (dx o1);have t:=cz (dx o2);have o:=λk m=>S.lt k m;replace S:=((S.aae f eQ (gU D d7) z).aac o o1 ae ae).aac o o2 ae ae;clear z hA h1 g o1 o2 o;obtain⟨ra,rc,rfl⟩:=q.o;obtain⟨ta,tc,rfl⟩:=t.o;clear q t)|(first|refine EC S 1 ae 0 (v:=bU .u8 97) (afK HF.o) ?_|refine EC S 0 ae 4 (v:=bU cq 3) (show Value.int cq r.blocks=_ by rw[a1.o];rfl) ?_)|(refine aj (acu _ _ r _ HA.o _ (S.x.1.2.1.afD E.o.1.1 E.o.1.2) (S.x.2.1.afD E.o.2.1 E.o.2.2)) λW hb=>?_;rw[HC.o];replace S:=S.cP hb)|refine fg λW S=>?_);go_ret;exact az
end