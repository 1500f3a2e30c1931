/- Part 7 of the proof of WholeSnaps. No conditions. -/
import Derived.Test.YtklligbjoplbgaaGreatPaf
set_option linter.all false
open List renaming length->List.n
open String renaming length->String.n
open Array renaming size->Array.s,toList->Array.t
open ByteArray renaming size->ByteArray.s
open Go.TypeInfo renaming size->Go.TypeInfo.s
open Go.RowKit.Below renaming size->Go.RowKit.Below.s
open Option renaming toList->Option.t,some->cu,none->cw
open Go.World renaming heap->Go.World.h
open Int renaming toNat->Int.m
open Go.Value renaming int->bU,agg->bV,pointer->bW,slice->bX,string->bY,bool->bZ,tuple->cg
open Go.Ending renaming returned->cj
open Go.IntKind renaming i64->cq,u64->ct
open Bool renaming true->cx,false->cy
namespace Go.Proofs.YtklligbjoplbgaaGreat
set_option maxRecDepth 100000
set_option maxHeartbeats 64000000
open Go.RowKit Lib List Nat _root_.Go.Proofs.Tryz Go.Shelf
variable {A U tmps:gE}{a:Act}{K:Act->cS->Prop}{listed:Array Bool}{af:Array Edge}{ops:Array Oper}{b:ee}{c:dW}{R:Ending->cS->Prop}{Q:Exit->Act->cS->Prop}{fn:Func}{g g':iV}{B bs l l2 sp t:cV}{X X':cV->cS->Prop}{seen:List (Nat×fF)}{O:List O4}{rest:List Oper}{ps:List cQ}{L rs:List R4}{kl:Lit}{D G M base dst fuel i k m n n1 n2 y:Nat}{st:Nat->Nat}{e f:Nat->c7}{ao:Option Addr}{d d2:Option Nat}{P:oN}{s s':Pl}{p1 p2 q r1 r2 cO:cQ}{r:R4}{p:String}{t2 ty:dU}{key v:c7}{W w w' w0:cS}{SS:cS->Prop}
def Ij(p:cQ)(n:Nat):Nat->c7:=λi=>if i<3 then dF p i else bU cq (n:Int)
def aeD(p:cQ)(n:Nat):∀i,(Ij p n i).oneCell'=cx:=λi=>by unfold Ij;split;exact dJ _ _;rfl
instance ine610d(p:cQ)(n:Nat):OF (Ij p n):=⟨aeD p n⟩
theorem aeE(q:cQ)(m:Nat):∀i,i<3->Ij q m (0+i)=dF q i:=by simp_all[Ij]
def agR:(#[bU cq 0,bU ct 0,bU .u32 0,bU cq 0]:gE)=cL 4 (Ij (0,0,0) 0):=rfl
instance in6bd30 :ZR 361 4 (Ij (0,0,0) 0):=⟨_,zeroValue361,agR⟩
def aeF:kg prog 361 4:=⟨⟨_,underlying361,ae⟩,dC⟩
instance in952b2 :sE 361 4:=⟨aeF⟩
def Vf(p:cQ)(n:Nat):prog.built 361 [(0,bV (cL 3 (dF p))),(1,bU cq (n:Int))]=cu (cL 4 (Ij p n)):=dC
def agS:(prog.info? 361).map (λi=>(i.zero,i.s,i.bytes))=cu (cu (bV #[bU cq 0,bU ct 0,bU .u32 0,bU cq 0]),4,32):=dC
def agT:xi prog 362 361 4 32:=⟨underlying362,_,agS,ae,cN⟩
section
variable {x:Nat}
theorem aj6(S:St w0 d l L O X w){t e:dU}{by':Nat}{B:gE}{g:Nat->c7}(H:a.eval (.tmp x)=bV A)(I:a.eval (.tmp y)=bV B)(m:A=cL n f)(o:B=cL n g)(F:xi P t e n by')(R:n<=1000)(ho:gV e=cy)(h:∀W,St w0 d l (⟨w.h.s,e,2*n,λi=>if i<n then f i else g (i-n)⟩::L) O X W->wpList P ops Q rest (a.put (cu dst) (bX (cu ⟨w.h.s,0,cw⟩) 2 2)) W):
 wpList P ops Q (⟨cu dst,.buildSlice t 2 #[(0,.tmp x),(1,.tmp y)],t2,p,af,cw⟩::rest) a w:=by
 obtain⟨G,k,E,T,z⟩:=F;obtain⟨M,b,j,c,J⟩:=oG E;refine mC ae λK D=>wp_buildSlice t e 2 _ ae (cL (2*n) λi=>if i<n then f i else g (i-n)) M k G b j cN cN ?_ (D _ _ (h _ (S.alloc e ae ho)));rw[c];have r:(Array.map (λ(p:Nat×Operand)=>(p.1,a.eval p.2)) #[(0,.tmp x),(1,.tmp y)]).t=[(0,bV A),(1,bV B)]:=by simp[H,I]
 rw[show(Array.map (λx=>match x with|(i,x)=>(i,a.eval x)) #[(0,Operand.tmp x),(1,Operand.tmp y)]).t=[(0,Value.agg A),(1,Value.agg B)] from r];have C:=Great.fill_whole z [Value.agg A,Value.agg B] ((Array.range (2*n)).map (k.cells[· % k.cells.s]!)) (by
  intro v q;simp only[iZ,jK,uH] at q;rcases q with rfl|rfl
  . show A.s=n;rw[m,cW]
  . show B.s=n;rw[o,cW]) eQ
 refine Eq.trans C (gD cu ?_);apply yp;intro i;have s:(Value.agg A).cells=A:=rfl;have u:(Value.agg B).cells=B:=rfl;simp only[BF,flatMap_nil,wR,s,u,Lo];rw[Lr,dy,mT,m,o,cW,mR,mR,dy,dy];by_cases N:i<n;grind;grind
end
theorem alb(h:m<4294967296):vR [4] [m]=cu (qQ 4 m):=by unfold vR;rw[df ⟨by decide,ae,by grind[fitAll]⟩];simp[kT]
def qj(a:Option cV)(p:cQ×Nat):Option cV:=a.bind λt=>if ij p.1=cx then cu (t++iM p.1++qQ 4 p.2) else cw
def Az(r1:cQ)(n1:Nat)(r2:cQ)(n2:Nat):Option cV:=qj (qj (cu []) (r1,n1)) (r2,n2)
def ZC(r1:cQ)(n1:Nat)(r2:cQ)(n2:Nat)(k:Nat):cQ×Nat:=if k=0 then(r1,n1) else(r2,n2)
def wI(r1:cQ)(n1:Nat)(r2:cQ)(n2:Nat)(k:Nat):Option cV:=(range k).foldl (λa i=>qj a (ZC r1 n1 r2 n2 i)) (cu [])
def Sj(a:k<2)(h:wI r1 n1 r2 n2 (k+1)=cw):wI r1 n1 r2 n2 2=cw:=by
 rcases k with _|_|k;show qj (wI r1 n1 r2 n2 (0+1)) _=cw;rw[h];rfl
 exact h;omega
section
attribute[local irreducible]wpList Code.wp Calls Oper.wp wpAnyH
theorem Vg(r1:cQ)(h1:dD r1)(n1:Nat)(H:n1<4294967296)(r2:cQ)(h2:dD r2)(n2:Nat)(I:n2<4294967296)(w:cS):
 CP_ 258 #[mO r1,bU cq n1,mO r2,bU cq n2] w λe w'=>∃r,e=cj (cg #[r,bU cq (gi 51 (Az r1 n1 r2 n2))])/\mN w' w.h.s r ((Az r1 n1 r2 n2).getD [])/\dR w w':=by
 obtain⟨A,Z⟩:=fP (cL 3 (dF r1));obtain⟨B,hB⟩:=fP (cL 3 (dF r2));rw[dk Z,dk hB];have HA:=cz Z;have HB:=cz hB;have J:Az r1 n1 r2 n2=wI r1 n1 r2 n2 2:=rfl;rw[J];obtain⟨t,b⟩:=dI (ZC r1 n1 r2 n2);have V:=cz (show∀k,wI r1 n1 r2 n2 (k+1)=qj (wI r1 n1 r2 n2 k) (t k) from λk=>by rw[<-b];unfold wI;rw[range_succ,BM];rfl);have T:=cz (show∀k,k<2->dD (t k).1/\(t k).2<4294967296 from λk hk=>by rw[<-b];unfold ZC;split;exact⟨h1,H⟩;exact⟨h2,I⟩);obtain⟨fl,C⟩:=sO ((λi=>if i<4 then Ij r1 n1 i else Ij r2 n2 (i-4)));have Q:=cz (show∀k i,k<2->i<4->fl (k*4+i)=Ij (t k).1 (t k).2 i from λk i hk hi=>by
  rw[<-b,<-C.o];unfold ZC;rcases k with _|_|k
  . simp only[xx,oQ,df hi,oR]
  . grind
  . omega)
 have S:=(qR w).Jl 5 1 ae ae;clear Z hB b J h1 h2 H I;go_enter func258,ntmps258;go_upto_region 3 with(first|refine lE ae (by rw[HA.o];exact Vf r1 n1) ?_|refine lE ae (by rw[HB.o];exact Vf r2 n2) ?_|refine aj6 S rfl rfl rfl rfl agT cN rfl λW S=>?_|refine fL ?_|refine fg λW S=>?_);rw[C.o] at S;obtain⟨g0,a3⟩:=dI W.h.s;go_loopw [10,24] (λv i wr=>∃(k:Nat)(M:cV)(a:Option Addr)(c:Nat),k<=2/\i=bU cq k/\v=bX a M.n c/\Hid (wI r1 n1 r2 n2 k=cu M/\M.n=20*k/\St w cw [] [⟨_,361,8,fl⟩,⟨_,106,3,dF r2⟩,⟨_,106,3,dF r1⟩] [⟨5,1,bX a M.n c,M.n,ej M⟩] (λ_ _=>True) wr)) (λ_ i _=>2-(intOf i).m);exact⟨0,[],cw,0,cN,ae,ae,cz ⟨ae,ae,S⟩⟩;clear S;obtain⟨k,M,ma,mc,hk,rfl,rfl,hS⟩:=hrel;by_cases f:k<2
 . (have S:=hS.o.2.2;have R:=cz hS.o.1;have G:=hS.o.2.1;have h:=V.o k;rw[R.o] at h;obtain⟨q,m,g⟩:∃q m,t k=(q,m):=⟨_,_,ae⟩;rw[g] at h;have n:=λi hi=>Q.o k i f hi;simp only[g] at n;have b:=T.o k f;rw[g] at b;obtain⟨hq,hm⟩:=b;simp only at hq hm;have HF:=cz n;have HT:=cz h;obtain⟨A0,l⟩:=fP (cL 3 (dF q));obtain⟨A4,z⟩:=yB (cL 4 (Ij q m));have x:=cz l;have p:=cz (xU q hq);rw[dk l] at p;have h4:k*4+4<=8:=cN;have a4:(k:Int)<2:=cN;have L:=cz f;have D:=cz G;have a2:IntKind.u64.wrap ((m:Nat):Int)=((m:Nat):Int):=by unfold IntKind.wrap;simp[IntKind.bits,IntKind.signed];omega);clear hS h n g l f hk G;have HG:=cz (aeE q m);cases s:ij q with|false=>rw[s] at p;have U:=cz s;clear s;go_wp2_with (first|refine Qb S 0 ae (o:=k*4) (m:=4) ae (Ij q m) h4 HF.o z.o aeF ?_|refine oM_ S 0 ae (o:=0) (m:=3) (dF q) HG.o x.o ?_|(refine(p.o _).mono ?_;rintro e W ⟨r,rfl,-,F⟩;replace S:=S.cP F)|refine fg λW S=>?_);have e2:wI r1 n1 r2 n2 2=cw:=Sj L.o (by rw[HT.o];simp[qj,U.o]);rw[e2];go_ret2;exact aJ|true=>(rw[s] at p;simp only[oR] at p;have U:=cz s;clear s;have K:=cz λv u W hv hu=>GU v u [4] [m] kB W hv hu;rw[alb hm] at K;have E:gi 21 (cu (qQ 4 m))=0:=rfl;rw[E] at K;simp only[lx] at K;have X:=cz (show∀y∈dN [4],(Lit.int cq y).wf=cx by decide);have Y:=cz (show∀y∈dN [m],(Lit.int ct y).wf=cx from λy hy=>by obtain rfl:=fM.1 hy;exact wf_u64 cN);have a1:M.n<=40:=by have:=D.o;have:=L.o;omega);have d:=cz (fY q);have j:=cz (gh 4 m);clear E;go_wp2_with (first|refine jl 40 3 39 S 1 3 (bU cq m) ?_|refine Qb S 0 ae (o:=k*4) (m:=4) ae (Ij q m) h4 HF.o z.o aeF ?_|refine oM_ S 0 ae (o:=0) (m:=3) (dF q) HG.o x.o ?_|(refine ah (p.o _) λr W⟨ho,F⟩=>?_;have N:=cz (dx ho);replace S:=S.iv F ho ae ae;obtain⟨ca,cc,rfl⟩:=N.o)|refine mH S cq (dN [4]) qt uT cN cN rfl rfl rfl λW S=>?_|refine mH S ct (dN [m]) vS Ap cN cN rfl rfl rfl λW S=>?_|(refine ah (K.o _ _ _ (eT.row S.k1 ae (show(1:Nat)<=_ by omega) X.o) (eT.row S.k0 ae (show(1:Nat)<=_ by omega) Y.o)) λr W⟨ho,F⟩=>?_;have O:=cz (dx ho);replace S:=S.iv F ho ae ae;obtain⟨da,dc,rfl⟩:=O.o)|(refine Gq S 2 ae (by':=1) ae ae S.q1 Cg (A' _) (by simp only;rw[d.o];omega) (by unfold maxLen;simp only;rw[d.o];omega) ?_;clear S;intro v' W S)|(refine Gq S 2 ae (by':=1) ae ae S.q0 Cg (A' _) (by simp only;rw[d.o,j.o];omega) (by unfold maxLen;simp only;rw[d.o,j.o];omega) ?_;clear S;intro v' W S)|refine fg λW S=>?_);have HV:Hid (∃va vc,v'=bX va (M.n+(iM q).n+(qQ 4 m).n) vc):=cz (dx S.o2);have HS:=cz S.pop.pop.pop.OJ.OJ;go_roundw;(obtain⟨va,vc,rfl⟩:=HV.o;have e6:wI r1 n1 r2 n2 (k+1)=cu (M++iM q++qQ 4 m):=by rw[HT.o];unfold qj;simp[U.o]);(refine⟨k+1,M++iM q++qQ 4 m,va,vc,by have:=L.o;omega,by go_num,by rw[ji,ji],cz ⟨e6,by rw[ji,ji,D.o,d.o,j.o];omega,?_⟩⟩;have e8:ej (M++iM q++qQ 4 m)=ej M++ej (iM q)++ej (qQ 4 m):=by rw[Ax,Ax]);rw[e8,ji,ji];exact HS.o;have:=L.o;simp[intOf];omega
 . obtain rfl:k=2:=cN;have S:=hS.o.2.2;have R:=cz hS.o.1;clear hS;go_wp2;go_ret2;rw[R.o];exact bu
end
def ZD:(prog.info? 107).map (λi=>(i.zero,i.s,i.bytes))=cu (cu (.slice cw 0 0),1,24):=dC
theorem Sk(a:Pl×(List cQ×List cQ×Int))(b:Nat):(iW a b).2.2.1.n<=a.2.2.1.n+b:=by unfold iW;split;omega;split;grind;next h=>(rcases hl:fV a.1 a.2.1 b with⟨s',M,c⟩;rw[hl] at h;obtain rfl:c=0:=by grind);have:=Ft hl;grind
def Fy:∀(ws:cV)(a:Pl×(List cQ×List cQ×Int)),(ws.foldl iW a).2.2.1.n<=a.2.2.1.n+ws.sum
 | [],a=>by simp
 |x::ws,a=>by
  rw[zG,sum_cons];have b:=Fy ws (iW a x);have c:=Sk a x;omega
theorem ZE(m:Nat):∀l:cV,(∀x∈l,x<=m)->l.sum<=l.n*m
 | [],_=>by simp
 |x::l,h=>by
  have b:=ZE m l λy a=>h y (lu _ a)
  grind[mem_cons_self,succ_mul]
theorem sL(s:Pl)(cO:cQ)(n:Int):(eP s cO n).2.2.1.n<=6000:=by unfold eP;split;grind;simp only;split;grind;split;grind;have a:=Fy (qW n) (s,([cO],[cO],0));have b:=ZE 512 (qW n) λx c=>Bk n x (by grind[qW,dropLast_sublist]);grind[zr,qW]
def mw5(a:Pl×(cV×(List cQ×Int)))(q p2:cQ)(n2:Nat):Pl×(cQ×(List cQ×Int)):=
 if a.2.2.2≠0 then(a.1,(cX,([],a.2.2.2))) else
 if(eP a.1 p2 (n2:Nat)).2.2.2≠0 then((eP a.1 p2 (n2:Nat)).1,(cX,([],(eP a.1 p2 (n2:Nat)).2.2.2)))
 else((eP a.1 p2 (n2:Nat)).1,(q,(([q]++a.2.2.1)++(eP a.1 p2 (n2:Nat)).2.2.1,0)))
def mw4(a:Pl×(cQ×Int))(p1:cQ)(n1:Nat)(p2:cQ)(n2:Nat):Pl×(cQ×(List cQ×Int)):=
 if a.2.2≠0 then(a.1,(cX,([],a.2.2))) else mw5 (eP a.1 p1 (n1:Nat)) a.2.1 p2 n2
def mw3(a:Pl×(cQ×Int))(p1:cQ)(n1 n2 dZ:Nat):Pl×(cQ×(List cQ×Int)):=
 if a.2.2≠0 then(a.1,(cX,([],a.2.2))) else
 match Az p1 n1 a.2.1 n2 with
 |none=>(a.1,(cX,([],51)))
 |some t=>mw4 (eW a.1 (dZ:Nat) t) p1 n1 a.2.1 n2
def mw2(a:Pl×(cQ×Int))(n1:Nat)(dZ:cV):Pl×(cQ×(List cQ×Int)):=
 if a.2.2≠0 then(a.1,(cX,([],a.2.2))) else
 match jA (a.1.dv.n:Nat) (lq a.1.mp 2) with
 |none=>(a.1,(cX,([],81)))
 |some sp=>mw3 (fH a.1 sp ((dZ.take (dZ.n-1)).drop (jS (n1:Nat)))) a.2.1 n1 sp.n (dZ.getD (dZ.n-1) 0)
def gG(s:Pl)(text dZ:cV):Pl×(cQ×(List cQ×Int)):=mw2 (fH s text (dZ.take (jS (text.n:Nat)))) text.n dZ
def fc.q6{P:Nat}(h:fc w P D M s):s.dv.n<=1024:=by obtain⟨_,c,b,pv,a⟩:=h.dev;exact a.q6
theorem Ik{t:Int}{l:List (Int×Int)}(h:jA t l=cu sp):∀x∈sp,x<256:=by unfold jA at h;split at h;cases h;split at h;cases h;split at h;cases h;next log hlog=>split at h;cases h;cases h;intro x a;rcases gH.1 a with a|a;rcases gH.1 a with a|a;exact yG _ _ x a;unfold ry at a;obtain⟨y,b,rfl⟩:=gI.1 a;have:=D3 hlog y b;omega;grind
theorem Pa{t:Int}{l:List (Int×Int)}(h:jA t l=cu sp):sp.n<=2567:=by grind[DW,jA,gh,ry]
theorem Il{a:Option cV}{p:cQ×Nat}(h:qj a p=cu t)(c:∀u,a=cu u->∀x∈u,x<256):∀x∈t,x<256:=by unfold qj at h;cases a with|none=>cases h|some u=>rw[xw] at h;split at h;cases h;intro x b;rcases gH.1 b with b|b;rcases gH.1 b with b|b;grind;grind[pX];grind[yG];cases h
theorem abN(h:Az p1 n1 p2 n2=cu t):∀x∈t,x<256:=
 Il h λ_ a=>Il a λu a x b=>by grind
section
variable {x:Nat}
theorem aeG{t:dU}{z:Nat}(h:Gr P t z)(ao:Option Addr)(n c y k:Nat)(b:y<=k)(a:k<=c)(W:cS):(Instr.sliceAt t (bX ao n c) (cu (.int cq y)) (cu (.int cq k)) cw).run P W=.ok (bX (lz ao c y z) (k-y) (c-y)) W:=by rw[zh h,run_slice_lh W t ao n c h.1 cq cq (y:Nat) (k:Nat) cN cN cN,h.2];rfl
theorem Sl{z c:Nat}{d b:Operand}(i:Gr P ty z)(j:a.eval (.tmp x)=.slice ao n c)(f:a.eval d=.int .i64 y)(e:a.eval b=.int .i64 k)(l:y<=k)(g:k<=c)(h:wpList P ops Q rest (a.put (some dst) (.slice (lz ao c y z) (k-y) (c-y))) w):
 wpList P ops Q (⟨some dst,.slice ty (.tmp x) (some d) (some b) none,t2,p,af,none⟩::rest) a w:=
 nH ae ty (.tmp x) (some d) (some b) none ae _ (by grind[aeG]) h
end
theorem abO{g:Nat}(h:cM w g 106 3 (dF q)):lk w (bX (cu ⟨g,0,cw⟩) 1 1) [q]:=by
 unfold lk;refine EO h (yW [q]) (eN _) bJ λj u c=>?_;have a:j<3:=by grind[yW]
 refine⟨a,?_⟩;have b:=kE [q] (i:=0) eQ (A:=cL 3 (dF q)) ae j a;simp_all[dy]
def Yb(v u:c7)(l:List (Int×Int))(H:List kQ)(w:cS)(hv:fm w v l)(hu:tP w u H):
 CP_ 204 #[v,u] w λe w'=>∃r,e=.returned (.tuple #[r,.int .i64 (Ww (uM l H))])/\nX w' w.heap.size r ((uM l H).getD [])/\fm w' r ((uM l H).getD [])/\dR w w':=by
 obtain⟨i0,hi,f9,d6,g5⟩:=oG K4;have HV:=cz hv;clear hv;obtain⟨uo,g8,rfl,f8,d5,d4⟩:=hu;have HU:=cz d4;clear d4;have HW:=cz d5;clear d5;obtain⟨S,HS⟩:=yB (uM l H);rw[<-HS.o];obtain⟨r,HR⟩:=sO (gT l);go_enter func204,ntmps204;go_wp2_with fail
 refine aj (uL r _ l HR.o _ HV.o) λD b1=>?_;cases r with
 |false=>
  have K:Hid (S=none):=by unfold Hid;rw[HS.o];unfold uM;rw[HR.o];rfl
  go_wp2;refine iH (v:=.tuple #[.slice none 0 0,.int .i64 81]) (by simp[results,results204,go_sem]) ae ⟨_,by rw[K.o];rfl,by rw[K.o];exact aV,by rw[K.o];exact tO _,b1⟩
 |true=>
 obtain⟨f,U⟩:=fP (qC l);have e2:Hid (S=(rB f H).map iN):=by unfold Hid;rw[HS.o,U];unfold uM;rw[HR.o];rfl
 have HF:=cz U;clear U;have a1:=b1.size;obtain⟨Wa,Y⟩:=fP (D.alloc (.cells zeroCells248 248));have f6:cM Wa D.heap.size 248 4096 (iJ λ_=>false):=by rw[Y,afV];exact bp
 have a8:dR w Wa:=by rw[Y];exact b1.alloc a1 _
 go_wp2_with fail;rw[<-Y];clear Y;refine ah (acT _ l _ (HV.o.cP a8)) λz w2⟨hz,c4⟩=>?_;have c2:=Below.step a8 a8.size c4;have b6:=f6.cP c4;obtain⟨q,hq⟩:=fP (nV l);rw[<-hq] at hz;have b8:Hid (∀k(hk:k<q.length),0<=q[k]/\q[k]<4096):=by subst hq;exact λk hk=>acY HR.o hk
 have HQ:Hid (∀n,n<4096->pW q n=f n):=by subst hq;exact λn hn=>(Wx HR.o hn).trans (by rw[HF.o])
 clear hq;obtain⟨zo,g9,rfl,g6,_,d7⟩:=hz;obtain⟨b,o,HZ⟩:∃b o,q≠ []->zo=s_ b o/\b≠D.heap.size/\∀j(h:j<q.length),w2.cell? ⟨b,o+j,none⟩=some (.int .i64 q[j]):=by by_cases J:q=[];exact⟨0,0,λh=>absurd J h⟩;obtain⟨b,o,h1,h2,T⟩:=d7 J;refine⟨b,o,λ_=>⟨h1,?_,T⟩⟩;rintro rfl;have h4:=T 0 (Nat.pos_of_ne_zero λh=>J (yr h));rw[cell_of_row w2 D.heap.size _ _ 248 _ b6,dy] at h4;split at h4<;>simp[iJ] at h4
 have e4:Hid (q≠ []->zo=s_ b o/\b≠D.heap.size):=λh=>⟨(HZ h).1,(HZ h).2.1⟩;have c1:Hid (q≠ []->∀j(h:j<q.length),w2.cell? ⟨b,o+j,none⟩=some (.int .i64 q[j])):=λh=>(HZ h).2.2;clear HZ d7;go_wp2_with fail
 go_loopw [22] (λi wr=>∃(k:Nat),k<=q.length/\i=.int .i64 k/\cM wr D.heap.size 248 4096 (iJ (pW (q.take k)))/\Hid (q≠ []->∀j(h:j<q.length),wr.cell? ⟨b,o+j,none⟩=some (.int .i64 q[j]))/\dR w wr)
  (λi _=>q.length-(intOf i).toNat)
 exact⟨0,gw _,ae,b6.congr (λi _=>by simp[iJ,pW]),c1,c2⟩;clear b6 c1 c2;obtain⟨k,hk,rfl,C,b7,hbel⟩:=hrel;by_cases d:k<q.length
 . (have J:q≠ []:=by intro h;simp[h] at d);obtain⟨rfl,e6⟩:=e4.o J;have h1:=b7.o J k d;obtain⟨n,hn⟩:∃n:Nat,q[k]=(n:Int):=⟨q[k].toNat,by have:=b8.o k d;omega⟩;have f1:=b8.o k d;have K:=cz hn;rw[hn] at h1 f1;clear hn J;have e8:=C.cell (i:=n) cN;have h6:=C.frozen n;simp only[iJ] at e8;have c6:(n:Int)<(4096:Int):=cN;have e9:(0:Int)<=(n:Int):=cN;go_wp2;go_roundw;refine⟨k+1,cN,by go_num,C.GQ n true (λj hj=>?_),λhh j hj=>(yD (I6 _ _ _ _ (by show b≠D.heap.size;exact e6))).trans (b7.o hh j hj),hbel.setCell (p:=⟨D.heap.size,n,none⟩) a1 _⟩;rw[F2 d,K.o];by_cases c8:j=n;subst c8;simp;rw[cZ c8,jG cN,Bool.or_false];exact pR
 . obtain rfl:k=q.length:=cN;rw[qq] at C;have d2:cM wr D.heap.size 248 4096 (iJ f):=C.congr (λn hn=>by simp only[iJ];rw[HQ.o n hn]);go_wp2_with fail
   go_loopw [31] (λi wr=>∃(k:Nat)(g:Nat->Bool),k<=H.length/\i=.int .i64 k/\cM wr D.heap.size 248 4096 (iJ g)/\Hid (S=(rB g (H.drop k)).map iN)/\dR w wr)
    (λi _=>H.length-(intOf i).toNat)
   exact⟨0,f,gw _,ae,d2,e2,hbel⟩;clear d2 hbel C d hk;obtain⟨k,g,hk,rfl,C,HG,hbel⟩:=hrel;have R:=hbel.size;by_cases d:k<H.length
   . obtain⟨b,o,rfl,e7,N⟩:=HU.o (by intro h;simp[h] at d);obtain⟨h1,h2,T⟩:=LC e7 N hbel d;clear N;have hw:=HW.o _ (mP d);have HD:Hid (H.drop k=H[k]::H.drop (k+1)):=afZ d;obtain⟨⟨t,s,n⟩,hx⟩:∃x,x=H[k]:=⟨_,ae⟩;rw[<-hx] at h1 h2 T hw HD;clear hx;simp only at h1 h2 T hw;have e3:=cz hw;clear hw;obtain⟨c,HC⟩:=sO (ku s n);go_wp2_with fail;(obtain⟨V,F⟩:=fP (wr.alloc (.cells #[.bool t,.int .i64 s,.int .i64 n] 334));have p0:V.cell? ⟨wr.heap.size,0,none⟩=some (.bool t):=by rw[F];exact aX);(have p1:V.cell? ⟨wr.heap.size,1,none⟩=some (.int .i64 s):=by rw[F];exact aX);(have p2:V.cell? ⟨wr.heap.size,2,none⟩=some (.int .i64 n):=by rw[F];exact aX);(have f7:V.heap.size=wr.heap.size+1:=by rw[F];simp);(have a9:dR w V:=by rw[F];exact hbel.alloc R _);have d3:cM V D.heap.size 248 4096 (iJ g):=by rw[F];exact C.alloc_old _
     have c9:=C.lt;rw[<-F];clear F hbel C h1 h2 T;obtain⟨E,hE⟩:=fP wr.heap.size;rw[<-hE] at p0 p1 p2 f7 c9 R|-;clear hE;refine(F5 t s n e3.o _).mono ?_;rw[HC.o];rintro e w4 ⟨rfl,I⟩;have a7:=Below.step a9 a9.size I;have d1:=d3.cP I;have q0:=(I.cell (p:=⟨E,0,none⟩) amI).trans p0;have q1:=(I.cell (p:=⟨E,1,none⟩) amI).trans p1;have q2:=(I.cell (p:=⟨E,2,none⟩) amI).trans p2;have i2:=I.size;have f5:E≠D.heap.size:=cN;clear p0 p1 p2 a9 d3 I;cases c with
     |false=>(have K:Hid (S=none):=by unfold Hid;rw[HG.o,HD.o,Tv HC.o];rfl);go_wp2;refine iH (v:=.tuple #[.slice none 0 0,.int .i64 81]) (by simp[results,results204,go_sem]) ae ⟨_,by rw[K.o];rfl,by rw[K.o];exact aV,by rw[K.o];exact tO _,a7⟩
     |true=>
      obtain⟨g1,g2,g3,g4⟩:=(gg s n).1 HC.o;obtain⟨a,rfl⟩:∃a:Nat,s=(a:Int):=⟨s.toNat,cN⟩;obtain⟨m,rfl⟩:∃a:Nat,n=(a:Int):=⟨n.toNat,cN⟩;have d9:Hid (∀j,j<=m->qF g a t j=true->S=none):=by
       intro j hj b3;rw[HG.o,HD.o,Oz]
       . rfl
       . exact Q4 b3 (by simpa using hj)
      have e1:Hid (qF g a t m=false->S=(rB (yF g a t m) (H.drop (k+1))).map iN):=by
       intro b3;rw[HG.o,HD.o,GS HC.o (by simpa using b3)];simp
      have i3:IntKind.i64.wrap ((a:Int)+(m:Int))=(a:Int)+(m:Int):=kS _ cN
      go_wp2_with fail
      go_loopw [41] (λi L=>∃(p j:Nat),p=a+j/\j<=m/\i=.int .i64 j/\cM L D.heap.size 248 4096 (iJ (yF g a t j))/\Hid (qF g a t j=false)/\(L.cell? ⟨E,0,none⟩=some (.bool t)/\L.cell? ⟨E,1,none⟩=some (.int .i64 a)/\L.cell? ⟨E,2,none⟩=some (.int .i64 m))/\E<L.heap.size/\dR w L)
       (λi _=>m-(intOf i).toNat)
      case atStart=>exact⟨a,0,ae,gw _,ae,d1.congr (λi _=>by simp only[iJ];rw[Wu]),ae,⟨q0,q1,q2⟩,cN,a7⟩
      case round=>
       clear q0 q1 q2 d1 a7;obtain⟨p,j,Q,hj,rfl,Z,HJ,⟨q0,q1,q2⟩,f4,M⟩:=hrel;by_cases h9:j<m
       . have g7:(j:Int)<(m:Int):=cN;have w6:IntKind.i64.wrap ((a:Int)+(j:Int))=(p:Int):=by rw[kS _ cN];omega
         have c6:(p:Int)<(4096:Int):=cN;have e9:(0:Int)<=(p:Int):=cN;have b2:=Z.cell (i:=p) cN;have h7:=Z.frozen p;simp only[iJ] at b2;rw[Q,acX,<-Q] at b2;obtain⟨y,hy⟩:=dI (g p);rw[hy] at b2;have HY:Hid (qF g a t (j+1)=(y==t)):=by
          unfold Hid;rw[Q3,HJ.o,<-Q,hy];rfl
         clear hy;have b9:=cz Q;clear Q;have c3:∀(W:cS)(v:c7)(o:Nat),(W.setCell ⟨D.heap.size,p,none⟩ v).cell? ⟨E,o,none⟩=W.cell? ⟨E,o,none⟩:=λW v o=>
          yD (I6 _ _ _ _ (by show E≠D.heap.size;exact f5))
         have a3:=cz c3;clear c3;cases t<;>cases y
         case false.false|true.true=>
          have K:Hid (S=none):=d9.o (j+1) cN HY.o
          go_wp2_with (go_quiet (fail))
          refine iH (v:=.tuple #[.slice none 0 0,.int .i64 81]) (by simp[results,results204,go_sem]) ae ⟨_,by rw[K.o];rfl,by rw[K.o];exact aV,by rw[K.o];exact tO _,by refine below_drewN ?_ _;exact M⟩
         all_goals
          have w5:IntKind.i64.wrap ((j:Int)+1)=(j:Int)+1:=kS _ cN
          go_wp2_with (go_quiet (fail))
          go_roundw
          case rel=>
           refine⟨p+1,j+1,by have:=b9.o;omega,cN,by go_num,cM.GQ (w:=wr.drewN _) Z p _ (λn _=>by rw[Wv,<-b9.o]),HY.o,
            ⟨(a3.o (wr.drewN _) _ _).trans q0,(a3.o (wr.drewN _) _ _).trans q1,(a3.o (wr.drewN _) _ _).trans q2⟩,
            pM f4 (Below.size (B:=w.heap.size) ((below_drewN (gJ _ wr) _).setCell (p:=⟨D.heap.size,p,none⟩) a1 _)),(below_drewN M _).setCell (p:=⟨D.heap.size,p,none⟩) a1 _⟩
          case measure=>exact pR
       . have f3:j=m:=cN;subst f3;have h8:¬(j:Int)<(j:Int):=cN;have a5:=e1.o HJ.o;have a5:=cz a5;go_wp2;go_roundw
         case rel=>exact⟨k+1,yF g a t j,cN,by go_num,Z,a5,M⟩
         case measure=>exact pR
   . (obtain rfl:k=H.length:=cN;have a4:Hid (S=some (iN g)):=by unfold Hid;rw[HG.o,drop_length];rfl);have a2:=C;go_wp2_with (refine tL (o:=⟨some 61,.load 248 (.tmp 6),_,_,_,none⟩) ae 248 (.tmp 6) ae D.heap.size ae 4096 248 _ a2 _ underlying248 ae afY ?_);(obtain⟨A,hA⟩:=fP (cL 4096 (iJ g));have HA:Hid (∀k,k<4096->A[k]?=some (.bool (g k))):=by intro k hk;rw[hA,dy,df hk];rfl);(have h5:A.size=4096:=by rw[hA,cW]);rw[<-hA];clear hA a2;have O:=iD wr w.heap.size 3 1
     go_loopw [13,62] (λx i wr=>∃(k:Nat),k<=4096/\i=.int .i64 k/\wr.ownsRow w.heap.size 3 1 x (mb g k).length ((mb g k).map (Value.int .i64))/\dR w wr)
      (λ_ i _=>4096-(intOf i).toNat)
     exact⟨0,gw _,ae,O,hbel⟩;clear O hbel C;obtain⟨k,hk,rfl,G,hbel⟩:=hrel;have R:=hbel.size;by_cases d:k<4096
     . have c6:(k:Int)<(4096:Int):=cN;have i1:=si g k;have X:=HA.o k d;by_cases U:g k=true
       . (rw[U] at X;have f2:=Tw A k true d X;have a6:Hid (mb g (k+1)=mb g k++[(k:Int)]):=by unfold Hid;rw[zJ,df U]);clear U;have d8:=cz G.lt;go_wp2_with (first|(at_builtin;refine yE _ ae _ _ 81 ae w.heap.size 3 i0 (.int .i64 0) 1 8 qt hi f9 d6 g5 ae kB _ _ _ ae (G.alloc _) ⟨wr.heap.size,0,none⟩ 1 1 [.int .i64 k] ae ae (cell_one_new _ _ _) bg aN cN aF ?_;intro v' w2 b5 b4 _));go_roundw;refine⟨k+1,cN,by go_num,?_,(hbel.alloc cN _).grown b4 aF (λj h=>(d8.o j h).1)⟩;rw[a6.o,ji,nL];exact b5;exact pR
       . (have c5:g k=false:=by simpa using U);(rw[c5] at X;have f2:=Tw A k false d X;have a6:Hid (mb g (k+1)=mb g k):=by unfold Hid;rw[zJ,cZ U]);clear U c5;go_wp2;go_roundw;exact⟨k+1,cN,by go_num,by rw[a6.o];exact G,hbel⟩;exact pR
     . obtain rfl:k=4096:=cN;have hx:=qZ G (PD g 4096 (eN _)) (iE (si g 4096) cN);have HX:=cz hx;clear G hx;go_wp2_with fail;(refine(Xs _ _ _ HX.o).mono ?_;have hE:iN (pW (mb g 4096))=iN g:=wy λn hn=>by unfold pW;rw[wM,qS,vN];constructor;rintro⟨_,_,T⟩;simpa using T;intro T;exact⟨cN,cN,by simpa using T⟩);rw[hE];clear hE;rintro e w5 ⟨y,rfl,hy,e5⟩;have M:=Below.step hbel R e5;go_wp2;refine iH (v:=.tuple #[y,.int .i64 0]) (by simp[results,results204,go_sem]) ae ⟨_,by rw[a4.o];rfl,by rw[a4.o];exact hy.mono R,by rw[a4.o];exact nX.sl hy,M⟩
section
attribute[local irreducible]wpList Code.wp Calls Oper.wp wpAnyH
theorem Pb(P D l:Nat)(s:Pl)(h6:s.dv.ops<=990000000)(bs:cV)(g9:bs.n<=100000)(v:c7)(dZ:cV)(av:c7)(E:jS (bs.n:Nat)+1<=dZ.n)(g8:dZ.n<=100000)(e2:∀x∈dZ,x<=1000000)(w:cS)(h:fc w P D l s)(R:lN w 5 v bs)(RA:c8 w 3 1 av dZ.n (qK dZ)):
 CP_ 224 #[bW (cu ⟨P,0,cw⟩),v,av] w λe w'=>∃A r,e=cj (cg #[bV A,r,bU cq (gG s bs dZ).2.2.2])/\A=cL 3 (dF (gG s bs dZ).2.1)/\dD (gG s bs dZ).2.1/\il w' w.h.s r (gG s bs dZ).2.2.1/\fO (gG s bs dZ).2.2.1/\fc w' P D l (gG s bs dZ).1/\Fr (cu D) [] w w':=by
 obtain⟨bo,d9,rfl,a5,-⟩:=dP R.1;obtain⟨aa,d,rfl,a4,e1⟩:=dP RA;obtain⟨ab,ao,rfl⟩:=e1 cN;have HR:=cz R;have i1:=cz RA;have S:=St.start w (cu D) [] (dQ P D l s) h;obtain⟨MW,p⟩:=dI (gG s bs dZ);rw[p];unfold gG at p;obtain⟨n,d2⟩:=sO (jS (bs.n:Nat));have C1:=cz λW=>Hu (bs.n:Nat) W;rw[d2.o] at C1 E p;obtain⟨o,h1⟩:∃o,dZ.n=o+1:=⟨dZ.n-1,cN⟩;have e7:dZ.n-1=o:=cN;have g1:((dZ.n:Nat):Int)-1=((o:Nat):Int):=cN;have V:n<=o:=cN;have h2:o<=d:=cN;have e9:n<=d:=cN;have d7:=cz (show c8 w 3 1 (bX (s_ ab ao) n d) (dZ.take n).n (qK (dZ.take n)) from by
  have I:=c8.take RA (i:=n) cN;rw[sM] at I;unfold qK at I|-;rw[<-map_take] at I;rw[lP,vH cN];exact I)
 obtain⟨da,d1⟩:=sO (lz (s_ ab ao) d n 1);have d8:=cz (show c8 w 3 1 (bX da (o-n) (d-n)) ((dZ.take o).drop n).n (qK ((dZ.take o).drop n)) from by
  have I:=c8.take RA (i:=o) cN;have h8:=c8.CU I (i:=n) V;rw[sM,sM,d1.o] at h8;unfold qK at h8|-;rw[<-map_take,<-map_drop] at h8;rw[tY,lP,vH cN];exact h8)
 obtain⟨O,b5⟩:=dI (dZ.getD o 0);have f2:(qK dZ)[o]?=cu (.int cq O):=by unfold qK;grind
 have i3:O<=1000000:=by rw[<-b5,zE,jE cN];exact e2 _ (mP _)
 have HQ:=cz λW(f:Fr (cu D) [] w W)=>(RA.fr f (.inr rfl) rfl).cellAt cN f2;have i2:o<=100000:=cN;have h5:o<dZ.n:=cN;have h4:(o:Int)<(dZ.n:Int):=cN;obtain⟨Y,f3⟩:=dI (dZ.take n);obtain⟨t2,b8⟩:=dI ((dZ.take o).drop n);have a7:∀x∈Y,x<=1000000:=by grind
 have e8:∀x∈t2,x<=1000000:=by grind
 have f4:Y.n<=100000:=by grind
 have h3:t2.n<=100000:=by grind
 rw[f3] at d7 p;rw[b8] at d8;have C:MW=mw2 (fH s bs Y) bs.n dZ:=p.symm;have g5:=cz (show∀a,mw2 a bs.n dZ=if a.2.2≠0 then(a.1,(cX,([],a.2.2))) else
  match jA (a.1.dv.n:Nat) (lq a.1.mp 2) with
  |none=>(a.1,(cX,([],81)))
  |some sp=>mw3 (fH a.1 sp t2) a.2.1 bs.n sp.n O from λa=>by unfold mw2;rw[e7,d2.o,b8,b5])
 have C2:=cz λW h hr ha=>Ig P D l s cN bs g9 (bX bo bs.n d9) Y (bX (s_ ab ao) n d) f4 a7 W h hr ha;have a8:=x9 s bs Y;obtain⟨G,M⟩:=dI ((fH s bs Y).1);obtain⟨p1,b4⟩:=dI ((fH s bs Y).2.1);obtain⟨c1,a6⟩:=dI ((fH s bs Y).2.2);rw[g5.o,a6,M,b4] at C;rw[a6,M,b4] at C2;rw[M] at a8;have b:=cz C;have h7:=cz a7;have g4:=cz e8;clear C p R RA h M b4 a6 e7 h1 f2 b5 f3 b8 e2 a7 e8 E g8 f4 a5 a4 e1;go_enter func224,ntmps224;go_upto_region 3 with(first|refine je S (C1.o _) λW S=>?_|refine Uv Sf rfl rfl (y:=n) e9 ?_|(refine(C2.o _ S.x (HR.o.fr S.fr (.inr rfl) rfl) (d7.o.fr S.fr (.inr rfl) rfl)).mono ?_;rintro e W ⟨A,rfl,ho,g,L,J⟩;have c6:=cz ho;have d3:=cz g;replace S:=S.call J (λD e=>e) eQ (dQ P D l G) (λB h=>L);clear ho g)|refine fg λW S=>?_);by_cases c:c1=0;case neg=>have g3:(c1 !=0)=cx:=fJ.2 c;rw[df c] at b;have HG:=cz c;clear c;go_wp2_with first|(refine mA ?_;rw[b.o];exact⟨_,_,rfl,iO,dV,il.nil _ _,dS,S.x,S.fr⟩)|refine fL ?_|refine fg λW S=>?_
 subst c;rw[cZ (show¬((0:Int)≠0) from λh=>h rfl)] at b;have f9:=cz S.x.q6;obtain⟨sp,a1⟩:=sO (jA (G.dv.n:Nat) (lq G.mp 2));have C3:=cz λr W hr=>Fx (G.dv.n:Nat) (by have:=f9.o;unfold fh;omega) r (lq G.mp 2) W hr;rw[a1.o] at C3 b;cases sp with
 |none=>have m:gi 81 (cw:Option cV)=81:=rfl;rw[m] at C3;go_upto_region 6 with(first|(refine(nO P D l _ _ _ S.x.row).mono ?_;rintro e W ⟨rfl,rfl⟩)|(refine(Am D _ _ S.x.dev).mono ?_;rintro e W ⟨rfl,rfl⟩)|(refine(qw P D l _ _ _ S.x.row).mono ?_;rintro e W ⟨rfl,rfl⟩)|(refine(Jh l _ _ S.x.map).mono ?_;rintro e W ⟨r,rfl,ho,t⟩;have HO:=cz (L8 ho);replace S:=S.cP t;clear ho)|(refine(C3.o _ _ HO.o).mono ?_;rintro e W ⟨r,rfl,ho,t⟩;replace S:=S.cP t;clear ho));go_wp2_with first|(refine mA ?_;rw[b.o];exact⟨_,_,rfl,iO,dV,il.nil _ _,dS,S.x,S.fr⟩)|refine fL ?_|refine fg λW S=>?_
 |some sp=>
  have m:gi 81 (cu sp)=0:=rfl;rw[m] at C3;simp only[lx] at C3 b;have i4:=Pa a1.o;have g6:=cz (Ik a1.o);have C4:=cz λv W h hr ha=>Ig P D l G cN sp cN v t2 (bX da (o-n) (d-n)) h3 g4.o W h hr ha;have a9:=x9 G sp t2;obtain⟨s2,b6⟩:=dI ((fH G sp t2).1);obtain⟨p2,f1⟩:=dI ((fH G sp t2).2.1);obtain⟨c2,e5⟩:=dI ((fH G sp t2).2.2);unfold mw3 at b;rw[e5,b6,f1] at C4 b;rw[b6] at a9;clear m b6 f1 e5;go_upto_region 9 with(first|(refine(nO P D l _ _ _ S.x.row).mono ?_;rintro e W ⟨rfl,rfl⟩)|(refine(Am D _ _ S.x.dev).mono ?_;rintro e W ⟨rfl,rfl⟩)|(refine(qw P D l _ _ _ S.x.row).mono ?_;rintro e W ⟨rfl,rfl⟩)|(refine(Jh l _ _ S.x.map).mono ?_;rintro e W ⟨r,rfl,ho,t⟩;have HO:=cz (L8 ho);replace S:=S.cP t;clear ho)|(refine(C3.o _ _ HO.o).mono ?_;rintro e W ⟨r,rfl,ho,t⟩;have Z:=cz (dx ho);replace S:=S.iv t ho rfl rfl;clear ho;obtain⟨ca,cc,rfl⟩:=Z.o)|(refine Sl Sf rfl rfl rfl (y:=n) (k:=o) V h2 ?_;rw[d1.o])|(refine(C4.o _ _ S.x ⟨S.q0,g6.o⟩ (d8.o.fr S.fr (.inr rfl) rfl)).mono ?_;rintro e W ⟨A2,rfl,ho,g,L,J⟩;have c9:=cz ho;have d4:=cz g;replace S:=S.call J (λD e=>e) eQ (dQ P D l s2) (λB h=>L);clear ho g)|refine fg λW S=>?_);by_cases c:c2=0;case neg=>have g3:(c2 !=0)=cx:=fJ.2 c;rw[df c] at b;have HG:=cz c;clear c;go_wp2_with first|(refine mA ?_;rw[b.o];exact⟨_,_,rfl,iO,dV,il.nil _ _,dS,S.x,S.fr⟩)|refine fL ?_|refine fg λW S=>?_
  subst c;rw[cZ (show¬((0:Int)≠0) from λh=>h rfl)] at b;obtain⟨Q,a2⟩:=sO (Az p1 bs.n p2 sp.n);have C5:=cz (Vg p1 d3.o bs.n cN p2 d4.o sp.n cN);rw[dk c6.o,dk c9.o,a2.o] at C5;simp only[a2.o] at b;cases Q with|none=>have m:gi 51 (cw:Option cV)=51:=rfl;rw[m] at C5;go_upto_region 12 with(first|(refine(C5.o _).mono ?_;rintro e W ⟨r,rfl,ho,t⟩;replace S:=S.cP t;clear ho)|refine fL ?_);go_wp2_with (first|(refine mA ?_;rw[b.o];exact⟨_,_,rfl,iO,dV,il.nil _ _,dS,S.x,S.fr⟩)|refine fL ?_|refine fg λW S=>?_)|some Q=>have m:gi 51 (cu Q)=0:=rfl;rw[m] at C5;simp only[lx] at C5 b;have b9:=abN a2.o;have g7:=cz b9;have X:gy s2.cR:=S.x.ok.1;have b3:=uu s2 (O:Nat) Q;have z:=Ay X (O:Nat) Q b9;have C6:=cz λv W h hv=>Au P D l s2 cN (O:Nat) (by unfold fh;omega) 5 v Q W h hv;obtain⟨s3,b7⟩:=dI ((eW s2 (O:Nat) Q).1);obtain⟨q,F⟩:=dI ((eW s2 (O:Nat) Q).2.1);obtain⟨c3,e6⟩:=dI ((eW s2 (O:Nat) Q).2.2);obtain⟨A3,a3⟩:=fP (cL 3 (dF q));unfold mw4 at b;rw[e6,b7,F] at C6 b;rw[dk a3] at C6;rw[b7] at b3;rw[F] at z;have z:=cz z;have H:=cz a3;clear m b7 F e6 a3 b9 X;go_upto_region 15 with(first|(first|refine jo 87 3 86 (HQ.o _ S.fr) ?_)|(refine(C5.o _).mono ?_;rintro e W ⟨r,rfl,ho,t⟩;have Z:=cz (dx ho);replace S:=S.iv t ho rfl rfl;clear ho;obtain⟨ga,gc,rfl⟩:=Z.o)|(refine(C6.o _ _ S.x ⟨S.q0,g7.o⟩).mono ?_;rintro e WK ⟨rfl,L,J⟩;replace S:=S.call J (λD e=>e) eQ (dQ P D l s3) (λB h=>L))|refine fL ?_|refine fg λW S=>?_);by_cases c:c3=0;(case neg=>have g3:(c3 !=0)=cx:=fJ.2 c;rw[df c] at b;have HG:=cz c;clear c;go_wp2_with first|(refine mA ?_;rw[b.o];exact⟨_,_,rfl,iO,dV,il.nil _ _,dS,S.x,S.fr⟩)|refine fL ?_|refine fg λW S=>?_);subst c;rw[cZ (show¬((0:Int)≠0) from λh=>h rfl)] at b;have C7:=cz λW h=>x8 P D l s3 p1 d3.o (bs.n:Nat) W h;have T:=sL s3 p1 (bs.n:Nat);obtain⟨b1,e3⟩:=dI (eP s3 p1 (bs.n:Nat));rw[e3] at C7 b T;obtain⟨s4,y1,l1,c4⟩:=b1;simp only at C7 T;rw[dk c6.o] at C7;unfold mw5 at b;simp only at b;clear e3;go_upto_region 18 with(first|(refine(C7.o _ S.x).mono ?_;rintro e W ⟨r,r2,rfl,-,F,g,L,J⟩;have f5:=cz (dx F);have d5:=cz g;replace S:=S.uh J (λD e=>e) eQ (dQ P D l s4) (λB h=>L) F rfl rfl;clear F g;obtain⟨ha,hc,rfl⟩:=f5.o)|refine fL ?_);by_cases c:c4=0;(case neg=>have g3:(c4 !=0)=cx:=fJ.2 c;rw[df c] at b;have HG:=cz c;clear c;go_wp2_with first|(refine mA ?_;rw[b.o];exact⟨_,_,rfl,iO,dV,il.nil _ _,dS,S.x,S.fr⟩)|refine fL ?_|refine fg λW S=>?_);subst c;rw[cZ (show¬((0:Int)≠0) from λh=>h rfl)] at b;have C8:=cz λW h=>x8 P D l s4 p2 d4.o (sp.n:Nat) W h;have U:=sL s4 p2 (sp.n:Nat);obtain⟨b2,e4⟩:=dI (eP s4 p2 (sp.n:Nat));rw[e4] at C8 b U;obtain⟨s5,y2,l2,c5⟩:=b2;simp only at C8 b U;rw[dk c9.o] at C8;clear e4;go_upto_region 21 with(first|(refine(C8.o _ S.x).mono ?_;rintro e W ⟨r,r2,rfl,-,F,g,L,J⟩;have f6:=cz (dx F);have d6:=cz g;replace S:=S.uh J (λD e=>e) eQ (dQ P D l s5) (λB h=>L) F rfl rfl;clear F g;obtain⟨ia,ic,rfl⟩:=f6.o)|refine fL ?_);by_cases c:c5=0;(case neg=>have g3:(c5 !=0)=cx:=fJ.2 c;rw[df c] at b;have HG:=cz c;clear c;go_wp2_with first|(refine mA ?_;rw[b.o];exact⟨_,_,rfl,iO,dV,il.nil _ _,dS,S.x,S.fr⟩)|refine fL ?_|refine fg λW S=>?_);subst c;rw[cZ (show¬((0:Int)≠0) from λh=>h rfl)] at b;go_upto_region 23 with(fail);refine eR S dC [⟨WK.h.s,106,3,dF q⟩] jv λW S=>?_;refine gZ 0 (bV A3) rfl (rE (λw h=>h.row 0 rfl) rfl H.o fK) ?_;refine gZ 1 (bV A3) rfl (rE (λw h=>h.row 0 rfl) rfl H.o fK) ?_;refine dh 3 _ ?_;refine dh 4 _ ?_;refine kI 2 λK hK=>?_;refine aip S rfl H.o gX cN rfl λWG S=>?_;refine gq hK ?_;refine kI 5 λK hK=>?_;refine Zu S [_,_,_] underlying299 ZD cN cN rfl rfl (by intro v hv;simp only[iZ,jK,uH] at hv;rcases hv with rfl|rfl|rfl<;>rfl) rfl λWH S=>?_;refine gq hK ?_;refine kI 6 λK hK=>?_;go_wp2_with fail;refine(MY [(bX (s_ W.h.s 0) 1 1,[q]),(bX ha l1.n hc,l1),(bX ia l2.n ic,l2)] _ (show(3:Nat)<=1000 by omega) (show 1+(l1.n+(l2.n+0))<=100000 by omega) _ (EO S.k0 rfl (eN 3) (show(3:Nat)<=maxLen by unfold maxLen;omega) λj u hu=>⟨(nB.1 hu).1,by grind⟩) (by intro x hx;simp only[iZ,jK,uH] at hx;rcases hx with rfl|rfl|rfl;exact abO S.k1;exact S.q1;exact c8.jR S.o0)).mono ?_;rintro e WI ⟨r,rfl,ho,t⟩;have f7:=cz (dx ho);replace S:=S.iv t ho rfl rfl;clear ho;obtain⟨ja,jc,rfl⟩:=f7.o;refine gq hK ?_;refine kI 7 λK hK=>?_;refine kq S 5 rfl rfl rfl H.o fK (dJ _) λW S=>?_;refine gq hK ?_;refine dh 8 _ ?_;refine dh 9 _ ?_;refine qx ?_;have f8:=cz (show∀v:c7,([(v,[q]),(Value.slice ha l1.n hc,l1),(Value.slice ia l2.n ic,l2)].flatMap Prod.snd)=([q]++l1)++l2 from λv=>by simp);go_wp2_with (refine mA ?_;rw[b.o];exact⟨_,_,rfl,rfl,z.o,by have I:=S.o0;rw[f8.o] at I|-;exact I,λy N=>(by rcases gH.1 N with N|N;rcases gH.1 N with N|N;rw[fM.1 N];exact z.o;exact d5.o y N;exact d6.o y N),S.x,S.fr⟩)
def dM(s:Pl)(l:List cQ):Pl:=l.foldl (λs q=>(qd s q).1) s
theorem abP(s:Pl)(q:cQ):(qd s q).1.dv=s.dv:=by grind[qd]
theorem qk(l:List cQ):∀s,(dM s l).dv=s.dv:=by induction l<;>grind[abP,dM]
theorem Kn{l:List cQ}(a:l[k]?=cu q):dM s (l.take (k+1))=(qd (dM s (l.take k)) q).1:=by grind[dM,take_add_one]
def gC(s:Pl)(b:ee)(iP:List cQ):Pl×(cQ×(List cQ×Int)):=
 match iU b with
 |none=>(s,(cX,([],151)))
 |some text=>
  if fR (dM s iP).mp<nF text.n (dM s iP).dv.n then(dM s iP,(cX,([],71)))
  else gG {dM s iP with mp:=A6 (dM s iP).mp (nF text.n (dM s iP).dv.n:Nat)} text (xg (dM s iP).mp (nF text.n (dM s iP).dv.n:Nat))
theorem abQ(h:n<=fR st):T8 (zU st (n:Nat))=0/\(xg st (n:Nat)).n=n/\∀x∈xg st (n:Nat),x<1024:=by
 have e:zU st (n:Nat)=cu (iI st n):=by simp_all[zU]
 unfold xg T8;rw[e];exact⟨ae,(zN st h).2,adG st n⟩
def ux(h:iU b=cu t):∀x∈t,x<256:=by unfold iU at h;split at h;cases h;next u hu=>split at h;cases h;cases h;exact Fq hu
def Sm(P D g:Nat)(s:Pl)(Q:s.dv.ops<=990000000)(b:dW)(B:gE)(hB:B=cL 2 (dO b))(y:fG b.t)(iP:List cQ)(C:fO iP)(b2:iP.n<=100000)(v:c7)(w:cS)(h:fc w P D g s)(RB:iT w b)(R:lk w v iP):
 CP_ 169 #[bW (cu ⟨P,0,cw⟩),bV B,v] w λe w'=>∃A r,e=cj (cg #[bV A,r,bU cq (gC s b.t iP).2.2.2])/\A=cL 3 (dF (gC s b.t iP).2.1)/\dD (gC s b.t iP).2.1/\il w' w.h.s r (gC s b.t iP).2.2.1/\fO (gC s b.t iP).2.2.1/\fc w' P D g (gC s b.t iP).1/\Fr (cu D) [g] w w':=by
 obtain⟨ao,cap,rfl,a9,J⟩:=dP R;have HR:=cz R;have J:=cz J;have HB:=cz hB;have S:=St.start w (cu D) [g] (dQ P D g s) h;have M:=cz λW(f:Fr (cu D) [g] w W)=>Kh b B hB y W (RB.fr f);obtain⟨MS,a⟩:=dI (gC s b.t iP);rw[a];have HO:=cz C;unfold gC at a;obtain⟨rb,G⟩:=sO (iU b.t);rw[G.o] at M a;clear hB y C h RB R;go_enter func169,ntmps169;cases rb with
 |none=>have u:gi 151 (cw:Option cV)=151:=rfl;rw[u] at M;have a3:=cz a.symm;clear a;go_wp2_with first|(refine ah (M.o _ S.fr) λr W⟨ho,N⟩=>?_;replace S:=S.cP N)|(refine mA ?_;rw[a3.o];exact bf)|refine fL ?_|refine fg λW S=>?_
 |some text=>
  have u:gi 151 (cu text)=0:=rfl;rw[u] at M;simp only[lx] at M a;have b3:=Hw G.o;obtain⟨l,H⟩:=sO (dM s iP);have a7:=cz (show l.dv=s.dv by rw[<-H.o];exact qk iP s);rw[H.o] at a;obtain⟨F,m⟩:=sO (nF text.n l.dv.n);rw[m.o] at a;have j:=cz a.symm;clear u a;go_upto_region 5 with(first|(refine ah (M.o _ S.fr) λr W⟨ho,N⟩=>?_;have a1:=cz (dx ho);replace S:=S.iv N ho ae ae;obtain⟨ca,cc,rfl⟩:=a1.o)|refine fL ?_|refine fg λW S=>?_);go_loopw [26] (λi wr=>∃k:Nat,k<=iP.n/\i=bU cq k/\Hid (St w (cu D) [g] [⟨_,106,3,dF cX⟩,⟨_,99,2,dO b⟩] [⟨5,1,bX ca text.n cc,text.n,ej text⟩] (C' P D g (dM s (iP.take k))) wr)) (λi _=>iP.n-(intOf i).m);exact⟨0,cN,ae,cz S⟩;clear S;obtain⟨k,Y,rfl,hS⟩:=hrel;by_cases o:k<iP.n
  . (obtain⟨b9,o9,rfl⟩:=J.o cN;obtain⟨q,hq⟩:=dI (iP[k]);obtain⟨A,I⟩:=fP (cL 3 (dF q));have V:=cz (kE iP o (A:=A) (by rw[hq];exact I));have L:iP[k]?=cu q:=by rw[jE o,hq]);have C2:=cz λW h=>H7 P D g (dM s (iP.take k)) q (HO.o q (kA L)) W h;rw[dk I,<-Kn L] at C2;have HA:=cz I;have S:=hS.o;clear hS I hq L;have HK:=cz o;go_wp2_with (first|refine AD (HR.o.fr S.fr aw ae) o (vu HA) V.o ?_|(refine aj (C2.o _ S.x) λW⟨p,y⟩=>?_;replace S:=S.call y (λD e=>by cases e) (λk Y=>.inl Y) (dQ P D g _) (λB h=>p);clear p y)|refine fL ?_|refine fg λW S=>?_);go_roundw;have:=HK.o;exact⟨k+1,cN,by go_num,cz S.pop⟩;have:=HK.o;simp[intOf];omega
  . obtain rfl:k=iP.n:=cN;have S:=hS.o;rw[qq,H.o] at S;clear hS;have C3:=cz λW=>US ca text.n cc (l.dv.n:Nat) W;rw[m.o] at C3;have C6:=cz λW h=>count_map g l.mp W h;have c:=abQ (st:=l.mp) (n:=F);obtain⟨cn,O⟩:=dI (fR l.mp);rw[O] at C6 j c;clear O;by_cases d:cn<F;have a8:(cn:Int)<(F:Int):=cN;rw[df d] at j;clear d c;rotate_left;(have a8:¬(cn:Int)<(F:Int):=cN;rw[cZ d] at j;obtain⟨e0,u,e2⟩:=c cN;have b1:F<=20000:=by rw[<-m.o];unfold nF;have h1:=Hv (text.n:Nat);have h2:=Hv (fX (l.dv.n:Nat):Nat);omega);(have Z:=cz λW h=>adH g l.mp (F:Nat) aW W h;rw[e0] at Z;obtain⟨X,t⟩:∃X:Pl,{l with mp:=A6 l.mp (F:Nat)}=X:=⟨_,ae⟩;have E:X.dv=l.dv:=by rw[<-t]);(have a6:=cz t;obtain⟨ml,K⟩:=dI (xg l.mp (F:Nat));rw[K] at Z u e2;rw[t,K] at j;have z:jS (text.n:Nat)+1<=ml.n:=by rw[u,<-m.o];unfold nF;omega);have C5:=cz λv av W h hr ha=>Pb P D g X (by rw[E,a7.o];exact Q) text cN v ml av z cN (λx hx=>by have:=e2 x hx;omega) W h hr ha;rw[<-j.o] at C5;have a2:=cz (ux G.o);clear c d e0 u e2 t E K z
    all_goals
     go_wp2_with first|(refine(nO P D g _ _ _ S.x.row).mono ?_;rintro e W ⟨rfl,rfl⟩)|(refine(Am D _ _ S.x.dev).mono ?_;rintro e W ⟨rfl,rfl⟩)|refine je S (C3.o _) λW S=>?_|(refine(qw P D g _ _ _ S.x.row).mono ?_;rintro e W ⟨rfl,rfl⟩)|(go_at_call 61;refine mY (C6.o _ S.x.map) ?_)|(go_at_call 223;refine ah (Z.o _ S.x.map) λv W⟨ho,hm,N⟩=>?_;have p:=S.x.ahQ N hm;replace S:=S.uh p.2 (λD e=>by cases e) (λk Y=>.inl Y) (dQ P D g X) (λB h=>by rw[<-a6.o];exact p.1) ho ae ae;clear hm p)|(go_at_call 224;refine(C5.o _ _ _ S.x ⟨S.q1,a2.o⟩ S.q0).mono ?_;rintro e W ⟨A,r,rfl,I,U,ho,T,p,y⟩;have HA:=cz I;have a5:=cz U;have a4:=cz T;replace S:=S.uh y ax eQ (dQ P D g _) (λB h=>p) ho ae ae;clear I U T p y)|refine fL ?_|refine fg λW S=>?_|(refine mA ?_;rw[j.o];exact bf)|(refine mA ?_;exact⟨_,_,ae,ae,a5.o,S.o0,a4.o,S.x,S.fr⟩)
theorem aj7(h:bs.n=2):sw [2] bs=cu [jL bs]:=by unfold sw;simp_all[pz,nU,okW,sY]
theorem aiH(h:bs.n=2)(c:∀x∈bs,x<256):jL bs<65536:=by
 obtain⟨a,b,rfl⟩:∃a b,bs=[a,b]:=by
  match bs,h with
  | [a,b],_=>grind
 have d:=c a eQ;have e:=c b eQ;grind[jL]
def fm.nil(w:cS):fm w (bX cw 0 0) []:=⟨cw,0,ae,by simp,by simp,by simp⟩
def pI(eZ:Int)(b:cV):Option (List (Int×Int)):=
 if fX eZ=0∨b.n≠fX eZ then cw else
 if(fX eZ-2)/5<jL (b.take 2) then cw else
 (AT (dN ((b.take (2+5*jL (b.take 2))).drop 2))).bind λa=>(uM [] a).bind λset=>(jA eZ set).bind λt=>if t=b then cu set else cw
def MZ(eZ:Int)(J:fh eZ)(v:c7)(b:cV)(V:∀x∈b,x<256)(w:cS)(R:c8 w 5 1 v b.n (ej b)):
 CP_ 152 #[bU cq eZ,v] w λe w'=>∃r,e=cj (cg #[r,bU cq (gi 81 (pI eZ b))])/\nX w' w.h.s r ((pI eZ b).getD [])/\fm w' r ((pI eZ b).getD [])/\dR w w':=by
 obtain⟨ao,cap,rfl,F,F⟩:=dP R;have HR:=cz R;have q:=cz V;obtain⟨T,c⟩:=dI (pI eZ b);rw[c];unfold pI at c;obtain⟨n,I⟩:=dI (fX eZ);have F:=DW eZ;have H:=Ih eZ;rw[I] at F H c;have H:=cz I;have S:=qR w;clear R V;go_enter func152,ntmps152;by_cases F:n=0
 . (rw[df (.inl F)] at c;subst c;have I:((n:Int)==0)=cx:=by rw[xL];omega);clear F;go_wp2_with (refine(lH eZ _).mono ?_;rintro e W' ⟨rfl,rfl⟩;rw[H.o]);go_ret2;exact bP
 have I:((n:Int)==0)=cy:=by rw[lR];omega
 by_cases U:b.n=n
 case neg=>
  rw[df (.inr U)] at c;subst c;have I:(((b.n:Nat):Int)!=((n:Nat):Int))=cx:=by rw[fJ];omega
  clear F U;go_wp2_with (refine(lH eZ _).mono ?_;rintro e W' ⟨rfl,rfl⟩;rw[H.o]);go_ret2;exact bP
 have I:(((b.n:Nat):Int)!=((n:Nat):Int))=cy:=by rw[vI];omega
 rw[cZ (by intro h;rcases h with h|h;exact F h;exact h U)] at c;have I:2<=b.n:=cN;have F:=cz (show c8 w 5 1 (bX ao 2 cap) 2 (ej (b.take 2)) from by have g:=c8.take HR.o (i:=2) I;rwa [sM,um] at g);have M:=cz λv u W hv V hc=>JX v u [2] (b.take 2) kB W hv V hc;have I:(b.take 2).n=2:=by rw[lP];omega
 have Z:=aiH I (λx hx=>q.o x (lQ hx));rw[aj7 I] at M;have Q:gi 21 (cu [jL (b.take 2)])=0:=rfl;rw[Q] at M;simp only[lx] at M;obtain⟨d,Y⟩:=dI (jL (b.take 2));rw[Y] at M c Z;have a8:=cz (show∀y∈dN [2],(Lit.int cq y).wf=cx by decide);obtain⟨Z,X⟩:=dI ((n-2)/5);rw[X] at c;have N:((n:Int)-2).tdiv 5=(Z:Int):=by rw[<-X,Int.tdiv_eq_ediv_of_nonneg cN];omega
 have N:Z<=513:=cN;have N:=cz U;clear Q I Y U;go_upto_region 5 with(first|(refine(lH eZ _).mono ?_;rintro e W' ⟨rfl,rfl⟩;rw[H.o])|refine mH S cq (dN [2]) qt uT cN cN rfl rfl rfl λW S=>?_|refine Uv ve ae ae (y:=2) cN ?_|(refine ah (M.o _ _ _ (eT.row S.k0 ae (show(1:Nat)<=_ by omega) a8.o) (F.o.cP S.b |>.u' (λx hx=>q.o x (lQ hx))) ⟨_,_,_,ae,cN⟩) λr W⟨ho,a⟩=>?_;obtain⟨H,F,rfl⟩:=U4 ho;replace S:=S.iv a ho ae ae;clear ho a));replace S:St w cw [] _ [⟨82,1,bX (s_ H 0) 1 F,1,KS [d]⟩] _ _:=S;by_cases m:Z<d;rw[df m] at c;subst c;rotate_left;rw[cZ m] at c;obtain⟨o,G⟩:=dI (2+5*d);rw[G] at c;have F:(2:Int)+5*(d:Int)=(o:Int):=cN;have A:2<=o:=cN;have F:o<=n:=cN;have F:o<=cap:=by have:=N.o;omega
 have H:IntKind.i64.wrap (5*(d:Int))=5*(d:Int):=kS _ cN;have s:=cz (show c8 w 5 1 (bX (lz ao cap 2 1) (o-2) (cap-2)) (o-2) (ej ((b.take o).drop 2)) from by
  have g:=c8.CU (c8.take HR.o (i:=o) (by have:=N.o;omega)) (i:=2) A
  rwa [sM,sM,um,xo] at g)
 obtain⟨N,H⟩:=dI ((b.take o).drop 2);have p:=cz (show∀x∈N,x<256 by rw[<-H];exact λx hx=>q.o x (lQ (mS hx)));rw[H] at s c;have C:=cz λu W V hc=>aeA u (dN N) W V hc;obtain⟨rs,I⟩:=dI (AT (dN N));rw[I] at C c;have N:=cz G;have N:decide (Z<d)=cy:=jG m;clear I H m G;rcases rs with _|ms;rw[Option.bind_none] at c;subst c;have I:PM (cw:Option (List kQ))=81:=rfl;rw[I] at C;rotate_left;rw[xw] at c;have I:PM (cu ms)=0:=rfl;rw[I] at C;simp only[lx] at C;have D:=cz λv u W hv V=>Yb v u [] ms W hv V;obtain⟨N,H⟩:=dI (uM [] ms);rw[H] at D c;clear H I;rcases N with _|set;rw[Option.bind_none] at c;subst c;have t:Ww (cw:Option (List (Int×Int)))=81:=rfl;rw[t] at D;rotate_left;rw[xw] at c;have t:Ww (cu set)=0:=rfl;rw[t] at D;simp only[lx] at D;have E:=cz λv W hv=>Fx eZ J v set W hv;obtain⟨K,J⟩:=dI (jA eZ set);rw[J] at E c;have H:=cz J;clear J t;rcases K with _|K
 . rw[Option.bind_none] at c;subst c;have t:gi 81 (cw:Option cV)=81:=rfl;rw[t] at E;go_wp2_with (first|(refine mi dC ?_;refine jF (v:=bU ct d) (by have g:=S.q0.cellAt (j:=0) (u:=bU ct d) cN ae;exact g) ae fZ ?_)|refine jF (v:=bU ct d) (by have g:=S.q0.cellAt (j:=0) (u:=bU ct d) cN ae;exact g) ae fZ ?_|refine Sl ve ae ae ae (y:=2) (k:=o) A F ?_|(refine ah (C.o _ _ (s.o.cP S.b |>.u' p.o) ⟨_,_,_,ae,cN⟩) λr W⟨f,a⟩=>?_;have O:=cz f;replace S:=S.cP a;clear f a)|(refine ah (D.o _ _ _ (fm.nil _) O.o) λr W⟨ho,f,a⟩=>?_;have L:=cz f;replace S:=S.iv a ho ae ae;clear f a ho)|(refine ah (E.o _ _ L.o) λr W⟨ho,a⟩=>?_;replace S:=S.cP a;clear ho a));go_ret2;exact bP
 rw[xw] at c;have t:gi 81 (cu K)=0:=rfl;rw[t] at E;simp only[lx] at E;have I:=cz (Ik H.o);have H:=cz λv u W J N=>DV v u K b 5 5 K.n b.n I.o q.o W J N;obtain⟨B,l⟩:=dI (decide (K=b));rw[l] at H;have z:T=if B=cx then cu set else cw:=by rw[<-c,<-l];by_cases h:K=b<;>simp[h]
 clear c t l;rcases B with _|_
 . rw[cZ kB] at z;subst z;go_wp2_with (first|(refine mi dC ?_;refine jF (v:=bU ct d) (by have g:=S.q0.cellAt (j:=0) (u:=bU ct d) cN ae;exact g) ae fZ ?_)|refine jF (v:=bU ct d) (by have g:=S.q0.cellAt (j:=0) (u:=bU ct d) cN ae;exact g) ae fZ ?_|refine Sl ve ae ae ae (y:=2) (k:=o) A F ?_|(refine ah (C.o _ _ (s.o.cP S.b |>.u' p.o) ⟨_,_,_,ae,cN⟩) λr W⟨f,a⟩=>?_;have O:=cz f;replace S:=S.cP a;clear f a)|(refine ah (D.o _ _ _ (fm.nil _) O.o) λr W⟨ho,f,a⟩=>?_;have L:=cz f;replace S:=S.iv a ho ae ae;clear f a ho)|(refine ah (E.o _ _ L.o) λr W⟨ho,a⟩=>?_;replace S:=S.iv a ho ae ae;clear ho a)|refine mY (H.o _ _ _ S.q0 (HR.o.cP S.b)) ?_);go_ret2;exact bP
 rw[df ae] at z;subst z
 all_goals
  go_wp2_with first|(refine mi dC ?_;refine jF (v:=bU ct d) (by have g:=S.q0.cellAt (j:=0) (u:=bU ct d) cN ae;exact g) ae fZ ?_)|refine jF (v:=bU ct d) (by have g:=S.q0.cellAt (j:=0) (u:=bU ct d) cN ae;exact g) ae fZ ?_|refine Sl ve ae ae ae (y:=2) (k:=o) A F ?_|(go_at_call 203;refine ah (C.o _ _ (s.o.cP S.b |>.u' p.o) ⟨_,_,_,ae,cN⟩) λr W⟨f,a⟩=>?_;have O:=cz f;replace S:=S.cP a;clear f a)|(refine ah (D.o _ _ _ (fm.nil _) O.o) λr W⟨ho,f,a⟩=>?_;have L:=cz f;replace S:=S.iv a ho ae ae;clear f a ho)|(go_at_call 205;refine ah (E.o _ _ L.o) λr W⟨ho,a⟩=>?_;have F:=cz (L.o.cP a);replace S:=S.iv a ho ae ae;clear ho a)|(go_at_call 32;refine mY (H.o _ _ _ S.q0 (HR.o.cP S.b)) ?_)
  go_ret2
  first|exact bP|exact⟨_,rfl,S.o1,F.o,S.b⟩
attribute [local go_sem] Oper.semAt_some
def ZF(Q:Exit->Act->cS->Prop):Exit->Act->cS->Prop
 | .normal,a,w=>Q .normal a w
 |_,_,_=>False
def D4(h:Q .normal a w):ZF Q .normal a w:=h
def abR:¬LetsOut (ZF Q):=λ⟨_,_,h⟩=>h
def Yc{F:Fence}(b:Open F){ops:List Oper}(S:St w0 d l L O X w){id:Nat}(f:P.follows .mixedOrders=cx)(c:Hb ops=cx)(h:∀W,St w0 d l L O X W->wpAnyH P .any ops.toArray (ZF Q) (SE w0 d l L O) ops.toArray.s (Array.replicate ops.toArray.s cy) a W):(Code.region id ops.toArray cx).wpIn F n P Q a w:=
 Code.wpIn_mono (Q:=ZF Q) (λe a w h=>by cases e<;>first|exact h|exact h.elim) (Aq b S f c abR h)
def aiI:lD prog 103:=⟨⟨_,underlying103,ae⟩,dC⟩
instance inbdb10 :ru 103:=⟨aiI⟩
def abS(l:List dL)(a:Nat)(b:List (Fin l.n)):Nat:=(b.filter λz=>decide ((l.get z).cY=a)).n
theorem Qt(l:List dL)(a:Nat)(b:List (Fin l.n))(z:Fin l.n):abS l a (b++[z])=if(l.get z).cY=a then abS l a b+1 else abS l a b:=by unfold abS;grind
def jM(l:List dw)(s:dw):Bool:=
 if s.dz=cy then cx else
 match fj l s.cY with
 |none=>cy
 |some i=>if(dH l i).dz=cx then cy else decide (((l.filter λx=>decide (x.dB=s.id)).filter λx=>decide (x.cY=s.cY)).n=1)
def M4{l:List dL}{s:dw}{x:dL}(b:s.dz=cx)(a:fj (eM l) s.cY=cu i)(c:l[i]?=cu x):jM (eM l) s=if x.dz=cx then cy else decide (abS l s.cY (r9 l s.id l.n)=1):=by unfold jM;rw[a,b];simp only[cZ (show¬(cx=cy) by decide)];rw[lG c,EM,filter_map,mQ];rfl
def Pc(l:List dL)(v:c7)(hl:l.n<=1000000)(s:dL)(a c:Nat)(w:cS)(R:gu w v l)(H:nE w a c s):
 CallsIn Fence.wide 5 prog 201 #[v,bW (cu ⟨a,c,cw⟩)] w λe w'=>e=cj (bZ (jM (eM l) s.todw))/\dR w w':=by
 obtain⟨ao,cap,rfl,a3,r⟩:=dP R.1;have r:=cz r;have C:=cz λW(E:dR w W)=>uk l _ s.cY hl W (R.cP E);have S:=qR w;obtain⟨T,L⟩:=dI (jM (eM l) s.todw);rw[L];refine callsIn_of_wp_marks func201 ae iG ?_ ae;simp only[ntmps201,AG,lr,tX,reduceAdd,reduceSub,AH,vE,vF,vG,pN,uG];cases p:s.dz with
 |false=>
  obtain rfl:cx=T:=by rw[<-L];unfold jM;rw[df p]
  skip
  gi_upto_region 0 with fail
  refine j9 sP dC vw ?_
  go_wp2_with refine fg λW S=>?_
  gi_upto_region 1 with fail
  refine j9 sP dC vw ?_
  go_wp2_with first|refine jl 8 103 3 S 0 0 (dE a c) ?_|refine jF (v:=bZ cy) (by rw[<-p];exact bM) ae tT ?_
  gi_wp2
  exact⟨bZ cx,by simp[results,f201,go_sem],ae,S.b⟩
 |true=>
  cases j:fj (eM l) s.cY with
  |none=>
   rw[j] at C;obtain rfl:cy=T:=by rw[<-L];unfold jM;rw[j,p];rfl
   simp only[lF] at C
   gi_upto_region 0 with fail
   refine j9 sP dC vw ?_
   go_wp2_with refine fg λW S=>?_
   gi_upto_region 1 with fail
   refine j9 sP dC vw ?_
   go_wp2_with first|refine jl 8 103 3 S 0 0 (dE a c) ?_|refine jF (v:=bZ cx) (by rw[<-p];exact bM) ae tT ?_
   gi_upto_region 3 with fail
   refine Yc sP S dC dC λW S=>?_;refine dh 0 (bX ao l.n cap) ?_;refine dh 1 (dE a c) ?_;refine dh 2 (dE a c) ?_;refine dh 3 (dE a (c+3)) ?_;refine gZ 4 (bU ct s.cY) ae (gO (λw h=>by obtain⟨_,S⟩:=h;exact(H.cP S.b).c3) ae fZ) ?_;refine kI 5 λK n=>?_
   go_wp2_with fail
   refine je S (C.o _ S.b) λW S=>?_;refine gq n ?_;refine dh 6 _ ?_;refine qx ?_;refine D4 ?_
   gi_wp2
   exact⟨bZ cy,by simp[results,f201,go_sem],ae,S.b⟩
  |some i=>
   obtain⟨a7,x,hx,-⟩:=kL j;have d:=M4 p j hx;rw[L] at d;rw[j] at C;simp only[lF] at C;obtain⟨b,o,rfl⟩:=r.o cN;have HX:=cz (R.at hx);have a5:(i:Int)<(l.n:Int):=cN;have a6:¬(i:Int)<0:=cN
   gi_upto_region 0 with fail
   refine j9 sP dC vw ?_
   go_wp2_with first|refine DJ S (v:=bX (s_ b o) l.n cap) rfl rfl rfl λWA S=>?_|refine DJ S (v:=dE a c) rfl rfl rfl λWB S=>?_
   gi_upto_region 1 with fail
   refine j9 sP dC vw ?_
   go_wp2_with first|refine jl 8 103 3 S 0 0 (dE a c) ?_|refine jF (v:=bZ cx) (by rw[<-p];exact bM) ae tT ?_
   gi_upto_region 3 with fail
   refine Yc sP S dC dC λW S=>?_;refine dh 0 (bX (s_ b o) l.n cap) ?_;refine dh 1 (dE a c) ?_;refine dh 2 (dE a c) ?_;refine dh 3 (dE a (c+3)) ?_;refine gZ 4 (bU ct s.cY) ae (gO (λw h=>by obtain⟨_,S⟩:=h;exact(H.cP S.b).c3) ae fZ) ?_;refine kI 5 λK n=>?_
   go_wp2_with fail
   refine aj (C.o _ S.b) λWK E=>?_;replace S:=S.cP E;refine gq n ?_;refine dh 6 _ ?_;refine qx ?_;refine D4 ?_;obtain⟨px,u⟩:=dI x.dz;rw[u] at d;cases px with
   |true=>
    obtain rfl:T=cy:=d
    gi_upto_region 4 with fail
    refine j9 sP dC vw ?_
    go_wp2_with first|refine jm 22 97 2 S 1 0 (bX (s_ b o) l.n cap) ?_|(refine mi dC ?_;refine jF (v:=bZ cx) (by rw[<-u];exact(HX.o.cP S.b).c2) ae tT ?_)
    gi_wp2
    exact⟨bZ cy,by simp[results,f201,go_sem],ae,S.b⟩
   |false=>
    rw[cZ (show¬(cy=cx) by decide)] at d;have HT:=cz d;clear d
    gi_upto_region 4 with fail
    refine j9 sP dC vw ?_
    go_wp2_with first|refine jm 22 97 2 S 1 0 (bX (s_ b o) l.n cap) ?_|(refine mi dC ?_;refine jF (v:=bZ cy) (by rw[<-u];exact(HX.o.cP S.b).c2) ae tT ?_)
    gi_upto_region 6 with fail
    refine j9 sP dC vw ?_
    go_wp2_with first|refine A8 S zeroValue3 rfl rfl λWC S=>?_|refine vz S 0 rfl 0 (v:=bU cq 0) rn rfl rfl rfl DG λW S=>?_
    gi_upto_region 7 with fail
    refine Yc sP S dC dC λW S=>?_;refine dh 0 (bX (s_ b o) l.n cap) ?_;refine dh 1 (dE a c) ?_;refine dh 2 (dE a c) ?_;refine dh 3 (dE a c) ?_;refine gZ 4 (bU ct s.id) ae (gO (λw h=>by obtain⟨_,S⟩:=h;exact(H.cP S.b).c0) ae fZ) ?_;refine kI 5 λK n=>?_
    go_wp2_with fail
    refine aj (DY (s_ b o) l.n cap s.id _) λN hW=>?_;have HB:=cz (DZ hW);have S0:=cz S;replace S:=S.cP HB.o.1;refine gq n ?_;refine qx ?_;refine D4 ?_
    gi_wp2
    clear S;have S:St w cw [] [⟨WK.h.s,3,1,λ_=>bU cq (((0:Nat):Int))⟩,⟨WA.h.s,103,1,λ_=>dE a c⟩,⟨w.h.s,97,1,λ_=>bX (s_ b o) l.n cap⟩] [] (λ_ _=>True) W:=S0.o.xN (k:=0) ae (g:=λ_=>bU cq ((0:Nat):Int)) λi G=>by have G:i<1:=G;obtain rfl:i=0:=cN;rfl
    obtain⟨E,V,U,Z,d,a9⟩:=HB.o;have F:iA w b=cu 109:=c8.ty R.1 ae cN;have X:∀k∈ [W.h.s,W.h.s+1]++(Value.slice (s_ b o) l.n cap).ownBlock.t,(W.h.s<=k∨k<w.h.s)/\∃t,iA N k=cu t/\lS t=cy/\gV t=cy:=by
     intro k f;simp only[Value.ownBlock,Lu,uG,pN,iZ,jK,uH] at f;rcases f with rfl|rfl|rfl
     . exact⟨.inl (eN _),_,Z,ae,ae⟩
     . exact⟨.inl (le_succ _),_,d,ae,ae⟩
     . exact⟨.inr (iy F),_,vX (vX F S.b) E,ae,ae⟩
    replace S:=S.UE E X;have Q:=S.x.2;have b1:w.h.s<=N.h.s:=S.fr.size;refine wpIn_rangeFunc_ownF ae cN (gf:=232) (lb:=#[dE W.h.s 0,dE (W.h.s+1) 0]) ae iG (enters_of func232 dC ae)
     (Gv 4 W.h.s (W.h.s+1) _ l s.id hl N (R.cP S.b) V U) np.trans (np.wV λk f=>let⟨_,h1,_⟩:=(Q k f).2;iy h1) (gJ _ _) (λ_=>ae)
     (λA M=>∃y:Nat,Hid (y=abS l s.cY A/\y<=A.n)/\St w cw [] [⟨WK.h.s,3,1,λ_=>bU cq ((y:Nat):Int)⟩,⟨WA.h.s,103,1,λ_=>dE a c⟩,⟨w.h.s,97,1,λ_=>bX (s_ b o) l.n cap⟩] [] (λB w=>True/\Tg ([W.h.s,W.h.s+1]++(Value.slice (s_ b o) l.n cap).ownBlock.t) B w) M)
     (λ_ _ _=>False)
     (rZ S.fr.size _ _ _ _ λ_ _=>lW.t.and (lW.av _)) (λ_ _ _ _ _ p _ _=>p)
     ⟨0,cz ⟨ae,eN _⟩,S⟩ ?a1 ?assign ?body ?done ?stop
    case assign=>
     intro lp z M K n
     gi_wp2
     exact n
    case body=>
     clear S;rintro lp A z W0 ⟨m,j,S⟩ a4;replace S:=S.fI;have J:=j.o.2;have I:=cz j.o.1;obtain⟨y,q⟩:=sO (l.get z);have a2:l[z.val]?=cu y:=by rw[jE z.isLt,<-q.o];rfl
     have HY:=cz (R.at a2);have b2:=z.isLt;have hz:(z.val:Int)<(l.n:Int):=cN;have a8:m<=1000000:=cN;rcases BG (y.cY=s.cY) with he|he
     . have Y:(((y.cY:Nat):Int)==((s.cY:Nat):Int))=cx:=by rw[xL];omega
       skip
       gi_wp2
       refine Aq sP S dC dC vw λW S=>?_;refine dh 0 (bX (s_ b o) l.n cap) ?_;refine dh 1 _ ?_;refine dh 2 (dE b (o+z.val*11)) ?_;refine dh 3 (dE b (o+z.val*11+3)) ?_;refine gZ 4 (bU ct y.cY) ae (gO (λw h=>by obtain⟨_,S⟩:=h;exact(HY.o.cP S.b).c3) ae fZ) ?_;refine dh 5 (dE a c) ?_;refine dh 6 (dE a c) ?_;refine dh 7 (dE a (c+3)) ?_;refine gZ 8 (bU ct s.cY) ae (gO (λw h=>by obtain⟨_,S⟩:=h;exact(H.cP S.b).c3) ae fZ) ?_;refine dh 9 (bZ cx) ?_;refine qx ?_
       gi_upto_region 10 with fail
       refine j9 sP dC vw ?_
       go_wp2_with first|refine jl 45 3 6 S 0 0 (bU cq m) ?_|refine vz S 0 rfl 0 (v:=bU cq ((m+1:Nat):Int)) rn rfl rfl rfl DG λW S=>?_
       gi_wp2
       have f:=S.kept (xh.still (kG _));refine⟨f.1,f.2.1,m+1,cz ⟨by rw[Qt,<-I.o,q.o,df he],by rw[ji];exact succ_le_succ J⟩,?_⟩;exact(f.2.2.xN (k:=0) ae (g:=λ_=>bU cq ((m+1:Nat):Int)) λi G=>by have G:i<1:=G;obtain rfl:i=0:=cN;rfl).EY (λ_ _ h=>h.2) (kG _).mh
     . have Y:(((y.cY:Nat):Int)==((s.cY:Nat):Int))=cy:=by rw[lR];omega
       skip
       gi_wp2
       refine Aq sP S dC dC vw λW S=>?_;refine dh 0 (bX (s_ b o) l.n cap) ?_;refine dh 1 _ ?_;refine dh 2 (dE b (o+z.val*11)) ?_;refine dh 3 (dE b (o+z.val*11+3)) ?_;refine gZ 4 (bU ct y.cY) ae (gO (λw h=>by obtain⟨_,S⟩:=h;exact(HY.o.cP S.b).c3) ae fZ) ?_;refine dh 5 (dE a c) ?_;refine dh 6 (dE a c) ?_;refine dh 7 (dE a (c+3)) ?_;refine gZ 8 (bU ct s.cY) ae (gO (λw h=>by obtain⟨_,S⟩:=h;exact(H.cP S.b).c3) ae fZ) ?_;refine dh 9 (bZ cy) ?_;refine qx ?_
       gi_wp2
       have f:=S.kept (xh.still (kG _));refine⟨f.1,f.2.1,m,cz ⟨by rw[Qt,<-I.o,q.o,cZ he],by rw[ji];exact le_succ_of_le J⟩,f.2.2⟩
    case done=>
     clear S;rintro D ys W0 hD rfl ⟨m,j,S⟩ n;have O:T=decide (m=1):=by rw[HT.o,<-j.o.1]
     skip
     gi_upto_region 11 with fail
     gi_upto_region 11 with fail
     refine j9 sP dC vw ?_
     go_wp2_with refine jl 47 3 6 S 0 0 (bU cq m) ?_
     gi_wp2
     refine D0 S (lW.t.and (lW.av _)) cN n λM S=>?_;have e9:(((m:Nat):Int)==1)=T:=by rw[O];by_cases h:m=1<;>simp[h];omega
     exact⟨bZ T,by rw[<-e9];simp[results,f201,go_sem],ae,S.b⟩
    case stop=>
     rintro _ _ _ _ _ _ h _;exact h.elim
def M6(l:List dL)(v:c7)(c:l.n<=1000000)(s:dL)(a b:Nat)(w:cS)(R:gu w v l)(H:nE w a b s):
 tf 201 #[v,bW (cu ⟨a,b,cw⟩)] w (bZ (jM (eM l) s.todw)):=ue.1 (Pc l v c s a b w R H)
def kz(l:List dw)(s:dw):Bool:=
 if s.dB=0 then s.di.all λq=>decide (q.2.1<=0) else
 match fj l s.dB with
 |none=>cy
 |some i=>(dH l i).dz&& !(s.dz&&decide (s.cR<=(dH l i).cR))&&s.di.all λq=>decide (q.2.1<=(dH l i).cR)
def M7(l:List dL)(v:c7)(N:l.n<=1000000)(s:dL)(F:s.di.n<=1000000)(F I:Nat)(w:cS)(R:gu w v l)(H:nE w F I s)(J:zj w s):
 tf 200 #[v,bW (cu ⟨F,I,cw⟩)] w (bZ (kz (eM l) s.todw)):=by
 obtain⟨ao,cap,rfl,X,K⟩:=dP R.1;have K:=cz K;have z:=cz λW(F:dR w W)=>uk l _ s.dB N W (R.cP F);have S:=qR w;obtain⟨T,U⟩:=dI (kz (eM l) s.todw);rw[U];have f:=J;unfold zj at f;obtain⟨F,F,B,F,e⟩:=dP f;rw[B] at f;have e:=cz e;go_enter func200,ntmps200;by_cases D:s.dB=0
 . (have c:T=s.di.all λq=>decide (q.2.1<=0):=by rw[<-U];unfold kz;rw[df D]);have G:=cz c;clear c;go_upto_region 10 with(first|(refine jF ((H.cP S.b).c4) ae fZ ?_;rw[D])|(refine jF ((H.cP S.b).c10) ae ox ?_;rw[B]));have S:=cz S;go_loopw [52] (λi wr=>∃k:Nat,k<=s.di.n/\i=bU cq k/\Hid ((∀j(h:j<s.di.n),j<k->(s.di[j]).2.1<=0)/\St w cw [] [] [] (λ_ _=>True) wr)) (λi _=>s.di.n-(intOf i).m);exact amA;obtain⟨k,Y,rfl,hS⟩:=hrel;by_cases a:k<s.di.n
   . obtain⟨V,o9,e⟩:=e.o cN;obtain⟨q,g⟩:=dI (s.di[k]);obtain⟨A,I⟩:=fP (cL 3 (dF q));have d:=cz (kE s.di a (A:=A) (by rw[g];exact I));have F:=cz I;have S:=hS.o.2;have L:=cz hS.o.1;have O:(k:Int)<(s.di.n:Int):=cN;subst e;by_cases m:q.2.1<=0
     . have u:¬(0:Int)<(q.2.1:Int):=cN;go_wp2_with (first|refine jl 57 82 56 S 0 1 (bU ct q.2.1) ?_|refine AD (f.cP S.b) a (vu F) d.o ?_|refine fg λW S=>?_);go_roundw
       case rel=>exact⟨k+1,cN,by go_num,cz ⟨λj h p=>by
        rcases Di.1 p with h1|rfl
        . exact L.o j h h1
        . rw[g];exact m,S.pop⟩⟩
       case measure=>exact pR
     . (have u:(0:Int)<(q.2.1:Int):=cN;have t:T=cy:=by rw[G.o];exact Lq.2 λh=>by have:=rz.1 h q amX;exact m (by simpa using this));skip;go_wp2_with (first|refine jl 57 82 56 S 0 1 (bU ct q.2.1) ?_|refine AD (f.cP S.b) a (vu F) d.o ?_|refine fg λW S=>?_);go_ret;rw[t];exact az
   . (obtain rfl:k=s.di.n:=cN;have S:=hS.o.2;have n:T=cx:=by rw[G.o];exact rz.2 λq g=>by obtain⟨j,p,rfl⟩:=vJ.1 g;simpa using hS.o.1 j p p);go_wp2;go_ret;rw[n];exact az
 . have J:(((s.dB:Nat):Int) !=0)=cx:=by rw[fJ];omega
   cases Q:fj (eM l) s.dB with
   |none=>(rw[Q] at z;simp only[lF] at z;obtain rfl:cy=T:=by rw[<-U];unfold kz;rw[cZ D,Q]);skip;go_wp2_with (first|(first|refine jo 12 82 11 ((H.cP S.b).c4) ?_|refine jo 18 82 17 ((H.cP S.b).c4) ?_)|refine je S (z.o _ S.b) λW S=>?_);go_ret;exact az
   |some i=>
    obtain⟨J,x,Z,-⟩:=kL Q;have c:T=(x.dz&& !(s.dz&&decide (s.cR<=x.cR))&&s.di.all λq=>decide (q.2.1<=x.cR)):=by
     rw[<-U];unfold kz;rw[cZ D,Q];simp only;rw[lG Z]
    rw[Q] at z;simp only[lF] at z;obtain⟨b,o,rfl⟩:=K.o cN;have J:=cz (R.at Z);have N:(i:Int)<(l.n:Int):=cN;have N:¬(i:Int)<0:=cN;obtain⟨xs,y⟩:=dI x.dz;obtain⟨ss,E⟩:=dI s.dz;rw[y,E] at c;cases xs with
    |false=>
     obtain rfl:T=cy:=by rw[c];rfl
     clear c
     go_wp2_with first|(first|refine jo 12 82 11 ((H.cP S.b).c4) ?_|refine jo 18 82 17 ((H.cP S.b).c4) ?_)|refine je S (z.o _ S.b) λW S=>?_|(refine mi dC ?_;refine jF (v:=bZ cy) (by rw[<-y];exact(J.o.cP S.b).c2) ae tT ?_)
     go_ret;exact az
    |true=>
     obtain⟨r,C⟩:=dI x.cR;rw[C] at c;cases ss with
     |false=>
      have G:=cz (show T=s.di.all λq=>decide (q.2.1<=r) by rw[c];simp);clear c
      go_upto_region 10 with(first|(first|refine jo 12 82 11 ((H.cP S.b).c4) ?_|refine jo 18 82 17 ((H.cP S.b).c4) ?_)|refine je S (z.o _ S.b) λW S=>?_|(refine mi dC ?_;refine jF (v:=bZ cx) (by rw[<-y];exact(J.o.cP S.b).c2) ae tT ?_)|(refine jF ((J.o.cP S.b).c5) ae fZ ?_;rw[C])|refine jF (v:=bZ cy) (by rw[<-E];exact bM) ae tT ?_|(refine jF ((H.cP S.b).c10) ae ox ?_;rw[B]))
      have S:=cz S
      go_loopw [52] (λi wr=>∃k:Nat,k<=s.di.n/\i=bU cq k/\Hid ((∀j(h:j<s.di.n),j<k->(s.di[j]).2.1<=r)/\St w cw [] [] [] (λ_ _=>True) wr)) (λi _=>s.di.n-(intOf i).m)
      case atStart=>exact amA
      case round=>
       obtain⟨k,Y,rfl,hS⟩:=hrel;by_cases a:k<s.di.n
       . obtain⟨V,o9,e⟩:=e.o cN;obtain⟨q,g⟩:=dI (s.di[k]);obtain⟨A,I⟩:=fP (cL 3 (dF q));have d:=cz (kE s.di a (A:=A) (by rw[g];exact I));have F:=cz I;have S:=hS.o.2;have L:=cz hS.o.1;have O:(k:Int)<(s.di.n:Int):=cN;subst e;by_cases m:q.2.1<=r
         . have u:¬(r:Int)<(q.2.1:Int):=cN
           go_wp2_with first|refine jl 57 82 56 S 0 1 (bU ct q.2.1) ?_|refine AD (f.cP S.b) a (vu F) d.o ?_|refine fg λW S=>?_
           go_roundw
           case rel=>exact⟨k+1,cN,by go_num,cz ⟨λj h p=>by
            rcases Di.1 p with h1|rfl
            . exact L.o j h h1
            . rw[g];exact m,S.pop⟩⟩
           case measure=>exact pR
         . have u:(r:Int)<(q.2.1:Int):=cN;have t:T=cy:=by
            rw[G.o];exact Lq.2 λh=>by
             have:=rz.1 h q amX;exact m (by simpa using this)
           skip
           go_wp2_with first|refine jl 57 82 56 S 0 1 (bU ct q.2.1) ?_|refine AD (f.cP S.b) a (vu F) d.o ?_|refine fg λW S=>?_
           go_ret;rw[t];exact az
       . obtain rfl:k=s.di.n:=cN;have S:=hS.o.2;have n:T=cx:=by
          rw[G.o];exact rz.2 λq g=>by
           obtain⟨j,p,rfl⟩:=vJ.1 g;simpa using hS.o.1 j p p
         go_wp2;go_ret;rw[n];exact az
     |true=>
      by_cases M:s.cR<=r
      . have N:(s.cR:Int)<=(r:Int):=cN;obtain rfl:T=cy:=by rw[c];simp[M]
        clear c
        go_wp2_with first|(first|refine jo 12 82 11 ((H.cP S.b).c4) ?_|refine jo 18 82 17 ((H.cP S.b).c4) ?_|refine jg 44 82 43 ((H.cP S.b).c5) ?_)|refine je S (z.o _ S.b) λW S=>?_|(refine mi dC ?_;refine jF (v:=bZ cx) (by rw[<-y];exact(J.o.cP S.b).c2) ae tT ?_)|(refine jF ((J.o.cP S.b).c5) ae fZ ?_;rw[C])|refine jF (v:=bZ cx) (by rw[<-E];exact bM) ae tT ?_
        go_ret;exact az
      . have N:¬(s.cR:Int)<=(r:Int):=cN;have G:=cz (show T=s.di.all λq=>decide (q.2.1<=r) by rw[c];simp[M]);clear c
        go_upto_region 10 with(first|(first|refine jo 12 82 11 ((H.cP S.b).c4) ?_|refine jo 18 82 17 ((H.cP S.b).c4) ?_|refine jg 44 82 43 ((H.cP S.b).c5) ?_)|refine je S (z.o _ S.b) λW S=>?_|(refine mi dC ?_;refine jF (v:=bZ cx) (by rw[<-y];exact(J.o.cP S.b).c2) ae tT ?_)|(refine jF ((J.o.cP S.b).c5) ae fZ ?_;rw[C])|refine jF (v:=bZ cx) (by rw[<-E];exact bM) ae tT ?_|(refine jF ((H.cP S.b).c10) ae ox ?_;rw[B]))
        have S:=cz S
        go_loopw [52] (λi wr=>∃k:Nat,k<=s.di.n/\i=bU cq k/\Hid ((∀j(h:j<s.di.n),j<k->(s.di[j]).2.1<=r)/\St w cw [] [] [] (λ_ _=>True) wr)) (λi _=>s.di.n-(intOf i).m)
        case atStart=>exact amA
        case round=>
         obtain⟨k,Y,rfl,hS⟩:=hrel;by_cases a:k<s.di.n
         . obtain⟨V,o9,e⟩:=e.o cN;obtain⟨q,g⟩:=dI (s.di[k]);obtain⟨A,I⟩:=fP (cL 3 (dF q));have d:=cz (kE s.di a (A:=A) (by rw[g];exact I));have F:=cz I;have S:=hS.o.2;have L:=cz hS.o.1;have O:(k:Int)<(s.di.n:Int):=cN;subst e;by_cases m:q.2.1<=r
           . have u:¬(r:Int)<(q.2.1:Int):=cN
             go_wp2_with first|refine jl 57 82 56 S 0 1 (bU ct q.2.1) ?_|refine AD (f.cP S.b) a (vu F) d.o ?_|refine fg λW S=>?_
             go_roundw
             case rel=>exact⟨k+1,cN,by go_num,cz ⟨λj h p=>by
              rcases Di.1 p with h1|rfl
              . exact L.o j h h1
              . rw[g];exact m,S.pop⟩⟩
             case measure=>exact pR
           . have u:(r:Int)<(q.2.1:Int):=cN;have t:T=cy:=by
              rw[G.o];exact Lq.2 λh=>by
               have:=rz.1 h q amX;exact m (by simpa using this)
             skip
             go_wp2_with first|refine jl 57 82 56 S 0 1 (bU ct q.2.1) ?_|refine AD (f.cP S.b) a (vu F) d.o ?_|refine fg λW S=>?_
             go_ret;rw[t];exact az
         . obtain rfl:k=s.di.n:=cN;have S:=hS.o.2;have n:T=cx:=by
            rw[G.o];exact rz.2 λq g=>by
             obtain⟨j,p,rfl⟩:=vJ.1 g;simpa using hS.o.1 j p p
           go_wp2;go_ret;rw[n];exact az
end
section
open Go.Maps (Keyed IsMap)
def aj8:laidOutB prog=cx:=dC
def Im:Keyed prog 258:=Keyed.of_law (deep_law_laid aj8 (m:=3) cN (l6 dC) dC nz)
theorem alc(d:Nat)(h:n<18446744073709551616):prog.keyLits (d+1) 82 [.int .u64 n]=some [.int .u64 n]:=by simp_all[Program.keyLits,wf_u64]
theorem kl9(d:Nat){s:fF}(h:s.size<=maxLen):prog.keyLits (d+1) 9 [.string s]=some [.string s.data.toList]:=by simp_all[Program.keyLits]
def ald:prog.cellsOf 258=2:=dC
def c82:prog.cellsOf 82=1:=dC
def c9:prog.cellsOf 9=1:=dC
theorem tsz:∃d,prog.types.s=d+1:=by simp_all
def aj9:prog.keyType 258=cx:=dC
theorem aiJ(c:Nat×fF)(f:c.1<18446744073709551616)(g:c.2.size<=maxLen):∃kl,keyOf prog 258 (.agg (cL 2 (sR c)))=some kl:=by
 have e:prog.keyLits (prog.types.size+1) 258 [.int .u64 c.1,.string c.2]=some ([.int .u64 c.1]++[.string c.2.data.toList]):=by obtain⟨d,b⟩:=tsz;rw[b];unfold Program.keyLits;simp_all[ald,c82,c9,alc,kl9]
 have a:(Value.agg (cL 2 (sR c))).formed prog 258=true:=by rfl
 unfold keyOf;rw[underlying258];simp only[aj9,a,Bool.and_self,oR];rw[DM];show∃kl,(prog.keyLits (prog.types.size+1) 258 [.int .u64 c.1,.string c.2]).map _=some kl
 simp_all
def abT(b n:Nat)(D:DataW Unit):cV->cS->Prop:=λB w=>w.ownsMap prog 258 (plainElem prog 3) b n D/\b∉B
def Io{b:Nat}{D:DataW Unit}(h:w.ownsMap prog 258 (plainElem prog 3) b n D)(f:w'.h[b]?=w.h[b]?):w'.ownsMap prog 258 (plainElem prog 3) b n D:=by obtain⟨c,a,d,e⟩:=h;exact⟨c,a,f.trans d,e⟩
def Qu(b n:Nat)(D:DataW Unit):lO cw (abT b n D) where
 cP:=λh hb=>⟨Io h.1 (hb.block b h.1.lt),h.2⟩
 add:=λh hb=>⟨h.1,λhm=>by
  rcases iZ.1 hm with e|hm
  . have:=h.1.lt;omega
  . exact h.2 hm⟩
 mono:=λh hs=>⟨h.1,λhm=>h.2 (hs _ hm)⟩
 but:=fun {B w w' c t} h hc hb _ _ _=>⟨Io h.1 (hb.block b h.1.lt λe=>h.2 (e▸hc)),h.2⟩
 dev:=λ_ e=>by cases e
section
variable {x v:Nat}
def mkMap(S:St w0 cw l L O (λ_ _=>True) w)(h:∀W,St w0 cw l L O (abT w.h.s 0 (.map [])) W->wpList prog ops Q rest (a.put (cu dst) (.map (cu w.h.s))) W):
 wpList prog ops Q (⟨cu dst,.makeMap ty cw,t2,p,af,cw⟩::rest) a w:=by refine mC ae λK c=>?_;unfold Oper.wp;simp only[execOp,lh,rR,Result.andThen,run_makeMap];refine c _ _ (h _ ?_);have d:dR w (w.alloc (.map #[] 0)):=(gJ _ _).alloc (eN _) _;have b:=S.cP d;exact⟨b.fr,b.row,b.own,b.lo,b.nd,⟨World.ownsMap_made w prog 258 _,λe=>ud _ (S.lt _ e)⟩,Qu _ _ _⟩
def ZG{b:Nat}{D:DataW Unit}(S:St w0 cw l L O (abT b n D) w)(e:a.eval (.tmp m)=.map (cu b))(f:a.eval (.tmp x)=key)(d:keyOf prog 258 key=cu kl)(h:∀c:Int,wpList prog ops Q rest (a.put (cu dst) (cg #[bU cq c,bZ (Maps.has D kl)])) w):
 wpList prog ops Q (⟨cu dst,.lookup 290 (.tmp m) (.tmp x) cx,t2,p,af,cw⟩::rest) a w:=
 wpList_lookup_own_ok_int w ae (.tmp m) (.tmp x) 290 ae 258 3 cq Im underlying290 vP dC b n D e S.x.1 key kl f d λc _ _=>h c
theorem aiK{b:Nat}{D:DataW Unit}(S:St w0 none l L O (abT b n D) w)(e:w0.heap.size<=b)(y:n<=1000000){i:Int}(j:(Lit.int .i64 i).wf=true)(o:a.eval (.tmp m)=.map (some b))(s:a.eval (.tmp x)=key)(r:a.eval (.tmp v)=.int .i64 i)(k:keyOf prog 258 key=some kl)(h:∀W,St w0 none l L O (abT b (n+1) (D.put kl (.lit (.int .i64 i)))) W->wpList prog ops Q rest (a.put none undef) W):
 wpList prog ops Q (⟨none,.mapUpdate 290 (.tmp m) (.tmp x) (.tmp v),t2,p,af,none⟩::rest) a w:=by
 refine wpList_mapUpdate_own w ae (.tmp m) (.tmp x) (.tmp v) 290 ae 258 3 Im underlying290 (plainElem prog 3) b n D o S.x.1 bJ key _ kl s r k _ [] (plainElem_int vP j) λW ho g=>h W ?_;have f:=uW g;have q:iA w b=none:=by obtain⟨t,d,u,_⟩:=S.x.1;grind[iA]
 have c:=(S.EY (X':=λ_ _=>True) (λ_ _ _=>iG) xh).obj f q e lW.t;exact⟨c.fr,c.row,c.own,c.lo,c.nd,⟨ho,S.x.2⟩,Qu _ _ _⟩
end
theorem aeH{c a:Nat×fF}(h:Value.agg (cL 2 (sR c))=bV (cL 2 (sR a))):c=a:=by rw[DM,DM] at h;grind
noncomputable def D5(seen:List (Nat×fF))(c:Nat×fF):Bool:=@decide (c∈seen) (Classical.propDecidable _)
theorem Bp{seen:List (Nat×fF)}{c:Nat×fF}:D5 seen c=cx↔c∈seen:=by simp_all[D5]
theorem Yd(seen:List (Nat×fF))(d c:Nat×fF)(h:c≠d):D5 (seen++[d]) c=D5 seen c:=by rw[wM,Bp,Bp];simp[h]
def M8(D:DataW Unit)(seen:List (Nat×fF)):Prop:=IsMap D/\∀c kl,keyOf prog 258 (bV (cL 2 (sR c)))=cu kl->Maps.has D kl=D5 seen c
theorem M8.nil:M8 (.map []) []:=⟨Maps.isMap_empty,λc _ _=>(Lq.2 λh=>by grind[Bp]).symm⟩
theorem M8.put{D:DataW Unit}(h:M8 D seen){c:Nat×fF}(f:keyOf prog 258 (bV (cL 2 (sR c)))=cu kl)(d:DataW Unit):M8 (D.put kl d) (seen++[c]):=by refine⟨h.1.put _ _,λg b a=>?_⟩;by_cases e:b=kl;subst e;have hc:=aeH (Im.inj a f);subst hc;rw[Maps.has_put_same h.1 (Im.key f)];grind[Bp];rw[Maps.has_put_other e,h.2 g b a];grind[Yd]
noncomputable def oF(next:Nat):Nat->List (Nat×fF)->List dw->Bool
 |_,_,[]=>cx
 |last,seen,x::r=>fx x&&decide (last<x.id)&&decide (x.id<next)&& !D5 seen (dG x)&&oF next x.id (seen++[dG x]) r
noncomputable def nt(next:Nat)(l:List dw):Bool:=
 if 281474976710655<next∨32<l.n then cy else
 oF next 0 [] l&&l.all λx=>kz l x&&jM l x
theorem Pd{s:dw}(h:fx s=cx):s.name.s<=maxLen:=by unfold fx at h;simp only[wN] at h;have a:=h.1.1.1.2;unfold eo at a;simp only[wN,qS] at a;grind[maxLen]
theorem M9{s:dw}(h:fx s=cx):s.cY<=281474976710655:=by simp_all[fx]
end
theorem Ye{x:dw}(a:fx x=cx):∃kl,keyOf prog 258 (bV (cL 2 (sR (dG x))))=cu kl:=by have ho:=M9 a;have b:=Pd a;refine aiJ _ ?_ ?_;grind[dG];grind[dG]
theorem Yf{next a:Nat}{l:List dL}{x:dL}(b:l[k]?=cu x):oF next a seen ((eM l).drop k)=(fx x.todw&&decide (a<x.id)&&decide (x.id<next)&& !D5 seen (dG x.todw)&&oF next x.id (seen++[dG x.todw]) ((eM l).drop (k+1))):=by grind[eM,drop_eq_getElem?_toList_append,oF]
section
attribute[local irreducible]wpList Code.wp Calls Oper.wp wpAnyH
theorem Sp(next:Nat)(l:List dL)(v:c7)(hd:∀x∈l,x.di.length<=1000000)(hl:l.length<=1000000)(w:cS)(R:gu w v l):
 tf 151 #[.int .u64 next,v] w (.bool (nt next (eM l))):=by
 obtain⟨ao,cap,rfl,b2,B⟩:=dP R.1;have q:=cz R;have B:=cz B;have r:(eM l).length=l.length:=by unfold eM;rw[mQ]
 obtain⟨T,H⟩:=dI (nt next (eM l));rw[H];have O:=cz hd;have S:=qR w;clear R hd;go_enter func151,ntmps151;by_cases hn:281474976710655<next
 . (obtain rfl:T=false:=by rw[<-H];unfold nt;rw[df (.inl hn)]);have a7:(281474976710655:Int)<(next:Int):=cN;clear H r;go_wp2;go_ret;exact az
 have a7:¬(281474976710655:Int)<(next:Int):=cN;by_cases a8:32<l.length
 . (obtain rfl:T=false:=by rw[<-H];unfold nt;rw[df (.inr (by rw[r];exact a8))]);have a9:(32:Int)<(l.length:Int):=cN;clear H r;go_wp2;go_ret;exact az
 have a9:¬(32:Int)<(l.length:Int):=cN;have Y:T=(oF next 0 [] (eM l)&& (eM l).all λx=>kz (eM l) x&&jM (eM l) x):=by rw[<-H];unfold nt;rw[cZ (by rw[r];omega)]
 have F:=cz Y;clear Y H r hn;go_upto_region 6 with(refine mkMap S λW S=>?_);go_loopw [6,23] (λla i wr=>∃(k m:Nat)(seen:List (Nat×fF))(D:DataW Unit),k<=l.length/\i=.int .i64 k/\la=.int .u64 m/\Hid (M8 D seen/\oF next 0 [] (eM l)=oF next m seen ((eM l).drop k)/\St w none [] [] [] (abT w.heap.size k D) wr)) (λ_ i _=>l.length-(intOf i).toNat);exact⟨0,0,[],.map [],cN,ae,ae,cz ⟨M8.nil,ae,S⟩⟩;clear S;obtain⟨k,m,seen,D,hk,rfl,rfl,hS⟩:=hrel;by_cases e:k<l.length
 . (obtain⟨b,o,rfl⟩:=B.o cN;obtain⟨x,y⟩:∃x,l[k]?=some x:=⟨_,jE e⟩;have S:=hS.o.2.2;have Q:=cz hS.o.1;have J:=hS.o.2.1;rw[Yf y] at J;have d:=cz J;have t:=cz (q.o.at y);have a6:(k:Int)<(l.length:Int):=cN;clear hS J;obtain⟨A,hA⟩:=fP (cL 11 (iw x));have a1:l[k]=x:=by grind);have h:=cz (nD l e (A:=A) (by rw[a1];exact hA));have N:=cz hA;have a:x∈l:=kA y;obtain⟨sr,n⟩:=dI (fx x.todw);have s:=cz λW(u:dR w W)=>Hq x A hA (O.o x a) W ((q.o.cP u).2 x a);rw[n] at s;have C:=cz λW(u:dR w W)=>Mt b (o+k*11) x W (t.o.cP u);clear y a1 hA a;cases sr with|false=>have j:=cz (show T=false by rw[F.o,d.o,n];rfl);go_wp2_with (first|refine AD (q.o.cP S.b).1 e (vu N) h.o ?_|refine je S (s.o _ S.b) λW S=>?_);go_ret;rw[j.o];exact az|true=>have a2:=cz n;by_cases V:m<x.id;(case neg=>have a4:decide (x.id<=m)=true:=gM cN;have j:=cz (show T=false by rw[F.o,d.o,jG V];simp);clear V n;go_wp2_with (first|refine jg 38 82 37 ((t.o.cP S.b).c0) ?_|refine AD (q.o.cP S.b).1 e (vu N) h.o ?_|refine je S (s.o _ S.b) λW S=>?_);go_ret;rw[j.o];exact az);(have a4:decide (x.id<=m)=false:=jG cN;by_cases h2:x.id<next);(case neg=>have a5:decide (next<=x.id)=true:=gM cN;have j:=cz (show T=false by rw[F.o,d.o,jG h2];simp);clear V h2 n;go_wp2_with (first|(first|refine jg 38 82 37 ((t.o.cP S.b).c0) ?_|refine jg 46 82 45 ((t.o.cP S.b).c0) ?_)|refine AD (q.o.cP S.b).1 e (vu N) h.o ?_|refine je S (s.o _ S.b) λW S=>?_);go_ret;rw[j.o];exact az);have a5:decide (next<=x.id)=false:=jG cN;obtain⟨kl,f⟩:=Ye n;obtain⟨G,X⟩:=dI (dG x.todw);have d:=cz (show oF next 0 [] (eM l)=(!D5 seen G&&oF next x.id (seen++[G]) ((eM l).drop (k+1))) by rw[d.o,a2.o,gM V,gM h2,X];rfl);rw[X] at f C;have b1:=Q.o.2 G kl f;obtain⟨A2,z⟩:=yB (cL 2 (sR G));rw[<-z.o] at f;have p:=cz f;clear V h2 n f;obtain⟨sn,g⟩:=dI (D5 seen G);rw[g] at b1;cases sn with|true=>have j:=cz (show T=false by rw[F.o,d.o,g];rfl);clear g;go_wp2_with (first|(first|refine jg 38 82 37 ((t.o.cP S.b).c0) ?_|refine jg 46 82 45 ((t.o.cP S.b).c0) ?_|refine jo 53 82 52 ((t.o.cP S.b).c0) ?_)|refine AD (q.o.cP S.b).1 e (vu N) h.o ?_|refine je S (s.o _ S.b) λW S=>?_|(refine je S (C.o _ S.b) λW S=>?_;rw[<-z.o])|(refine ZG S ae ae p.o ?_;intro c)|refine fL ?_|refine fg λW S=>?_);go_ret;rw[j.o];exact az|false=>have d:=cz (show oF next 0 [] (eM l)=oF next x.id (seen++[G]) ((eM l).drop (k+1)) by rw[d.o,g];rfl);have a3:=cz (wf_i64 (x:=k) cN);clear g;go_wp2_with (first|(first|refine jg 38 82 37 ((t.o.cP S.b).c0) ?_|refine jg 46 82 45 ((t.o.cP S.b).c0) ?_|refine jo 53 82 52 ((t.o.cP S.b).c0) ?_)|refine AD (q.o.cP S.b).1 e (vu N) h.o ?_|refine je S (s.o _ S.b) λW S=>?_|(refine je S (C.o _ S.b) λW S=>?_;rw[<-z.o])|(refine ZG S ae ae p.o ?_;intro c)|refine aiK S (eN _) cN (i:=(k:Nat)) a3.o rfl rfl rfl p.o λW S=>?_|refine fL ?_|refine fg λW S=>?_);go_roundw;exact⟨k+1,x.id,seen++[G],D.put kl (.lit (.int .i64 ((k:Nat):Int))),cN,by go_num,ae,cz ⟨Q.o.put (by rw[<-z.o];exact p.o) _,d.o,S.pop⟩⟩;exact pR
 . obtain rfl:k=l.length:=cN;have S:=hS.o.2.2.EY (X':=λ_ _=>True) (λ_ _ _=>iG) xh;have F:=cz (show T=(eM l).all λx=>kz (eM l) x&&jM (eM l) x by
    rw[F.o,hS.o.2.1];rw[drop_eq_nil_of_le (by unfold eM;rw[mQ];omega)];rfl)
   clear hS;go_upto_region 19 with(fail);go_loopw [69] (λi wr=>∃k:Nat,k<=l.length/\i=.int .i64 k/\Hid ((T=((eM l).drop k).all λx=>kz (eM l) x&&jM (eM l) x)/\St w none [] [] [] (λ_ _=>True) wr)) (λi _=>l.length-(intOf i).toNat);exact⟨0,cN,ae,cz ⟨F.o,S⟩⟩;clear S;obtain⟨k,hk,rfl,hS⟩:=hrel;by_cases e:k<l.length
   . (obtain⟨b,o,rfl⟩:=B.o cN;obtain⟨x,y⟩:∃x,l[k]?=some x:=⟨_,jE e⟩;have S:=hS.o.2;have Z:(eM l)[k]?=some x.todw:=by unfold eM;rw[rO,y];rfl);have K:=hS.o.1;rw[drop_eq_getElem?_toList_append,Z] at K;have E:=cz (show T=((kz (eM l) x.todw&&jM (eM l) x.todw)&& ((eM l).drop (k+1)).all λx=>kz (eM l) x&&jM (eM l) x) from K);have a:x∈l:=kA y;have s:=cz λW(u:dR w W)=>M7 l _ hl x (O.o x a) b (o+k*11) W (q.o.cP u) ((q.o.cP u).at y) ((q.o.cP u).2 x a);have C:=cz λW(u:dR w W)=>M6 l _ hl x b (o+k*11) W (q.o.cP u) ((q.o.cP u).at y);have a6:(k:Int)<(l.length:Int):=cN;obtain⟨er,I⟩:=dI (kz (eM l) x.todw);obtain⟨M,L⟩:∃M,jM (eM l) x.todw=M:=⟨_,ae⟩;rw[I,L] at E;rw[I] at s;rw[L] at C;clear hS y Z K a I L;rcases er with _|_;rotate_left;rcases M with _|_;rotate_left
     . go_wp2_with (first|refine je S (s.o _ S.b) λW S=>?_|refine je S (C.o _ S.b) λW S=>?_);go_roundw;exact⟨k+1,cN,by go_num,cz ⟨E.o,S⟩⟩;exact pR
     all_goals
      go_wp2_with first|refine je S (s.o _ S.b) λW S=>?_|refine je S (C.o _ S.b) λW S=>?_
      go_ret;rw[E.o];exact az
   . obtain rfl:k=l.length:=cN;have S:=hS.o.2;have U:=cz (show T=true by
      rw[hS.o.1];rw[drop_eq_nil_of_le (by unfold eM;rw[mQ];omega)];rfl)
     clear hS;go_wp2;go_ret;rw[U.o];exact az
end
def agX:qW 40=[]:=by rfl
theorem Na(c:pD s.dv)(hc:(eX s [cO] 40).2.2=0):(eX s [cO] 40).2.1.n=40:=by have a:pH s [cO]=jU (s,([],0)) cO:=rfl;have b:(gr s cO).2.1.n=128:=(DC c cO).1;by_cases e:(gr s cO).2.2=0;(have d:pH s [cO]=((gr s cO).1,([]++(gr s cO).2.1,0)):=by rw[a];unfold jU;grind);unfold eX at hc|-;grind;(have d:pH s [cO]=((gr s cO).1,([],(gr s cO).2.2)):=by rw[a];unfold jU;grind);unfold eX at hc;grind
theorem Nb(d:pD s.dv)(hc:(eP s cO 40).2.2.2=0):(eP s cO 40).2.1.n=40:=by unfold eP at hc|-;rw[agX] at hc|-;by_cases a:kM 40=[]∨cO=cX;grind;(rw[cZ a] at hc|-;show((if(eX s [cO] 40).2.2≠0 then((eX s [cO] 40).1,([],[],(eX s [cO] 40).2.2)) else((eX s [cO] 40).1,((eX s [cO] 40).2.1,[cO],0))):Pl×(cV×List cQ×Int)).2.1.n=40;have b:((if(eX s [cO] 40).2.2≠0 then((eX s [cO] 40).1,([],[],(eX s [cO] 40).2.2)) else((eX s [cO] 40).1,((eX s [cO] 40).2.1,[cO],0))):Pl×(cV×List cQ×Int)).2.2.2=0:=hc;by_cases c:(eX s [cO] 40).2.2=0);simp_all[Na];grind
theorem Fz(c:∀y∈bs,y<256){l:List dw}(h:lM bs=cu (n,l)):l.n<=32/\∀s∈l,tU s/\s.di.n<=4000:=by unfold lM at h;split at h;cases h;next ts hts=>have d:=EK hts c;split at h;cases h;next h33=>split at h;cases h;split at h;cases h;next l2 hl2=>split at h;cases h;split at h;(cases h;have key:∀(xs:List cV)(m:List dw),(∀x∈xs,∀y∈x,y<256)->mK xs=cu m->m.n=xs.n/\∀s∈m,tU s/\s.di.n<=4000:=by intro xs;induction xs with|nil=>intro m _ a;cases a<;>grind|cons x xs ih=>intro m e a;unfold mK at a;split at a;cases a;next s hs=>split at a;cases a;next r hr=>cases a;obtain⟨g,i⟩:=ih r (λy f=>e y (lu _ f)) hr;refine⟨by grind,λz b=>?_⟩;rcases iZ.1 b with rfl|b;grind[Ht];grind);grind;cases h
theorem Ko:∀(l:List dw){next a:Nat}{seen:List (Nat×fF)},oF next a seen l=cx->∀s∈l,fx s=cx
 | [],_,_,_,_,s,hs=>by cases hs
 |x::l,next,a,seen,h,s,hs=>by
  unfold oF at h;simp only[wN] at h;rcases iZ.1 hs with rfl|hs
  . grind
  . exact Ko l h.2 s hs
theorem KZ{s:dw}(h:fx s=cx):s.name.s<=24:=by simp_all[fx,eo]
theorem aeI{bs:cV}(c:∀y∈bs,y<256){n:Nat}{l:List dw}(h:lM bs=cu (n,l))(a:nt n l=cx):fG ⟨n,l⟩:=by obtain⟨e,b⟩:=Fz c h;unfold nt at a;split at a;cases a;next hn=>simp only[wN] at a;have f:=Ko l a.1;refine⟨?_,⟨?_,λt g=>⟨?_,?_⟩⟩,λs d=>(b s d).1⟩;grind;grind;grind;grind[KZ]
def tF:ee:=⟨0,[]⟩
noncomputable def ml3(n:Nat)(a:List cQ)(h g:Pl×(cV×List cQ×Int)):ee×(List (Int×Int)×(List cQ×Int)):=
 match lM h.2.1 with
 |none=>(tF,([],([],91)))
 |some nl=>if nt nl.1 nl.2=cy then(tF,([],([],91))) else
  match pI (n:Nat) g.2.1 with
  |none=>(tF,([],([],91)))
  |some zs=>(⟨nl.1,nl.2⟩,(zs,((a++h.2.2.1)++g.2.2.1,0)))
noncomputable def ml2(a h:Pl×(cV×List cQ×Int)):Pl×(ee×(List (Int×Int)×(List cQ×Int))):=
 let g:=jZ h.1 (a.2.1.drop 20)
 if g.2.2.2≠0 then(g.1,(tF,([],([],CX g.2.2.2)))) else(g.1,ml3 g.1.dv.n a.2.2.1 h g)
noncomputable def ml1(a:Pl×(cV×List cQ×Int)):Pl×(ee×(List (Int×Int)×(List cQ×Int))):=
 let h:=jZ a.1 (a.2.1.take 20)
 if h.2.2.2≠0 then(h.1,(tF,([],([],CX h.2.2.2)))) else ml2 a h
noncomputable def ke(s:Pl)(iL:cQ):Pl×(ee×(List (Int×Int)×(List cQ×Int))):=
 if(eP s iL 40).2.2.2≠0 then((eP s iL 40).1,(tF,([],([],CX (eP s iL 40).2.2.2)))) else ml1 (eP s iL 40)
theorem Sq{p q r s:Tmp}{g:Nat}{t:dU}{d:TypeDesc}(h:fn.results=#[.cell p ty,.tmp q,.tmp r,.tmp s])(j:tmps.getD p undef=bW (cu ⟨g,0,cw⟩))(c:cM w g t n f)(e:P.underlying ty=cu d)(b:(match d with| .struct _| .array _ _=>cx|_=>cy)=cx)(i:(P.info? ty).map (·.size)=cu n):
 (results fn tmps).run P w=.ok (cg #[bV (cL n f),tmps.getD q undef,tmps.getD r undef,tmps.getD s undef]) w:=by
 have a:tmps[p]?.getD undef=dE g 0:=by simp_all
 simp[results,h,a,asAddr,Ja w g t ty (cL n f) (0,0) d c e b aG,Result.andThen]
section
theorem Cs(S:St w0 d l L O X w)(k:Nat){p q b c:Tmp}(j:L[k]?=cu r)(h:fn.results=#[.cell p ty,.tmp q,.tmp b,.tmp c])(m:a.tmps.getD p undef=bW (cu ⟨r.b,0,cw⟩))(n:kg P ty r.n)(i:a.defers=[])(g:R (cj (cg #[bV (cL r.n r.f),a.tmps.getD q undef,a.tmps.getD b undef,a.tmps.getD c undef])) w):bodyPost P fn R .ret a w:=by obtain⟨⟨o,e,s⟩,f⟩:=n;exact iH (Sq h m (S.oW j) e jv f) i g
def St.agZ(S:St w0 d l L O X w)(h:H9 w base v bs)(e:∀b∈eS L O,b<base∨iA w b≠cu 5):St w0 d l L O (λB w=>X B w/\yX 5 1 v bs.n (ej bs) B w) w:=
 S.DN (fE 5 1 v _ _ ae ae) ⟨h.sl,λc b a f=>by
  rcases e b f with h1|h1
  . have:=h.new c b a;omega
  . exact h1 (h.sl.ty a c)⟩
def St.Sr(S:St w0 d l L O X w)(f:Fr d2 l2 w w')(g:∀D,d2=cu D->d=cu D)(i:∀k∈l2,k∈l∨w0.h.s<=k)(m:lO d X')(n:∀B,X B w->X' B w'){q:c7}(h:H9 w' w.h.s v bs)(ho:il w' w.h.s q ps):St w0 d l L (⟨106,3,q,ps.n,iS ps⟩::O) (λB w=>X' B w/\yX 5 1 v bs.n (ej bs) B w) w':=by refine(S.uh f g i m n ho ae ae).agZ h λb c=>?_;rcases iB.1 c with⟨r,j,e⟩|⟨o,a,e⟩;exact .inl (S.lt b (iB.2 (.inl ⟨r,j,e⟩)));rcases iZ.1 a with rfl|a;exact .inr (by rw[wC ho e];decide);exact .inl (S.lt b (iB.2 (.inr ⟨o,a,e⟩)))
end
def adZ:prog.built 99 []=cu #[bU ct 0,bX cw 0 0]:=dC
theorem Pe(s:Pl)(cO:cQ)(n:Int):(eP s cO n).2.1.n<=65535:=by unfold eP;split;grind;next h=>simp only;split;grind;split;grind;(have b:n.m<=65535:=by have a:kM n≠ []:=λe=>h (.inl e);unfold kM at a;grind);(show(eX _ _ _).2.1.n<=_;unfold eX);grind
theorem Ss(s:Pl)(a:cV):(jZ s a).2.1.n<=65535:=by unfold jZ;split;grind;grind[Pe]
theorem Ab(s:Pl)(a:cV):(jZ s a).2.2.1.n<=6000:=by unfold jZ;split;grind;grind[sL]
def abU(w:cS)(base:Nat):lY w base (cL 2 (dO xm)) tF:=⟨xm,ae,ae,iD _ _ _ _,λx a=>by cases a⟩
section
attribute[local irreducible]wpList Code.wp Calls Oper.wp wpAnyH
theorem Ip(P D K:Nat)(s:Pl)(cO:cQ)(hr:dD cO)(w:cS)(h:fc w P D K s):
 CP_ 87 #[bW (cu ⟨P,0,cw⟩),mO cO] w λe w'=>∃B r q,e=cj (cg #[bV B,r,q,bU cq (ke s cO).2.2.2.2])/\lY w' w.h.s B (ke s cO).2.1/\nX w' w.h.s r (ke s cO).2.2.1/\fm w' r (ke s cO).2.2.1/\il w' w.h.s q (ke s cO).2.2.2.1/\fO (ke s cO).2.2.2.1/\fc w' P D K (ke s cO).1/\Fr (cu D) [] w w':=by
 obtain⟨A,hA⟩:=fP (cL 3 (dF cO));have S:=St.start w (cu D) [] (dQ P D K s) h;have C1:=cz λW h=>x8 P D K s cO hr 40 W h;have o:=Nb h.dev.ok (cO:=cO);have a1:=sL s cO 40;obtain⟨ML,C⟩:=dI (ke s cO);rw[C,dk hA];rw[dk hA] at C1;unfold ke at C;obtain⟨a,Y⟩:=dI (eP s cO 40);rw[Y] at C1 C o a1;obtain⟨s1,g,n,c1⟩:=a;simp only at C1 o a1;have HA:=cz hA;clear hA Y h hr;go_enter func87,ntmps87;go_upto_region 2 with(first|(refine(C1.o _ S.x).mono ?_;rintro e W ⟨r,q,rfl,F,N,t,hp,hf⟩;have I:=cz (dP F.sl);have J:=cz (dx N);have b1:=cz t;have V:=cz F.lt;replace S:=S.Sr hf ax eQ (dQ P D K s1) (λB h=>hp) F N;clear F N t;obtain⟨Y,hc,rfl,d4,-⟩:=I.o;obtain⟨qa,qc,rfl⟩:=J.o)|refine fL ?_|refine fg λW S=>?_);by_cases E:c1=0;case neg=>have g3:(c1 !=0)=cx:=fJ.2 E;have l:=cz (show ML=(s1,(tF,([],([],CX c1)))) by rw[<-C,df E]);clear E C;go_wp2_with first|(refine(Jt _ _).mono ?_;rintro e W' ⟨rfl,rfl⟩)|(refine Cs S 0 ae ae ae nT ae ?_;rw[l.o];exact⟨_,_,_,ae,abU _ _,iD _ _ _ _,fm.nil _,il.nil _ _,dS,S.x.1,S.fr⟩)|refine fL ?_|refine fg λW S=>?_
 subst E;have d:ML=ml1 (s1,(g,(n,0))):=by rw[<-C,cZ (λh=>h ae)]
 replace o:=o ae;unfold ml1 at d;simp only at d;have a4:(g.take 20).n=20:=by rw[lP,o];rfl
 have Z:(g.drop 20).n=20:=by rw[tY,o]
 have C2:=cz λv W h R=>Km P D K s1 (g.take 20) a4 (λx p=>V.o x (lQ p)) v W h R;have d1:=cz λW(R:c8 W 5 1 (bX Y g.n hc) g.n (ej g))=>(show c8 W 5 1 (bX Y 20 hc) 20 (ej (g.take 20)) from by have z:=c8.take R (i:=20) cN;rwa [sM,um] at z);obtain⟨da,a8⟩:=sO (lz Y hc 20 1);have d2:=cz λW(R:c8 W 5 1 (bX Y g.n hc) g.n (ej g))=>(show c8 W 5 1 (bX da (g.n-20) (hc-20)) 20 (ej (g.drop 20)) from by have z:=c8.CU R (i:=20) cN;rw[sM,xo,a8.o,show g.n-20=20 by omega] at z;rw[show g.n-20=20 by omega];exact z);have d3:(20:Nat)<=g.n:=cN;have b5:(20:Nat)<=hc:=cN;have a2:=Ab s1 (g.take 20);have a5:=Ss s1 (g.take 20);obtain⟨a,M⟩:=dI (jZ s1 (g.take 20));rw[M] at C2 d a2 a5;obtain⟨s2,tx,O,c2⟩:=a;simp only at C2 d a2 a5;clear M C o a4;go_upto_region 5 with(first|refine Uv ve ae ae (y:=20) b5 ?_|(refine(C2.o _ _ S.x.1 (d1.o _ S.x.2.1)).mono ?_;rintro e W ⟨r,q,rfl,F,N,t,hp,hf⟩;have I:=cz (dP F.sl);have J:=cz (dx N);have b2:=cz t;have X:=cz F.lt;replace S:=S.Sr hf ax eQ ((dQ P D K s2).still (fE 5 1 (bX Y g.n hc) g.n (ej g) ae ae)) (λB h=>⟨hp,(fE 5 1 _ _ _ ae ae).fr h.2 hf⟩) F N;clear F N t;obtain⟨ta,tc,rfl,d5,-⟩:=I.o;obtain⟨ra,rc,rfl⟩:=J.o));by_cases E:c2=0;case neg=>have g3:(c2 !=0)=cx:=fJ.2 E;have l:=cz (show ML=(s2,(tF,([],([],CX c2)))) by rw[d,df E]);clear E d;go_wp2_with first|(refine(Jt _ _).mono ?_;rintro e W' ⟨rfl,rfl⟩)|(refine Cs S 0 ae ae ae nT ae ?_;rw[l.o];exact amy)|refine fL ?_|refine fg λW S=>?_
 subst E;rw[cZ (λh=>h ae)] at d;unfold ml2 at d;simp only at d;have C3:=cz λv W h R=>Km P D K s2 (g.drop 20) Z (λx p=>V.o x (mS p)) v W h R;have a3:=Ab s2 (g.drop 20);obtain⟨a,M⟩:=dI (jZ s2 (g.drop 20));rw[M] at C3 d a3;obtain⟨s3,sx,l2,c3⟩:=a;simp only at C3 d a3;clear M Z;go_upto_region 8 with(first|(refine zi ve ae ae (y:=20) d3 ?_;rw[a8.o])|(refine(C3.o _ _ S.x.1.1 (d2.o _ S.x.1.2.1)).mono ?_;rintro e W ⟨r,q,rfl,F,N,t,hp,hf⟩;have I:=cz (dP F.sl);have J:=cz (dx N);have b3:=cz t;have a9:=cz F.lt;replace S:=S.Sr hf ax eQ ((dQ P D K s3).still (fE 5 1 (bX ta tx.n tc) tx.n (ej tx) ae ae)) (λB h=>⟨hp,(fE 5 1 _ _ _ ae ae).fr h.2 hf⟩) F N;clear F N t;obtain⟨ua,uc,rfl,d6,-⟩:=I.o;obtain⟨va,vc,rfl⟩:=J.o));by_cases E:c3=0;case neg=>have g3:(c3 !=0)=cx:=fJ.2 E;have l:=cz (show ML=(s3,(tF,([],([],CX c3)))) by rw[d,df E]);clear E d;go_wp2_with first|(refine(Jt _ _).mono ?_;rintro e W' ⟨rfl,rfl⟩)|(refine Cs S 0 ae ae ae nT ae ?_;rw[l.o];exact amy)|refine fL ?_|refine fg λW S=>?_
 subst E;rw[cZ (λh=>h ae)] at d;unfold ml3 at d;simp only at d;have U:=cz λu W R=>OY tx u cN X.o W R;obtain⟨er,Q⟩:=dI (lM tx);rw[Q] at U d;cases er with
 |none=>have L:gi 151 (cw:Option (Nat×List dw))=151:=rfl;rw[L] at U;have l:=cz d;clear d Q L;go_upto_region 12 with(refine ah (U.o _ _ S.x.1.2.1) λr W⟨ho,g⟩=>?_;replace S:=S.cP g);go_wp2_with first|(refine Cs S 0 ae ae ae nT ae ?_;rw[l.o];exact amy)|refine fL ?_|refine fg λW S=>?_
 |some nl=>
  obtain⟨nx,sl⟩:=nl;have L:gi 151 (cu (nx,sl))=0:=rfl;rw[L] at U;simp only[Ln,lx] at U d;obtain⟨b8,d7⟩:=Fz X.o Q;obtain⟨fr,a6⟩:=dI (nt nx sl);rw[a6] at d;have C5:=cz λ(m:List dL)(G:eM m=sl)(u:c7)W(R:gu W u m)=>Sp nx m u (λx p=>by have:=(d7 x.todw (by rw[<-G];exact gI.2 ⟨x,p,ae⟩)).2;omega) (by rw[<-G,iu] at b8;omega) W R;have C5:=cz λ(m:List dL)(G:eM m=sl)(u:c7)W(R:gu W u m)=>(show tf 151 #[bU ct nx,u] W (bZ fr) from by have z:=C5.o m G u W R;rw[G,a6] at z;exact z);clear Q L a6;cases fr with
  |false=>
   rw[df ae] at d;have l:=cz d;clear d
   go_upto_region 12 with(first|(refine ah (U.o _ _ S.x.1.2.1) λr W⟨⟨m,ho,G⟩,g⟩=>?_;have HM:=cz G;have H:=cz (dx ho.1);replace S:=S.DP g ho;clear G;obtain⟨wa,wc,rfl⟩:=H.o)|refine je S (C5.o m HM.o _ _ ⟨S.q0,λx p=>(S.x.2 x p).1⟩) λW S=>?_)
   go_wp2_with first|(refine Cs S 0 ae ae ae nT ae ?_;rw[l.o];exact anq)|refine fL ?_|refine fg λW S=>?_
  |true=>
   rw[cZ kB] at d;have c9:=cz S.x.1.1.q6;have C6:=cz λv W R=>MZ (s3.dv.n:Nat) (by have:=c9.o;unfold fh;omega) v sx a9.o W R;obtain⟨ms,b7⟩:=dI (pI (s3.dv.n:Nat) sx);rw[b7] at C6 d;clear b7;cases ms with
   |none=>
    have L:gi 81 (cw:Option (List (Int×Int)))=81:=rfl;rw[L] at C6;have l:=cz d;clear d L
    go_upto_region 15 with(first|(refine ah (U.o _ _ S.x.1.2.1) λr W⟨⟨m,ho,G⟩,g⟩=>?_;have HM:=cz G;have H:=cz (dx ho.1);replace S:=S.DP g ho;clear G;obtain⟨wa,wc,rfl⟩:=H.o)|refine je S (C5.o m HM.o _ _ ⟨S.q0,λx p=>(S.x.2 x p).1⟩) λW S=>?_|(refine(nO P D K _ _ _ S.x.1.1.1.row).mono ?_;rintro e W ⟨rfl,rfl⟩)|(refine(Am D _ _ S.x.1.1.1.dev).mono ?_;rintro e W ⟨rfl,rfl⟩)|(refine(C6.o _ _ S.x.1.2.1).mono ?_;rintro e W ⟨r,rfl,-,-,g⟩;replace S:=S.cP g))
    go_wp2_with (first
   |(refine Cs S 0 ae ae ae nT ae ?_;rw[l.o];exact anq)
   |refine fL ?_
   |refine fg λW S=>?_)
   |some set=>
    have L:gi 81 (cu set)=0:=rfl;rw[L] at C6;simp only[lx] at C6 d;have l:=cz d;clear d L;obtain⟨B9,b6⟩:∃f:(Option Addr->Nat->List dL->gE),f=λa c m=>cL 2 (dO ⟨nx,m,a,c⟩):=⟨_,ae⟩;have a7:=cz (show∀a c m,B9 a c m=cL 2 (dO ⟨nx,m,a,c⟩) from λa c m=>by rw[b6]);clear b6
    go_wp2_with first|(refine ah (U.o _ _ S.x.1.2.1) λr W⟨⟨m,ho,G⟩,g⟩=>?_;have HM:=cz G;have H:=cz (dx ho.1);have c6:=cz (show∀x∈m,rH w.h.s x from λx p hn b z=>iE S.fr.size ((ho.2 x p).2 hn b z));replace S:=S.DP g ho;clear G;obtain⟨wa,wc,rfl⟩:=H.o)|refine je S (C5.o m HM.o _ _ ⟨S.q0,λx p=>(S.x.2 x p).1⟩) λW S=>?_|(refine(nO P D K _ _ _ S.x.1.1.1.row).mono ?_;rintro e W ⟨rfl,rfl⟩)|(refine(Am D _ _ S.x.1.1.1.dev).mono ?_;rintro e W ⟨rfl,rfl⟩)|(refine ah (C6.o _ _ S.x.1.2.1) λr W⟨ho,hs,g⟩=>?_;have b4:=cz (And.intro (show∀x∈set,fh x.1/\fh x.2 from by obtain⟨_,_,_,_,z,_⟩:=hs;exact z) (show set.n<=9223372036854775807 from by obtain⟨_,_,_,z,_⟩:=hs;exact z));have c5:=cz (dx ho);replace S:=S.iv g ho ae ae;clear hs;obtain⟨xa,xc,rfl⟩:=c5.o)|refine lE (cells:=B9 wa wc m) ae (by rw[a7.o];exact RN _ _ _ _) ?_|refine blV S [bX qa n.n qc,bX ra O.n rc,bX va l2.n vc] underlying299 ZD cN cN rfl rfl amw rfl λW S=>?_|(refine ah (MY [(bX qa n.n qc,n),(bX ra O.n rc,O),(bX va l2.n vc,l2)] _ (show(3:Nat)<=1000 by omega) (show n.n+(O.n+(l2.n+0))<=100000 by omega) _ (EO S.k0 ae (eN 3) (show(3:Nat)<=maxLen by unfold maxLen;omega) λj u hu=>⟨(nB.1 hu).1,by grind⟩) (by intro x p;simp only[iZ,jK,uH] at p;rcases p with rfl|rfl|rfl;exact c8.jR (S.uS (k:=4) ae);exact c8.jR (S.uS (k:=3) ae);exact c8.jR S.o2)) λr W⟨ho,g⟩=>?_;have c4:=cz (dx ho);replace S:=S.iv g ho ae ae;obtain⟨ja,jc,rfl⟩:=c4.o)|refine Qc S 1 rfl rfl rfl (a7.o wa wc m) nT (fT _) λW S=>?_
    have b9:=cz (show [(Value.slice qa n.n qc,n),(Value.slice ra O.n rc,O),(Value.slice va l2.n vc,l2)].flatMap Prod.snd=(n++O)++l2 by simp);refine Cs S 1 ae ae ae nT ae ?_;rw[l.o];refine⟨_,_,_,ae,⟨⟨nx,m,wa,wc⟩,ae,?_,S.o2,λx p=>⟨(S.x.2 x p).1,c6.o x p⟩⟩,S.o1,uK S.o1 b4.o.1 b4.o.2,?_,λy T=>?_,S.x.1.1.1,S.fr⟩
    . unfold dW.t;rw[<-HM.o]
    . show il W w.h.s (bX ja (n.n+(O.n+l2.n)) jc) ((n++O)++l2);rw[show n.n+(O.n+l2.n)=((n++O)++l2).n by rw[ji,ji];omega];have z:=S.o0;rw[b9.o] at z;exact z
    . rcases gH.1 T with T|T
      . rcases gH.1 T with T|T
        . exact b1.o y T
        . exact b2.o y T
      . exact b3.o y T
def ez(b:ee)(cT:fF):ee×(List cQ×Int):=
 match pG cT with
 |none=>(b,([],141))
 |some _=>match k8 b.cU cT with
  |none=>(b,([],172))
  |some i=>if 0<(x6 b.cU (dH b.cU i).id).n then(b,([],173)) else
   match fj b.cU (qV b.cU (dH b.cU i).id) with
   |none=>(b,([],172))
   |some j=>match jP (o5 (dH b.cU j).di (gj b.cU (dH b.cU i).id)) (dH b.cU i).di with
    |none=>(b,([],131))
    |some zl=>if 4000<zl.n then(b,([],131)) else
     (⟨b.next,(b.cU.set j {dH b.cU j with di:=zl,dB:=(dH b.cU i).dB}).eraseIdx i⟩,(jO (dH b.cU j).di (gj b.cU (dH b.cU i).id),0))
theorem Su(l:List cQ)(st:Nat):(o5 l st).n<=l.n:=by grind[o5]
def Jy(b:dW)(A:gE)(hA:A=cL 2 (dO b))(J:zn b.t)(cT:fF)(b8:cT.s<=140737488355328)(w:cS)(R:iT w b):
 CP_ 66 #[bV A,bY cT] w λe w'=>∃B r,e=cj (cg #[bV B,r,bU cq (ez b.t cT).2.2])/\lY w' w.h.s B (ez b.t cT).1/\il w' w.h.s r (ez b.t cT).2.1/\dR w w':=by
 have HA:=cz hA;have HR:=cz R;have C1:=cz λW=>Cm cT b8 W;have C2:=cz λW(a:dR w W)=>yj b A hA J cT b8 W (HR.o.cP a);have C3:=cz λid W(a:dR w W)=>O2 b.l b.sv id J.len W (HR.o.cP a);have C4:=cz λid W(a:dR w W)=>UY b.l b.sv id J.len W (HR.o.cP a);have O:=cz λid W(a:dR w W)=>wH b.l b.sv id J.len W (HR.o.cP a);have C6:=cz λid W(a:dR w W)=>EJ b.l b.sv id J.len W (HR.o.cP a);have Z:=cz λW(a:dR w W)=>qJ b A hA J W (HR.o.cP a);have hd:rG b.l:=J.2;have f7:=J.len;have S:=qR w;clear hA J;obtain⟨T,d⟩:=dI (ez b.t cT);rw[d];unfold ez at d;rw[show b.t.cU=eM b.l from ae] at d;obtain⟨sn,a5⟩:=dI (pG cT);obtain⟨sv,u⟩:=dI ((sn.getD (sG,sG)));rw[a5,u] at C1;rw[a5] at d;clear a5 u;go_enter func66,ntmps66;cases sn with|none=>have e1:gi 141 (cw:Option (fF×fF))=141:=rfl;rw[e1] at C1;subst d;go_wp2_with (first|refine je S (C1.o _) λW S=>?_|refine Be S (Z.o _ S.b) λW B c HB q o S=>?_|(refine mA ?_;exact⟨_,_,ae,⟨c,ae,q.o,S.jJ o.o⟩,il.nil _ _,S.b⟩)|refine fL ?_|refine fg λW S=>?_)|some sn=>
 have e1:gi 141 (cu sn)=0:=rfl;rw[e1] at C1;simp only at d;obtain⟨ni,s⟩:=dI (k8 (eM b.l) cT);rw[show b.t.cU=eM b.l from ae,s] at C2;rw[s] at d;cases ni with|none=>subst d;simp only[lF] at C2;clear s;go_wp2_with (first|refine je S (C1.o _) λW S=>?_|refine je S (C2.o _ S.b) λW S=>?_|refine Be S (Z.o _ S.b) λW B c HB q o S=>?_|(refine mA ?_;exact⟨_,_,ae,⟨c,ae,q.o,S.jJ o.o⟩,il.nil _ _,S.b⟩)|refine fL ?_|refine fg λW S=>?_)|some i=>
 simp only[lF] at C2 d;obtain⟨x,hx⟩:=we s;have f8:=(nB.1 hx).1;have f2:(i:Int)<(b.l.n:Int):=cN;have f3:¬(i:Int)<0:=cN;have hg:dH (eM b.l) i=x.todw:=lG hx;rw[hg] at d;obtain⟨k,l,H⟩:=Bg R cN;have R9:=R.cU H;have b3:=cz R9;have Q:=cz (R9.at hx);have d7:=cz hx;have n:Hid (dO b 1=bX (cu ⟨k,l,cw⟩) b.l.n b.cap):=cz (by rw[<-H];rfl);have u:b.sv=bX (s_ k l) b.l.n b.cap:=by unfold dW.sv;rw[H]
 rw[u] at C3 C4 O C6;have C3:=cz (C3.o x.id);have C4:=cz (C4.o x.id);have C6:=cz (C6.o x.id);obtain⟨ch,b5⟩:=dI (x6 (eM b.l) x.id);rw[b5] at C3 d;clear s hx hg H u b5;go_upto_region 8 with(first|refine je S (C1.o _) λW S=>?_|refine je S (C2.o _ S.b) λW S=>?_|refine EC S 1 ae 1 (v:=bX (s_ k l) b.l.n b.cap) n.o ?_|refine fL ?_|refine fg λW S=>?_);refine eu S dC λW S=>?_;refine dh 0 (dE w.h.s 1) ?_;refine gZ 1 (bX (s_ k l) b.l.n b.cap) ae (uj S 1 (λ_ h=>h) ae 1 n.o rn ae sS) ?_;refine dh 2 _ ?_;refine dh 3 (dE k (l+i*11)) ?_;refine dh 4 (dE k (l+i*11)) ?_;refine gZ 5 (bU ct x.id) ae (gO (λw h=>by obtain⟨_,S⟩:=h;exact(Q.o.cP S.b).c0) ae fZ) ?_;refine kI 6 λK f=>?_;go_wp2_with fail;refine ah (C3.o _ S.b) λr W⟨ho,a⟩=>?_;obtain⟨ra,rc,rfl⟩:=dx ho;replace S:=S.cP a;clear a ho;refine gq f ?_;clear f K;refine dh 7 (bU cq ch.n) ?_;refine dh 8 (bZ (decide (0<(ch.n:Int)))) ?_;refine qx ?_;by_cases h0:0<ch.n
 . rw[df h0] at d;subst d;have h1:(0:Int)<(ch.n:Int):=cN;go_wp2_with first|refine Be S (Z.o _ S.b) λW B c HB q o S=>?_|(refine mA ?_;exact⟨_,_,ae,⟨c,ae,q.o,S.jJ o.o⟩,il.nil _ _,S.b⟩)|refine fL ?_|refine fg λW S=>?_
 . rw[cZ h0] at d;have h1:¬(0:Int)<(ch.n:Int):=cN;obtain⟨nx,c6⟩:=dI (qV (eM b.l) x.id);have O:=cz (O.o nx);rw[c6] at C4 d;obtain⟨pj,L⟩:=dI (fj (eM b.l) nx);rw[L] at O d;clear c6 h0;go_upto_region 10 with(fail)
   cases pj with
   |none=>
    subst d;simp only[lF] at O;clear L;refine eu S dC λW S=>?_;refine dh 0 (dE w.h.s 1) ?_;refine gZ 1 (bX (s_ k l) b.l.n b.cap) ae (uj S 1 (λ_ h=>h) ae 1 n.o rn ae sS) ?_;refine dh 2 (dE w.h.s 1) ?_;refine gZ 3 (bX (s_ k l) b.l.n b.cap) ae (uj S 1 (λ_ h=>h) ae 1 n.o rn ae sS) ?_;refine dh 4 _ ?_;refine dh 5 (dE k (l+i*11)) ?_;refine dh 6 (dE k (l+i*11)) ?_;refine gZ 7 (bU ct x.id) ae (gO (λw h=>by obtain⟨_,S⟩:=h;exact(Q.o.cP S.b).c0) ae fZ) ?_;refine kI 8 λK f=>?_
    go_wp2_with fail
    refine je S (C4.o _ S.b) λW S=>?_;refine gq f ?_;clear f K;refine kI 9 λK f=>?_
    go_wp2_with fail
    refine je S (O.o _ S.b) λW S=>?_;refine gq f ?_;clear f K;refine dh 10 _ ?_;refine qx ?_
    go_wp2_with (first
   |refine Be S (Z.o _ S.b) λW B c HB q o S=>?_
   |(refine mA ?_;exact⟨_,_,ae,⟨c,ae,q.o,S.jJ o.o⟩,il.nil _ _,S.b⟩)
   |refine fL ?_
   |refine fg λW S=>?_)
   |some j=>
    obtain⟨f9,y,hy,-⟩:=kL L;have b9:dH (eM b.l) j=y.todw:=lG hy;simp only[b9,lF] at d O;have f4:(j:Int)<(b.l.n:Int):=cN;have f5:¬(j:Int)<0:=cN;have d9:=cz hy;have HY:=cz (R9.at hy);have a8:=kA hy;have a6:=kA d7.o;have e6:=(hd.at a8).1;have e5:=(hd.at a6).1;obtain⟨fl,b7⟩:=dI (gj (eM b.l) x.id);rw[b7] at C6 d;have C7:=cz λW(a:dR w W)=>OM y.di y.dv fl W cN ((b3.o.cP a).2 y a8);have c7:=Su y.di fl;obtain⟨rs,c8⟩:=dI (o5 y.di fl);obtain⟨gn,c1⟩:=dI (jO y.di fl);rw[c8] at C7 d c7;rw[c1] at C7 d;have Y:=cz λv W(a:dR w W)R1=>OO rs x.di v x.dv W cN cN R1 ((b3.o.cP a).2 x a6);obtain⟨mg,c4⟩:=dI (jP rs x.di);rw[c4] at Y d;clear L hy b9 a8 a6 e6 e5 b7 c8 c1 c4 c7;refine eu S dC λW S=>?_;refine dh 0 (dE w.h.s 1) ?_;refine gZ 1 (bX (s_ k l) b.l.n b.cap) ae (uj S 1 (λ_ h=>h) ae 1 n.o rn ae sS) ?_;refine dh 2 (dE w.h.s 1) ?_;refine gZ 3 (bX (s_ k l) b.l.n b.cap) ae (uj S 1 (λ_ h=>h) ae 1 n.o rn ae sS) ?_;refine dh 4 _ ?_;refine dh 5 (dE k (l+i*11)) ?_;refine dh 6 (dE k (l+i*11)) ?_;refine gZ 7 (bU ct x.id) ae (gO (λw h=>by obtain⟨_,S⟩:=h;exact(Q.o.cP S.b).c0) ae fZ) ?_;refine kI 8 λK f=>?_
    go_wp2_with fail
    refine je S (C4.o _ S.b) λW S=>?_;refine gq f ?_;clear f K;refine kI 9 λK f=>?_
    go_wp2_with fail
    refine je S (O.o _ S.b) λW S=>?_;refine gq f ?_;clear f K;refine dh 10 _ ?_;refine qx ?_
    go_upto_region 13 with(fail)
    refine eR S dC [⟨w.h.s,99,2,dO b⟩] CI λW S=>?_;refine dh 0 (dE w.h.s 1) ?_;refine gZ 1 (bX (s_ k l) b.l.n b.cap) ae (gO (λw h=>by rw[cM.cell (h.row 0 ae) (i:=1) rn];exact gD cu n.o) ae sS) ?_;refine dh 2 _ ?_;refine dh 3 (dE k (l+j*11)) ?_;refine dh 4 (dE k (l+j*11+10)) ?_;refine gZ 5 (y.dv) ae (gO (λw h=>(HY.o.cP h.fr.cP).c10) ae ox) ?_;refine dh 6 (dE w.h.s 1) ?_;refine gZ 7 (bX (s_ k l) b.l.n b.cap) ae (gO (λw h=>by rw[cM.cell (h.row 0 ae) (i:=1) rn];exact gD cu n.o) ae sS) ?_;refine dh 8 _ ?_;refine dh 9 (dE k (l+i*11)) ?_;refine dh 10 (dE k (l+i*11)) ?_;refine gZ 11 (bU ct x.id) ae (gO (λw h=>(Q.o.cP h.fr.cP).c0) ae fZ) ?_;refine kI 12 λK f=>?_
    go_wp2_with fail
    refine je S (C6.o _ S.b) λW S=>?_;refine gq f ?_;clear f K;refine kI 13 λK f=>?_
    go_wp2_with fail
    refine(C7.o _ S.b).mono ?_;rintro e W ⟨r1,r2,rfl,a3,a4,a⟩;have a1:=cz a3.sl;obtain⟨e7,e8,rfl⟩:=dx a3;obtain⟨e9,f1,rfl⟩:=dx a4;replace S:=S.iv a a4 ae ae;clear a a3 a4;refine gq f ?_;clear f K;refine dh 14 _ ?_;refine dh 15 (bX e7 rs.n e8) ?_;refine dh 16 (bX e9 gn.n f1) ?_;refine dh 17 _ ?_;refine dh 18 _ ?_;refine qx ?_;cases mg with
    |none=>
     have e2:gi 131 (cw:Option (List cQ))=131:=rfl;rw[e2] at Y;subst d
     go_wp2_with first|(first|refine jo 87 107 86 ((Q.o.cP S.b).c10) ?_)|(refine ah (Y.o _ _ S.b a1.o) λr W⟨ho,a⟩=>?_;replace S:=S.cP a;clear ho a)|refine Be S (Z.o _ S.b) λW B c HB q o S=>?_|(refine mA ?_;exact⟨_,_,ae,⟨c,ae,q.o,S.jJ o.o⟩,il.nil _ _,S.b⟩)|refine fL ?_|refine fg λW S=>?_
    |some al=>
    have e2:gi 131 (cu al)=0:=rfl;rw[e2] at Y;simp only[lx] at Y d;by_cases h4:4000<al.n
    . rw[df h4] at d;have h5:(4000:Int)<(al.n:Int):=cN;subst d
      go_wp2_with first|(first|refine jo 87 107 86 ((Q.o.cP S.b).c10) ?_)|(refine ah (Y.o _ _ S.b a1.o) λr W⟨ho,a⟩=>?_;obtain⟨M,N,rfl⟩:=dx ho;replace S:=S.cP a;clear ho a)|refine Be S (Z.o _ S.b) λW B c HB q o S=>?_|(refine mA ?_;exact⟨_,_,ae,⟨c,ae,q.o,S.jJ o.o⟩,il.nil _ _,S.b⟩)|refine fL ?_|refine fg λW S=>?_
    . rw[cZ h4] at d;have h5:¬(4000:Int)<(al.n:Int):=cN;have HT:=cz d;clear h4 d
      go_upto_region 18 with(first|(first|refine jo 87 107 86 ((Q.o.cP S.b).c10) ?_)|(refine ah (Y.o _ _ S.b a1.o) λr W⟨ho,a⟩=>?_;obtain⟨M,N,rfl⟩:=dx ho;have d4:=cz (show rH w.h.s ⟨{y.todw with di:=al,dB:=x.dB},M,N⟩ from λhn b a=>iE S.fr.size ((sH.of (x:=⟨{y.todw with di:=al,dB:=x.dB},M,N⟩) ho).2 hn b a));replace S:=S.Bd (y:=⟨{y.todw with di:=al,dB:=x.dB},M,N⟩) a ho;clear a ho)|(refine ah (Z.o _ S.b) λB W5⟨⟨⟨cn,m,ca,F⟩,hB,hc,ho⟩,a⟩=>?_;obtain⟨b6,I⟩:=ee.mk.inj hc;simp only at b6 I;subst b6;have c5:m.n=b.l.n:=(by have h9:=gD length I;rwa [iu,iu] at h9);obtain⟨g,b4⟩:=u9 ho amN;simp only at b4;subst b4;have b1:=cz c5;have HB:=cz hB;have HM:=cz I;have o:=cz (S.fresh ho);replace S:=S.kr a ho;clear c5;change St _ _ _ _ (⟨109,11,bX (s_ g 0) m.n F,m.n,jh m⟩::_) _ _ at S;clear a hB hc ho I)|refine fL ?_|refine fg λW S=>?_)
      have a2:j<m.n:=by have:=b1.o;omega
      have f6:(j:Int)<(m.n:Int):=cN;obtain⟨z,hz⟩:=dI (m[j]);have d1:z.todw=y.todw:=by
       have h9:(eM m)[j]?=(eM b.l)[j]?:=by rw[HM.o]
       rw[mZ,mZ,jE a2,hz,d9.o] at h9;exact wT h9
      have HZ:=cz hz;have e3:=cz d1;clear hz d1;refine eR S dC [⟨W5.h.s,99,2,dO ⟨b.next,m,s_ g 0,F⟩⟩] CI λW S=>?_;refine dh 0 (dE W5.h.s 1) ?_;refine dh 1 (bX (s_ g 0) m.n F) ?_;refine dh 2 _ ?_;refine dh 3 (dE W5.h.s 1) ?_;refine dh 4 (bX (s_ g 0) m.n F) ?_;refine dh 5 _ ?_;refine dh 6 _ ?_;refine dh 7 _ ?_;refine dh 8 (dE k (l+i*11)) ?_;refine dh 9 (dE k (l+i*11+4)) ?_;refine gZ 10 (bU ct x.dB) ae (gO (λw h=>(Q.o.cP h.fr.cP).c4) ae fZ) ?_;refine dh 11 (dE g (j*11)) ?_;refine dh 12 (dE g (j*11+10)) ?_;refine kI 13 λK f=>?_;refine MC S 0 ae ae (j*11+10) (v:=bX M al.n N) (by show j*11+10<m.n*11;omega) ae ae ae ox λW S=>?_;refine gq f ?_;clear f K;refine dh 14 (dE g (j*11)) ?_;refine dh 15 (dE g (j*11+4)) ?_;refine kI 16 λK f=>?_;refine MC S 0 ae ae (j*11+4) (v:=bU ct x.dB) (by show j*11+4<m.n*11;omega) ae ae ae fZ λW S=>?_;refine gq f ?_;clear f K;refine qx ?_;obtain⟨y1,a7⟩:∃y1:dL,y1=⟨{z.todw with di:=al},M,N⟩:=⟨_,ae⟩;obtain⟨D,C⟩:∃D:dL,D=⟨{y.todw with di:=al,dB:=x.dB},M,N⟩:=⟨_,ae⟩;have c9:D=⟨{z.todw with di:=al,dB:=x.dB},M,N⟩:=by rw[C,e3.o]
      have t:((jh m).set (j*11+10) (bX M al.n N)).set (j*11+4) (bU ct x.dB)=jh (m.set j D):=by
       rw[wh a2 HZ.o 10 cN _ y1 (λj hj=>by rw[a7];rcases j with(_|_|_|_|_|_|_|_|_|_|_|j)<;>first|rfl|omega),
        wh (x:=y1) (by rw[xM];exact a2) amO 4 cN _ D (λj hj=>by rw[a7,c9];rcases j with(_|_|_|_|_|_|_|_|_|_|_|j)<;>first|rfl),set_set]
      obtain⟨E,p⟩:=dI (m.set j D);have c2:m.n=E.n:=by rw[<-p,xM]
      have X:eM E=(eM b.l).set j {y.todw with di:=al,dB:=x.dB}:=by
       rw[<-p,show eM (m.set j D)=(eM m).set j D.todw by unfold eM;rw[map_set],HM.o,C]
      have V:∀v∈E,rH w.h.s v:=λv hv=>by
       rw[<-p] at hv;rcases vy hv with h|h
       . exact o.o v h
       . rw[h,C];exact d4.o
      have U:∀v∈E,v∈m∨v=D:=λv hv=>vy (by rw[p];exact hv);rw[p] at t;have b2:=cz t;have d8:=cz C;have d5:=cz c2;have d6:=cz X;have d3:=cz V;have d2:=cz U;replace S:=S.EY (X':=λB w=>J' D B w/\oL m B w) (λB w h=>by rw[d8.o];exact⟨h.1.2,h.2⟩) ((Ci D).and (jn m)).mh;simp only[BJ] at S;rw[b2.o] at S;have w1:IntKind.i64.wrap ((i:Int)+1)=((i+1:Nat):Int):=by rw[kS _ cN];omega
      have e4:i<m.n:=by have:=b1.o;omega
      have c3:(E.eraseIdx i).n=m.n-1:=by rw[length_eraseIdx,df cN];omega
      have a9:=cz c3;clear c3 t a7 C c9 p c2 X V U
      go_wp2_with first|(first|refine jl 118 97 117 S 0 1 (bX (s_ g 0) m.n F) ?_)|(refine aj (DQ E g F m.n i (i+1) w.h.s d5.o.symm e4 ae _ S.o0) λW6⟨ho,a⟩=>?_;replace S:=S.erased (j:=0) ae ho a;clear ho a)|(refine xA S 0 ae 1 (dO ⟨b.next,E.eraseIdx i,s_ g 0,F⟩) (λj hj=>by have hj:j<2:=hj;rcases j with(_|_|j);rfl;show Value.slice _ (E.eraseIdx i).n _=_;rw[a9.o];rfl;omega) rn ae ae ae sS λW S=>?_;obtain⟨G,hG⟩:=fP (cL 2 (dO ⟨b.next,E.eraseIdx i,s_ g 0,F⟩));have HG:=cz hG;clear hG)|(refine mA ?_;rw[<-HT.o];exact⟨_,_,ae,⟨⟨b.next,E.eraseIdx i,s_ g 0,F⟩,ae,by unfold dW.t;rw[Qg,d6.o],⟨by have h9:=S.o0;unfold dW.sv;rw[a9.o];exact h9,λv hv=>⟨by rcases d2.o v (BK hv) with h|h;exact(S.x.2 v h).1;rw[h];exact S.x.1.1,d3.o v (BK hv)⟩⟩⟩,S.o1,S.b⟩)|refine fL ?_|refine fg λW S=>?_
end
section
theorem lO.obj{t b:Nat}(h:lO d X)(ho:gV t=cx):lO d (λB w=>X B w/\cM w b t n f):=
 ⟨λa c=>⟨h.cP a.1 c,cM.cP a.2 c⟩,λa c=>⟨h.add a.1 c,a.2⟩,λa l=>⟨h.mono a.1 l,a.2⟩,
  λa j c g k i=>⟨h.but a.1 j c g k i,cM.but a.2 c λe=>by rw[<-e,cM.ty a.2] at g;grind⟩,λa e=>h.dev a.1 e⟩
def St.wJ(S:St w0 d l L O X w){t b:Nat}(a:cM w b t n f)(ho:gV t=cx):St w0 d l L O (λB w=>X B w/\cM w b t n f) w:=
 ⟨S.fr,S.row,S.own,S.lo,S.nd,⟨S.x,a⟩,S.mh.obj ho⟩
theorem St.Nc(h:St w0 d l L O X w)(f:Fr d2 l2 w w')(b:∀D,d2=cu D->d=cu D)(i:∀k∈l2,k∈l∨w0.h.s<=k)(m:lO d X')(n:X' (eS L O) w'):St w0 d l L O X' w':=by
 refine⟨h.fr.step f b i,λr j=>?_,λo ho=>?_,h.lo,h.nd,n,m⟩
 . have a:=h.row r j;cases c:d2 with
   |none=>subst c;exact ang
   |some D=>
    subst c;rcases a.2.2 with h1|h1
    . grind[cM.fr]
    . exact⟨cM.frX a.1 f (h1 D (b D ae)) (.inl a.2.1),a.2.1,.inr λp e=>by
       rcases wT (e.symm.trans (b D ae)) with rfl
       grind[Fr.adq,cM.lt]⟩
 have q:=h.own o ho;grind[B5]
theorem St.wrote(h:St w0 d l L O X w){t:Nat}(a:cM w G t n f)(ho:gV t=cx)(b:jX G w w')(j:G∈l∨w0.h.s<=G)(c:lO d X')(g:X' (eS L O) w'):St w0 d l L O X' w':=
 h.Nc (d2:=cw) (l2:=[G]) (Fr.rS b (cM.ty a) ho (fM.2 ae)) (λD e=>by cases e) (λk i=>by grind) c g
end
section
variable {x:Nat}
def aeJ{t:Nat}(b:cM w G t n f)(i:Nat){q:Operand}(o:i<n)(l:a.eval (.tmp x)=bW (cu ⟨G,i,cw⟩))(m:a.eval q=v)(k:v.oneCell'=cx)(e:lD P ty)(g:Nat->c7)(c:∀j,j<n->g j=if j=i then v else f j)(h:∀W,jX G w W->cM W G t n g->wpList P ops Q rest (a.put cw undef) W):wpList P ops Q (⟨cw,.store ty (.tmp x) q,t2,p,af,cw⟩::rest) a w:=
 Cc (nS b cN) l m k e (h _ (sy _ _ _ _) ((cM.set b i v).congr λj d=>(c j d).symm))
theorem aiM{t:Nat}(d:cM w G t n f)(o:Nat)(u:o+m<=n)(r:a.eval (.tmp x)=bW (cu ⟨G,o,cw⟩))(s:a.eval (.tmp y)=bV A)(c:A=cL m e)(q:kg P ty m)(b:∀i,(e i).oneCell'=cx)(g:Nat->c7)(k:∀j,j<n->g j=if o<=j/\j<o+m then e (j-o) else f j)(h:∀W,jX G w W->cM W G t n g->wpList P ops Q rest (a.put cw undef) W):wpList P ops Q (⟨cw,.store ty (.tmp x) (.tmp y),t2,p,af,cw⟩::rest) a w:=by
 subst c;refine wpList_store_mid (op:=⟨cw,.store ty (.tmp x) (.tmp y),t2,p,af,cw⟩) ae ty (.tmp x) (.tmp y) ae G o (cL m e) r s (by grind[cW,nS]) (by rw[cW];exact q.2) (oE e b) (h _ (jX.setCells _ _ _ _) ?_);refine cM.congr (cM.setCells _ o d) λj l=>?_;rw[k j l];unfold KO;rw[mT,cW];by_cases hc:o<=j/\j<o+m;rw[df hc,df hc];show(cL m e).t.getD (j-o) _=e (j-o);rw[zE,mR,dy,df cN];rfl
 grind
end
def qM(G:Nat)(g:iV)(D M:Nat)(s:Pl):cV->cS->Prop:=λB w=>((C' g.P D M s B w/\cM w G 145 11 (wm g))/\rY g.b.sv g.b.l B w)/\yX 106 3 g.hv g.dK.n (iS g.dK) B w
def iz(G:Nat)(g:iV)(D M:Nat)(s:Pl):lO (cu D) (qM G g D M s):=
 (((dQ g.P D M s).obj (t:=145) (n:=11) (b:=G) (f:=wm g) ae).still (fN g.b.sv g.b.l)).still (fE 106 3 g.hv _ _ ae ae)
def qM.at(h:qM G g D M s B w):dY w G g D M s:=⟨h.1.1.2,h.1.1.1,h.1.2.sl,h.2.1⟩
def dY.x(h:dY w G g D M s):qM G g D M s [] w:=⟨⟨⟨h.lf,h.row⟩,gu.x h.wV⟩,⟨h.dK,λ_ _ _=>by simp⟩⟩
def SEG(w0:cS)(d:Option Nat)(l:cV)(rs:List R4)(G:Nat)(g:iV):cS->Prop:=λW=>∃L O X,St w0 d l L O X W/\(∀r∈rs,r∈L)/\cM W G 145 11 (wm g)
def SEG.row(h:SEG w0 d l rs G g W)(k:Nat)(a:rs[k]?=cu r):cM W r.b r.t r.n r.f:=by obtain⟨L,O,X,S,b,_⟩:=h;exact(S.row r (b r (kA a))).1
def SEG.KX(h:SEG w0 d l rs G g W):cM W G 145 11 (wm g):=by obtain⟨L,O,X,S,_,a⟩:=h;exact a
theorem SEG.cell{w0 W:cS}{d:Option Nat}{l:cV}{rs:List R4}{G:Nat}{g:iV}(h:SEG w0 d l rs G g W)(i:Nat)(a:i<11):W.cell? ⟨G,i,cw⟩=cu (wm g i):=cM.cell h.KX a
def St.aeK(S:St w0 d l L (⟨109,11,c.sv,c.l.n,jh c.l⟩::O) (λB w=>X B w/\oL c.l B w) w)(b:∀x∈c.l,rH w0.h.s x):uZ w w0.h.s c:=
 ⟨S.o0,λx a=>⟨(S.x.2 x a).1,b x a⟩⟩
def Nd(S:St w0 d l L O X w){id:Nat}(c:P.follows .mixedOrders=cx)(rs:List R4)(e:∀r∈rs,r∈L)(b:cM w G 145 11 (wm g))(h:∀W,St w0 d l L O X W->wpAnyH P .any ops Q (SEG w0 d l rs G g) ops.s (Array.replicate ops.s cy) a W):(Code.region id ops cx).wp P Q a w:=
 wp_region_held_drew c ⟨L,O,X,S.drew,e,b.cP ((gJ _ _).drew)⟩ λ_=>h _ S.drew
def abV(g:iV)(c:dW):∀j,j<11->wm {g with b:=c} j=if 1<=j/\j<1+2 then dO c (j-1) else wm g j:=by intro j a;unfold wm;rcases j with(_|_|_|_|j)<;>first|rfl
section
attribute[local irreducible]wpList Code.wp Calls Oper.wp wpAnyH
def tV(G D M:Nat)(g:iV)(s:Pl)(b:dW)(A:gE)(i:A=cL 2 (dO b))(d:zn b.t)(w:cS)(h:dY w G g D M s)(R:iT w b):
 CP_ 55 #[bW (cu ⟨G,0,cw⟩),bV A] w λe w'=>∃c:dW,e=cj (cg #[])/\c.t=b.t/\dY w' G {g with b:=c} D M s/\uZ w' w.h.s c/\Fr cw [G] w w':=by have y:=cz i;have a:=cz h;have p:=cz λW(f:Fr cw [G] w W)=>As b A i d W (show gu W b.sv b.l from(show gu w b.sv b.l from R).fr f);have S:=St.start w cw [G] (xh.obj (t:=145) (n:=11) (b:=G) (f:=wm g) ae) ⟨iG,h.row⟩;clear h i d R;go_enter func55,ntmps55;go_wp2_with (first|(go_at_call 102;refine Be S (p.o _ S.fr) λW B c q r u S=>?_)|((with_reducible refine tM 99 8 6 ?_);refine aiM S.x.1.2 1 (m:=2) cN ae ae q.o nT (fT _) (wm {g with b:=c}) (abV g c) ?_;intro z l o;replace S:=S.wrote (X':=λB w=>(True/\cM w G 145 11 (wm {g with b:=c}))/\oL c.l B w) S.x.1.2 ae l (.inl (fM.2 ae)) (((xh.obj (t:=145) (n:=11) (b:=G) (f:=wm {g with b:=c}) ae).still (jn c.l))) ⟨⟨iG,o⟩,(jn c.l).fr S.x.2 (Fr.rS l (cM.ty S.x.1.2) ae (fM.2 ae))⟩;clear o)|refine fL ?_|refine fg λW S=>?_);refine FY (vO ae _ _ _) ae ?_;have d:=S.fr;have x:g.P∉ [G]:=λj=>rI (cM.ty a.o.lf.row) (cM.ty a.o.row) kB (fM.1 j);have v:M∉ [G]:=λj=>rI (cM.ty a.o.lf.map) (cM.ty a.o.row) kB (fM.1 j);have k:=S.aeK u.o;exact⟨c,ae,r.o,⟨S.x.1.2,a.o.lf.fr d x v,k.sl,(show c8 w 106 3 g.hv g.dK.n (iS g.dK) from a.o.dK).fr d aD ae⟩,k,d⟩
end
structure GT where
 b:ee
 dK:List cQ
 ub:rC
 s:Pl
def iV.gt(g:iV)(s:Pl):GT:=⟨g.b.t,g.dK,g.ub,s⟩
def qX(x:GT)(m:Pl×(cQ×(List cQ×Int))):rC:=⟨iR x.ub.lT,m.1.cR,m.2.1,40,m.1.dv.n⟩
def uy(x:GT)(m:Pl×(cQ×(List cQ×Int))):GT×Int:=
 if m.2.2.2≠0 then({x with s:=m.1},m.2.2.2) else
 if(eY m.1.dv (qX x m)).2≠0 then({x with s:={m.1 with dv:=(eY m.1.dv (qX x m)).1}},(eY m.1.dv (qX x m)).2)
 else({x with dK:=m.2.2.1,ub:=qX x m,s:=oU {m.1 with dv:=(eY m.1.dv (qX x m)).1}},0)
def ju(x:GT):GT×Int:=uy x (gC x.s x.b x.dK)
def zu(w w':cS)(G D M:Nat)(g:iV)(r:GT×Int)(e:Ending):Prop:=
 ∃a b,e=cj (bU cq r.2)/\a.P=g.P/\dY w' G a D M b/\a.gt b=r.1/\(fO g.dK->fO a.dK)/\Fr (cu D) [G,M,g.P] w w'
def qM.pl(h:qM G g D M s B w)(f:Fr d l w w')(a:G∉l)(b:fc w' g.P D M s'):qM G g D M s' B w':=
 ⟨⟨⟨b,cM.fr h.1.1.2 f aw (.inr a)⟩,(fN g.b.sv g.b.l).fr h.1.2 f⟩,(fE 106 3 g.hv _ _ ae ae).fr h.2 f⟩
def qM.Pf(h:qM G g D M s B w):G≠g.P/\G≠M/\g.P≠M:=
 ⟨rI (cM.ty h.1.1.2) (cM.ty h.1.1.1.row) kB,rI (cM.ty h.1.1.2) (cM.ty h.1.1.1.map) kB,rI (cM.ty h.1.1.1.row) (cM.ty h.1.1.1.map) kB⟩
section
def St.ahR(S:St w0 (cu D) l L O (qM G g D M s) w)(f:Fr d2 l2 w w')(c:∀a,d2=cu a->cu D=cu a)(d:∀k∈l2,k∈l∨w0.h.s<=k)(b:G∉l2)(e:fc w' g.P D M s'):St w0 (cu D) l L O (qM G g D M s') w':=
 S.call f c d (iz G g D M s') λB h=>h.pl f b e
theorem St.Yg(S:St w0 (cu D) l L O (qM G g D M s) w)(h:dY w' G {g with b:=c} D M s)(o:uZ w' w.h.s c)(f:Fr cw [G] w w')(q:G∈l∨w0.h.s<=G):St w0 (cu D) l L O (qM G {g with b:=c} D M s) w':=by refine S.Nc (d2:=cw) (l2:=[G]) f (λD e=>by cases e) (λk p=>by grind) (iz G _ D M s) ⟨⟨⟨h.lf,h.row⟩,⟨⟨h.wV.1,λi b a d=>?_⟩,λx j=>⟨(o.2 x j).1,λi b a d=>?_⟩⟩⟩,(fE 106 3 g.hv _ _ ae ae).fr S.x.2 f⟩;have m:=(o.1.lt b a).1;have n:=S.lt b d;omega;have m:=(o.2 x j).2 i b a;have n:=S.lt b d;omega
end
def Nf(G:Nat)(g:iV)(D M:Nat)(s:Pl):cV->cS->Prop:=λB w=>(C' g.P D M s B w/\cM w G 145 11 (wm g))/\rY g.b.sv g.b.l B w
def Ng(G:Nat)(g:iV)(D M:Nat)(s:Pl):lO (cu D) (Nf G g D M s):=
 ((dQ g.P D M s).obj (t:=145) (n:=11) (b:=G) (f:=wm g) ae).still (fN g.b.sv g.b.l)
def Nf.Pf(h:Nf G g D M s B w):G≠g.P/\G≠M/\g.P≠M:=
 ⟨rI (cM.ty h.1.2) (cM.ty h.1.1.row) kB,rI (cM.ty h.1.2) (cM.ty h.1.1.map) kB,rI (cM.ty h.1.1.row) (cM.ty h.1.1.map) kB⟩
section
variable {x:Nat}
def St.aeL(S:St w0 (cu D) l L O (Nf G g D M s) w)(f:G∈l∨w0.h.s<=G)(a:jX G w w')(e:g'.P=g.P)(d:g'.b=g.b)(i:cM w' G 145 11 (wm g')):St w0 (cu D) l L O (Nf G g' D M s) w':=by
 have b:Fr cw [G] w w':=Fr.rS a (cM.ty S.x.1.2) ae (fM.2 ae);have c:=S.x.Pf;refine S.wrote S.x.1.2 ae a f (Ng G g' D M s) ⟨⟨?_,i⟩,?_⟩;show fc w' g'.P D M s;rw[e];exact fc.fr S.x.1.1 b (λh=>c.1 (fM.1 h).symm) (λh=>c.2.1 (fM.1 h).symm)
 rw[d];exact(fN _ _).fr S.x.2 b
def aiO(S:St w0 (cu D) l L O (Nf G g D M s) w)(c:G∈l∨w0.h.s<=G)(b:List cQ)(ho:Option Addr)(hc:Nat){q:Operand}(e:a.eval (.tmp x)=bW (cu ⟨G,3,cw⟩))(f:a.eval q=bX ho b.n hc)(d:lD P ty)(h:∀W,St w0 (cu D) l L O (Nf G {g with dK:=b,ho:=ho,hc:=hc} D M s) W->K (a.put cw undef) W):Oper.wp P ⟨cw,.store ty (.tmp x) q,t2,p,af,cw⟩ a w K Q:=by refine Zt (nS S.x.1.2 (n:=1) cN) e f ae d (h _ ?_);refine S.aeL c (sy _ _ _ _) ae ae ((cM.set S.x.1.2 3 _).congr λj i=>?_);unfold wm;rcases j with(_|_|_|_|j)<;>first|rfl
theorem ale(S:St w0 (cu D) l L O (Nf G g D M s) w)(c:G∈l∨w0.h.s<=G)(u:rC)(e:a.eval (.tmp x)=bW (cu ⟨G,4,cw⟩))(f:a.eval (.tmp y)=bV U)(b:U=cL 7 (kV u))(d:kg P ty 7)(h:∀W,St w0 (cu D) l L O (Nf G {g with ub:=u} D M s) W->K (a.put cw undef) W):Oper.wp P ⟨cw,.store ty (.tmp x) (.tmp y),t2,p,af,cw⟩ a w K Q:=by
 subst b;refine wp_store_mid (op:=⟨cw,.store ty (.tmp x) (.tmp y),t2,p,af,cw⟩) ty (.tmp x) (.tmp y) ae G 4 (cL 7 (kV u)) e f (by rw[cW];exact nS S.x.1.2 cN) (by rw[cW];exact d.2) (oE _ (ug u)) (h _ ?_);refine S.aeL c (jX.setCells _ _ _ _) ae ae (cM.congr (cM.setCells _ 4 S.x.1.2) λj i=>?_);unfold KO;rw[mT,cW];by_cases hc:4<=j/\j<4+7
 . rw[df hc];refine(show(cL 7 (kV u)).t.getD (j-4) _=kV u (j-4) from by
    rw[zE,mR,dy,df cN];rfl).trans ?_
   unfold wm;grind
 rw[cZ hc];unfold wm;split;rfl;split;rfl;split;rfl;omega
end
theorem abW(d:Dv):(fC d).ops<=d.ops+1:=by unfold fC;grind
theorem Yh(d:Dv)(i:Int):(ik d i).1.ops<=d.ops+1:=abW d
theorem Vh(s:Pl)(q:cQ)(i:Int):(oV s q i).1.dv.ops<=s.dv.ops+3:=by unfold oV;have a:=uQ s q i.m;split;grind;grind[Jj]
theorem Vi(s:Pl)(q:cQ)(i:Int)(b:cV):(kZ s q i b).1.dv.ops<=s.dv.ops+5:=by unfold kZ;have a:=uQ s q i.m;have c:=Jk (fi s q i.m).1 b;have d:=nI (tu (fi s q i.m).1 b).1;simp only;split;grind;split;grind;grind[nI]
theorem Yi(s:Pl)(y:Way)(q:cQ)(i:Nat):(om s y q i).1.dv.ops<=s.dv.ops+2:=by
 unfold om;simp only;generalize hk:(if rV (jd y.mG (i%8) cX)=cx then(if rV (jd y.first (i/8) cX)=cx then 0 else 1) else 2)=k;split;grind;have a:∀n2(k:Nat),(if k=2 then fD s n2 else(s,(cX,0))).1.dv.ops<=s.dv.ops+1:=by intro n2 k;have:=nI s n2;grind
 grind[nI]
theorem Sv(s:Pl)(q:cQ)(i:Int):(iF s q i).1.dv.ops<=s.dv.ops+4:=by unfold iF;have a:=uQ s q i.m;simp only;split;grind;grind[Yi]
theorem Vj(cR:Nat)(x:Pl×(List cQ×Int))(q:cQ):(jY cR x q).1.dv.ops<=x.1.dv.ops+1:=by unfold jY;have h:=xW x.1 q;grind
theorem Vk(s:Pl)(q:cQ)(st:Nat):(gY s q st).1.dv.ops<=s.dv.ops+9:=by unfold gY;have h:=xW s q;split;grind;grind[Bo,Vj,qf,vA]
theorem Sw(x:Pl×(cV×Int))(q:cQ):(jU x q).1.dv.ops<=x.1.dv.ops+1:=by unfold jU;have h:=Jj x.1 q;grind
theorem Pg(a:Nat)(x:Pl×(List cQ×Int))(q:cQ):(fU a x q).1.dv.ops<=x.1.dv.ops+1:=by unfold fU;have h:=xW x.1 q;grind
def Ph(s:Pl)(l:List cQ)(a:Nat):(fV s l a).1.dv.ops<=s.dv.ops+l.n:=Bo (Pg a) l _
theorem Sx(s:Pl)(l:List cQ)(n:Nat):(eX s l n).1.dv.ops<=s.dv.ops+l.n:=by grind[pH,Bo,Sw,eX]
theorem Sy(a:Nat)(x:Pl×(List cQ×Int))(q:cQ)(b:x.2.1.n<=a):(fU a x q).2.1.n<=a:=by unfold fU;grind
theorem Sz(s:Pl)(l:List cQ)(a:Nat):(fV s l a).2.1.n<=a:=by
 unfold fV;suffices ∀(l:List cQ)(x:Pl×(List cQ×Int)),x.2.1.n<=a->(l.foldl (fU a) x).2.1.n<=a from this l _ (gw _)
 intro l;induction l<;>grind[Sy]
theorem SA(x:Pl×(List cQ×List cQ×Int))(a:Nat)(d:x.2.1.n<=512)(c:a<=512):(iW x a).1.dv.ops<=x.1.dv.ops+512/\(iW x a).2.1.n<=512:=by unfold iW;have h:=Ph x.1 x.2.1 a;have b:=Sz x.1 x.2.1 a;grind
def Iq:∀(ws:cV)(x:Pl×(List cQ×List cQ×Int)),x.2.1.n<=512->(∀w∈ws,w<=512)->(ws.foldl iW x).1.dv.ops<=x.1.dv.ops+512*ws.n/\(ws.foldl iW x).2.1.n<=512
 | [],x,hx,_=>⟨yu _ _,hx⟩
 |a::ws,x,hx,hw=>by
  have c:=SA x a hx (hw a nC);have d:=Iq ws (iW x a) c.2 λb e=>hw b (lu _ e);rw[zG,lr];exact⟨cN,d.2⟩
theorem yb(s:Pl)(cO:cQ)(n:Int):(eP s cO n).1.dv.ops<=s.dv.ops+6200:=by
 unfold eP;have b:(qW n).n<=11:=by grind[zr,qW]
 have a:=Iq (qW n) (s,([cO],[cO],0)) eQ λw c=>Bk n w (by
  grind[qW,dropLast_subset])
 simp only at a;simp only;split;grind;grind[Sx]
theorem ag0(a:Pl×(cV×(List cQ×Int)))(q p2:cQ)(n2:Nat):(mw5 a q p2 n2).1.dv.ops<=a.1.dv.ops+6200:=by unfold mw5;have h:=yb a.1 p2 (n2:Nat);grind
theorem ag1(a:Pl×(cQ×Int))(p1:cQ)(n1:Nat)(p2:cQ)(n2:Nat):(mw4 a p1 n1 p2 n2).1.dv.ops<=a.1.dv.ops+12400:=by unfold mw4;have h:=yb a.1 p1 (n1:Nat);split;grind;grind[ag0]
theorem ag2(a:Pl×(cQ×Int))(p1:cQ)(n1 n2 dZ:Nat):(mw3 a p1 n1 n2 dZ).1.dv.ops<=a.1.dv.ops+12401:=by unfold mw3;split;grind;split;grind;grind[uu,ag1]
theorem ag3(a:Pl×(cQ×Int))(n1:Nat)(dZ:cV):(mw2 a n1 dZ).1.dv.ops<=a.1.dv.ops+14401:=by unfold mw2;split;grind;split;grind;grind[x9,ag2]
theorem Pj(s:Pl)(text dZ:cV):(gG s text dZ).1.dv.ops<=s.dv.ops+16401:=by grind[gG,x9,ag3]
theorem Ir(s:Pl)(b:ee)(iP:List cQ):(gC s b iP).1.dv.ops<=s.dv.ops+16401:=by unfold gC;have a:=gD Dv.ops (qk iP s);split;grind;grind[Pj]
theorem Nh(d:Dv)(u:rC):(eY d u).1.ops<=d.ops+3:=by unfold eY;split;grind;grind[J8,zY]
theorem FA(s:Pl)(b:ee)(iP:List cQ):(gC s b iP).2.2.1.n<=20000:=by unfold gC;split;grind;split;grind;unfold gG mw2;split;grind;split;grind;unfold mw3;split;grind;split;grind;unfold mw4;split;grind;unfold mw5;split;grind;split;grind;simp only[ji,lr,tX];have a:=sL;grind
def akd(u:rC):cL 7 (kV u)=#[bU ct u.lT,bU ct u.cR,bU cq u.iL.1,bU ct u.iL.2.1,bU .u32 u.iL.2.2,bU cq u.len,bU cq u.gm]:=rfl
section
attribute[local irreducible]wpList Code.wp Calls Oper.wp wpAnyH
def FB(G D M:Nat)(g:iV)(s:Pl)(ht:fG g.b.t)(E:fO g.dK)(hl:g.dK.n<=100000)(ho:s.dv.ops<=990000000)(w:cS)(h:dY w G g D M s):
 CP_ 122 #[bW (cu ⟨G,0,cw⟩)] w λe w'=>zu w w' G D M g (ju (g.gt s)) e:=by
 obtain⟨B,hB⟩:=fP (cL 2 (dO g.b));have HB:=cz hB;have hn:=qM.Pf h.x;have S:=St.start w (cu D) [G,M,g.P] (iz G g D M s) h.x;have Y:=cz λW(X:dY W G g D M s)=>Sm g.P D M s ho g.b B hB ht g.dK E hl g.hv W X.lf X.wV X.dK;have C:=Ir s g.b.t g.dK;have I:=FA s g.b.t g.dK;have HG:=cz (show ju (g.gt s)=uy (g.gt s) (gC s g.b.t g.dK) from ae);obtain⟨m,hm⟩:=dI (gC s g.b.t g.dK);rw[hm] at Y HG C I;have z:m.1.dv.ops<=999000000:=cN;have J:=cz z;have a1:=cz I;obtain⟨a,q,d,c⟩:=m;simp only at Y J a1;clear h hB ht E hl ho C hm I z;unfold iV.hv at Y;go_enter func122,ntmps122;go_upto_region 1 with(fail);refine Nd S dC [] (by intro r hr;cases hr) (S.x.1.1.2) λW S=>?_;refine dh 0 _ ?_;refine dh 1 (dE G 0) ?_;refine dh 2 (dE G 0) ?_;refine gZ 3 (dE g.P 0) ae (gO (λw h=>h.cell 0 cN) ae MI) ?_;refine dh 4 _ ?_;refine dh 5 (dE G 0) ?_;refine dh 6 (dE G 1) ?_;refine gZ 7 (bV B) ae (yKn (λw h=>h.KX) (o:=1) (m:=2) ae (dO g.b) cN (λi hi=>by rcases i with(_|_|i)<;>first|rfl|omega) HB.o nT) ?_;refine dh 8 _ ?_;refine dh 9 (dE G 0) ?_;refine dh 10 (dE G 3) ?_;refine gZ 11 (bX g.ho g.dK.n g.hc) ae (gO (λw h=>h.cell 3 cN) ae ox) ?_;repeat' first|refine Te ?_|refine nA 13 _ ?_|refine nA 14 (bV A) ?_|refine nA 15 (bX N d.n hc) ?_|refine nA 16 (bU cq c) ?_|refine nA 19 _ ?_|refine nA 20 _ ?_|refine BE 12 17 (λK b=>?_) λK b=>?_|refine qg 12 λK b=>?_|refine qg 18 λK b=>?_|refine qg 17 λK b=>?_|(refine gl S xC iO ae λE6 W S=>?_;refine gq b ?_)|(go_wp2_with fail;refine(Y.o _ S.x.at).mono ?_;rintro e W ⟨A,r,rfl,hA,R,ho,Q,E,l⟩;have HA:=cz hA;have a3:=cz R;have a2:=cz Q;have HF:=cz (dx ho);have L:=λB(f:qM G g D M s B _)=>f.pl l (by rw[fM];exact hn.2.1) E;replace S:=S.uh l ax (by intro k hk;rw[fM.1 hk];exact .inl eQ) (iz G g D M a) L ho ae ae;clear hA R ho Q E L;obtain⟨N,hc,rfl⟩:=HF.o;refine gq b ?_)|(refine kq S 0 ae ae ae HA.o fK (dJ _) λW S=>?_;refine gq b ?_)
 all_goals(
  refine cz ?_;by_cases p:c=0
  case neg=>
   have g3:(c !=0)=cx:=fJ.2 p;have HR:=cz (show ju (g.gt s)=({g.gt s with s:=a},c) from by rw[HG.o];unfold uy;rw[df p]);clear p;go_wp2;go_ret;rw[HR.o];exact⟨g,a,ae,ae,S.x.at,ae,id,S.fr⟩
  subst p;obtain⟨x,f⟩:=dI (g.gt s);obtain⟨n1,t⟩:=dI (iR g.ub.lT);have w1:IntKind.u64.wrap ((g.ub.lT:Int)+1)=((n1:Nat):Int):=by rw[<-t];exact wG _
  obtain⟨a5,j⟩:=dI a.cR;obtain⟨nn,y⟩:=dI a.dv.n;obtain⟨u,hu⟩:∃u:rC,u=⟨n1,a5,q,40,nn⟩:=⟨_,ae⟩;have T:qX x (a,q,d,0)=u:=by rw[hu,<-t,<-j,<-y,<-f];rfl
  have V:oP u:=by
   rw[hu];have h1:=S.x.1.1.1.ok.1;have h2:=fc.q6 S.x.1.1.1;rw[j] at h1;rw[y] at h2;exact⟨by rw[<-t];exact Dz _,h1,a3.o,(show(40:Nat)<4294967296 by decide),by show nn<4294967296;omega⟩
  obtain⟨U,hU⟩:=fP (cL 7 (kV u));have C2:=cz λW(X:dY W G g D M a)=>nO g.P D M a.cR a.base W X.lf.row;have C3:=cz λW(X:dY W G g D M a)=>wF g.P D M a.cR a.base W X.lf.row;have C4:=cz λW(X:dY W G g D M a)=>Am D a.dv W X.lf.dev;have Z:=cz λW(X:dY W G g D M a)=>Mp D a.dv (iE J.o kB) u V W X.lf.dev;rw[<-hU] at Z;have H:=hU;rw[hu,akd] at H;have a4:=cz H;have HU:=cz hU;rw[j] at C3;rw[y] at C4;have F:=cz (show ju x=if(eY a.dv u).2≠0 then({x with s:={a with dv:=(eY a.dv u).1}},(eY a.dv u).2) else({x with dK:=d,ub:=u,s:=oU {a with dv:=(eY a.dv u).1}},0) from by
   rw[<-f,HG.o];unfold uy;rw[f,T];rfl)
  obtain⟨n,O⟩:=dI (eY a.dv u);rw[O] at F Z;obtain⟨n,c2⟩:=n;simp only at F Z;rw[<-f] at F;clear hU H hu T V j y t O f
  go_upto_region 5 with(first|((with_reducible refine Wj ?_);refine zC S.x.at.c0 ?_)|(go_at_call 106;refine mY (C2.o _ S.x.at) ?_;))
  refine Nd S dC [⟨E6,106,3,dF q⟩] CI (S.x.1.1.2) λW S=>?_;refine dh 0 _ ?_;refine dh 1 (dE G 0) ?_;refine dh 2 (dE G 4) ?_;refine dh 3 (dE G 4) ?_;refine gZ 4 (bU ct g.ub.lT) ae (gO (λw h=>h.cell 4 cN) ae fZ) ?_;refine dh 5 (bU ct n1) ?_;refine dh 6 _ ?_;refine dh 7 (dE G 0) ?_;refine dh 8 (dE G 0) ?_;refine gZ 9 (dE g.P 0) ae (gO (λw h=>h.cell 0 cN) ae MI) ?_;refine gZ 11 (bV #[bU cq q.1,bU ct q.2.1,bU .u32 q.2.2]) ae (rE aI ae (zM q).symm fK) ?_;refine dh 12 _ ?_
  repeat' first|refine Te ?_|refine nv_ 14 (bV U) ae (y8 ae (by rw[a4.o];kernel_rfl)) ?_|refine BE 10 15 (λK b=>?_) λK b=>?_|refine qg 10 λK b=>?_|refine qg 13 λK b=>?_|refine qg 16 λK b=>?_|refine BE 13 15 (λK b=>?_) λK b=>?_|refine qg 15 λK b=>?_|(refine gl S zeroValue143 Zh ae λE7 W S=>?_;refine gq b ?_)|(go_wp2_with fail;refine mY (C3.o _ S.x.at) ?_;refine gq b ?_)|(go_wp2_with fail;refine mY (C4.o _ S.x.at) ?_;refine gq b ?_)|(refine kq S 0 ae ae ae HU.o Fk (ug _) λW S=>?_;refine gq b ?_)
  all_goals(
   refine cz ?_
   go_upto_region 7 with(first|(go_at_call 170;refine aj (Z.o _ S.x.at) λW⟨hd,l⟩=>?_;have L:=λB(f:qM G g D M a B _)=>f.pl (s':={a with dv:=n}) l eQ ⟨cM.fr f.1.1.1.row l aw (.inr eQ),hd,f.1.1.1.map.fr l eQ,f.1.1.1.ok⟩;replace S:=S.call l ax eQ (iz G g D M {a with dv:=n}) L;clear hd L)|refine fL ?_)
   by_cases p:c2=0
   case neg=>
    have g3:(c2 !=0)=cx:=fJ.2 p;rw[df p] at F;clear p;go_wp2;go_ret;rw[F.o];exact⟨g,{a with dv:=n},ae,ae,S.x.at,ae,id,S.fr⟩
   subst p;rw[cZ aH] at F;replace S:=S.EY (X':=Nf G g D M {a with dv:=n}) (λB w h=>h.1) (Ng G g D M _)
   go_upto_region 9 with(fail)
   refine eR S dC [⟨E7,143,7,kV u⟩] CI λW S=>?_;refine dh 0 _ ?_;refine dh 1 _ ?_;refine dh 2 _ ?_;refine gZ 3 (bV U) ae (rE aI ae HU.o Fk) ?_;refine dh 4 (dE G 0) ?_;refine dh 5 (dE G 3) ?_;refine kI 6 λK b=>?_;refine aiO S aY d N hc ae ae ox λW S=>?_;refine gq b ?_;refine dh 7 (dE G 0) ?_;refine dh 8 (dE G 4) ?_;refine kI 9 λK b=>?_;refine ale S aY u ae ae HU.o Fk λW S=>?_;refine gq b ?_;refine qx ?_
   all_goals(
    replace S:St w (cu D) [G,M,g.P] _ _ (Nf G ⟨g.P,g.b,d,N,hc,u⟩ D M {a with dv:=n}) W:=S
    go_wp2_with first|((with_reducible refine Wj ?_);refine zC (v:=dE g.P 0) (cM.cell S.x.1.2 (i:=0) cN) ?_)|(go_at_call 171;refine aj (Ma g.P D M _ _ S.x.1.1) λW⟨E,l⟩=>?_;have hG:G∉ [g.P,M]:=(by rintro(_|⟨_,_|⟨_,h⟩⟩);exact hn.1 ae;exact hn.2.1 ae;cases h);replace S:=S.call l (λD e=>by cases e) (λk hk=>.inl (by simp only[iZ,jK,uH] at hk|-;rcases hk with h|h;exact .inr (.inr h);exact .inr (.inl h))) (Ng G ⟨g.P,g.b,d,N,hc,u⟩ D M (oU {a with dv:=n})) (λB f=>⟨⟨E,cM.fr f.1.2 l aD (.inr hG)⟩,(fN _ _).fr f.2 l⟩);clear E hG)
    go_ret;rw[F.o];exact⟨⟨g.P,g.b,d,N,hc,u⟩,oU {a with dv:=n},ae,ae,⟨S.x.1.2,S.x.1.1,S.x.2.sl,S.q0⟩,ae,λ_=>a2.o,S.fr⟩)))
def iC(x:GT):GT×Int:=
 if x.s.dv.di=cx then(x,42) else
 if 281474976710652<x.ub.lT∨281474976710652<x.s.cR∨281474976710652<x.b.next then(x,192) else
 if fR x.s.mp<nq x.b x.s.dv.n then(x,71) else ju x
def Vl(G D M:Nat)(g:iV)(s:Pl)(z:fG g.b.t)(C:fO g.dK)(B:g.dK.n<=100000)(ho:s.dv.ops<=990000000)(w:cS)(h:dY w G g D M s):
 CP_ 59 #[bW (cu ⟨G,0,cw⟩)] w λe w'=>zu w w' G D M g (iC (g.gt s)) e:=by
 have S:=St.start w (cu D) [G,M,g.P] (iz G g D M s) h.x;have l:=cz λW(X:dY W G g D M s)=>nO g.P D M s.cR s.base W X.lf.row;have c:=cz λW(X:dY W G g D M s)=>K8 D s.dv W X.lf.dev;have o:=cz λW(X:dY W G g D M s)=>wF g.P D M s.cR s.base W X.lf.row;have A:=cz λW(X:dY W G g D M s)=>qw g.P D M s.cR s.base W X.lf.row;have r:=cz λW(X:dY W G g D M s)=>count_map M s.mp W X.lf.map;have t:=cz λW(X:dY W G g D M s)=>Ki G D M g s z W X;have E:=cz λW(X:dY W G g D M s)=>FB G D M g s z C B ho W X;have a:=cz (show iC (g.gt s)=if s.dv.di=cx then(g.gt s,42) else if 281474976710652<g.ub.lT∨281474976710652<s.cR∨281474976710652<g.b.next then(g.gt s,192) else if fR s.mp<nq g.b.t s.dv.n then(g.gt s,71) else ju (g.gt s) from ae);obtain⟨T,x⟩:=dI (iC (g.gt s));obtain⟨st,p⟩:=sO s.cR;obtain⟨u,f⟩:=dI (fR s.mp);obtain⟨v,i⟩:=dI (nq g.b.t s.dv.n);obtain⟨J,j⟩:=dI s.dv.di;rw[x,p.o,f,i,j] at a;rw[x];rw[j] at c;rw[p.o] at o;rw[f] at r;rw[i] at t;clear h x f i j z C B ho;go_enter func59,ntmps59;cases J with
 |true=>rw[df ae] at a;go_wp2_with (first|refine zC S.x.at.c0 ?_|refine mY (l.o _ S.x.at) ?_|refine mY (c.o _ S.x.at) ?_);go_ret;rw[a.o];exact aS
 |false=>
  rw[cZ kB] at a;by_cases b:281474976710652<g.ub.lT;case pos=>have F:decide (281474976710652<g.ub.lT)=cx:=gM b;have K:decide ((281474976710652:Int)<(g.ub.lT:Int))=cx:=gM cN;rw[df (.inl b)] at a;clear b;go_wp2_with (first|(first|refine zC S.x.at.c0 ?_|refine zC S.x.at.c4 ?_)|refine mY (l.o _ S.x.at) ?_|refine mY (c.o _ S.x.at) ?_);go_ret;rw[a.o];exact aS
  have F:decide (281474976710652<g.ub.lT)=cy:=jG b;have K:decide ((281474976710652:Int)<(g.ub.lT:Int))=cy:=jG cN;by_cases d:281474976710652<st;case pos=>have d2:decide (281474976710652<st)=cx:=gM d;have L:decide ((281474976710652:Int)<(st:Int))=cx:=gM cN;rw[df (.inr (.inl d))] at a;clear b d;go_wp2_with (first|(first|refine zC S.x.at.c0 ?_|refine zC S.x.at.c4 ?_)|refine mY (l.o _ S.x.at) ?_|refine mY (c.o _ S.x.at) ?_|refine mY (o.o _ S.x.at) ?_);go_ret;rw[a.o];exact aS
  have d2:decide (281474976710652<st)=cy:=jG d;have L:decide ((281474976710652:Int)<(st:Int))=cy:=jG cN;by_cases m:281474976710652<g.b.next;case pos=>have H:decide (281474976710652<g.b.next)=cx:=gM m;have N:decide ((281474976710652:Int)<(g.b.next:Int))=cx:=gM cN;rw[df (.inr (.inr m))] at a;clear b d m;go_wp2_with (first|(first|refine zC S.x.at.c0 ?_|refine zC S.x.at.c4 ?_|refine zC S.x.at.c1 ?_)|refine mY (l.o _ S.x.at) ?_|refine mY (c.o _ S.x.at) ?_|refine mY (o.o _ S.x.at) ?_);go_ret;rw[a.o];exact aS
  have H:decide (281474976710652<g.b.next)=cy:=jG m;have N:decide ((281474976710652:Int)<(g.b.next:Int))=cy:=jG cN;rw[cZ (λh=>h.elim b λh=>h.elim d m)] at a;clear b d m;by_cases n:u<v;case pos=>have I:decide (u<v)=cx:=gM n;rw[df n] at a;clear n;go_wp2_with (first|(first|refine zC S.x.at.c0 ?_|refine zC S.x.at.c4 ?_|refine zC S.x.at.c1 ?_)|refine mY (l.o _ S.x.at) ?_|refine mY (c.o _ S.x.at) ?_|refine mY (o.o _ S.x.at) ?_|refine mY (A.o _ S.x.at) ?_|refine mY (r.o _ S.x.at) ?_|refine je S (t.o _ S.x.at) λW S=>?_);go_ret;rw[a.o];exact aS
  have I:decide (u<v)=cy:=jG n;rw[cZ n] at a;clear n;go_wp2_with (first|(first|refine zC S.x.at.c0 ?_|refine zC S.x.at.c4 ?_|refine zC S.x.at.c1 ?_)|refine mY (l.o _ S.x.at) ?_|refine mY (c.o _ S.x.at) ?_|refine mY (o.o _ S.x.at) ?_|refine mY (A.o _ S.x.at) ?_|refine mY (r.o _ S.x.at) ?_|refine je S (t.o _ S.x.at) λW S=>?_|(refine(E.o _ S.x.at).mono ?_;rintro e W ⟨O,Z,rfl,R,V,q,y,U⟩;have Q:=S.fr.step U ax (λk Y=>.inl Y);rw[<-a.o] at q;rw[<-a.o]));go_ret;exact⟨O,Z,ae,R,V,q,y,Q⟩
end
section
variable {x:Nat}
theorem St.aeM(S:St w0 d l L O X w)(t:dU)(a:A=cL n f)(ho:gV t=cx):St w0 d l L O (λB w'=>X B w'/\cM w' w.h.s t n f) (w.alloc (.cells A t)):=by refine(S.cP ((gJ _ _).alloc (eN _) _)).wJ ?_ ho;grind[cM.alloc]
def Vm(S:St w0 d l L O X w)(c:a.eval (.tmp x)=bV A)(b:A=cL n f)(ho:gV ty=cx)(h:∀k W,w0.h.s<=k->St w0 d l L O (λB w=>X B w/\cM w k ty n f) W->K (a.put (cu dst) (bW (cu ⟨k,0,cw⟩))) W):Oper.wp P ⟨cu dst,.box ty (.tmp x),t2,p,af,cw⟩ a w K Q:=by unfold Oper.wp execOp;simp only[lh,Instr.box,newVar,newRow,Gl,rR,nW];rw[c];exact h _ _ S.fr.size (S.aeM ty b ho)
def Ni(S:St w0 d l L O X w)(e:a.eval (.tmp x)=bV A)(b:A=cL n f)(ho:gV ty=cx)(h:∀k W,w0.h.s<=k->St w0 d l L O (λB w=>X B w/\cM w k ty n f) W->wpList P ops Q rest (a.put (cu dst) (bW (cu ⟨k,0,cw⟩))) W):wpList P ops Q (⟨cu dst,.box ty (.tmp x),t2,p,af,cw⟩::rest) a w:=by refine mC ae λK c=>?_;unfold Oper.wp execOp;simp only[lh,Instr.box,newVar,newRow,Gl,rR,nW];rw[e];exact c _ _ (h _ _ S.fr.size (S.aeM ty b ho))
end
section
attribute[local irreducible]wpList Code.wp Calls Oper.wp wpAnyH
theorem Kq(G D M:Nat)(g:iV)(s:Pl)(L:zn g.b.t)(N:g.dK.n<=1000000)(w:cS)(h:dY w G g D M s):
 CP_ 58 #[bW (cu ⟨G,0,cw⟩)] w λe w'=>∃l y d,e=cj (bW (cu ⟨l,0,cw⟩))/\w.h.s<=l/\w.h.s<=y.P/\w.h.s<=d/\dY w' l y D d s/\y.gt s=g.gt s/\dR w w':=by obtain⟨A,z⟩:=fP (cL 2 (dO g.b));have Z:=cz z;obtain⟨U,F⟩:=yB (cL 7 (kV g.ub));have j:=cz h;have O:=cz λW(a:dR w W)=>nO g.P D M s.cR s.base W ((h.cP a).lf.row);have Q:=cz λW(a:dR w W)=>qw g.P D M s.cR s.base W ((h.cP a).lf.row);have R:=cz λW(a:dR w W)=>(adE M s.mp W ((h.cP a).lf.map)).mono λe w'(f:_/\_/\_)=>(show∃k,e=cj (dE k 0)/\w.h.s<=k/\fB w' k s.mp/\dR W w' from⟨_,f.1,a.s,f.2.1,f.2.2⟩);have T:=cz λW(a:dR w W)=>wF g.P D M s.cR s.base W ((h.cP a).lf.row);have V:=cz λW(a:dR w W)=>Rs g.P D M s.cR s.base W ((h.cP a).lf.row);have X:=cz λd W(a:dR w W)=>(zV D d s.cR s.base W).mono λe w'(f:_/\_/\_)=>(show∃k,e=cj (dE k 0)/\w.h.s<=k/\mf w' k D d s.cR s.base/\dR W w' from⟨_,f.1,a.s,f.2.1,f.2.2⟩);have Y:=cz λW(a:dR w W)=>As g.b A z L W ((h.cP a).wV);have E:=cz λW(a:dR w W)=>OZ g.dK g.hv N W ((h.cP a).dK);unfold iV.hv at E;have S:=qR w;clear h z L N;go_enter func58,ntmps58;go_upto_region 2 with(with_reducible refine jo 7 68 6 (j.o.cP S.b).c0 ?_);refine Ce S dC λW S=>?_;refine dh 0 _ ?_;refine dh 2 _ ?_;refine dh 5 _ ?_;refine dh 7 _ ?_;refine dh 10 _ ?_;refine dh 11 (dE G 0) ?_;refine dh 12 (dE G 1) ?_;refine gZ 13 (bV A) ae (yKn (λw h=>by obtain⟨_,_,_,S⟩:=h;exact(j.o.cP S.b).row) (o:=1) (m:=2) ae (dO g.b) cN (λi hi=>by rcases i with(_|_|i)<;>first|rfl|omega) Z.o nT) ?_;refine dh 15 _ ?_;refine dh 16 (dE G 0) ?_;refine dh 17 (dE G 3) ?_;refine gZ 18 (bX g.ho g.dK.n g.hc) ae (gO (λw h=>by obtain⟨_,_,_,S⟩:=h;exact(j.o.cP S.b).c3) ae ox) ?_;refine dh 20 _ ?_;refine dh 21 (dE G 0) ?_;refine dh 22 (dE G 4) ?_;refine gZ 23 (bV U) ae (yKn (λw h=>by obtain⟨_,_,_,S⟩:=h;exact(j.o.cP S.b).row) (o:=4) (m:=7) ae (kV g.ub) cN (λi hi=>by unfold wm;grind) F.o Fk) ?_;refine kI 1 λK b=>?_;go_wp2_with fail;refine mY (O.o _ S.b) ?_;refine gq b ?_;refine kI 3 λK b=>?_;go_wp2_with fail;refine mY (Q.o _ S.b) ?_;refine gq b ?_;refine kI 4 λK b=>?_;go_wp2_with fail;refine ah (R.o _ S.b) λd W⟨n,q,a⟩=>?_;have u:=cz n;replace S:=(S.cP a).wJ q ae;clear q a n;refine gq b ?_;refine kI 6 λK b=>?_;go_wp2_with fail;refine mY (T.o _ S.b) ?_;refine gq b ?_;refine kI 8 λK b=>?_;go_wp2_with fail;refine mY (V.o _ S.b) ?_;refine gq b ?_;refine kI 9 λK b=>?_;go_wp2_with fail;refine ah (X.o d _ S.b) λH W⟨p,q,a⟩=>?_;have v:=cz p;replace S:=(S.cP a).wJ q ae;clear q a p;refine gq b ?_;refine kI 14 λK b=>?_;go_wp2_with fail;refine ah (Y.o _ S.b) λB W⟨⟨c,I,hc,ho⟩,a⟩=>?_;have HB:=cz I;have HC:=cz hc;have HF:=cz (S.fresh ho);replace S:=S.kr a ho;clear a I hc;refine gq b ?_;refine kI 19 λK b=>?_;go_wp2_with fail;refine ah (E.o _ S.b) λr W⟨ho,a⟩=>?_;have t:=cz (dx ho);replace S:=S.iv a ho ae ae;clear a;obtain⟨J,hc,rfl⟩:=t.o;refine gq b ?_;refine gZ 24 (bV (cL 11 (wm ⟨H,c,g.dK,J,hc,g.ub⟩))) ae (y8 ae (by rw[HB.o,F.o];kernel_rfl)) ?_;refine kI 25 λK b=>?_;refine Vm S ae ae ae λl W C S=>?_;refine gq b ?_;refine dh 26 _ ?_;refine qx ?_;go_wp2;go_ret;exact⟨l,⟨H,c,g.dK,J,hc,g.ub⟩,d,ae,C,v.o,u.o,⟨S.x.2,⟨S.x.1.1.2,(j.o.cP S.b).lf.dev,S.x.1.1.1.2,j.o.lf.ok⟩,⟨S.q1,λx hx=>(S.x.1.2 x hx).1⟩,S.q0⟩,by unfold iV.gt;rw[<-HC.o],S.b⟩
def lX(f:Nat->cV):Prop:=∀i,j0 (f i)
theorem abX(d:Dv):(fC d).nw=d.nw:=by grind[fC]
theorem Qv(d:Dv)(i:Int):(ik d i).1.nw=d.nw:=abX d
theorem Nj{d:Dv}(h:lX d.nw)(i:Int):j0 (ik d i).2.1:=by unfold ik;simp only;split;split;exact xf;exact h _;exact xf
theorem Vn(s:Pl)(q:cQ):(gr s q).1.dv.nw=s.dv.nw:=by grind[gr,Qv]
theorem Qw(h:lX s.dv.nw)(q:cQ):j0 (gr s q).2.1:=by grind[gr,xf,Nj]
theorem uz(s:Pl)(q:cQ):(du s q).1.dv.nw=s.dv.nw:=by grind[du,Vn]
theorem Is{α β:Type}{f:Pl×β->α->Pl×β}(h:∀a x,(f a x).1.dv.nw=a.1.dv.nw):∀(l:List α)(a:Pl×β),(l.foldl f a).1.dv.nw=a.1.dv.nw
 | [],_=>rfl
 |x::l,a=>by rw[zG,Is h l (f a x),h]
theorem SC(a:Nat)(x:Pl×(List cQ×Int))(q:cQ):(fU a x q).1.dv.nw=x.1.dv.nw:=by grind[fU,uz]
theorem Kr(x:Pl×(List cQ×List cQ×Int))(a:Nat):(iW x a).1.dv.nw=x.1.dv.nw:=by grind[iW,fV,Is,SC]
theorem Ks(x:Pl×(cV×Int))(q:cQ):(jU x q).1.dv.nw=x.1.dv.nw:=by grind[jU,Vn]
theorem Vo(s:Pl)(l:List cQ)(n:Nat):(eX s l n).1.dv.nw=s.dv.nw:=by grind[pH,Is,Ks,eX]
theorem Kt(s:Pl)(cO:cQ)(n:Int):(eP s cO n).1.dv.nw=s.dv.nw:=by grind[eP,Is,Kr,Vo]
theorem Ku:∀(l:List cQ)(x:Pl×(cV×Int)),lX x.1.dv.nw->(∀c∈x.2.1,c<256)->∀c∈(l.foldl jU x).2.1,c<256
 | [],_,_,h=>h
 |q::l,x,hn,h=>by
  rw[zG];refine Ku l (jU x q) (by grind[Ks]) ?_;unfold jU;split
  . exact h
  split
  . grind
  . intro c hc;rcases gH.1 hc with hc|hc
    . grind
    . exact(Qw hn q).2 c hc
theorem Vp(s:Pl)(a:lX s.dv.nw)(l:List cQ)(n:Nat):∀c∈(eX s l n).2.1,c<256:=by have h:=Ku l (s,([],0)) a (λc hc=>absurd hc jK);unfold eX;grind[pH]
theorem Vq(s:Pl)(b:lX s.dv.nw)(cO:cQ)(n:Int):∀c∈(eP s cO n).2.1,c<256:=by unfold eP;have a:((qW n).foldl iW (s,([cO],[cO],0))).1.dv.nw=s.dv.nw:=Is Kr _ _;grind[Vp]
theorem Nk(s:Pl)(a:cV):(jZ s a).1.dv.nw=s.dv.nw:=by grind[jZ,Kt]
theorem Yj(s:Pl)(b:lX s.dv.nw)(a:cV):∀c∈(jZ s a).2.1,c<256:=by unfold jZ;split;grind;exact Vq _ b _ _
theorem Kv(s:Pl)(a:cV):(jZ s a).1.dv.ops<=s.dv.ops+6200:=by unfold jZ;split;grind;grind[yb]
theorem aeN(n:Nat)(a:List cQ)(h g:Pl×(cV×List cQ×Int))(d:∀c∈h.2.1,c<256):fG (ml3 n a h g).1:=by have b:fG tF:=⟨by decide,⟨by simp[tF],λt h=>absurd h jK⟩,λs h=>absurd h jK⟩;grind[ml3,aeI]
theorem aeO(n:Nat)(a:List cQ)(h g:Pl×(cV×List cQ×Int)):(ml3 n a h g).2.2.1.n<=a.n+h.2.2.1.n+g.2.2.1.n:=by unfold ml3;grind
def Ct:fG tF:=⟨by decide,⟨by simp[tF],λt h=>absurd h jK⟩,λs h=>absurd h jK⟩
theorem zw(s:Pl)(k:lX s.dv.nw)(t:cQ):fG (ke s t).2.1/\(ke s t).2.2.2.1.n<=20000/\(ke s t).1.dv.ops<=s.dv.ops+20000/\(ke s t).1.dv.nw=s.dv.nw:=by unfold ke;have f:=yb s t 40;have n1:=Kt s t 40;have d:=sL s t 40;split;exact⟨Ct,gw _,by grind,n1⟩;generalize eP s t 40=a at f n1 d|-;unfold ml1;have i:=Kv a.1 (a.2.1.take 20);have n2:=Nk a.1 (a.2.1.take 20);have l2:=Ab a.1 (a.2.1.take 20);have c:=Yj a.1 jv (a.2.1.take 20);simp only;generalize jZ a.1 (a.2.1.take 20)=h at i n2 l2 c|-;split;exact⟨Ct,gw _,by grind,n2.trans n1⟩;unfold ml2;have j:=Kv h.1 (a.2.1.drop 20);have b:=Nk h.1 (a.2.1.drop 20);have e:=Ab h.1 (a.2.1.drop 20);simp only;generalize jZ h.1 (a.2.1.drop 20)=g at j b e|-;split;exact⟨Ct,gw _,by grind,(b.trans n2).trans n1⟩;grind[aeO,aeN]
theorem Nl{s:cV}(h:j0 s){u:rC}(e:kb s=cu u):oP u:=by unfold kb at e;split at e;cases e;next q hq=>split at e;cases e;exact Hc h.2 (xj (λx a=>h.2 x (mS (lQ a))) hq);cases e
theorem Nn(x:Dv×List rC)(i:Nat)(h:lX x.1.nw)(a:∀u∈x.2,oP u):(rX x i).1.nw=x.1.nw/\(rX x i).1.ops<=x.1.ops+1/\∀u∈(rX x i).2,oP u:=by grind[Qv,Yh,Nj,rX,Nl]
def It(d:Dv)(h:lX d.nw):∀k,(kj d k).1.nw=d.nw/\(kj d k).1.ops<=d.ops+k/\∀u∈(kj d k).2,oP u
 |0=>⟨ae,eN _,λu f=>absurd f jK⟩
 |k+1=>by
  obtain⟨a,i,e⟩:=It d h k;rw[DK];obtain⟨b,g,c⟩:=Nn (kj d k) k (by rw[a];exact h) e;exact⟨b.trans a,cN,c⟩
def Vr:oP mu:=⟨by decide,by decide,⟨by decide,by decide,by decide⟩,by decide,by decide⟩
theorem vh(d:Dv)(h:lX d.nw):(fW d).1.nw=d.nw/\(fW d).1.ops<=d.ops+4/\oP ((fW d).2.getD mu):=by obtain⟨a,b,c⟩:=It d h 4;refine⟨a,b,?_⟩;cases e:(fW d).2 with|none=>exact Vr|some u=>have f:u∈oZ (kj d 4).2:=mem_of_getLast? e;grind[sF]
def vi(s:dw):Prop:=s.di.n<=1000000/\s.name.s<=1000/\tU s
def fG.of(d:b.next<18446744073709551616)(e:b.cU.n<=1000000)(a:∀s∈b.cU,vi s):fG b:=
 ⟨d,⟨e,λt c=>⟨(a t c).1,(a t c).2.1⟩⟩,λs f=>(a s f).2.2⟩
def fG.ok(h:fG b):∀s∈b.cU,vi s:=λs a=>⟨(h.fit.2 s a).1,(h.fit.2 s a).2,h.parts s a⟩
theorem o8:vi oH:=⟨gw _,gw _,dV,λq h=>absurd h jK⟩
theorem wK{l:List dw}(h:∀s∈l,vi s)(k:Nat):vi (dH l k):=by grind[dH,o8]
theorem Vs{l:List dw}(h:∀s∈l,vi s)(k:Option Nat):vi (Mu l k):=by cases k<;>grind[o8,wK,Mu]
theorem Iu{l:List dw}(h:∀s∈l,vi s){x:dw}(a:vi x)(i:Nat):∀s∈l.set i x,vi s:=by grind
theorem Qx{l:List dw}(h:∀s∈l,vi s)(i:Nat):∀s∈l.eraseIdx i,vi s:=by grind[mem_of_mem_eraseIdx]
theorem No{cT ir:fF}(h:vC cT=cu ir):ir.s<=24:=by grind[vC,kF,xD]
theorem Np{cT ir dz:fF}(h:eO cT=cu (ir,dz)):dz.s<=24:=by unfold eO at h;split at h;cases h;next hn=>simp only[yz,I0] at h;rw[<-h.2];cases b:eo (x5 cT).2.1 with|true=>exact kF b|false=>(have a:(x5 cT).2.2=cy:=by grind);unfold x5 at a|-;split at a;cases a;next hc=>rw[cZ hc];exact gw _
theorem Vt{cT ir dz:fF}(h:pG cT=cu (ir,dz)):ir.s<=24/\dz.s<=24:=by grind[pG,kF,xD,Np]
def Vu(n:Nat):iR n<18446744073709551616:=Dz n
theorem Kw(h:fG b)(c:b.cU.n<32){s:dw}(d:vi s):fG (u0 b s):=
 fG.of (Vu _) (by grind[u0]) λt a=>by
  rcases gH.1 a with a|a
  . exact h.ok t a
  grind
theorem CY(h:fG b)(cT:fF)(n:Int):fG (iK b cT n).1:=by unfold iK;split;exact h;next ir hv=>split;exact h;split;exact h;next h32=>split;exact h;refine Kw h cN ⟨gw _,?_,dV,λq h=>absurd h jK⟩;grind[No]
theorem D6(h:fG b)(f t:fF):fG (jy b f t).1:=by unfold jy;split;exact h;split;exact h;next ir hv=>split;exact h;next i _=>split;exact h;next h32=>split;exact h;have a:=wK h.ok i;refine Kw h cN ⟨gw _,?_,a.2.2.1,λq h=>absurd h jK⟩;grind[No]
theorem FD(h:fG b)(f:fF)(st:Nat):fG (im b f st).1:=by unfold im;split;exact h;next ir dz hv=>split;exact h;next i _=>split;exact h;next h32=>split;exact h;split;exact h;have c:=wK h.ok i;have d:=(Vt hv).2;refine fG.of (Vu _) jv (Iu (x:={dH b.cU i with dB:=b.next,di:=[]}) (λt a=>?_) ⟨gw _,c.2.1,c.2.2.1,λq h=>absurd h jK⟩ i);rcases gH.1 a with a|a;exact h.ok t a;rw[fM.1 a];exact⟨c.1,by grind,c.2.2⟩
theorem Qy(l:List dw)(id:Nat):∀(b:cV)(s r:List dw),(∀t∈s,vi t)->zq l id b s=cu r->(∀t∈r,vi t)/\r.n=s.n
 | [],s,r,h,e=>by cases e<;>grind
 |m::b,s,r,h,e=>by
  rw[Kg] at e;split at e
  . cases e
  . next j _=>
    split at e
    . cases e
    . have a:=wK h j;have:=Qy l id b _ r (Iu h (x:={dH s j with cY:=id}) ⟨a.1,a.2.1,a.2.2⟩ j) e;rw[xM] at this;exact this
def Bq(h:fG b)(f:fF):fG (fQ b f).1:=by unfold fQ;split;exact h;split;exact h;split;exact h;next s hs=>obtain⟨a,c⟩:=Qy _ _ _ _ _ h.ok hs;exact fG.of h.next (by rw[c];exact h.fit.1) a
theorem FE(h:fG b)(f:fF):fG (jI b f).1/\vi (jI b f).2.1:=by unfold jI;split;grind[o8];next i _ _=>split;grind[o8];next j _=>have a:=wK h.ok i;have c:=wK h.ok j;exact⟨fG.of h.next amP (Iu (x:={dH b.cU i with cO:=(dH b.cU j).cO,di:=[]}) h.ok ⟨gw _,a.2.1,c.2.2.1,λq h=>absurd h jK⟩ i),a⟩
theorem Br(h:fG b)(f:fF):fG (fp b f).1/\vi (fp b f).2.1:=by unfold fp;split;grind[o8];next i _ _=>split;grind[o8];exact⟨fG.of h.next (iE (I1 _ _) h.fit.1) (Qx h.ok i),wK h.ok i⟩
theorem Gz:∀(a b r:List cQ),jP a b=cu r->∀q∈r,q∈a∨q∈b
 | [],b,r,e=>by grind[jP]
 |p::a,[],r,e=>by grind[jP]
 |p::a,q::b,r,e=>by
  rw[jP] at e;split at e
  . obtain⟨r',d,rfl⟩:=Ak.1 e;intro x c;rcases iZ.1 c with rfl|c
    . grind
    . exact(Gz a (q::b) r' d x c).imp (lu _) id
  split at e
  . obtain⟨r',d,rfl⟩:=Ak.1 e;intro x c;rcases iZ.1 c with rfl|c
    . grind
    . exact(Gz (p::a) b r' d x c).imp id (lu _)
  . cases e
termination_by a b=>a.n+b.n
theorem Ac(h:fG b)(f:fF):fG (ez b f).1/\fO (ez b f).2.1/\(ez b f).2.1.n<=1000000:=by unfold ez;split;simp_all[dS];split;simp_all[dS];next i _=>split;simp_all[dS];split;simp_all[dS];next j _=>split;simp_all[dS];next all hm=>split;simp_all[dS];next h4=>have d:=wK h.ok i;have a:=wK h.ok j;refine⟨fG.of h.next (iE (I1 _ _) amP) (Qx (Iu (x:={dH b.cU j with di:=all,dB:=(dH b.cU i).dB}) h.ok ⟨?_,a.2.1,a.2.2.1,λq c=>?_⟩ j) i),λq c=>?_,?_⟩;grind;rcases Gz _ _ _ hm q c with h1|h1;unfold o5 at h1;exact a.2.2.2 q (AE.1 h1).1;exact d.2.2.2 q h1;unfold jO at c;exact a.2.2.2 q (AE.1 c).1;unfold jO;exact iE (FW _ _) a.1
theorem Jz(a:Nat):∀(l:List cQ)(s r:List cQ×List cQ),fO l->fO s.1->s.1.n<=1000000->fO s.2->wi a l s=cu r->(fO r.1/\r.1.n<=1000000)/\fO r.2/\r.2.n<=s.2.n+l.n
 | [],s,r,_,h1,h2,h3,e=>by cases e<;>grind
 |q::l,s,r,hl,h1,h2,h3,e=>by
  rw[DS] at e;have f:=hl q nC;have c:fO l:=λx b=>hl x (lu _ b);split at e
  . have:=Jz a l (s.1,s.2++[q]) r c h1 h2 (λx b=>by
     rcases gH.1 b with b|b
     . exact h3 x b
     grind) e
    grind
  . split at e
    . cases e
    . next m hm=>
      split at e
      . cases e
      . next h4=>
        have d:fO m:=by
         unfold rF at hm;split at hm
         . cases hm
         split at hm
         . cases hm
         . cases hm;intro x b;rcases gH.1 b with b|b
           . exact h1 x (lQ b)
           . rcases iZ.1 b with rfl|b
             . exact f
             . exact h1 x (mS b)
        have:=Jz a l (m,s.2) r c d jv h3 e
        grind
theorem FF(h:fG b)(id:Nat)(l:List cQ)(f:fO l):fG (jT b id l).1/\fO (jT b id l).2.1/\(jT b id l).2.1.n<=l.n:=by unfold jT;split;simp_all[dS];next i _=>split;simp_all[dS];next d g hk=>have a:=wK h.ok i;obtain⟨c,e,j⟩:=Jz _ _ ((dH b.cU i).di,[]) _ f a.2.2.2 a.1 dS hk;refine⟨fG.of h.next amP (Iu (x:={dH b.cU i with di:=d}) h.ok ⟨c.2,a.2.1,a.2.2.1,c.1⟩ i),e,?_⟩;grind
def Kx(h:lX s.dv.nw)(q:cQ):∀i,i<8->dD ((du s q).2.1 i):=by have a:=Qw h q;unfold du;split;intro i _;exact dV;split;intro i _;exact dV;next l e=>exact λi _=>zW a e i
theorem Ky{l:Nat->cQ}(h:∀i,i<8->dD (l i)):fO (mr l):=by intro q a;unfold mr at a;grind
theorem FG(cR:Nat):∀(l:List cQ)(x:Pl×(List cQ×Int)),lX x.1.dv.nw->fO l->fO x.2.1->fO (l.foldl (jY cR) x).2.1/\(l.foldl (jY cR) x).2.1.n<=x.2.1.n+9*l.n/\(l.foldl (jY cR) x).1.dv.nw=x.1.dv.nw
 | [],x,_,_,h=>⟨h,eN _,ae⟩
 |q::l,x,hn,hl,h=>by
  rw[zG];have b:=hl q nC;have key:fO (jY cR x q).2.1/\(jY cR x q).2.1.n<=x.2.1.n+9/\(jY cR x q).1.dv.nw=x.1.dv.nw:=by
   unfold jY;split
   . grind
   split
   . grind
   split
   . simp_all[dS,uz]
   . refine⟨λy a=>?_,?_,uz _ _⟩
     . rcases gH.1 a with a|a
       . exact h y a
       . rcases iZ.1 a with rfl|a
         . exact b
         . exact Ky (Kx hn q) y (AE.1 a).1
     grind[qf]
  have:=FG cR l (jY cR x q) jv (λy a=>hl y (lu _ a)) key.1
  grind
theorem FH(h:lX s.dv.nw)(a:dD q)(st:Nat):fO (gY s q st).2.1/\(gY s q st).2.1.n<=73/\(gY s q st).1.dv.nw=s.dv.nw:=by unfold gY;split;exact⟨dS,gw _,ae⟩;split;simp_all[dS,uz];have:=FG st (mr (du s q).2.1) ((du s q).1,([q],0)) (by grind[uz]) (Ky (Kx h q)) (λy b=>by grind);grind[qf,uz,vA]
theorem CZ{y:Way}{q:cQ}(a:∀k,dD (y.first k))(b:dD y.block)(c:dD q)(i:Nat):fO (lI y q i)/\(lI y q i).n<=3:=by unfold lI;refine⟨λx d=>?_,FW _ _⟩;grind
theorem FI(a:pD s.dv)(e:gy s.cR)(c:dD q)(i:Int)(b:cV):dD (kZ s q i b).2.1/\fO (kZ s q i b).2.2.1/\(kZ s q i b).2.2.1.n<=3:=by have d:dD q/\fO ([]:List cQ)/\([]:List cQ).n<=3:=⟨c,dS,gw _⟩;obtain⟨f,g,h⟩:=rU a q i.m;unfold kZ;simp only;split<;>grind[CZ,oh,oj,DF,uR]
theorem SD{s:Pl}(e:gy s.cR){y:Way}(c:∀k,dD (y.first k))(d:dD y.block){q:cQ}(a:dD q)(i:Nat):dD (om s y q i).2.1/\fO (om s y q i).2.2.1/\(om s y q i).2.2.1.n<=3:=by have b:dD q/\fO ([]:List cQ)/\([]:List cQ).n<=3:=⟨a,dS,gw _⟩;grind[CZ,om,oj,oh,dV]
theorem D7(c:pD s.dv)(d:gy s.cR)(a:dD q)(i:Int):dD (iF s q i).2.1/\fO (iF s q i).2.2.1/\(iF s q i).2.2.1.n<=3:=by have b:dD q/\fO ([]:List cQ)/\([]:List cQ).n<=3:=⟨a,dS,gw _⟩;grind[rU,iF,SD,uR]
def rK(x:GT)(b:ee):GT:={x with b:=b}
def Bt(x:GT):Int:=if Bm (nq x.b x.s.dv.n) (fR x.s.mp) x.dK.n=cx then 0 else 71
def pJ(x:GT)(r:ee×Int):GT×Int:=if r.2≠0 then(x,r.2) else(rK x r.1,Bt (rK x r.1))
def mB(cT:fF)(n:Int)(x:GT):GT×Int:=if 281474976710651<x.b.next then(x,192) else pJ x (iK x.b cT n)
def qN(f t:fF)(x:GT):GT×Int:=if 281474976710651<x.b.next then(x,192) else pJ x (jy x.b f t)
def qA(cT:fF)(x:GT):GT×Int:=
 if 281474976710651<x.b.next∨281474976710651<x.s.cR then(x,192) else
 if(im x.b cT x.s.cR).2≠0 then(x,(im x.b cT x.s.cR).2) else
 ({rK x (im x.b cT x.s.cR).1 with s:=tS x.s},Bt {rK x (im x.b cT x.s.cR).1 with s:=tS x.s})
def l9(cT:fF)(x:GT):GT×Int:=if(fQ x.b cT).2≠0 then(x,(fQ x.b cT).2) else(rK x (fQ x.b cT).1,0)
def vj(b:ee)(x:GT)(r:Pl×(List cQ×Int)):GT×Int:=
 if r.2.2≠0 then({x with s:=r.1},vD r.2.2) else({x with b:=b,s:=dM r.1 r.2.1},0)
def oM(b:ee)(iP:dw)(x:GT):GT×Int:=vj b x (gY x.s iP.cO (gj x.b.cU iP.id))
def oA(x:GT)(r:ee×(dw×Int)):GT×Int:=if r.2.2≠0 then(x,r.2.2) else oM r.1 r.2.1 x
def uA(cT:fF)(x:GT):GT×Int:=oA x (jI x.b cT)
def tW(x:GT)(r:ee×(List cQ×Int)):GT×Int:=
 if r.2.2=131 then(x,91) else if r.2.2≠0 then(x,r.2.2) else({x with b:=r.1,s:=dM x.s r.2.1},0)
def kY(cT:fF)(x:GT):GT×Int:=
 (eO cT).elim (x,141) λp=>if p.2=sG then oA x (fp x.b cT) else tW x (ez x.b cT)
def gK(b:ee)(id:Nat)(cO:cQ):ee:=⟨b.next,b.cU.map λs=>if s.id=id then {s with cO:=cO} else s⟩
def zx(x:GT)(r:ee×(List cQ×Int)):GT×Int:=
 if r.2.2≠0 then(x,vD r.2.2) else({x with b:=r.1,s:=dM x.s r.2.1},Bt {x with b:=r.1,s:=dM x.s r.2.1})
def se(id:Nat)(cO:cQ)(iP:List cQ)(x:GT):GT×Int:=zx x (jT (gK x.b id cO) id iP)
def sV(id:Nat)(x:GT)(t:Pl×(cQ×(List cQ×Int))):GT×Int:=
 if t.2.2.2≠0 then({x with s:=t.1},vD t.2.2.2) else se id t.2.1 t.2.2.1 {x with s:=t.1}
def mL(cT:fF)(i:Int)(bs:cV)(x:GT):GT×Int:=
 if(qL x.b cT i).2≠0 then(x,(qL x.b cT i).2) else if 128<bs.n then(x,92) else
 sV (qL x.b cT i).1.id x (kZ x.s (qL x.b cT i).1.cO i bs)
def rL(cT:fF)(i:Int)(x:GT):GT×Int:=
 if(qL x.b cT i).2≠0 then(x,(qL x.b cT i).2) else sV (qL x.b cT i).1.id x (iF x.s (qL x.b cT i).1.cO i)
def asked(x:GT)(d:Dv):GT:={x with s:={x.s with dv:=d}}
def td(x:GT)(r:GT×Int):GT×Int:=if r.2≠0 then(asked x r.1.s.dv,r.2) else(r.1,0)
def dX(x:GT)(k:GT->GT×Int):GT×Int:=if x.s.dv.di=cx then(x,42) else td x (k x)
structure E0(x:GT):Prop where
 text:fG x.b
 q6:x.dK.n<=100000
 ops:x.s.dv.ops<=990000000
def fA(w:cS)(K D:Nat)(x:GT):Prop:=∃G g M,vf w K G g D M x.s/\g.gt x.s=x/\fO x.dK
def lO.and{Y:cV->cS->Prop}(h:lO d X)(g:lO d Y):lO d (λB w=>X B w/\Y B w):=
 ⟨λa b=>⟨h.cP a.1 b,g.cP a.2 b⟩,λa b=>⟨h.add a.1 b,g.add a.2 b⟩,λa b=>⟨h.mono a.1 b,g.mono a.2 b⟩,λa b c t u v=>⟨h.but a.1 b c t u v,g.but a.2 b c t u v⟩,λa e=>h.dev a.1 e⟩
def dY.xB(h:dY w G g D M s)(e:∀b∈B,iA w b≠cu 109/\iA w b≠cu 106):qM G g D M s B w:=
 ⟨⟨⟨h.lf,h.row⟩,⟨⟨h.wV.1,λd b a c=>(e b c).1 (c8.ty h.wV.1 a d)⟩,λx f=>⟨h.wV.2 x f,λd b a c=>(e b c).2 (c8.ty (h.wV.2 x f) a d)⟩⟩⟩,⟨h.dK,λd b a c=>(e b c).2 (c8.ty anz a d)⟩⟩
def zy(K G:Nat)(g:iV)(D M:Nat)(s:Pl):cV->cS->Prop:=λB w=>qM G g D M s B w/\cM w K 101 1 (λ_=>bW (cu ⟨G,0,cw⟩))
def kt(K G:Nat)(g:iV)(D M:Nat)(s:Pl):lO (cu D) (zy K G g D M s):=(iz G g D M s).obj (t:=101) (n:=1) (b:=K) (f:=λ_=>dE G 0) ae
def zy.at{K:Nat}(h:zy K G g D M s B w):vf w K G g D M s:=⟨h.2,h.1.at⟩
def vf.x{K:Nat}(h:vf w K G g D M s):zy K G g D M s [] w:=⟨h.KX.x,h.row⟩
def dY.beside{b c:Nat}{d:iV}{a:Pl}(h:dY w G g D M s)(e:dY w' b d D c a)(f:Fr (cu D) l w w')(i:G∉l)(j:M∉l)(k:g.P∉l):dY w' G g D M {s with dv:=a.dv}:=
 ⟨cM.fr h.row f aw (.inr i),⟨cM.fr h.lf.row f aw (.inr k),e.lf.dev,h.lf.map.fr f j,h.lf.ok⟩,
  ⟨c8.fr h.wV.1 f aw ae,λx m=>c8.fr (h.wV.2 x m) f aw ae⟩,c8.fr anz f aw ae⟩
def St.Yk(S:St w0 d l L O X w)(a:lO d X')(b:X' (eS L O) w):St w0 d l L O X' w:=
 ⟨S.fr,S.row,S.own,S.lo,S.nd,b,a⟩
def ake:kg prog 118 1:=⟨⟨_,underlying118,ae⟩,dC⟩
instance in7b579 :sE 118 1:=⟨ake⟩
def ZI:(#[bW cw]:gE)=cL 1 (λ_=>bW cw):=rfl
instance in7c1c8 :ZR 118 1 (λ_=>bW cw):=⟨_,zeroValue118,ZI⟩
def Cu(G D M:Nat)(g:iV)(s:Pl)(l:List cQ)(y:fO l)(z:l.n<=1000000)(v:c7)(p:gE)(d:p=cL 1 (λ_=>bW (cu ⟨G,0,cw⟩)))(w:cS)(h:dY w G g D M s)(R:lk w v l):
 CP_ 67 #[bV p,v] w λe w'=>e=cj (cg #[])/\dY w' G g D M (dM s l)/\Fr (cu D) [M] w w':=by
 obtain⟨ao,cap,rfl,u,b⟩:=dP R;have H:=cz R;have b:=cz b;have E:=cz d;have F:=cz y;have S:=St.start w (cu D) [M] (iz G g D M s) h.x;have m:=cz (qM.Pf h.x);clear h R d y;go_enter func67,ntmps67;go_upto_region 2 with(refine fg λW S=>?_);go_loopw [8] (λi wr=>∃k:Nat,k<=l.n/\i=bU cq k/\Hid (St w (cu D) [M] [⟨w.h.s,118,1,λ_=>dE G 0⟩] [] (qM G g D M (dM s (l.take k))) wr)) (λi _=>l.n-(intOf i).m);exact⟨0,cN,ae,cz S⟩;clear S;obtain⟨k,x,rfl,hS⟩:=hrel;by_cases a:k<l.n
 . (obtain⟨L,N,rfl⟩:=b.o cN;obtain⟨q,o⟩:=dI (l[k]);obtain⟨A,j⟩:=fP (cL 3 (dF q));have f:=cz (kE l a (A:=A) (by rw[o];exact j));have c:l[k]?=cu q:=by rw[jE a,o]);have B:=cz λW h=>qz G D M g (dM s (l.take k)) W h;have r:=cz λW h=>H7 g.P D M (dM s (l.take k)) q (F.o q (kA c)) W h;rw[dk j,<-Kn c] at r;have C:=cz j;have S:=hS.o;clear hS j o c;have t:=cz a;go_upto_region 4 with(first|((with_reducible refine Wj ?_);refine AD (H.o.fr S.fr aw ae) a (vu C) f.o ?_)|refine fg λW S=>?_);refine eu S dC λW S=>?_;refine dh 0 (dE w.h.s 0) ?_;refine dh 1 (dE G 0) ?_;refine dh 3 (bV A) ?_;refine kI 2 λK n=>?_;go_wp2_with fail;refine mY (B.o _ S.x.at) ?_;refine gq n ?_;refine kI 4 λK n=>?_;go_wp2_with fail;refine aj (r.o _ S.x.at.lf) λW⟨J,I⟩=>?_;replace S:=S.ahR I (λD e=>by cases e) (λk x=>.inl x) (by rw[fM];exact m.o.2.1) J;refine gq n ?_;refine qx ?_;go_wp2;go_roundw;have:=t.o;exact⟨k+1,cN,by go_num,cz S.pop⟩;have:=t.o;simp[intOf];omega
 . obtain rfl:k=l.n:=cN;have S:=hS.o;rw[qq] at S;go_wp2;refine FY (vO ae _ _ _) ae ?_;exact⟨ae,S.x.at,S.fr⟩
end
section
def St.Vv(S:St w0 d l L O X w)(i:dR w w')(ho:uZ w' w.h.s c):St w0 d l L O (λB w=>X B w/\rY c.sv c.l B w) w':=
 (S.cP i).DN (fN c.sv c.l) ⟨⟨c8.jR ho.1,λ_ b a e=>by have g:=(ho.1.lt b a).1;have h:=S.lt b e;omega⟩,
  λx f=>⟨(ho.2 x f).1,λj b a e=>by have g:=(ho.2 x f).2 j b a;have h:=S.lt b e;omega⟩⟩
def St.Nq(S:St w0 d l L O X w)(f:dR w w')(ho:uZ w' w.h.s c){r:c7}{g:List cQ}(e:il w' w.h.s r g):St w0 d l L O (λB w=>(X B w/\rY c.sv c.l B w)/\yX 106 3 r g.n (iS g) B w) w':=
 (S.Vv f ho).DN (fE 106 3 r _ _ ae ae) ⟨c8.jR e,λ_ b a h=>by have i:=(e.lt b a).1;have j:=S.lt b h;omega⟩
end
def upR(id:Nat)(q:cQ)(x:dL):dL:=if x.id=id then {x with cO:=q} else x
def vl(id:Nat)(q:cQ)(l:List dL)(k:Nat):List dL:=(l.take k).map (upR id q)++l.drop k
theorem Nr(id:Nat)(q:cQ)(l:List dL)(k:Nat):(vl id q l k).n=l.n:=by grind[vl]
theorem aeP{id:Nat}{l:List dL}(a:k<l.n):(vl id q l k)[k]?=cu l[k]:=by unfold vl;grind
theorem aeQ{id:Nat}{l:List dL}(a:k<l.n):(vl id q l k).set k (upR id q l[k])=vl id q l (k+1):=by
 have b:k=((l.take k).map (upR id q)).n:=by grind
 unfold vl;rw[yv a,nL,set_append_right _ _ cN,<-b,Nat.sub_self,De a,BJ,wP];rfl
def abY{id:Nat}{l:List dL}(a:k<l.n)(h:l[k].id≠id):vl id q l k=vl id q l (k+1):=by unfold vl;rw[yv a,nL,De a,wP];show _++l[k]::_=_++([upR id q l[k]]++_);rw[show upR id q l[k]=l[k] from cZ h];rfl
def abZ{id:Nat}{l:List dL}(h:oL l B w):oL (vl id q l k) B w:=by intro x a;unfold vl at a;rcases gH.1 a with a|a;obtain⟨y,b,rfl⟩:=gI.1 a;have:=h y (lQ b);unfold upR;split;exact this;omega;exact h x (mS a)
theorem aeR(id:Nat)(q:cQ)(n:Nat)(l:List dL):(⟨n,eM (vl id q l l.n)⟩:ee)=gK ⟨n,eM l⟩ id q:=by
 unfold vl gK eM;rw[qq,drop_length,wR,wO,wO];congr 1;refine map_congr_left λx _=>?_;show(upR id q x).todw=if x.todw.id=id then _ else _;unfold upR
 grind
def Iv(h:fG b)(id:Nat)(a:dD q):fG (gK b id q):=
 fG.of h.next (by unfold gK;rw[mQ];exact h.fit.1) λs c=>by
  obtain⟨y,d,rfl⟩:=gI.1 c;have:=h.ok y d;split
  . exact⟨this.1,this.2.1,a,this.2.2.2⟩
  omega
section
attribute[local irreducible]wpList Code.wp Calls Oper.wp wpAnyH
theorem Iw(G D M:Nat)(g:iV)(s:Pl)(ht:fG g.b.t)(hl:g.dK.length<=100000)(id:Nat)(q:cQ)(hq:dD q)(iP:List cQ)(J:fO iP)(Q:iP.length<=1000)(v:c7)(A:gE)(hA:A=cL 1 (λ_=>Value.pointer (some ⟨G,0,none⟩)))(w:cS)(h:dY w G g D M s)(R:lk w v iP):
 CP_ 81 #[.agg A,.int .u64 id,mO q,v] w λe w'=>zu w w' G D M g (se id q iP (g.gt s)) e:=by
 obtain⟨AQ,N⟩:=fP (cL 3 (dF q));rw[dk N];have a7:=cz N;have HA:=cz hA;have HR:=cz R;have S:=St.start w (some D) [G,M,g.P] (iz G g D M s) h.x;have b3:=cz (qM.Pf h.x);have C1:=cz λW(X:dY W G g D M s)=>lU G D M g s ht.fit W X;have O:=Iv ht id hq;have C2:=cz λ(c:dW)(B:gE)(hB:B=cL 2 (dO c))(hc:c.t=gK g.b.t id q)W(R:iT W c)(RL:lk W v iP)=>(show CP_ 144 #[.agg B,.int .u64 id,v] W λe w'=>∃B r,e=.returned (.tuple #[.agg B,r,.int .i64 (jT (gK g.b.t id q) id iP).2.2])/\lY w' W.heap.size B (jT (gK g.b.t id q) id iP).1/\il w' W.heap.size r (jT (gK g.b.t id q) id iP).2.1/\dR W w' from by rw[<-hc];exact RU c B hB (by rw[hc];exact O.fit) id iP v (iE Q kB) W R RL);obtain⟨p,E,C⟩:=FF O id iP J;have K:=cz (show se id q iP (g.gt s)=zx (g.gt s) (jT (gK g.b.t id q) id iP) from ae);obtain⟨T,hT⟩:=dI (se id q iP (g.gt s));obtain⟨r,U⟩:=dI (jT (gK g.b.t id q) id iP);rw[hT,U] at K;rw[hT];rw[U] at C2 p E C;obtain⟨b2,jQ,c⟩:=r;simp only at C2 p E C;have C3:=cz λr W X(R:lk W r jQ)=>Cu G D M g s jQ E (iE C (iE Q kB)) r A hA W X R;have C4:=cz λ(y:dW)(B:gE)(hB:B=cL 2 (dO y))(hc:y.t=b2)W(X:dY W G g D M (dM s jQ))R=>tV G D M g (dM s jQ) y B hB (by rw[hc];exact p.fit) W X R;have C5:=cz λ(L:dW)(hc:L.t=b2)W(X:dY W G {g with b:=L} D M (dM s jQ))=>(show tf 57 #[.agg A] W (.int .i64 (Bt {g.gt s with b:=b2,s:=dM s jQ})) from by rw[<-hc];exact z7 G D M {g with b:=L} (dM s jQ) A hA (show fG L.t by rw[hc];exact p) W X (iE hl kB));have a1:=cz ht.fit;clear h R hA N ht hl hq J Q O p E C hT U;go_enter func81,ntmps81;go_upto_region 3 with(first|refine jl 14 69 13 S 1 0 (dE G 0) ?_|refine Be S (C1.o _ S.x.at) λW B c1 HB HC _ S=>?_|(obtain⟨cn,a,f,d⟩:=c1;refine yY S 0 ae 1 (v:=.slice f a.length d) ae rn ae sS ?_)|refine fg λW S=>?_);have b5:a.length<=1000000:=by have u:=a1.o.1;rw[<-HC.o] at u;unfold dW.t at u;rwa [iu] at u
 go_loopw [19] (λi wr=>∃k:Nat,k<=a.length/\i=.int .i64 k/\Hid (St w (some D) [G,M,g.P] [⟨_,99,2,dO ⟨cn,a,f,d⟩⟩,⟨_,106,3,dF q⟩,⟨_,118,1,λ_=>dE G 0⟩] [⟨109,11,.slice f a.length d,a.length,jh (vl id q a k)⟩] (λB w=>qM G g D M s B w/\oL a B w) wr)) (λi _=>a.length-(intOf i).toNat);exact⟨0,cN,ae,cz S⟩;clear S;obtain⟨k,hk,rfl,hS⟩:=hrel;have S:=hS.o;clear hS;by_cases t:k<a.length
 . (obtain⟨I,rfl⟩:∃I,f=s_ I 0:=by obtain⟨I,cc,u⟩:=DI S.o0 (show 0<a.length by omega);simp only[ly] at u;exact⟨I,u.1⟩);(obtain⟨x,V⟩:=dI (a[k]);have F:k<(vl id q a k).length:=by rw[Nr];exact t);(have H:(vl id q a k)[k]=x:=by have u:=aeP (id:=id) (q:=q) t;grind);(have j:(jh (vl id q a k))[k*11]?=some (.int .u64 x.id):=by have u:=nD (vl id q a k) F (A:=cL 11 (iw x)) (by rw[H]) 0 cN;rw[xJ] at u;rw[u,dy,df cN];rfl);have m:=cz j;have n:=cz t;by_cases l:x.id=id
   . have e1:decide ((x.id:Int)=(id:Int))=true:=gM cN;have e2:((x.id:Int)==(id:Int))=true:=xL.2 cN;have e3:decide (x.id=id)=true:=gM l;have o:=cz (show Dw (jh (vl id q a k)) (k*11+7) (cL 3 (dF q)).toList=jh (vl id q a (k+1)) from by
      rw[<-aeQ t,V,show upR id q x= {x with cO:=q} from df l];exact Qh F H q _ (λi hi=>by unfold iw;rcases i with(_|_|_|_|_|_|_|_|_|_|_|i)<;>first|rfl))
     clear V F H j l;go_wp2_with (first|(first|refine jl 23 97 22 S 0 1 (.slice (s_ I 0) a.length d) ?_|refine jl 31 97 30 S 0 1 (.slice (s_ I 0) a.length d) ?_)|refine zC (v:=.int .u64 x.id) (zp S.o0 (by simpa using m.o)) ?_|(refine mC ae λK9 a3=>aeh S 0 ae ae (k*11+7) (z:=3) (by have:=n.o;show k*11+7+3<=a.length*11;omega) ae ae a7.o fK (dJ _) λW S2=>a3 _ _ ?_;rw[show(⟨109,11,.slice (s_ I 0) a.length d,a.length,jh (vl id q a k)⟩:O4).xs=jh (vl id q a k) from ae,o.o] at S2;clear a3 S;have S:=S2;clear S2)|refine fL ?_);go_roundw;have:=n.o;exact⟨k+1,cN,by go_num,cz S⟩;have:=n.o;simp[intOf];omega
   . have e1:decide ((x.id:Int)=(id:Int))=false:=jG cN;have e2:((x.id:Int)==(id:Int))=false:=lR.2 cN;have e3:decide (x.id=id)=false:=jG l;have o:=cz (abY (id:=id) (q:=q) t (by rw[V];exact l));clear V F H j l;go_wp2_with (first|refine jl 23 97 22 S 0 1 (.slice (s_ I 0) a.length d) ?_|refine zC (v:=.int .u64 x.id) (zp S.o0 (by simpa using m.o)) ?_);go_roundw;have:=n.o;rw[o.o] at S;exact⟨k+1,cN,by go_num,cz S⟩;have:=n.o;simp[intOf];omega
 . obtain rfl:k=a.length:=cN;have a8:=cz (show B=cL 2 (dO ⟨cn,vl id q a a.length,f,d⟩) from by rw[HB.o];unfold dO dW.sv;simp only[Nr]);have b1:=cz (show(dW.t ⟨cn,vl id q a a.length,f,d⟩)=gK g.b.t id q from by rw[<-HC.o];exact aeR id q cn a);have a6:=λ(W:cS)(X:W.ownsRow w.heap.size 109 11 (.slice f a.length d) a.length (jh (vl id q a a.length)))=>(show c8 W 109 11 (.slice f (vl id q a a.length).length d) (vl id q a a.length).length (jh (vl id q a a.length)) from by rw[Nr];exact c8.jR X);have b4:=cz a6;clear a6;go_upto_region 9 with(first|(refine(C2.o _ B a8.out b1.out _ ⟨b4.o _ S.o0,λx V=>(abZ (B:=eS _ _) S.x.2 x V).1⟩ (HR.o.fr S.fr aw ae)).mono ?_;rintro e W ⟨B2,r,rfl,⟨y,a2,a4,a5⟩,U,hb⟩;have a9:=cz a2;have Y:=cz a4;have HF:=cz (dx U);replace S:=S.Nq hb a5 U;clear a2 a4 a5 U;obtain⟨ra,rc,rfl⟩:=HF.o;clear HF)|refine fL ?_|refine fg λW S=>?_);unfold zx at K;simp only at K;by_cases g2:c=0;(case neg=>have g3:(c !=0)=true:=fJ.2 g2;rw[df g2] at K;clear g2;go_wp2_with (refine(sJ c _).mono ?_;rintro e W ⟨rfl,rfl⟩;);go_ret;rw[K.o];exact⟨g,s,ae,ae,S.x.1.1.1.at,ae,λh=>h,S.fr⟩);subst g2;rw[cZ aH] at K;go_wp2_with (first|(first|refine jl 53 69 52 S 2 0 (dE G 0) ?_)|(refine aj (C3.o _ _ S.x.1.1.1.at S.x.2.1) λW⟨hg,hf⟩=>?_;replace S:=S.call (X':=λB w=>qM G g D M (dM s jQ) B w/\rY y.sv y.l B w) hf ax (λk hk=>.inl (by rw[fM.1 hk];simp)) ((iz G g D M _).still (fN y.sv y.l)) (λB h=>⟨h.1.1.1.pl hf (by rw[fM];exact b3.o.2.1) hg.lf,(fN _ _).fr h.1.2 hf⟩);clear hg)|(refine ah (C4.o y B2 a9.o Y.o _ S.x.1.at S.x.2.sl) λL W⟨hc,hg,ho,hf⟩=>?_;have Z:=cz (hc.trans Y.o);replace S:=(S.EY (λB w h=>h.1) (iz G g D M _)).Yg hg ho hf aY;clear hc hg)|refine je S (C5.o L Z.o _ S.x.at) λW S=>?_|refine fL ?_);go_ret;rw[K.o];exact⟨{g with b:=L},dM s jQ,ae,ae,S.x.at,by unfold iV.gt;rw[<-Z.o],λh=>h,S.fr⟩
def Qz(q:Nat)(ao:Option Addr)(n c:Nat)(W:cS):Sem.run prog (Instr.field 99 (bV #[bU ct (q:Int),bX ao n c]) 1) W=.ok (bX ao n c) W:=by rfl
theorem iT.fr{d:Option Nat}{l:cV}{w w':cS}{b:dW}(h:iT w b)(f:Fr d l w w'):iT w' b:=
 ⟨c8.fr h.1 f aw ae,λx a=>c8.fr (h.2 x a) f aw ae⟩
def FJ(G D M:Nat)(g:iV)(s:Pl)(F:fG g.b.t)(b:dW)(B:gE)(Y:B=cL 2 (dO b))(E:zn b.t)(y:dL)(I:gE)(C:I=cL 11 (iw y))(H:dD y.cO)(A:gE)(V:A=cL 1 (λ_=>bW (cu ⟨G,0,cw⟩)))(w:cS)(h:dY w G g D M s)(R:iT w b):
 CP_ 65 #[bV A,bV B,bV I] w λe w'=>zu w w' G D M g (oM b.t y.todw (g.gt s)) e:=by
 have HA:=cz V;have HB:=cz Y;have I:=cz C;have HR:=cz R;obtain⟨N,n⟩:=fP (cL 3 (dF y.cO));have L:=cz n;have S:=St.start w (cu D) [G,M,g.P] (iz G g D M s) h.x;have O:=cz (qM.Pf h.x);have CP:=cz λW(X:dY W G g D M s)=>qz G D M g s W X;have C2:=cz λW(X:dY W G g D M s)=>lU G D M g s F.fit W X;obtain⟨z,t⟩:=dI (gj g.b.t.cU y.id);have C3:=cz λ(m:List dL)(v:c7)(J:eM m=g.b.t.cU)W(R:gu W v m)=>(show tf 114 #[v,bU ct y.id] W (bU ct z) from by rw[<-t,<-J];exact EJ m v y.id (by have I:=F.fit.1;rw[<-J,iu] at I;exact I) W R);have J:=cz λW X=>Kl g.P D M s y.cO H z W X;obtain⟨i,f,-⟩:=FH (s:=s) h.lf.dev.1.nw H z;have l:=cz (show oM b.t y.todw (g.gt s)=vj b.t (g.gt s) (gY s y.cO z) from by rw[<-t];rfl);obtain⟨T,Z⟩:=dI (oM b.t y.todw (g.gt s));obtain⟨r,I⟩:=dI (gY s y.cO z);rw[Z,I] at l;rw[Z];rw[dk n,I] at J;rw[I] at i f;obtain⟨j,jQ,c⟩:=r;simp only at J i f;unfold vj at l;simp only at l;have C5:=cz λr W X(R:lk W r jQ)=>Cu G D M g j jQ i (iE f kB) r A V W X R;have C6:=cz λW(X:dY W G g D M (dM j jQ))R=>tV G D M g (dM j jQ) b B Y E W X R;clear h R V Y C n F E H t i f Z I;go_enter func65,ntmps65;go_upto_region 1 with(first|refine yZ S rfl HA.o rfl λF S=>?_|refine yZ S rfl HB.o rfl λQ S=>?_|refine fg λW S=>?_);refine eR S dC [⟨Q.h.s,109,11,iw y⟩,⟨F.h.s,99,2,dO b⟩,⟨w.h.s,118,1,λ_=>dE G 0⟩] CI λW S=>?_;refine dh 0 (dE w.h.s 0) ?_;refine dh 1 (dE G 0) ?_;refine dh 3 (dE Q.h.s 7) ?_;refine gZ 4 (bV N) ae (yKn aI (o:=7) (m:=3) ae (dF y.cO) (show 7+3<=11 by decide) (wj y) L.o fK) ?_;refine dh 5 (dE w.h.s 0) ?_;refine dh 6 (dE G 0) ?_;refine dh 9 (dE Q.h.s 0) ?_;refine dh 10 (bU ct y.id) ?_;refine kI 2 λK p=>?_;go_wp2_with fail;refine mY (CP.o _ S.x.at) ?_;refine gq p ?_;refine kI 7 λK p=>?_;go_wp2_with fail;refine(C2.o _ S.x.at).mono ?_;rintro e W ⟨F,rfl,⟨⟨U,u,d,a⟩,rfl,hc,ho⟩,F⟩;have H:=cz hc;replace S:=S.kr F ho;clear hc;rw[show cL 2 (dO ⟨U,u,d,a⟩)=#[bU ct U,bX d u.n a] from ae];refine gq p ?_;refine gZ 8 (bX d u.n a) ae (Or.inl ⟨dC,λw F=>by have F:=Qz U d u.n a w;go_simp⟩) ?_;refine kI 11 λK p=>?_;go_wp2_with fail;refine je S (C3.o u _ (gD ee.cU H.o) _ ⟨S.q0,λx F=>(S.x.2 x F).1⟩) λW S=>?_;refine gq p ?_;refine kI 12 λK p=>?_;go_wp2_with fail;refine ah (J.o _ S.x.1.at.lf) λr W⟨ho,H,q⟩=>?_;have F:=cz (dx ho);replace S:=S.uh (X':=qM G g D M j) q ax eQ (iz G g D M j) (λB h=>h.1.pl q eQ H) ho ae ae;obtain⟨H,I,rfl⟩:=F.o;refine gq p ?_;refine dh 13 _ ?_;refine dh 14 (bX H jQ.n I) ?_;refine dh 15 (bU cq c) ?_;refine dh 16 _ ?_;refine dh 17 _ ?_;refine qx ?_;by_cases H:c=0;case neg=>have F:(c !=0)=cx:=fJ.2 H;rw[df H] at l;clear H;go_wp2_with (refine(sJ c _).mono ?_;rintro e W ⟨rfl,rfl⟩;);go_ret;rw[l.o];exact⟨g,j,ae,ae,S.x.at,ae,id,S.fr⟩
 subst H;rw[cZ aH] at l;go_wp2_with (first|(refine aj (C5.o _ _ S.x.at S.q0) λW⟨F,q⟩=>?_;replace S:=S.call (X':=qM G g D M (dM j jQ)) q ax (λk H=>.inl (by rw[fM.1 H];simp)) (iz G g D M _) (λB h=>h.pl q (by rw[fM];exact O.o.2.1) F.lf);clear F)|(refine ah (C6.o _ S.x.at (iT.fr HR.o S.fr)) λH W⟨hc,F,ho,q⟩=>?_;have N:=cz hc;replace S:=S.Yg F ho q aY;clear hc F)|refine fL ?_);go_ret;rw[l.o];exact⟨{g with b:=H},dM j jQ,ae,ae,S.x.at,by unfold iV.gt;rw[<-N.o],id,S.fr⟩
theorem rd3{j:Nat}{o o' d:Oper}(f:Region.ready .any ops listed=[i,j,k])(ho:ops[i]?=cu o)(b:ops[j]?=cu o')(c:ops[k]?=cu d)(p:Region.wanted o (yielded ops a.tmps)=cx)(g:Region.wanted o' (yielded ops a.tmps)=cx)(l:Region.wanted d (yielded ops a.tmps)=cx)(h:∀K,Shut (∀a w,SS w->(SS w->wpAnyH P .any ops Q SS fuel (listed.setIfInBounds i cx) a w)->K a w)->o.wp P a w K Q)(m:∀K,Shut (∀a w,SS w->(SS w->wpAnyH P .any ops Q SS fuel (listed.setIfInBounds j cx) a w)->K a w)->o'.wp P a w K Q)(n:∀K,Shut (∀a w,SS w->(SS w->wpAnyH P .any ops Q SS fuel (listed.setIfInBounds k cx) a w)->K a w)->d.wp P a w K Q):wpAnyH P .any ops Q SS (fuel+1) listed a w:=
 wpAnyH_ready f eQ (AllReadyH.cons ho (λK e=>by grind) (AllReadyH.cons b (λK e=>by grind) (AllReadyH.cons c (λK e=>by grind) .nil)))
def ab0(G D M:Nat)(g:iV)(s:Pl)(Y:fG g.b.t)(cT:fF)(H:cT.s<=140737488355328)(p:Nat)(w:cS)(h:dY w G g D M s)(V:cM w p 9 1 (λ_=>bY cT)):
 CP_ 100 (#[bV (cL 1 λ_=>bW (cu ⟨G,0,cw⟩))]++ #[bW (cu ⟨p,0,cw⟩)]) w λe w'=>zu w w' G D M g (uA cT (g.gt s)) e:=by
 show CP_ 100 #[bV (cL 1 λ_=>dE G 0),dE p 0] w _;obtain⟨A,F⟩:=fP (cL 1 (λ_=>dE G 0));rw[<-F];have I:=cz F;have S:=St.start w (cu D) [G,M,g.P] (iz G g D M s) h.x;have C2:=cz λW(X:dY W G g D M s)=>lU G D M g s Y.fit W X;have I:=cz λ(c:dW)(B:gE)(d:B=cL 2 (dO c))(hc:c.t=g.b.t)W(R:iT W c)=>(show CP_ 101 #[bV B,bY cT] W λe w'=>∃B D,e=cj (cg #[bV B,bV D,bU cq (jI g.b.t cT).2.2])/\lY w' W.h.s B (jI g.b.t cT).1/\zm w' W.h.s D (jI g.b.t cT).2.1/\dR W w' from by rw[<-hc];exact RT c B d (by rw[hc];exact Y.fit) cT H W R);obtain⟨u,v⟩:=FE Y cT;have z:=cz (show uA cT (g.gt s)=oA (g.gt s) (jI g.b.t cT) from ae);obtain⟨T,J⟩:=dI (uA cT (g.gt s));obtain⟨r,N⟩:=dI (jI g.b.t cT);rw[J,N] at z;rw[J];rw[N] at I u v;obtain⟨H,t2,c⟩:=r;simp only at I u v;unfold oA at z;simp only at z;have C4:=cz λ(q:dW)(B:gE)(d:B=cL 2 (dO q))(hc:q.t=H)(y:dL)(Z:gE)(H:Z=cL 11 (iw y))(m:y.todw=t2)W X R=>FJ G D M g s Y q B d (by rw[hc];exact u.fit) y Z H (by have H:=v.2.2.1;rw[<-m] at H;exact H) A F W X R;have H:=cz V;clear h F Y J N u v V;go_enter func100,ntmps100
 go_upto_region 1 with(refine fg λW S=>?_);refine eR S dC [⟨w.h.s,118,1,λ_=>dE G 0⟩] CI λW S=>?_;refine dh 0 (dE w.h.s 0) ?_;refine dh 1 (dE G 0) ?_;refine gZ 3 (bY cT) ae (gO (λw h=>cM.cell (cM.fr H.o h.fr aw aD) (i:=0) cN) ae Gt) ?_;all_goals(first|refine rd3 (i:=2) (j:=9) (k:=10) dk_ ae ae ae dC dC dC (λK a=>?_) (λK a=>?_) (λK a=>?_))
 all_goals(first|(go_wp2_with fail;refine Be S (C2.o _ S.x.at) λW B p N O _ S=>?_;refine gq a ?_)|(refine gl S sU ot ae λJ W S=>?_;refine gq a ?_)|(refine gl S xO pS ae λL W S=>?_;refine gq a ?_))
 all_goals(clear a K)
 all_goals(first|(refine rd3 (i:=4) (j:=9) (k:=10) dk_ ae ae ae dC dC dC (λK a=>?_) (λK a=>?_) (λK a=>?_))|(refine BE 2 10 (λK a=>?_) λK a=>?_)|refine BE 2 9 (λK a=>?_) λK a=>?_)
 all_goals(first|(go_wp2_with fail;refine(I.o p B N.o O.o _ ⟨S.q0,λx E=>(S.x.2 x E).1⟩).mono ?_;rintro e W ⟨F,H,rfl,⟨q,d,hc,ho⟩,⟨Z,C,m,-⟩,U⟩;have f:=cz d;have n:=cz hc;have l:=cz C;have o:=cz m;replace S:=S.kr U ho;clear d hc C m;refine gq a ?_)|(refine gl S sU ot ae λJ W S=>?_;refine gq a ?_)|(refine gl S xO pS ae λL W S=>?_;refine gq a ?_)|(go_wp2_with fail;refine Be S (C2.o _ S.x.at) λW B p N O _ S=>?_;refine gq a ?_))
 all_goals(clear a K)
 all_goals(try(refine nA 5 _ ?_))
 all_goals(try(refine nA 6 (bV F) ?_))
 all_goals(try(refine nA 7 (bV H) ?_))
 all_goals(try(refine nA 8 (bU cq c) ?_))
 all_goals(first|(refine BE 9 10 (λK a=>?_) λK a=>?_)|(refine BE 4 10 (λK a=>?_) λK a=>?_)|(refine BE 4 9 (λK a=>?_) λK a=>?_)|refine qg 2 λK a=>?_)
 all_goals(first|(refine gl S sU ot ae λJ W S=>?_;refine gq a ?_)|(refine gl S xO pS ae λL W S=>?_;refine gq a ?_)|(go_wp2_with fail;refine(I.o p B N.o O.o _ ⟨S.q0,λx E=>(S.x.2 x E).1⟩).mono ?_;rintro e W ⟨F,H,rfl,⟨q,d,hc,ho⟩,⟨Z,C,m,-⟩,U⟩;have f:=cz d;have n:=cz hc;have l:=cz C;have o:=cz m;replace S:=S.kr U ho;clear d hc C m;refine gq a ?_)|(go_wp2_with fail;refine Be S (C2.o _ S.x.at) λW B p N O _ S=>?_;refine gq a ?_))
 all_goals(clear a K)
 all_goals(try(refine nA 5 _ ?_))
 all_goals(try(refine nA 6 (bV F) ?_))
 all_goals(try(refine nA 7 (bV H) ?_))
 all_goals(try(refine nA 8 (bU cq c) ?_))
 all_goals(first|(refine qg 10 λK a=>?_)|(refine qg 9 λK a=>?_)|refine qg 4 λK a=>?_)
 all_goals(first|(refine gl S xO pS ae λL W S=>?_;refine gq a ?_)|(refine gl S sU ot ae λJ W S=>?_;refine gq a ?_)|(go_wp2_with fail;refine(I.o p B N.o O.o _ ⟨S.q0,λx E=>(S.x.2 x E).1⟩).mono ?_;rintro e W ⟨F,H,rfl,⟨q,d,hc,ho⟩,⟨Z,C,m,-⟩,U⟩;have f:=cz d;have n:=cz hc;have l:=cz C;have o:=cz m;replace S:=S.kr U ho;clear d hc C m;refine gq a ?_))
 all_goals(clear a K)
 all_goals(try(refine nA 5 _ ?_))
 all_goals(try(refine nA 6 (bV F) ?_))
 all_goals(try(refine nA 7 (bV H) ?_))
 all_goals(try(refine nA 8 (bU cq c) ?_))
 all_goals(first|refine qg 11 λK a=>?_)
 all_goals(first|((first|(refine kq S 0 ae ae ae f.o nT (fT _) λW S=>?_)|refine kq S 1 rfl rfl rfl f.o nT (fT _) λW S=>?_);refine gq a ?_))
 all_goals(clear a K)
 all_goals(first|refine qg 12 λK a=>?_)
 all_goals(first|((first|(refine kq S 0 ae ae ae l.o uV (mI _) λW S=>?_)|refine kq S 1 rfl rfl rfl l.o uV (mI _) λW S=>?_);refine gq a ?_))
 all_goals(clear a K)
 all_goals(refine dh 13 _ ?_)
 all_goals(refine qx ?_)
 all_goals(
  first|(replace S:St w (cu D) [G,M,g.P] [⟨L,109,11,iw Z⟩,⟨J,99,2,dO q⟩,⟨w.h.s,118,1,λ_=>dE G 0⟩] _ _ _:=S)|(replace S:St w (cu D) [G,M,g.P] [⟨L,109,11,iw Z⟩,⟨J,99,2,dO q⟩,⟨w.h.s,118,1,λ_=>dE G 0⟩] _ _ _:=S.aeq)
  by_cases I:c=0
  case neg=>
   have J:(c !=0)=cx:=fJ.2 I;rw[df I] at z;clear I;go_wp2;go_ret;rw[z.o];exact bH
  subst I;rw[cZ aH,<-n.o,<-o.o] at z
  go_wp2_with first|(go_at_call 65;refine(C4.o q F f.o n.o Z H l.o o.o _ S.x.1.1.at ⟨S.q0,λx E=>(S.x.2 x E).1⟩).mono ?_;rintro e W a;have Q:=cz a;clear a;obtain⟨J,V,rfl,F,H,b,t,I⟩:=Q.o;clear Q;have N:=S.fr.step I ax (λk I=>.inl I);have I:=cz (And.intro F (And.intro H (And.intro b t)));clear F H b t;rw[<-z.o])|refine fL ?_
  go_ret;obtain⟨F,H,b,t⟩:=I.o;rw[<-z.o] at b;exact⟨J,V,ae,F,H,b,t,N⟩)
def Le(h:fG b)(cT:fF)(i:Int):vi (qL b cT i).1:=by unfold qL;cases eO cT with|none=>exact o8|some p=>simp only[BL];split;unfold r8;simp only;split;exact o8;split;exact o8;split;exact o8;exact Vs h.ok _;exact o8
def ZJ(bs:cV)(i:Int)(x:GT)(v:dw×Int):GT×Int:=
 if v.2≠0 then(x,v.2) else if 128<bs.n then(x,92) else sV v.1.id x (kZ x.s v.1.cO i bs)
def aeS(i:Int)(x:GT)(v:dw×Int):GT×Int:=if v.2≠0 then(x,v.2) else sV v.1.id x (iF x.s v.1.cO i)
theorem Yl(G D M:Nat)(g:iV)(s:Pl)(ht:fG g.b.t)(hl:g.dK.length<=100000)(ho:s.dv.ops<=990000000)(cT:fF)(a9:cT.size<=140737488355328)(i:Int)(bs:cV)(ba:Option Addr)(bc:Nat)(c1 c2 c3:Nat)(w:cS)(h:dY w G g D M s)(a7:lN w 5 (.slice ba bs.length bc) bs)(N:cM w c1 9 1 (λ_=>.string cT))(O:cM w c2 3 1 (λ_=>.int .i64 i))(Q:cM w c3 22 1 (λ_=>.slice ba bs.length bc)):
 CP_ 78 (#[.agg (cL 1 λ_=>.pointer (some ⟨G,0,none⟩))]++ #[.pointer (some ⟨c1,0,none⟩),.pointer (some ⟨c2,0,none⟩),.pointer (some ⟨c3,0,none⟩)]) w λe w'=>zu w w' G D M g (mL cT i bs (g.gt s)) e:=by
 show CP_ 78 #[.agg (cL 1 λ_=>dE G 0),dE c1 0,dE c2 0,dE c3 0] w _;obtain⟨A,L⟩:=fP (cL 1 (λ_=>dE G 0));rw[<-L];have HA:=cz L;have S:=St.start w (some D) [G,M,g.P] (iz G g D M s) h.x;have a3:=cz (qM.Pf h.x);have CP:=cz λW(X:dY W G g D M s)=>qz G D M g s W X;have C1:=cz λW(X:dY W G g D M s)=>DX G D M g s A L ht.fit cT a9 i W X;have C:=Le ht cT i;obtain⟨vb,Z⟩:=dI (qL g.b.t cT i);have b:=cz (show mL cT i bs (g.gt s)=ZJ bs i (g.gt s) (qL g.b.t cT i) from ae);obtain⟨T,hT⟩:=dI (mL cT i bs (g.gt s));rw[hT,Z] at b;rw[hT];rw[Z] at C1 C;obtain⟨t0,cv⟩:=vb;simp only at C1 C;unfold ZJ at b;simp only at b;have a8:=h.lf.dev.1;have b2:=h.lf.ok.1;have F:=cz λ(y:dL)(f:dD y.cO)W(X:fc W g.P D M s)(H:Fr (some D) [G,M,g.P] w W)=>U1 g.P D M s (iE ho kB) y.cO f i (.slice ba bs.length bc) bs W X (lN.fr a7 H aw ae);have C5:=cz λE(y:dL)q(hq:dD q)iP(U:fO iP)(b1:iP.length<=1000)r W X R=>Iw G D M g E ht hl y.id q hq iP U b1 r A L W X R;have a5:=cz λ(y:dL)(f:dD y.cO)=>FI a8 b2 f i bs;have a6:=cz N;have J:=cz O;have l:=cz Q;have HV:=cz C.2.2.1;clear L N O Q;go_enter func78,ntmps78
 go_upto_region 2 with(first|(first|refine zC (cM.cell (cM.fr a6.o S.fr aw aD) (i:=0) cN) ?_|refine zC (cM.cell (cM.fr J.o S.fr aw aD) (i:=0) cN) ?_)|(refine(C1.o _ S.x.at).mono ?_;rintro e WV ⟨B,rfl,⟨y,hB,hy,-⟩,hb⟩;have HB:=cz hB;have HY:=cz hy;replace S:=S.cP hb;clear hB hy)|refine fL ?_|refine fg λW S=>?_);by_cases n:cv=0;case neg=>have g3:(cv !=0)=true:=fJ.2 n;rw[df n] at b;go_wp2;go_ret;rw[b.o];exact aS
 subst n;rw[cZ aH] at b;by_cases g5:128<bs.length;case pos=>have g6:decide (128<bs.length)=true:=gM g5;have g7:decide ((128:Int)<(bs.length:Int))=true:=gM cN;rw[df g5] at b;go_wp2_with (refine jF (cM.cell (cM.fr l.o S.fr aw aD) (i:=0) cN) ae UR ?_);go_ret;rw[b.o];exact aS
 have g6:decide (128<bs.length)=false:=jG g5;have g7:decide ((128:Int)<(bs.length:Int))=false:=jG cN;rw[cZ g5] at b;rw[<-HY.o] at b;have f:dD y.cO:=by have h1:=HV.o;rw[<-HY.o] at h1;exact h1
 obtain⟨u,v,x⟩:=a5.o y f;have F:=cz (F.o y f);obtain⟨t,Y⟩:=dI (kZ s y.cO i bs);rw[show y.todw.cO=y.cO from ae,show(g.gt s).s=s from ae,Y] at b;rw[Y] at F u v x;obtain⟨E,q1,iP,c⟩:=t;simp only at F u v x;obtain⟨AQ,p⟩:=fP (cL 3 (dF y.cO));obtain⟨A1,j⟩:=fP (cL 3 (dF q1));rw[dk p,dk j] at F;have C5:=cz (C5.o E y q1 u iP v (iE x kB));rw[dk j] at C5;have a2:=cz p;have a1:=cz j;unfold sV at b;simp only at b;clear p j;go_upto_region 6 with(refine jF (cM.cell (cM.fr l.o S.fr aw aD) (i:=0) cN) ae UR ?_);refine eR S dC [⟨WV.heap.size,109,11,iw y⟩,⟨w.heap.size,118,1,λ_=>dE G 0⟩] CI λW S=>?_;refine dh 0 (dE w.heap.size 0) ?_;refine dh 1 (dE G 0) ?_;refine dh 3 (dE WV.heap.size 7) ?_;refine gZ 4 (.agg AQ) ae (yKn aI (o:=7) (m:=3) ae (dF y.cO) (show 7+3<=11 by decide) (wj y) a2.o fK) ?_;refine gZ 5 (.int .i64 i) ae (gO (λw h=>cM.cell (cM.fr J.o h.fr aw aD) (i:=0) cN) ae DG) ?_;refine gZ 6 (.slice ba bs.length bc) ae (gO (λw h=>cM.cell (cM.fr l.o h.fr aw aD) (i:=0) cN) ae UR) ?_;repeat' first|refine Te ?_|refine nA 8 _ ?_|refine nA 9 (.agg A1) ?_|refine nA 10 (.slice ra iP.length rc) ?_|refine nA 11 (.int .i64 c) ?_|refine nA 14 _ ?_|refine nA 15 _ ?_|refine BE 2 12 (λK a=>?_) λK a=>?_|refine BE 7 12 (λK a=>?_) λK a=>?_|refine qg 2 λK a=>?_|refine qg 12 λK a=>?_|refine qg 7 λK a=>?_|refine qg 13 λK a=>?_|(go_wp2_with fail;refine mY (CP.o _ S.x.at) ?_;refine gq a ?_;clear a)|(refine gl S xC iO ae λE8 W S=>?_;refine gq a ?_;clear a)|(go_wp2_with fail;refine ah (F.o _ S.x.at.lf S.fr) λr W⟨V,hp,H⟩=>?_;have HF:=cz (dx V);replace S:=S.uh (X':=qM G g D M E) H ax (λk hk=>.inl (by rw[fM.1 hk];simp)) (iz G g D M E) (λB h=>h.pl H (by rw[fM];exact a3.o.2.1) hp) V ae ae;obtain⟨ra,rc,rfl⟩:=HF.o;refine gq a ?_;clear a)|(refine kq S 0 ae ae ae a1.o fK (dJ _) λW S=>?_;refine gq a ?_;clear a)
 all_goals(
  refine cz ?_;by_cases n:c=0
  case neg=>
   have g3:(c !=0)=true:=fJ.2 n;rw[df n] at b
   go_wp2_with (refine(sJ c _).mono ?_;rintro e W ⟨rfl,rfl⟩;)
   go_ret;rw[b.o];exact⟨g,E,ae,ae,S.x.at,ae,id,S.fr⟩
  subst n;rw[cZ aH] at b;have I:=cz (show T=se y.id q1 iP (g.gt E) from b.o)
  go_wp2_with first|(refine(C5.o _ _ S.x.at S.q0).mono ?_;rintro e W a;have a4:=cz a;clear a;obtain⟨g3,s3,rfl,hP,hg,d,z,H⟩:=a4.o;have hF:=S.fr.step H ax (λk hk=>.inl hk);have HR:=cz (And.intro hP (And.intro hg (And.intro d z)));rw[<-I.o])|refine fL ?_
  go_ret;obtain⟨hP,hg,d,z⟩:=HR.o;rw[<-I.o] at d;exact⟨g3,s3,ae,hP,hg,d,z,hF⟩)
def ab1(G D M:Nat)(g:iV)(s:Pl)(ht:fG g.b.t)(hl:g.dK.length<=100000)(ho:s.dv.ops<=990000000)(cT:fF)(a8:cT.size<=140737488355328)(i:Int)(c1 c2:Nat)(w:cS)(h:dY w G g D M s)(J:cM w c1 9 1 (λ_=>.string cT))(L:cM w c2 3 1 (λ_=>.int .i64 i)):
 CP_ 94 (#[.agg (cL 1 λ_=>.pointer (some ⟨G,0,none⟩))]++ #[.pointer (some ⟨c1,0,none⟩),.pointer (some ⟨c2,0,none⟩)]) w λe w'=>zu w w' G D M g (rL cT i (g.gt s)) e:=by
 show CP_ 94 #[.agg (cL 1 λ_=>dE G 0),dE c1 0,dE c2 0] w _;obtain⟨A,I⟩:=fP (cL 1 (λ_=>dE G 0));rw[<-I];have HA:=cz I;have S:=St.start w (some D) [G,M,g.P] (iz G g D M s) h.x;have a3:=cz (qM.Pf h.x);have CP:=cz λW(X:dY W G g D M s)=>qz G D M g s W X;have Z:=cz λW(X:dY W G g D M s)=>DX G D M g s A I ht.fit cT a8 i W X;have z:=Le ht cT i;obtain⟨vb,V⟩:=dI (qL g.b.t cT i);have b:=cz (show rL cT i (g.gt s)=aeS i (g.gt s) (qL g.b.t cT i) from ae);obtain⟨T,hT⟩:=dI (rL cT i (g.gt s));rw[hT,V] at b;rw[hT];rw[V] at Z z;obtain⟨t0,cv⟩:=vb;simp only at Z z;unfold aeS at b;simp only at b;have a7:=h.lf.dev.1;have b1:=h.lf.ok.1;have E:=cz λ(y:dL)(f:dD y.cO)W(X:fc W g.P D M s)(N:Fr (some D) [G,M,g.P] w W)=>R' g.P D M s (iE ho kB) y.cO f i W X;have Y:=cz λC(y:dL)q(hq:dD q)iP(O:fO iP)(a9:iP.length<=1000)r W X R=>Iw G D M g C ht hl y.id q hq iP O a9 r A I W X R;have a5:=cz λ(y:dL)(f:dD y.cO)=>D7 a7 b1 f i;have a6:=cz J;have H:=cz L;have HV:=cz z.2.2.1;clear I J L;go_enter func94,ntmps94
 go_upto_region 2 with(first|(first|refine zC (cM.cell (cM.fr a6.o S.fr aw aD) (i:=0) cN) ?_|refine zC (cM.cell (cM.fr H.o S.fr aw aD) (i:=0) cN) ?_)|(refine(Z.o _ S.x.at).mono ?_;rintro e WV ⟨B,rfl,⟨y,hB,hy,-⟩,hb⟩;have HB:=cz hB;have HY:=cz hy;replace S:=S.cP hb;clear hB hy)|refine fL ?_|refine fg λW S=>?_);by_cases l:cv=0;case neg=>have g3:(cv !=0)=true:=fJ.2 l;rw[df l] at b;go_wp2;go_ret;rw[b.o];exact aS
 subst l;rw[cZ aH] at b;rw[<-HY.o] at b;have f:dD y.cO:=by have h1:=HV.o;rw[<-HY.o] at h1;exact h1
 obtain⟨p,u,v⟩:=a5.o y f;have E:=cz (E.o y f);obtain⟨t,U⟩:=dI (iF s y.cO i);rw[show y.todw.cO=y.cO from ae,show(g.gt s).s=s from ae,U] at b;rw[U] at E p u v;obtain⟨C,q1,iP,c⟩:=t;simp only at E p u v;obtain⟨AQ,n⟩:=fP (cL 3 (dF y.cO));obtain⟨A1,j⟩:=fP (cL 3 (dF q1));rw[dk n,dk j] at E;have Y:=cz (Y.o C y q1 p iP u (iE v kB));rw[dk j] at Y;have a2:=cz n;have a1:=cz j;unfold sV at b;simp only at b;clear n j;go_upto_region 4 with(fail);refine eR S dC [⟨WV.heap.size,109,11,iw y⟩,⟨w.heap.size,118,1,λ_=>dE G 0⟩] CI λW S=>?_;refine dh 0 (dE w.heap.size 0) ?_;refine dh 1 (dE G 0) ?_;refine dh 3 (dE WV.heap.size 7) ?_;refine gZ 4 (.agg AQ) ae (yKn aI (o:=7) (m:=3) ae (dF y.cO) (show 7+3<=11 by decide) (wj y) a2.o fK) ?_;refine gZ 5 (.int .i64 i) ae (gO (λw h=>cM.cell (cM.fr H.o h.fr aw aD) (i:=0) cN) ae DG) ?_;repeat' first|refine Te ?_|refine nA 7 _ ?_|refine nA 8 (.agg A1) ?_|refine nA 9 (.slice ra iP.length rc) ?_|refine nA 10 (.int .i64 c) ?_|refine nA 13 _ ?_|refine nA 14 _ ?_|refine BE 2 11 (λK a=>?_) λK a=>?_|refine BE 6 11 (λK a=>?_) λK a=>?_|refine qg 2 λK a=>?_|refine qg 11 λK a=>?_|refine qg 6 λK a=>?_|refine qg 12 λK a=>?_|(go_wp2_with fail;refine mY (CP.o _ S.x.at) ?_;refine gq a ?_;clear a)|(refine gl S xC iO ae λE8 W S=>?_;refine gq a ?_;clear a)|(go_wp2_with fail;refine ah (E.o _ S.x.at.lf S.fr) λr W⟨Q,hp,N⟩=>?_;have HF:=cz (dx Q);replace S:=S.uh (X':=qM G g D M C) N ax (λk hk=>.inl (by rw[fM.1 hk];simp)) (iz G g D M C) (λB h=>h.pl N (by rw[fM];exact a3.o.2.1) hp) Q ae ae;obtain⟨ra,rc,rfl⟩:=HF.o;refine gq a ?_;clear a)|(refine kq S 0 ae ae ae a1.o fK (dJ _) λW S=>?_;refine gq a ?_;clear a)
 all_goals(
  refine cz ?_;by_cases l:c=0
  case neg=>
   have g3:(c !=0)=true:=fJ.2 l;rw[df l] at b
   go_wp2_with (refine(sJ c _).mono ?_;rintro e W ⟨rfl,rfl⟩;)
   go_ret;rw[b.o];exact⟨g,C,ae,ae,S.x.at,ae,id,S.fr⟩
  subst l;rw[cZ aH] at b;have F:=cz (show T=se y.id q1 iP (g.gt C) from b.o)
  go_wp2_with first|(refine(Y.o _ _ S.x.at S.q0).mono ?_;rintro e W a;have a4:=cz a;clear a;obtain⟨g3,s3,rfl,hP,hg,d,x,N⟩:=a4.o;have hF:=S.fr.step N ax (λk hk=>.inl hk);have HR:=cz (And.intro hP (And.intro hg (And.intro d x)));rw[<-F.o])|refine fL ?_
  go_ret;obtain⟨hP,hg,d,x⟩:=HR.o;rw[<-F.o] at d;exact⟨g3,s3,ae,hP,hg,d,x,hF⟩)
end