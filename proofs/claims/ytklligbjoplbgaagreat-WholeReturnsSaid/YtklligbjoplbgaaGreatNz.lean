/- WholeReturns holds of the given program. No conditions. -/
import Derived.Test.YtklligbjoplbgaaGreatNan
import Derived.Lib.SlBytesConst
import Derived.Test.YtklligbjoplbgaaGreatRows
import Derived.Deep.Strs
set_option linter.all false
namespace Go.Proofs.YtklligbjoplbgaaGreat
set_option maxRecDepth 100000
set_option maxHeartbeats 64000000
open Go.RowKit Lib List Nat _root_.Go.Proofs.Tryz Go.Shelf
variable {dx:Bool}{n:fh}{i:vL}{x:Int}{bs:cD}{X:cD->cB->Prop}{l:List fh}{ls:List vL}{O:List O4}{L:List R4}{cs:List cI}{base fuel j z:Nat}{spare:Nat->Bool}{d:Option Nat}{t:dC}{H α:Type}{v:cI}{w:cB}
def aaC:∃(b c d f a g:GT)(bs:cD)(i:Dv)(r:Fg),iN (kg 64)=(b,0)/\dB b (mH Xb 4)=(c,0)/\dB c (nF Xb 1 [97])=(d,0)/\dB d iR=(f,0)/\oP (wD f.s.dv [])=(a,0)/\(kR a).length=1/\uJ Xb 1 a=(g,(bs,0))/\bs.getD 0 0=97/\wz g.s.dv=(i,(r,0))/\zj r=true/\r.blocks=3:=by
 obtain⟨⟨⟨j,k⟩,l,m⟩,⟨n,o⟩,⟨q,s⟩,t,u,v⟩:=adX;have e:∀p:GT×Int,p.2=0->p=(p.1,0):=λp h=>wY ae h;refine⟨al1,al2.1,al3.1,al4.1,al5.1,al6.1,al6.2.1,al7.1,al7.2.1,e _ j,?_,?_,?_,?_,o,?_,s,?_,u,v⟩;show al2=_;exact e _ k
 show al3=_;exact e _ l
 show al4=_;exact e _ m
 rw[aiF];show al5=_;exact e _ n
 show al6=_;exact wY ae (wY ae q)
 rw[ahs];show al7=_;exact wY ae (wY ae t)
def adY(h:bs.getD 0 0=97):cN bs 0=.int .u8 97:=by unfold cN;rw[h];rfl
def afF{a W:cB}{l:cD}(S:St a d l L O X W)(f:Nat×Nat):St a d l L O X (W.alloc (.cells #[.int .u8 97] 5 f))/\kZ (W.alloc (.cells #[.int .u8 97] 5 f)) 5 (.slice (some ⟨W.heap.size,0,none⟩) [97].length 1) [97]:=
 ⟨S.cx ((fO _ _).alloc (dK _) _),⟨ae,_,_,ae,dK _,by decide,λ_=>⟨_,0,_,_,ae,(Rh W _).1,λj u h=>by
  rcases j with _|j
  . exact h
  . simp at h⟩⟩,by simp⟩
section
attribute[local irreducible]wpList Code.wp Calls Oper.wp wpAnyH
def aaD(w:cB):rF 9 #[] w (.bool true):=by
 obtain⟨M,f,N,j,q,y6,bs,d7,r,f1,f2,f3,f4,f5,f6,f7,f8,f9,fa,fb⟩:=aaC;have H:sE M 20000:=by have:=Ma (kg 64);rw[f1] at this;exact this.le alo
 have I:sE f 40000:=by have:=Dn H ((OS H Xb 4).le cw);rw[f2] at this;exact this
 have J:pH f.s.dv/\gU f.s.cA->sE N 60000:=λh=>by have:=Dn I ((T3 I h.1 h.2 Xb 1 [97]).le cw);rw[f3] at this;exact this
 have b4:pH f.s.dv/\gU f.s.cA->sE j 80000:=λh=>by have:=Dn (J h) (T4 (J h));rw[f4] at this;exact this
 have b5:pH f.s.dv/\gU f.s.cA->pH j.s.dv->sE q 100004:=λh z=>by have:=Wk (wD j.s.dv []) (adI z []);rw[f5] at this;exact this.le (by have:=(b4 h).ops;show j.s.dv.ops+20004<=_;omega)
 have L:Xb.size<=140737488355328:=by decide
 have O:=cq λW=>(show CP_ 10 #[.int .i64 64] W λe d=>∃K D,e=.returned (.tuple #[cZ K 0,cZ D 0])/\WZ W d K D M from by
  refine(UB 64 aS W).mono λe d h=>?_;rw[cL jR,show((64:Int)).toNat=64 from ae,f1] at h;exact h)
 have Y:=cq λK D W(X:eK W K D M)=>(by have:=Ct K D M (H.ok cw) Xb L 4 W X;rw[f2] at this;exact this:CP_ 33 #[cZ K 0,.string Xb,.int .i64 4] W λe d=>JN W d K D (f,0) e);have Z:=cq λK D ba bc W(X:eK W K D f)h9=>(by have:=Eb K D f (I.ok cw) Xb L 1 [97] ba bc W X h9;rw[f3] at this;exact this:CP_ 34 #[cZ K 0,.string Xb,.int .i64 1,.slice ba 1 bc] W λe d=>JN W d K D (N,0) e);have T:=cq λK D W(X:eK W K D N)(i:pH f.s.dv/\gU f.s.cA)=>(by have:=A7 K D N ((J i).ok cw) W X;rw[f4] at this;exact this:CP_ 15 #[cZ K 0] W λe d=>JN W d K D (j,0) e);have U:=cq λD W(X:iK W D j.s.dv)(i:pH f.s.dv/\gU f.s.cA)=>Us D j.s.dv (by have:=(b4 i).ops;omega) (.slice none 0 0) [] [] W X ⟨ae,none,0,ae,dK _,fN _,λh=>absurd h (tP _)⟩;have V:=cq λD W(X:iK W D (wD j.s.dv []))=>(by have:=Q0 D _ W X;rw[f5] at this;exact this:CP_ 17 #[cZ D 0] W λe d=>∃v,e=.returned (.tuple #[v,.int .i64 0])/\QZ d W.heap.size D q 0 v/\Fr (some D) [] W d);have Q:=cq λK D W(X:eK W K D q)(i:pH f.s.dv/\gU f.s.cA)(z:pH j.s.dv)=>(by have:=CE K D q (b5 i z).text W X;rw[f6] at this;exact this:CP_ 12 #[cZ K 0] W λe d=>∃r,e=.returned r/\d.ownsRow W.heap.size 52 4 r 1 (CD (kR q))/\dz W d);have R:=cq λK D W(X:eK W K D q)(i:pH f.s.dv/\gU f.s.cA)(z:pH j.s.dv)=>(by have:=Gv K D q ((b5 i z).ok cw) Xb L 1 W X;rw[f7] at this;exact this:CP_ 13 #[cZ K 0,.string Xb,.int .i64 1] W λe d=>∃B,e=.returned (.tuple #[.agg B,.int .i64 0])/\B=ct 128 (cN bs)/\eK d K D y6/\Fr (some D) [] W d);have a1:=cq λD W(X:iK W D y6.s.dv)=>(by have:=Uz D _ W X;rw[f9] at this;exact this:CP_ 35 #[cZ D 0] W λe d=>∃A,e=.returned (.tuple #[.agg A,.int .i64 0])/\Rj d W.heap.size A r/\iK d D d7/\Fr (some D) [] W d);have HF:=cq f8;have HC:=cq fa;have a2:=cq fb;have S:=pF w;clear f1 f2 f3 f4 f5 f6 f7 f8 f9 fa fb H I J b4 b5 L;have kc:=λ(w:cB)(C:fJ)(n c:Nat)=>Lib.run_convert_bytes_const (P:=prog) w 22 5 C n c nK xI;go_enter func9,ntmps9;go_wp2_with (first|refine jj 73 91 7 S 0 HA.o ?_|refine jb 7 91 S zeroValue91 afB λW S=>?_|refine js 91 7 59 S 0 HA.o (qL rfl rfl) λW S=>?_|(refine(O.o _).mono ?_;rintro e W ⟨K,D,rfl,hm⟩;have HK:=cq (gO S.fr.size hm.new);replace S:=S.Xa hm dU dU;clear hm)|(refine ah (Y.o K D _ S.x.1.at) λW⟨m,g⟩=>?_;replace S:=S.wQ m g (λk o=>.inr (eV.1 o▸HK.o)) dU dU;have l:=cq m.facts)|(go_at_call 34;have G:=afF S (1,2);clear S;go_must (refine ah (Z.o K D _ _ _ G.1.x.1.at G.2) λW⟨m,g⟩=>?_;have S:=G.1.wQ m g (λk o=>.inr (eV.1 o▸HK.o)) dU dU;clear G))|(go_at_call 15;refine ah (T.o K D _ S.x.1.at l.o) λW⟨m,g⟩=>?_;replace S:=S.wQ m g (λk o=>.inr (eV.1 o▸HK.o)) dU dU;have t:=cq m.facts.1)|(refine ah (U.o D _ S.x.1.at.dev l.o) λW⟨E,g⟩=>?_;replace S:=S.Yh g dU (fG D _) E;clear E)|(refine ag (V.o D _ S.x.1) λu W⟨hg,g⟩=>?_;obtain⟨K2,rfl,hK,hP⟩:=hg.1 ae;replace S:=S.wQ hP g dU dU dU;clear hg hP)|(refine ag (Q.o K2 D _ S.x.1.at l.o t.o) λrr W⟨ho,hb⟩=>?_;obtain⟨a9,z9,rfl⟩:=cS ho;replace S:=S.cx hb)|(refine ag (R.o K2 D _ S.x.1.at l.o t.o) λB W⟨hB,m,g⟩=>?_;have HB:=cq hB;replace S:=S.wQ m g dU dU dU;clear hB)|(refine ag (a1.o D _ S.x.1.at.dev) λA W⟨⟨rv,tv,hA,⟨o1,o2⟩,h1,i⟩,E,g⟩=>?_;have HA:=cq hA;have F:=cq (And.intro (show(∀x∈r.aiG,ee x.1/\ee x.2)/\r.aiG.length<=9223372036854775807 from by obtain⟨_,_,_,a,b,_⟩:=h1;exact⟨b,a⟩) (show(∀x∈r.taken,ee x.1/\ee x.2)/\r.taken.length<=9223372036854775807 from by obtain⟨_,_,_,a,b,_⟩:=i;exact⟨b,a⟩));have s:=cq (cS o1);have y:=cq (cS o2);have p:=λk o=>S.lt k o;replace S:=((S.Yh g dU (fG D d7) E).Ka p o1 ae ae).Ka p o2 ae ae;clear E hA h1 i o1 o2 p;obtain⟨ra,rc,rfl⟩:=s.o;obtain⟨ta,tc,rfl⟩:=y.o;clear s y)|(first|refine Db S 1 ae 0 (v:=.int .u8 97) (adY HF.o) ?_|refine Db S 0 ae 4 (v:=.int .i64 3) (show Value.int .i64 r.blocks=_ by rw[a2.o];rfl) ?_)|(refine ah (Pa _ _ r _ HA.o _ (S.x.1.2.1.Rk F.o.1.1 F.o.1.2) (S.x.2.1.Rk F.o.2.1 F.o.2.2)) λW hb=>?_;rw[HC.o];replace S:=S.cx hb)|refine ey λW S=>?_);go_ret;exact aw
theorem Ef(v s:fh):(kD v s).size<=49:=by unfold kD;split;decide;next h=>have a:v.size<=24:=jL iG;split;omega;split;decide;next h2=>have b:s.size<=24:=jL iG;rw[Pf,Pf];have:JG.size=1:=rfl;omega
theorem Xc(l:List cR)(id:Nat):(qf l id).size<=49:=by unfold qf;split;decide;split;exact Ef _ _;split;decide;grind[Ef]
def UC{x:GT}(h:i∈kR x):i.1.size<=49:=by unfold kR at h;obtain⟨s,_,rfl⟩:=fM.1 h;exact Xc _ _
theorem Xd(x:GT):(kR x).length=x.b.cE.length:=by grind[kR]
def aaE(i:vL):(Yb i).length=4:=by rfl
theorem Xe(h:ls[j]?=some i):(ls.map Prod.fst).drop j=i.1:: (ls.map Prod.fst).drop (j+1):=by grind[drop_eq_getElem?_toList_append]
theorem aaF{z y:GT}(h:we (n::l) z=some y):((dB z (dQ n)).2=0∨(dB z (dQ n)).2=172∨(dB z (dQ n)).2=173)/\we l (dB z (dQ n)).1=some y:=by grind[we]
structure aiH(x:Rs):Prop where
 name:x.name.size<=140737488355328
 toN:x.toN.size<=140737488355328
 data:x.data.length<=140737488351232
 fV:x.fV.length<=140737488351232
 n:ee x.n
 byte:∀y∈x.data,y<256
structure adZ(w:cB)(v:cI)(l:List Rs):Prop where
 row:∃T,cK w T 6 v l.length (opC l)
 dat:∀x∈l,∃T,cK w T 1 (.slice x.da x.data.length x.dc) x.data.length (dH x.data)
 kep:∀x∈l,∃T,cK w T 1 (.slice x.ka x.fV.length x.kc) x.fV.length (EE x.fV)
 op:∀x∈l,aiH x
theorem UD(n:Int)(hn:ee n)(l:List Rs)(ao:Option Addr)(cap:Nat)(w:cB)(R:adZ w (.slice ao l.length cap) l):
 rF 5 #[.int .i64 n,.slice ao l.length cap] w (.bool true):=by
 have C9:=cq aaD;have C:=cq (UB n hn);have S:=pF w;by_cases h1:64<=n/\n<=400;case neg=>simp only[cM h1] at C;clear h1 R;go_enter func5,ntmps5;go_wp2_with (first|refine je S (C9.o _) λW S=>?_|refine je S (C.o _) λW S=>?_);go_ret;exact aw
 simp only[cL h1] at C;have FL:=Ff (n:=n.toNat) cw;have E:=cq λ(x:GT)(k:Nat)(h:Ok x k)(J:k<=1000)(xn:x.s.dv.n=n.toNat)=>UA (n:=n.toNat) cw h J xn;have a2:=Ma (kg n.toNat);have a6:(iN (kg n.toNat)).1.s.dv.n=n.toNat:=FL.2.2.1.n;obtain⟨x1,Z⟩:=c8 ((iN (kg n.toNat)).1);rw[Z] at C a2 a6;have c4:=cq (show Ok x1 2/\sE x1 20000/\x1.s.dv.n=n.toNat from⟨by rw[<-Z];exact FL.2.1,a2.le alo,a6⟩);obtain⟨rm,b1⟩:=q8 (eF x1.s.mp);have E:=cq λ(x:GT)(k:Nat)(h:Ok x k)(J:k<=1000)(xn:x.s.dv.n=n.toNat)=>(by have:=E.o x k h J xn;rw[Z,b1.o] at this;exact this:∃y,tJ 40 x=some y/\kR y=[]/\(mG y.s.dv.nw->(dB y iR).2=0/\eF (dB y iR).1.s.mp=rm/\∃v r,wz (dB y iR).1.s.dv=(v,(r,0))/\zj r=true));have Q:=cq λK D W(X:eK W K D x1)=>(by have:=Jz K D x1 W X;rw[b1.o] at this;exact this:CP_ 18 #[cZ K 0] W λe G=>e=.returned (.int .i64 rm)/\W=G);have HL:=cq R.op;have c3:=cq R.dat;obtain⟨TO,a8⟩:=R.row;have c5:=cq a8;obtain⟨d2,c9,he,d1,a4⟩:=du a8;simp only[kM] at he;obtain⟨rfl,-,rfl⟩:=he;have a4:=cq a4;clear h1 FL a2 a6 Z R a8;by_cases h2:60<l.length
 . have g2:decide ((60:Int)<(l.length:Int))=true:=fQ cw;clear h2;go_enter func5,ntmps5;go_wp2_with (first|refine je S (C9.o _) λW S=>?_|(refine(C.o _).mono ?_;rintro e W ⟨K,D,rfl,hm⟩;replace S:=S.Xa hm dU dU;clear hm));go_ret;exact aw
 have g2:decide ((60:Int)<(l.length:Int))=false:=iC cw;go_enter func5,ntmps5;go_upto_region 8 with(first|refine je S (C9.o _) λW S=>?_|(refine(C.o _).mono ?_;rintro e W ⟨K,D,rfl,hm⟩;have HK:=cq (gO S.fr.size hm.new);replace S:=S.Xa hm dU dU;clear hm)|refine lB (Q.o K D _ S.x.1.at) ?_);have b7:∀k∈ [K],k∈([]:cD)∨w.heap.size<=k:=λk J=>.inr (eV.1 J▸HK.o);have a3:=cq b7;clear b7 C9 C Q;go_loopw [32] (λi wr=>∃(k:Nat)(x:GT),k<=l.length/\i=.int .i64 k/\Hid ((Ok x (2+k)/\sE x (20000+k*20004)/\x.s.dv.n=n.toNat)/\St w none [] [] [] (Lq w.heap.size D (JP K D x)) wr)) (λi _=>l.length-(intOf i).toNat);grind;clear S c4;obtain⟨k,x,J,rfl,hS⟩:=hrel;have Y:=cq hS.o.1;have S:=hS.o.2;clear hS;by_cases b8:k<l.length
 . obtain⟨b,lo,rfl⟩:=a4.o cw;obtain⟨o,L⟩:∃o,l[k]?=some o:=⟨_,iz b8⟩;have H:=HL.o o (kt L);obtain⟨TD,b5⟩:=c3.o o (kt L);obtain⟨A,M⟩:=eW (ct 6 (opF o));have I:=cq (show A.size=6/\∀i,i<6->(opC l)[k*6+i]?=A[i]? from⟨by rw[M,cF],λi hi=>by
    unfold opC;rw[flat_get Yc l (mQ.1 L).1 hi,(mQ.1 L).2];unfold opE;rw[mj,M]⟩)
   have HA:=cq M;have s:=S.x.1.at.facts;have al:=afz Y.o.1 cw s.1.nw s.2 o.toOpT H.byte;have ab:=ahh Y.o.2.1 s.1 s.2 o.toOpT;have V:=cq (show Ok (zV x o.toOpT).1 (2+(k+1))/\sE (zV x o.toOpT).1 (20000+(k+1)*20004)/\(zV x o.toOpT).1.s.dv.n=n.toNat from⟨al.1,ab.le cw,al.2.trans Y.o.2.2⟩);have a1:=cq λW(X:eK W K D x)(hb:dz w W)(hd:∀k∈nL W D,w.heap.size<=k)=>ahm K D x (Y.o.2.1.ok cw) o A M H.name H.toN H.data W X TD (λW' f=>b5.iV hb f hd (λk J=>(eV.1 J▸HK.o:w.heap.size<=k))) H.byte;obtain⟨⟨y,s9,c⟩,hy⟩:∃T,zV x o.toOpT=T:=⟨_,ae⟩;rw[hy] at V a1;simp only at V a1;clear L H M s al ab hy b5;go_wp2_with (first|refine Bf (c5.o.cx S.b) (j:=k) cw I.o.1 I.o.2 ?_|(refine(a1.o _ S.x.1.at S.b (λk J=>(S.x.2 k J).1)).mono ?_;rintro e W ⟨⟨B,rfl⟩,hp,hf⟩;replace S:=S.wQ hp hf a3.o dU dU)|refine eR ?_|refine ey λW S=>?_);go_roundw;exact⟨k+1,y,cw,by go_num,cq ⟨V.o,S.pop⟩⟩;exact oV
 . obtain rfl:k=l.length:=cw;obtain⟨y,e1,e2,e3⟩:=E.o x (2+l.length) Y.o.1 cw Y.o.2.2;have HY:=cq e2;have HZ:=cq e3;have a:=cq (show Inv x/\sE x 2000000/\tJ 40 x=some y from⟨Y.o.1.inv,Y.o.2.1.le cw,e1⟩);clear e1 e2 e3 Y E HL;go_upto_region 13 with(fail);go_loopw [10] (λi wr=>∃(k:Nat)(z:GT),k<=40/\i=.int .i64 k/\Hid ((Inv z/\sE z (2000000+k*640000)/\tJ (40-k) z=some y)/\St w none [] [] [] (Lq w.heap.size D (JP K D z)) wr)) (λi _=>40-(intOf i).toNat);exact⟨0,x,cw,ae,cq ⟨a.o,S⟩⟩;clear S a;obtain⟨k,z,J,rfl,hS⟩:=hrel;have a:=cq hS.o.1;have S:=hS.o.2;clear hS;by_cases b8:k<40
   . (obtain⟨z2,a7,c1⟩:∃z2,we ((kR z).map Prod.fst) z=some z2/\tJ (40-(k+1)) z2=some y:=by have F:=a.o.2.2;rw[show 40-k=(40-(k+1))+1 from by omega] at F;unfold tJ at F;exact Option.bind_eq_some_iff.1 F);have N:=cq λW(X:eK W K D z)=>CE K D z a.o.2.1.text W X;have c7:(kR z).length<=32:=by rw[Xd];exact a.o.1.uL.pK
     have b3:=cq λ(i:vL)(h:i∈kR z)=>UC h;have b2:=cq λ(i:vL)(h:i∈kR z)=>(show∃p,dG i.1=some p from by
      unfold kR at h;obtain⟨t,ht,rfl⟩:=fM.1 h;obtain⟨_,p,_,_,e,_⟩:=a.o.1.uL.cC a.o.1.fit ht;exact⟨p,e⟩)
     obtain⟨ls,b6⟩:=c8 (kR z);rw[b6] at N c7 a7 b3 b2;have E:=cq (show Inv z/\sE z (2000000+k*640000+0*20000)/\we ((ls.map Prod.fst).drop 0) z=some z2 from⟨a.o.1,by simpa using a.o.2.1,a7⟩);have c6:=cq c1;clear b6 a7 c1 a;go_upto_region 16 with(refine ag (N.o _ S.x.1.at) λr W⟨ho,hb⟩=>?_;obtain⟨a9,z9,rfl⟩:=cS ho;replace S:=S.gm hb ho ae ae;clear hb);go_loopw [47] (λi wr=>∃(j:Nat)(u:GT),j<=ls.length/\i=.int .i64 j/\Hid ((Inv u/\sE u (2000000+k*640000+j*20000)/\we ((ls.map Prod.fst).drop j) u=some z2)/\St w none [] [] [⟨52,4,.slice a9 ls.length z9,ls.length,CD ls⟩] (Lq w.heap.size D (JP K D u)) wr)) (λi _=>ls.length-(intOf i).toNat);exact⟨0,z,cw,ae,cq ⟨E.o,S⟩⟩;clear S E;obtain⟨j,u,hj,rfl,hS⟩:=hrel;have a:=cq hS.o.1;have S:=hS.o.2;clear hS;by_cases b9:j<ls.length
     . obtain⟨i,L⟩:∃i,ls[j]?=some i:=⟨_,iz b9⟩;obtain⟨g9,rfl⟩:∃g,a9=s_ g 0:=by rcases S.o0.2 with⟨e,h0⟩|⟨g,cap,d3,e,_⟩;exact absurd h0 Br;simp only[kM] at e;exact⟨g,e.1⟩
       obtain⟨A,M⟩:=eW (ct 4 (CB i));have I:=cq (show A.size=4/\∀q,q<4->(CD ls)[j*4+q]?=A[q]? from⟨by rw[M,cF],λq hq=>by
        unfold CD;rw[flat_get aaE ls (mQ.1 L).1 hq,(mQ.1 L).2];unfold Yb;rw[mj,M]⟩)
       have HA:=cq M;have F:=a.o.2.2;rw[Xe L] at F;obtain⟨h4,h5⟩:=aaF F;have a5:=kt L;obtain⟨p,hp⟩:=b2.o i a5;have d:=Jv a.o.1 hp;have db:=Dn a.o.2.1 (k:=dQ i.1) ((L8 a.o.2.1 i.1).le cw);have V:=cq (show Inv (dB u (dQ i.1)).1/\sE (dB u (dQ i.1)).1 (2000000+k*640000+(j+1)*20000)/\we ((ls.map Prod.fst).drop (j+1)) (dB u (dQ i.1)).1=some z2 from⟨d.2.1,db.le cw,h5⟩);have U:=cq λW(X:eK W K D u)=>Bp K D u (a.o.2.1.ok cw) i.1 (gO (b3.o i a5) jR) W X;obtain⟨⟨y2,c⟩,hy⟩:∃T,dB u (dQ i.1)=T:=⟨_,ae⟩;rw[hy] at V U h4;simp only at V h4;clear L M F h5 a5 d db hy a;have U:=cq λW X=>(U.o W X:CP_ 19 #[cZ K 0,.string i.1] W λe G=>e=.returned (.int .i64 c)/\eK G K D y2/\Fr (some D) [K] W G);rcases h4 with rfl|rfl|rfl
       all_goals(
        go_wp2_with first|refine jl 53 9 52 S 0 0 (.string i.1) ?_|refine agq S.q0 (j:=j) cw (show _=cZ g9 (0+j*4) by rw[ou];rfl) I.o.1 I.o.2 ahd ?_|(refine ah (U.o _ S.x.1.at) λW⟨hp,hf⟩=>?_;replace S:=S.wQ hp hf a3.o dU dU)|refine ey λW S=>?_
        go_roundw
        case rel=>exact⟨j+1,y2,cw,by go_num,cq ⟨V.o,S.pop⟩⟩
        case measure=>exact oV
       )
     . (obtain rfl:j=ls.length:=cw;have F:=a.o.2.2;rw[drop_eq_nil_of_le dU] at F;obtain rfl:u=z2:=by unfold we at F;cases F;rfl);have V:=cq (show Inv u/\sE u (2000000+(k+1)*640000)/\tJ (40-(k+1)) u=some y from⟨a.o.1,a.o.2.1.le cw,c6.o⟩);clear F a;go_wp2;go_roundw;exact⟨k+1,u,cw,by go_num,cq ⟨V.o,S.M6⟩⟩;exact oV
   . (obtain rfl:k=40:=cw;obtain rfl:z=y:=by have F:=a.o.2.2;unfold tJ at F;cases F;rfl);have s:=S.x.1.at.facts;obtain⟨hc,m,v,r,hw,b4⟩:=HZ.o s.1.nw;have N:=cq λW(X:eK W K D z)=>(by have:=CE K D z a.o.2.1.text W X;rw[HY.o] at this;exact this:CP_ 12 #[cZ K 0] W λe G=>∃r,e=.returned r/\G.ownsRow W.heap.size 52 4 r 0 (CD [])/\dz W G);have O:=cq λW(X:eK W K D z)=>A7 K D z (a.o.2.1.ok cw) W X;obtain⟨⟨y4,c⟩,hy⟩:∃T,dB z iR=T:=⟨_,ae⟩;rw[hy] at O hc m hw;simp only at hc m hw;subst hc;have O:=cq λW X=>(O.o W X:CP_ 15 #[cZ K 0] W λe G=>e=.returned (.int .i64 0)/\eK G K D y4/\Fr (some D) [K] W G);have Q:=cq λW(X:eK W K D y4)=>(by have:=Jz K D y4 W X;rw[m] at this;exact this:CP_ 18 #[cZ K 0] W λe G=>e=.returned (.int .i64 rm)/\W=G);have c2:=cq λW(X:eK W K D y4)=>(by have:=Rm D y4.s.dv W X.dev;rw[hw] at this;simp only[b4] at this;exact this:CP_ 20 #[cZ D 0] W λe G=>e=.returned (.bool true)/\iK G D v/\Fr (some D) [] W G);clear s m hw b4 hy a HZ HY;go_wp2_with (first|(refine ag (N.o _ S.x.1.at) λr W⟨ho,hb⟩=>?_;obtain⟨a9,z9,rfl⟩:=cS ho;replace S:=S.cx hb;clear hb)|(refine ah (O.o _ S.x.1.at) λW⟨hp,hf⟩=>?_;replace S:=S.wQ hp hf a3.o dU dU)|refine lB (Q.o _ S.x.1.at) ?_|(refine ah (c2.o _ S.x.1.at) λW⟨hd,hf⟩=>?_;replace S:=S.Yh hf dU (fG D v) hd;clear hd));go_ret;exact aw
end
section
open Go.Deep Go.ChangeShapes Go.WideShapes Go.ChangeAt
theorem jW{a b:Bool}(h:a=true)(g:b=true):(a&&b)=true:=by grind
def own:ownKnob prog.godebug=none:=cX
def laidOut:laidOutB prog=true:=cX
def aht:prog.cellsOf 5=1:=cX
def afG:mapsRowed prog=true:=cX
def afH:(prog.stops==[])=true:=cX
def afI:(prog.stopKnobs==[])=true:=cX
def afJ:prog.stopsHeard=true:=cX
def afK:prog.mayEnter=true:=cX
def afL:prog.liftsFinal=false:=cX
def ahu:(prog.make==some .cut)=true:=cX
section
variable {enc:dC×cI->H}
end
end
section
open Go.Deep Go.ChangeShapes Go.WideShapes Go.ChangeAt
section
variable {enc:dC×cI->H}
theorem afM{a:Addr}{u:cI}(h:w.cell? a=some u):∃cs T b,w.heap[a.block]?=some (.cells cs T b)/\cs[a.off]?=some u/\a.spot=none:=by grind[World.cell?_spot,World.cell?]
theorem Ib{e:dC}(hu:prog.underlying t=some (.slice e))(hz:prog.cellsOf e=z)(M:0<z)(cells:α->List cI)(hk:∀a,(cells a).length=z)(Q:α->DataW H->Prop)(hE:∀cs n D N,DataW.trod enc prog w base spare dx n e cs=some (D,N)->∃a,cs=cells a/\Q a D){d:DataW H}{p:List MemPlace}(h:DataW.trod enc prog w base spare dx fuel t [v]=some (d,p)):
 ∃(l:List α)(ao:Option Addr)(cap:Nat),v=.slice ao l.length cap/\(∃T,cK w T z v l.length (l.flatMap cells))/\(∀a∈l,∃g sp D,d=.slice g sp/\D∈g/\g.length=l.length/\Q a D):=by
 rcases open_slice hu h with⟨J,Z⟩|⟨x,c,cap,m,n,D,N,J,_,U,V,a4,Z,A⟩
 . obtain rfl:v=.slice none 0 0:=by grind
   exact⟨[],none,0,ae,⟨0,by simp,none,0,ae,dK _,fN _,λh=>absurd h (tP _)⟩,λa h=>absurd h iS⟩
 . obtain rfl:v=.slice (some x) c cap:=by grind
   have a3:c<=m:=by grind
   rw[hz] at A;have R:∀i:Fin c,∃a,(∀j,j<z->w.cell? (x.add (i.val*z+j))=(cells a)[j]?)/\Q a (D i.val):=by
    intro i;obtain⟨F,hc,ht⟩:=A i.val cw;obtain⟨a,rfl,X⟩:=hE _ _ _ _ ht;obtain⟨_,_,a2⟩:=World.cells?_some hc
    grind[add_add]
   have ea:∀k,(x.add k).block=x.block/\(x.add k).off=x.off+k/\(k=0->x.add k=x):=λk=>by grind[Addr.add]
   let f:Fin c->α:=λi=>Classical.choose (R i)
   have hf:∀i,(∀j,j<z->w.cell? (x.add (i.val*z+j))=(cells (f i))[j]?)/\Q (f i) (D i.val):=λi=>Classical.choose_spec (R i);have q:(ofFn f).length=c:=length_ofFn;refine⟨ofFn f,some x,cap,by rw[q],?_,?_⟩
   . rw[q];rcases tZ c with h0|h0
     . subst h0;exact⟨0,by simp,some x,cap,ae,U,V,λh=>absurd h (tP _)⟩
     . have r:∀i(K:i<c)j(E:j<z),∃cs T I,w.heap[x.block]?=some (.cells cs T I)/\cs[x.off+(i*z+j)]?=(cells (f ⟨i,K⟩))[j]?/\(i*z+j=0->x.spot=none):=λi K j E=>by
        have h1:=(hf ⟨i,K⟩).1 j E
        grind[afM]
       obtain⟨cs,T,I,G,_,C⟩:=r 0 h0 0 M;obtain⟨b,o,sp⟩:=x;have C:=C dU;simp only at G C r;subst C;refine⟨T,by grind[vw],s_ b o,cap,ae,U,V,λ_=>⟨b,o,cs,I,ae,G,λj u E=>?_⟩⟩;have L:j<c*z:=by grind[vw]
       have X:j/z<c:=(div_lt_iff_lt_mul M).2 L;have Y:j%z<z:=mod_lt _ M;have B:j/z*z+j%z=j:=by grind[div_add_mod]
       obtain⟨F,T',a1,s,y,_⟩:=r (j/z) X (j%z) Y;rw[G] at s;cases s;rw[B] at y;have O:=flat_get hk (ofFn f) (i:=j/z) cw Y;rw[B,E] at O;rw[y,O];simp
   . intro a ha;obtain⟨i,rfl⟩:=List.mem_ofFn.1 ha;cases Z<;>grind
theorem UE{α β:Type}(g:α->β)(l:List α):l.flatMap (λa=> [g a])=l.map g:=by induction l<;>simp_all
theorem aaG(i:prog.underlying t=some (.slice 5)){d:DataW H}{p:List MemPlace}(h:DataW.trod enc prog w base spare dx fuel t [v]=some (d,p)):
 ∃(l:cD)(c:Option Addr)(cap:Nat),v=.slice c l.length cap/\(∃T,cK w T 1 v l.length (dH l))/\(∀y∈l,y<256)/\((∀n∈d.weights prog t,n<=reachBytes)->l.length<=140737488351232):=by
 obtain⟨l,c,cap,e,⟨T,R⟩,g⟩:=Ib i aht jR (λ(a:Nat)=> [Value.int .u8 (a:Int)]) (λ_=>ae) (λa _=>a<256) (λcs n D o h=>by
  obtain⟨y,rfl,_,f⟩:=DataW.trod_int xI h;have q:IntKind.u8.min=0:=rfl;have r:IntKind.u8.max=255:=rfl;simp[Lit.wf] at f;exact⟨y.toNat,by grind,cw⟩) h
 refine⟨l,c,cap,e,⟨T,by grind[dH,UE]⟩,λy k=>(g y k).choose_spec.choose_spec.choose_spec.2.2.2,λf=>?_⟩;rcases l with _|⟨a,l⟩;grind;obtain⟨b,m,D,rfl,_,j,_⟩:=g a lW;have:=f ((b.length+m.length)*prog.bytesOf 5) (by simp[DataW.weights,i]);rw[show prog.bytesOf 5=1 from by kernel_rfl,j] at this;grind[reachBytes]
theorem aaH(f:prog.underlying t=some (.slice 4)){d:DataW H}{p:List MemPlace}(h:DataW.trod enc prog w base spare dx fuel t [v]=some (d,p)):
 ∃(l:List Bool)(c:Option Addr)(cap:Nat),v=.slice c l.length cap/\(∃T,cK w T 1 v l.length (EE l))/\((∀n∈d.weights prog t,n<=reachBytes)->l.length<=140737488351232):=by
 obtain⟨l,c,cap,e,⟨T,R⟩,i⟩:=Ib f (show prog.cellsOf 4=1 from by kernel_rfl) jR (λ(a:Bool)=> [Value.bool a]) (λ_=>ae) (λ_ _=>True) (λcs n D m h=>by
  obtain⟨y,rfl,_⟩:=DataW.trod_bool underlying4 h
  grind) h
 refine⟨l,c,cap,e,⟨T,by grind[EE,UE]⟩,λj=>?_⟩;rcases l with _|⟨a,l⟩;grind;obtain⟨b,k,D,rfl,_,g,_⟩:=i a lW;have:=j ((b.length+k.length)*prog.bytesOf 4) (by simp[DataW.weights,f]);rw[show prog.bytesOf 4=1 from by kernel_rfl,g] at this;grind[reachBytes]
def ajn(h:(Lit.int .i64 x).wf=true):ee x:=by have a:IntKind.i64.min= -9223372036854775808:=rfl;have b:IntKind.i64.max=9223372036854775807:=rfl;simp[Lit.wf] at h;unfold ee;omega
theorem JA{P:kS}{e:dC}:∀{l:List (DataW H)}{D:DataW H},D∈l->∀n∈D.weights P e,n∈DataW.weightsAll P e l
 |d::l,D,h,n,hn=>by
  unfold DataW.weightsAll;rcases ib.1 h with rfl|h
  . grind
  . exact Ej _ (JA h n hn)
def ad0:prog.cellsOf 3=1/\prog.cellsOf 9=1/\prog.cellsOf 22=1/\prog.cellsOf 39=1/\prog.cellsOf 41=6:=⟨cX,by kernel_rfl,by kernel_rfl,by kernel_rfl,cX⟩
structure OpQ(w:cB)(x:Rs)(D:DataW H):Prop where
 dat:∃T,cK w T 1 (.slice x.da x.data.length x.dc) x.data.length (dH x.data)
 kep:∃T,cK w T 1 (.slice x.ka x.fV.length x.kc) x.fV.length (EE x.fV)
 op:(∀n∈D.weights prog 41,n<=reachBytes)->aiH x
def afN{n:Nat}{D:DataW H}{J:List MemPlace}(h:DataW.trod enc prog w base spare dx n 41 cs=some (D,J)):∃x:Rs,cs=opE x/\OpQ w x D:=by
 obtain⟨Y,Z,u,v,y⟩:=ad0;obtain⟨xs,m,_,X,g,i,a⟩:=DataW.trod_struct underlying41 h;rw[y] at g
 match cs,g with
 | [c0,c1,c2,c3,c4,c5],_=>
 match xs,i with
 | [y0,y1,y2,y3,y4,y5],_=>
  have B:=a 0 _ ae;have C:=a 1 _ ae;have E:=a 2 _ ae;have F:=a 3 _ ae;have G:=a 4 _ ae;have I:=a 5 _ ae;simp only[Y,Z,u,v,drop_zero,drop_succ_cons,take_succ_cons,take_zero,getElem?_cons_zero,getElem?_cons_succ] at B C E F G I;obtain⟨p,M,x0,_⟩:=DataW.trod_int uh B;obtain⟨b,N,x1,_⟩:=DataW.trod_string xP C;obtain⟨c,O,x2,_⟩:=DataW.trod_string xP E;obtain⟨q,Q,x3,w3⟩:=DataW.trod_int uh F;obtain⟨z,p4⟩:=y4;obtain⟨A,p5⟩:=y5;obtain⟨l4,r,e,R,R4,L,w4⟩:=aaG nK G;obtain⟨l5,s,f,T,K,w5⟩:=aaH underlying39 I;cases M;cases N;cases O;cases Q;subst R T x0 x1 x2 x3;cases X;have o:∀{j t}{d:DataW H},([3,9,9,3,22,39]:List dC)[j]?=some t->([.lit (.int .i64 p),.lit (.string b.data.toList),.lit (.string c.data.toList),.lit (.int .i64 q),z,A]:List (DataW H))[j]?=some d->∀n∈d.weights prog t,n∈(DataW.agg [.lit (.int .i64 p),.lit (.string b.data.toList),.lit (.string c.data.toList),.lit (.int .i64 q),z,A]:DataW H).weights prog 41:=λU V n k=>by
   unfold DataW.weights;rw[underlying41];exact DataW.weights_mem_each U V n k
  refine⟨⟨⟨p,b,c,q,l4,l5⟩,r,e,s,f⟩,ae,R4,K,λl=>⟨?_,?_,?_,?_,ajn w3,L⟩⟩
  . have:=l _ (o (j:=1) ae ae b.data.toList.length (by simp[DataW.weights]));unfold reachBytes at this;show b.size<=_;simp at this;omega
  . have:=l _ (o (j:=2) ae ae c.data.toList.length (by simp[DataW.weights]));unfold reachBytes at this;show c.size<=_;simp at this;omega
  . exact w4 λn k=>l n (o (j:=4) ae ae n k)
  . exact w5 λn k=>l n (o (j:=5) ae ae n k)
theorem afO{d:DataW H}{p:List MemPlace}(h:DataW.trod enc prog w base spare dx fuel 30 [v]=some (d,p))(g:∀n∈d.weights prog 30,n<=reachBytes):
 ∃(l:List Rs)(b:Option Addr)(cap:Nat),v=.slice b l.length cap/\adZ w v l:=by obtain⟨l,b,cap,e,R,f⟩:=Ib underlying30 ad0.2.2.2.2 jR opE Yc (OpQ w) (λcs n D i h=>afN h) h;refine⟨l,b,cap,e,⟨R,λx a=>?_,λx a=>?_,λx a=>?_⟩⟩;obtain⟨_,_,D,_,_,_,q⟩:=f x a;exact q.dat;obtain⟨_,_,D,_,_,_,q⟩:=f x a;exact q.kep;obtain⟨c,m,D,rfl,j,_,q⟩:=f x a;refine q.op λn k=>g n ?_;grind[DataW.weights,underlying30,JA]
end
end
section
open Go.Deep Go.ChangeShapes Go.WideShapes Go.ChangeAt
set_option linter.unusedVariables false
theorem aiI(h:(Lit.int .i64 x).wf=true):ee x:=by have a:IntKind.i64.min= -9223372036854775808:=rfl;have b:IntKind.i64.max=9223372036854775807:=rfl;grind[Lit.wf,ee]
theorem Dz(os:Os)(c:os.Started)(H:Type)(enc:dC×cI->H):
 ReturnsInHanded {} checked os 5 .any (Rows.wholeReturnsSpec.pre6 enc prog f5 Rows.wholeReturnsRow.domain false) (Rows.wholeReturnsSpec.post enc prog f5 false true false false):=by
 refine returnsInHanded_of_change_sized (C:=checked) own c ake func5
  (ChangeSpec.witness6 (enc:=enc) (C:=checked) false ⟨#[],#[.int .i64 0,.slice none 0 0],[]⟩ 8 mB mB ake mB) ?_
 intro W base args w Q i b A B d _;have g:(DataW.weightsEach prog (f5.params.toList++Rows.wholeReturnsSpec.plain.varTypes prog) (w++Q)).all (·<=reachBytes)=true:=d;clear d;have a:∀(j:Nat)t v,f5.params[j]?=some t->args[j]?=some v->Value.okWide prog W .any base t v:=b;have l:=A;obtain⟨p,q,f,T,rfl,U,Y⟩:=A;have z:DataW.TrodAll enc prog W 0 (λ_=>true) true f5.params.toList args.toList w p:=f;rw[params5] at z a g;obtain⟨F,a1,d0,M,p0,q0,o,rfl,rfl,R,r0⟩:=trodAll_cons z;obtain⟨G,a2,d1,N,p1,q1,rfl,rfl,rfl,y,r1⟩:=trodAll_cons r0;obtain⟨rfl,rfl,rfl⟩:=trodAll_nil r1;obtain rfl:args=#[F,G]:=by grind
 obtain⟨rfl,rfl⟩:=trodVars_none T;obtain⟨K,rfl,rfl,rfl,I⟩:=open_int uh (a 0 3 F ae ae) R;obtain⟨b1,E,c1,rfl⟩:=okWide_slice underlying30 (a 1 30 G ae ae);have D:=y;have s:∀x∈p1,x.block<W.heap.size:=by obtain⟨m,V⟩:=D;exact DataW.trod_lt m _ _ _ V
 obtain⟨k,r⟩:=y;obtain⟨Z,L,u,O,J⟩:=afO r (λn X=>by simpa using qk.1 g n (DataW.weights_mem_each (j:=1) ae ae n X));cases O;clear f b;refine(UD K (aiI I) Z _ _ W J).mono λe W' ⟨he,bel⟩=>?_;subst he;exact⟨_,ae,_,_,_,[],_,[],l,trodAll_mk1 (shut_bool underlying4 _),(trodAll_cons_mk (shut_int uh I) (trodAll_cons_mk (Below.trod laidOut mB (lr mB) D bel s) trodAll_mk0)),ae,bel.frame _,λh=>by cases h⟩
def DC:joinedFacts prog 5 f5 Rows.wholeReturnsSpec Rows.wholeReturnsRow=true:=(jW (jW (jW (jW (jW (jW (jW (jW (jW (jW (jW (jW (jW (jW (jW (jW (jW (jW (jW (jW (jW (jW (jW (jW (jW (jW (jW (jW (jW (jW (jW cX laidOut) afG) cX) cX) cX) afH) cX) afI) cX) cX) cX) cX) cX) cX) cX) cX) cX) cX) cX) cX) cX) cX) cX) afJ) afK) (by show(false==prog.liftsFinal)=true;rw[afL];rfl)) ahu) cX) cX) cX) cX)
theorem wholeReturns_holds:Rows.WholeReturnsSaid:=
 OpenClaim.holds_of_wide 5 f5 ae ae ae ae ae ae ae ⟨ae,ae,ae,ae,ae⟩ ae ae ae ae ae ake func5 DC
  (lr cX) (by unfold Func.isWrapper;first|(rw[cM dk_];exact ay))
  (λos a H enc _=>Dz os a H enc)
end
end Go.Proofs.YtklligbjoplbgaaGreat