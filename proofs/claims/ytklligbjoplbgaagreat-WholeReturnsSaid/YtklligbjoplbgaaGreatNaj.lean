/- Part 10. No conditions. -/
import Derived.Test.YtklligbjoplbgaaGreatNai
set_option linter.all false
namespace Go.Proofs.YtklligbjoplbgaaGreat
set_option maxRecDepth 100000
set_option maxHeartbeats 64000000
open Go.RowKit Lib List Nat _root_.Go.Proofs.Tryz Go.Shelf
variable {A tmps:fJ}{a:Act}{af:Array Edge}{ops:Array Oper}{R:Ending->cB->Prop}{Q:Exit->Act->cB->Prop}{fn:Func}{bs l l2 ls sp t:cD}{X X':cD->cB->Prop}{seen:List (Nat×fh)}{log:List Int}{ms:List km}{O:List O4}{rest:List Oper}{ps:List cy}{L:List R4}{kl:Lit}{b base by' dst g i k m n n1 n2 x y z:Nat}{c:Nat×fh}{st:Nat->Nat}{f:Nat->cI}{ao:Option Addr}{d d2:Option Nat}{P:kS}{s:Pl}{p1 p2 q r1 r2 cz:cy}{r:R4}{p:String}{e t2 ty:dC}{key v:cI}{w w' w0:cB}
def pU(l:List Int):cD:=l.map Int.toNat
theorem ZM{x:km}(h:UF x=true):∀y∈rH x,0<=y/\y<256:=by have b:=(fm _ _).1 h;intro y a;unfold rH at a;grind
theorem Cn{ms:List km}{log:List Int}(h:oa ms=some log):∀y∈log,0<=y/\y<256:=by
 unfold oa at h;split at h;next hc=>cases h;intro y c;obtain⟨x,b,a⟩:=By.1 c;exact ZM (qk.1 hc.2 x b) y a
 cases h
theorem LC(h:oa ms=some log):log.length=5*ms.length/\ms.length<=4096:=by grind[oa,xx]
theorem acE(h:∀y∈log,0<=y/\y<256):dh (pU log)=log:=by
 unfold dh pU;rw[sK];conv=>rhs;rw[<-map_id log]
 grind[map_congr_left]
def Ht(l:List (Int×Int)):Int:=(l.headD (0,0)).1
def OK(l:List (Int×Int)):Int:=(l.getLastD (0,0)).1+(l.getLastD (0,0)).2
def iu(dZ:Int)(l:List (Int×Int)):Option cD:=
 if fc dZ=0∨fS l=false then none else
 if 0<l.length/\(Ht l<4∨dZ<OK l) then none else
 match oa (oy [] l) with
 |none=>none
 |some log=>if fc dZ<2+log.length then none else
  some (pE 2 (oy [] l).length++pU log++replicate (fc dZ-(2+log.length)) 0)
def XO:jF prog 141 2:=⟨⟨_,underlying141,ae⟩,cX⟩
instance in05bb3 :rB 141 2:=⟨XO⟩
def LD(p:Int×Int):Nat->cI:=λi=>if i=0 then .int .i64 p.1 else .int .i64 p.2
def ZO(p:Int×Int):∀i,(LD p i).oneCell'=true:=λi=>by unfold LD;split<;>rfl
instance in8301f(x:Int×Int):OF (LD x):=⟨ZO x⟩
def aeZ:(#[Value.int .i64 0,.int .i64 0]:fJ)=ct 2 (LD (0,0)):=rfl
instance in50e52 :ZR 141 2 (LD (0,0)):=⟨_,zeroValue141,aeZ⟩
section
def QC{o:Nat}(j:A.size=m)(hc:∀i v,A[i]?=some v->w.cell? ⟨b,o+i,none⟩=some v)(g:a.eval (.tmp x)=.pointer (some ⟨b,o,none⟩))(e:jF P ty m)(h:wpList P ops Q rest (a.put (some dst) (.agg A)) w):wpList P ops Q (⟨some dst,.load ty (.tmp x),t2,p,af,none⟩::rest) a w:=by obtain⟨⟨c,f,d⟩,k⟩:=e;have:=wpList_load_mid (op:=⟨some dst,.load ty (.tmp x),t2,p,af,none⟩) (ops:=ops) (rest:=rest) (Q:=Q) ae ty (.tmp x) ae b o g A.toList c (λi v l=>hc i v iG) f d iG;rw[tO] at this;exact this h
end
theorem Gd(t:Int):fc t=0∨100<=fc t:=by grind[fc]
theorem acF(h:cu w b 5 n (cN ([]++pE 2 m++ls)))(c:base<=b)(_:0<n)(g:n<=2567)(d:ls.length=k)(f:2+k<=n):lS w base (.slice (some ⟨b,0,none⟩) n n) ((some (pE 2 m++ls++replicate (n-(2+k)) 0)).getD []):=by
 have a:=Tv h c bE;rw[V4 (by grind[fo]),ot,ik,fo,d] at a;unfold lS;have e:(pE 2 m++ls++replicate (n-(2+k)) 0).length=n:=by grind[fo]
 rw[ku,e];exact a
theorem ai5(h:m<=4096):uj [2] [m]=some (pE 2 m):=by unfold uj;rw[cL ⟨by decide,ae,by grind[fitAll]⟩];rfl
section
attribute[local irreducible]wpList Code.wp Calls Oper.wp wpAnyH
theorem DY(dZ:Int)(d1:ee dZ)(v:cI)(l:List (Int×Int))(w:cB)(R:eD w v l):
 CP_ 205 #[.int .i64 dZ,v] w λe w'=>∃r,e=.returned (.tuple #[r,.int .i64 (fp 81 (iu dZ l))])/\lS w' w.heap.size r ((iu dZ l).getD [])/\dz w w':=by
 have HR:=cq R;obtain⟨rb,G⟩:=c8 (fS l);have X:=cq λW(c:dz w W)=>sS rb v l G W (R.cx c);obtain⟨T,Q⟩:=c8 (iu dZ l);rw[Q];obtain⟨n,F⟩:=c8 (fc dZ);have a9:=Cg dZ;rw[F] at a9;have S:=pF w;obtain⟨ao,cap,rfl,c7,a2,a5⟩:=R;have d2:=cq a2;have b1:=cq a5;clear a2 a5;go_enter func205,ntmps205;by_cases h0:n=0
 . (obtain rfl:none=T:=by rw[<-Q];unfold iu;rw[cL (.inl (F.trans h0))]);subst h0;clear Q;go_wp2_with (refine(kG dZ _).mono ?_;rintro e Y ⟨rfl,rfl⟩;rw[F]);go_ret2;exact aG
 have g0:((n:Int)==0)=false:=by rw[lx];omega
 cases rb with
 |false=>
  obtain rfl:none=T:=by rw[<-Q];unfold iu;rw[cL (.inr G)]
  clear Q;go_wp2_with (first|(refine(kG dZ _).mono ?_;rintro e Y ⟨rfl,rfl⟩;rw[F])|refine je S (X.o _ S.b) λW S=>?_);go_ret2;exact aG
 |true=>
  obtain⟨x,a⟩:=c8 (decide (0<l.length/\(Ht l<4∨dZ<OK l)));have J:T=if x=true then none else(oa (oy [] l)).bind λlog=>if n<2+log.length then none else some (pE 2 (oy [] l).length++pU log++replicate (n-(2+log.length)) 0):=by rw[<-Q];unfold iu;rw[F,cM (by rw[G];simp;exact h0)];subst a;by_cases h9:0<l.length/\(Ht l<4∨dZ<OK l);rw[cL h9,cL (fQ h9)];grind
  have d:=cq J;clear Q J;rcases tZ l.length with hl0|hl0;have b9:x=false:=by rw[<-a];exact iC λh=>by omega
  subst b9;clear a;have g1:¬(0:Int)<(l.length:Int):=cw;clear hl0;go_upto_region 8 with(first|(refine(kG dZ _).mono ?_;rintro e Y ⟨rfl,rfl⟩;rw[F])|refine je S (X.o _ S.b) λW S=>?_);rotate_left;obtain⟨b,o,rfl,a3,c1⟩:=b1.o (z7.1 hl0);have L:=cq c1;have g1:(0:Int)<(l.length:Int):=cw;obtain⟨k,hk⟩:∃k,l.length=k+1:=⟨l.length-1,cw⟩;have C:k<l.length:=cw;obtain⟨p,hp⟩:=c8 (l[k]);obtain⟨q,hq⟩:=c8 (l[0]);have a6:Ht l=q.1:=by unfold Ht;rw[headD_eq_head?_getD,head?_eq_getElem?,iz hl0,hq];rfl
  have a7:OK l=p.1+p.2:=by unfold OK;rw[getLastD_eq_getLast?,getLast?_eq_getElem?,show l.length-1=k by omega,iz C,hp];rfl
  have c4:=(fm _ _).1 (Fj G C);rw[hp] at c4;have N:Hid (∀W,dz w W->W.cell? ⟨b,o,none⟩=some (.int .i64 q.1)):=cq λW c=>(c.cell (p:=⟨b,o,none⟩) a3).trans (by have:=(L.o 0 hl0).1;rw[hq] at this;simpa using this);have O:Hid (∀W,dz w W->∀i v,(ct 2 (LD p))[i]?=some v->W.cell? ⟨b,o+k*2+i,none⟩=some v):=cq λW c i v U=>by rw[cU] at U;split at U;(next I=>refine(c.cell (p:=⟨b,o+k*2+i,none⟩) a3).trans ?_;rcases i with _|_|i;rw[<-ve U];have:=(L.o k C).1;rw[hp] at this;exact this;rw[<-ve U];have:=(L.o k C).2;rw[hp] at this;exact this;omega);cases U
  obtain⟨A,V⟩:=xm (ct 2 (LD p));have g2:((l.length:Int)-1)=(k:Int):=cw;have g3:(k:Int)<(l.length:Int):=cw;rw[a6,a7] at a;clear hp hq a6 a7 C hk;by_cases h4:q.1<4
  . (have B:x=true:=by rw[<-a];exact fQ ⟨hl0,.inl h4⟩);(subst B;obtain rfl:T=none:=by rw[d.o];rfl);have g5:decide (q.1<4)=true:=fQ h4;clear a hl0;go_wp2_with (first|refine jo 34 3 33 (N.o _ S.b) ?_|(refine(kG dZ _).mono ?_;rintro e Y ⟨rfl,rfl⟩;rw[F])|refine je S (X.o _ S.b) λW S=>?_|refine QC (tL V) (by rw[V.o];exact O.o _ S.b) ae XO ?_|refine ey λW S=>?_);go_ret2;exact aG
  by_cases h5:dZ<p.1+p.2
  . (have B:x=true:=by rw[<-a];exact fQ ⟨hl0,.inr h5⟩);(subst B;obtain rfl:T=none:=by rw[d.o];rfl);have g5:decide (q.1<4)=false:=iC h4;clear a hl0;go_wp2_with (first|(first|refine jo 34 3 33 (N.o _ S.b) ?_|refine jm 38 3 37 S 0 0 (.int .i64 p.1) ?_|refine jm 40 3 39 S 0 1 (.int .i64 p.2) ?_)|(refine(kG dZ _).mono ?_;rintro e Y ⟨rfl,rfl⟩;rw[F])|refine je S (X.o _ S.b) λW S=>?_|refine QC (tL V) (by rw[V.o];exact O.o _ S.b) ae XO ?_|refine ey λW S=>?_);go_ret2;exact aG
  have B:x=false:=by rw[<-a];exact iC λh=>h.2.elim h4 h5
  subst B;have g5:decide (q.1<4)=false:=iC h4;clear a hl0;go_upto_region 8 with(first|(first|refine jo 34 3 33 (N.o _ S.b) ?_|refine jm 38 3 37 S 0 0 (.int .i64 p.1) ?_|refine jm 40 3 39 S 0 1 (.int .i64 p.2) ?_)|(refine(kG dZ _).mono ?_;rintro e Y ⟨rfl,rfl⟩;rw[F])|refine je S (X.o _ S.b) λW S=>?_|refine QC (tL V) (by rw[V.o];exact O.o _ S.b) ae XO ?_|refine ey λW S=>?_);replace S:=S.pop
  all_goals
   have C2:=cq λW(c:dz w W)=>Pn _ l W (HR.o.cx c);obtain⟨ms,a8⟩:=c8 (oy [] l);rw[a8] at C2 d;obtain⟨lg,t⟩:=c8 (oa ms);rw[t] at d;have K:=cq λu W hu=>YG u ms W hu;rw[t] at K;clear a8;rcases lg with _|log
   . have z:N5 (none:Option (List Int))=81:=rfl;rw[z] at K;obtain rfl:T=none:=by rw[d.o];rfl
     clear t z
     go_wp2_with first|(refine ag (C2.o _ S.b) λr W1⟨D,c⟩=>?_;have H:=cq D;have m:=(S.cx c).kn (Cm r) D.blk;clear S c D;have S:=m;clear m;obtain⟨f,j,rfl⟩:∃f j,r=.slice f ms.length j:=(by obtain⟨f,j,e,_⟩:=H.o;exact⟨f,j,e⟩))|(refine(K.o _ _ (H.o.kn S.x.2)).mono ?_;rintro e W2 ⟨r2,rfl,-,-,c⟩;replace S:=S.cx c;clear c)
     go_ret2;exact aG
   have z:N5 (some log)=0:=rfl;rw[z] at K;simp only[ku] at K;have a4:=Cn t;obtain⟨c3,c2⟩:=LC t;have b4:=cq (acE a4);have M:=cq (show(pU log).length=log.length from lV ..);have c9:log.length<=20480:=cw;clear t z a4 c3;by_cases h7:n<2+log.length
   . obtain rfl:T=none:=by rw[d.o];simp[h7]
     have g7:(n:Int)<2+(log.length:Int):=cw;clear h7
     go_wp2_with first|(refine ag (C2.o _ S.b) λr W1⟨D,c⟩=>?_;have H:=cq D;have m:=(S.cx c).kn (Cm r) D.blk;clear S c D;have S:=m;clear m;obtain⟨f,j,rfl⟩:∃f j,r=.slice f ms.length j:=(by obtain⟨f,j,e,_⟩:=H.o;exact⟨f,j,e⟩))|(refine(K.o _ _ (H.o.kn S.x.2)).mono ?_;rintro e W2 ⟨r2,rfl,I,-,c⟩;have HI:=cq I;have m:=(S.cx c).kn (Cm r2) I.blk;clear S c I;have S:=m;clear m;obtain⟨c5,c6,rfl⟩:∃f j,r2=.slice f log.length j:=(by obtain⟨f,j,e,_⟩:=HI.o;exact⟨f,j,e⟩))
     go_ret2;exact aG
   have a1:T=some (pE 2 ms.length++pU log++replicate (n-(2+log.length)) 0):=by rw[d.o];simp[h7]
   have g7:¬(n:Int)<2+(log.length:Int):=cw;have C4:=cq λv u W U hu=>Fp v u [2] [ms.length] jR W U hu;rw[ai5 c2] at C4;have Z:fp 21 (some (pE 2 ms.length))=0:=rfl;rw[Z] at C4;simp only[ku] at C4;have b6:=cq (show∀y∈dh [2],(Lit.int .i64 y).wf=true by decide);have b7:=cq (show∀y∈dh [ms.length],(Lit.int .u64 y).wf=true from λy hy=>by obtain rfl:=eV.1 hy;exact wf_u64 cw);have d3:IntKind.u64.wrap ((ms.length:Nat):Int)=((ms.length:Nat):Int):=by unfold IntKind.wrap;simp[IntKind.bits,IntKind.signed];omega
   have b5:=cq a1;have E:=cq (show 2+log.length<=n by omega);have b8:(2:Nat)<=n:=cw;have b2:=cq (show∀g,kx (s_ g 0) n 2 1=s_ g 2 from λg=>by unfold kx;rw[cM (by have:=Gd dZ;omega)];rfl);clear a1 h7 Z
   go_wp2_with first|(refine ag (C2.o _ S.b) λr W1⟨D,c⟩=>?_;have H:=cq D;have m:=(S.cx c).kn (Cm r) D.blk;clear S c D;have S:=m;clear m;obtain⟨f,j,rfl⟩:∃f j,r=.slice f ms.length j:=(by obtain⟨f,j,e,_⟩:=H.o;exact⟨f,j,e⟩))|(refine(K.o _ _ (H.o.kn S.x.2)).mono ?_;rintro e W2 ⟨r2,rfl,I,-,c⟩;have HI:=cq I;have m:=(S.cx c).kn (Cm r2) I.blk;clear S c I;have S:=m;clear m;obtain⟨c5,c6,rfl⟩:∃f j,r2=.slice f log.length j:=(by obtain⟨f,j,e,_⟩:=HI.o;exact⟨f,j,e⟩))|refine lK S .i64 (dh [2]) oW td cw cw rfl rfl rfl λW S=>?_|refine lK S .u64 (dh [ms.length]) uk yV cw cw rfl rfl rfl λW S=>?_|(refine ag (C4.o _ _ _ (dR.row S.k1 ae (show(1:Nat)<=_ by omega) b6.o) (dR.row S.k0 ae (show(1:Nat)<=_ by omega) b7.o)) λr W⟨ho,c⟩=>?_;have b3:=cq (cS ho);replace S:=S.gm c ho ae ae;clear c;obtain⟨ca,cc,rfl⟩:=b3.o)|refine agN S nK ab7 rfl rfl cw λW S=>?_|refine acB S 0 rfl (s:=[]) rfl (cK.tr S.q0 (xt 2 ms.length)) (by rw[fo];omega) (by rw[fo];omega) nK Ba rfl rfl λW S=>?_|(refine xU tz ae ae b8 ?_;rw[b2.o])|refine acB S 0 rfl (s:=[]++pE 2 ms.length) (fo 2 ms.length) (by rw[b4.o];exact HI.o.kn S.x.2) (by rw[M.o];have:=E.o;omega) (by rw[M.o];have:=E.o;omega) nK Ba rfl rfl λW S=>?_
   go_ret2;rw[b5.o];exact⟨_,ae,acF S.k0 (S.lo _ (lW ..)) (by have:=E.o;omega) a9 M.o E.o,S.b⟩
end
theorem Dy(w:cB)(t u ty e:dC)(i:TypeInfo)(z:cI)(l:P.underlying t=some (.slice e))(m:P.underlying u=some (.int .i64))(j:P.info? e=some i)(p:i.zero=some z)(n:Nat)(q:0<n)(h:(n:Int)<=9223372036854775807)(g:n*i.bytes<=281474976710656)(r:0<i.size):
 (Builtin.append_ #[t,u] ty #[.slice none 0 0,.int .i64 n]).run P w=
  .ok (.slice (some ⟨w.heap.size,0,none⟩) n (grownCap w n 0 e)) (w.drew.alloc (.cells (Builtin.zeroCells z.cells n++Builtin.zeroCells z.cells (grownCap w n 0 e-n)) e)):=by
 have k:n≠0:=cw;have c:¬(9223372036854775807<(n:Int)):=cw;have b:¬(281474976710656<Builtin.nextslicecap n 0*i.bytes):=by grind[nextslicecap_zero]
 have o:IntKind.i64.wrap ((n:Nat):Int)=(n:Int):=j0 _ cw;have d:¬((n:Int)<0):=cw;have a:¬((281474976710656:Int)<(n:Int)*(i.bytes:Int)):=cw;have f:i.size≠0:=cw;simp[Builtin.append_,xC l,xC m,sizeOf,typeInfo,zeroValue,j,p,asInt,asIntOf,o,d,a,k,f,c,b,Question.forced,run_firstCells_none,newRow,grownCap];grind[Nat.mul_ne_zero]
section
theorem agO(S:St w0 d l L O X w){t u:dC}(C:a.eval (.tmp x)=.slice none 0 0)(D:a.eval (.tmp y)=.int .i64 n)(A:vT P t e z by')(B:P.underlying u=some (.int .i64))(o:0<n)(M:n*by'<=281474976710656)(N:n<=1000000)(q:fT e=false)(r:kO e=false)(h:∀g c W,n<=c->St w0 d l L (⟨e,z,.slice (some ⟨g,0,none⟩) 0 c,0,[]⟩::O) X W->wpList P ops Q rest (a.put (some dst) (.slice (some ⟨g,0,none⟩) n c)) W):
 wpList P ops Q (⟨some dst,.call {callee:=.builtin .append,args:=#[.tmp x,.tmp y],argTypes:=#[t,u]},t2,p,af,none⟩::rest) a w:=by obtain⟨k,J,v,E,F⟩:=A;obtain⟨I,j,m,G,H⟩:=nB v;have b:=Dy (P:=P) w t u t2 e I J k B j m n o cw iG cw;have i:=grownCap_ge w n 0 e;have f:=grownCap_le_maxLen w n 0 e bE;refine lF ae λK s=>?_;unfold Oper.wp;simp only[execOp,resolve,invoke,builtin,kj,qq,mS,map_toArray,xd,map_nil,C,D,b];refine s _ _ (h w.heap.size _ _ i ?_);refine S.drew.gm ((fO _ _).alloc (dK _) _) ?_ q r;exact World.ownsRow_made (w:=w.drew) _ _ (dK _) f (by rw[Array.size_append,size_zeroCells,size_zeroCells,E,<-Nat.add_mul];grind)
end
section
attribute[local irreducible]wpList Code.wp Calls Oper.wp wpAnyH
def Ty(n:Nat)(a:n<=1000000)(w:cB):CP_ 206 #[.slice none 0 0,.int .i64 n] w λe w'=>∃v,e=.returned v/\w'.ownsRow w.heap.size 106 3 v 0 []/\dz w w':=by
 have S:=pF w;have d:¬((n:Int)<0):=cw;rcases tZ n with h0|h0
 . have b:(n:Int)=0:=cw;subst h0;go_enter func206,ntmps206;go_wp2;go_ret;exact aG
 . have f:(0:Int)<(n:Int):=cw;go_enter func206,ntmps206;go_wp2_with (refine agO S ae ae fU uh h0 cw a ae ae λg c W hc S=>?_);go_ret;exact bj
theorem Ge(l:cD)(h:l[k]?=some x):(l.take (k+1)).sum=(l.take k).sum+x:=by grind[take_add_one]
theorem EY(l:cD)(k:Nat):(l.take k).sum<=l.sum:=by grind[take_append_drop]
def LF(d:List (cI×List cy))(v:cI)(F:d.length<=1000)(G:(d.map λx=>x.2.length).sum<=100000)(w:cB)(R:cK w 107 1 v d.length (d.map Prod.fst))(F:∀x∈d,ko w x.1 x.2):
 CP_ 153 #[v] w λe w'=>∃r,e=.returned r/\gg w' w.heap.size r (d.flatMap Prod.snd)/\dz w w':=by
 obtain⟨ao,cap,rfl,T,j⟩:=du R;have Q:=cq R;have E:=cq F;have j:=cq j;obtain⟨ns,y⟩:=q8 ((d.map λx=>x.2.length));rw[y.o] at G;have S:=pF w;have n:∀k,k<d.length->∃a l c,d[k]?=some (.slice a l.length c,l)/\ns[k]?=some l.length:=λk H=>by obtain⟨x,K⟩:∃x,d[k]?=some x:=⟨_,iz H⟩;obtain⟨u,l⟩:=x;have Z:=F _ (kt K);obtain⟨a,c,e,_⟩:=du Z;simp only at e;exact⟨a,l,c,by rw[K,e],by rw[<-y.o,ql,K];rfl⟩
 have m:=cq n;clear R F n;go_enter func153,ntmps153;go_upto_region 3 with(fail);go_loopw [3,11] (λs i wr=>∃k:Nat,k<=d.length/\i=.int .i64 k/\s=.int .i64 (((ns.take k).sum:Nat):Int)/\Hid (St w none [] [] [] (λ_ _=>True) wr)) (λ_ i _=>d.length-(intOf i).toNat);exact⟨0,cw,ae,by simp,cq S⟩;clear S;obtain⟨k,H,rfl,rfl,hS⟩:=hrel;by_cases q:k<d.length
 . obtain⟨b,o,rfl⟩:=j.o cw;obtain⟨a,l,c,t,z⟩:=m.o k q;have h:=Ge ns z;have f:=EY ns (k+1);have S:=hS.o;have A:=cq t;have I:(k:Int)<(d.length:Int):=cw;obtain⟨L,g⟩:=c8 ((ns.take k).sum);rw[g] at h|-;have p:=cq h;have B:L+l.length<=100000:=cw;clear hS t z h f g;go_wp2_with (refine iB ((Q.o.cx S.b).cellAt cw (by rw[ql,A.o];rfl)) ae nk ?_);go_roundw;exact⟨k+1,cw,by go_num,by rw[p.o];go_num,cq S⟩;exact oV
 . obtain rfl:k=d.length:=cw;have f:=EY ns d.length;obtain⟨L,g⟩:=c8 ((ns.take d.length).sum);rw[g] at f|-;have S:=hS.o;clear hS g;have U:=cq λW=>Ty L cw W;go_upto_region 12 with(refine ag (U.o _) λr W⟨ho,B⟩=>?_;have C:=cq (cS ho);replace S:=S.gm B ho ae ae;clear B;obtain⟨X,Y,rfl⟩:=C.o);go_loopw [6,27] (λu i wr=>∃(k:Nat)(M:List cy)(a:Option Addr)(c:Nat),k<=d.length/\i=.int .i64 k/\u=.slice a M.length c/\Hid (M=(d.take k).flatMap Prod.snd/\M.length=(ns.take k).sum/\St w none [] [] [⟨106,3,.slice a M.length c,M.length,gY M⟩] (λ_ _=>True) wr)) (λ_ i _=>d.length-(intOf i).toNat);exact⟨0,[],X,Y,cw,ae,ae,cq ⟨ae,ae,S⟩⟩;clear S;obtain⟨k,M,F,F,H,rfl,rfl,hS⟩:=hrel;by_cases q:k<d.length
   . obtain⟨b,o,rfl⟩:=j.o cw;obtain⟨a,l,c,t,z⟩:=m.o k q;have h:=Ge ns z;have f:=EY ns (k+1);have S:=hS.o.2.2;have D:=cq hS.o.1;have J:=hS.o.2.1;have A:=cq t;have I:(k:Int)<(d.length:Int):=cw;have p:=cq (show M.length+l.length=(ns.take (k+1)).sum by omega);have B:M.length+l.length<=100000:=cw;have V:=cq (E.o _ (kt t));clear hS t z h f J;go_wp2_with (first|refine iB ((Q.o.cx S.b).cellAt cw (by rw[ql,A.o];rfl)) ae nk ?_|(refine EP S 0 ae (by':=24) ae ae (V.o.cx S.b) fU (nG _) Br wR ?_;clear S;intro v' W S));have C:Hid (∃N O,v'=.slice N (M.length+l.length) O):=cq (cS S.o0);go_roundw;obtain⟨N,O,rfl⟩:=C.o;refine⟨k+1,M++l,N,O,cw,by go_num,by rw[ik],cq ⟨by rw[D.o,take_add_one,A.o,Kh,flatMap_append];simp,by rw[ik,p.o],?_⟩⟩;rw[ik,im];exact S;exact oV
   . obtain rfl:k=d.length:=cw;have G:=hS.o.1;rw[oT] at G;have D:=cq G;have S:=hS.o.2.2;clear hS G;go_wp2;go_ret;exact⟨_,ae,by rw[<-D.o];exact S.o0,S.b⟩
end
def Gf(p:cy)(n:Nat):Nat->cI:=λi=>if i<3 then c7 p i else .int .i64 (n:Int)
def acG(p:cy)(n:Nat):∀i,(Gf p n i).oneCell'=true:=λi=>by unfold Gf;split;exact df _ _;rfl
instance ine610d(p:cy)(n:Nat):OF (Gf p n):=⟨acG p n⟩
theorem acH(q:cy)(m:Nat):∀i,i<3->Gf q m (0+i)=c7 q i:=by simp_all[Gf]
def ae0:(#[.int .i64 0,.int .u64 0,.int .u32 0,.int .i64 0]:fJ)=ct 4 (Gf (0,0,0) 0):=rfl
instance in6bd30 :ZR 361 4 (Gf (0,0,0) 0):=⟨_,zeroValue361,ae0⟩
def acI:jF prog 361 4:=⟨⟨_,underlying361,ae⟩,cX⟩
instance in952b2 :rB 361 4:=⟨acI⟩
def Tz(p:cy)(n:Nat):prog.built 361 [(0,.agg (ct 3 (c7 p))),(1,.int .i64 (n:Int))]=some (ct 4 (Gf p n)):=cX
def ae1:(prog.info? 361).map (λi=>(i.zero,i.size,i.bytes))=some (some (.agg #[.int .i64 0,.int .u64 0,.int .u32 0,.int .i64 0]),4,32):=cX
def ae2:vT prog 362 361 4 32:=⟨underlying362,_,ae1,ae,cw⟩
section
theorem aid(S:St w0 d l L O X w){t:dC}{B:fJ}{g:Nat->cI}(H:a.eval (.tmp x)=.agg A)(I:a.eval (.tmp y)=.agg B)(m:A=ct n f)(o:B=ct n g)(F:vT P t e n by')(R:n<=1000)(ho:fT e=false)(h:∀W,St w0 d l (⟨w.heap.size,e,2*n,λi=>if i<n then f i else g (i-n)⟩::L) O X W->wpList P ops Q rest (a.put (some dst) (.slice (some ⟨w.heap.size,0,none⟩) 2 2)) W):
 wpList P ops Q (⟨some dst,.buildSlice t 2 #[(0,.tmp x),(1,.tmp y)],t2,p,af,none⟩::rest) a w:=by
 obtain⟨G,k,E,T,z⟩:=F;obtain⟨M,b,j,c,J⟩:=nB E;refine lF ae λK D=>wp_buildSlice t e 2 _ ae (ct (2*n) λi=>if i<n then f i else g (i-n)) M k G b j cw cw ?_ (D _ _ (h _ (S.alloc e ae ho)));rw[c];have r:(Array.map (λ(p:Nat×Operand)=>(p.1,a.eval p.2)) #[(0,.tmp x),(1,.tmp y)]).toList=[(0,.agg A),(1,.agg B)]:=by simp[H,I]
 rw[show(Array.map (λx=>match x with|(i,x)=>(i,a.eval x)) #[(0,Operand.tmp x),(1,Operand.tmp y)]).toList=[(0,Value.agg A),(1,Value.agg B)] from r];have C:=Great.fill_whole z [Value.agg A,Value.agg B] ((Array.range (2*n)).map (k.cells[· % k.cells.size]!)) (by
  intro v q;simp only[ib,iS,sM] at q;rcases q with rfl|rfl
  . show A.size=n;rw[m,cF]
  . show B.size=n;rw[o,cF]) dU
 refine Eq.trans C (fK some ?_);apply xb;intro i;have s:(Value.agg A).cells=A:=rfl;have u:(Value.agg B).cells=B:=rfl;simp only[zY,flatMap_nil,vd,s,u,Kc];rw[Kg,cU,mq,m,o,cF,mj,mj,cU,cU];by_cases N:i<n;grind;grind
end
theorem ai6(h:m<4294967296):uj [4] [m]=some (pE 4 m):=by unfold uj;rw[cL ⟨by decide,ae,by grind[fitAll]⟩];simp[j8]
def oN(a:Option cD)(p:cy×Nat):Option cD:=a.bind λt=>if fY p.1=true then some (t++gK p.1++pE 4 p.2) else none
def zh(r1:cy)(n1:Nat)(r2:cy)(n2:Nat):Option cD:=oN (oN (some []) (r1,n1)) (r2,n2)
def XP(r1:cy)(n1:Nat)(r2:cy)(n2:Nat)(k:Nat):cy×Nat:=if k=0 then(r1,n1) else(r2,n2)
def uY(r1:cy)(n1:Nat)(r2:cy)(n2:Nat)(k:Nat):Option cD:=(range k).foldl (λa i=>oN a (XP r1 n1 r2 n2 i)) (some [])
def QD(a:k<2)(h:uY r1 n1 r2 n2 (k+1)=none):uY r1 n1 r2 n2 2=none:=by
 rcases k with _|_|k;show oN (uY r1 n1 r2 n2 (0+1)) _=none;rw[h];rfl
 exact h;omega
section
attribute[local irreducible]wpList Code.wp Calls Oper.wp wpAnyH
theorem TA(r1:cy)(h1:cY r1)(n1:Nat)(H:n1<4294967296)(r2:cy)(h2:cY r2)(n2:Nat)(I:n2<4294967296)(w:cB):
 CP_ 258 #[lT r1,.int .i64 n1,lT r2,.int .i64 n2] w λe w'=>∃r,e=.returned (.tuple #[r,.int .i64 (fp 51 (zh r1 n1 r2 n2))])/\lS w' w.heap.size r ((zh r1 n1 r2 n2).getD [])/\dz w w':=by
 obtain⟨A,Z⟩:=eW (ct 3 (c7 r1));obtain⟨B,hB⟩:=eW (ct 3 (c7 r2));rw[cP Z,cP hB];have HA:=cq Z;have HB:=cq hB;have J:zh r1 n1 r2 n2=uY r1 n1 r2 n2 2:=rfl;rw[J];obtain⟨t,b⟩:=c8 (XP r1 n1 r2 n2);have V:=cq (show∀k,uY r1 n1 r2 n2 (k+1)=oN (uY r1 n1 r2 n2 k) (t k) from λk=>by rw[<-b];unfold uY;rw[range_succ,Ab];rfl);have T:=cq (show∀k,k<2->cY (t k).1/\(t k).2<4294967296 from λk hk=>by rw[<-b];unfold XP;split;exact⟨h1,H⟩;exact⟨h2,I⟩);obtain⟨fl,C⟩:=q8 ((λi=>if i<4 then Gf r1 n1 i else Gf r2 n2 (i-4)));have Q:=cq (show∀k i,k<2->i<4->fl (k*4+i)=Gf (t k).1 (t k).2 i from λk i hk hi=>by
  rw[<-b,<-C.o];unfold XP;rcases k with _|_|k
  . simp only[xi,ou,cL hi,nI]
  . grind
  . omega)
 have S:=(pF w).Hi 5 1 ae ae;clear Z hB b J h1 h2 H I;go_enter func258,ntmps258;go_upto_region 3 with(first|refine kC ae (by rw[HA.o];exact Tz r1 n1) ?_|refine kC ae (by rw[HB.o];exact Tz r2 n2) ?_|refine aid S rfl rfl rfl rfl ae2 cw rfl λW S=>?_|refine eR ?_|refine ey λW S=>?_);rw[C.o] at S;obtain⟨g0,a3⟩:=c8 W.heap.size;go_loopw [10,24] (λv i wr=>∃(k:Nat)(M:cD)(a:Option Addr)(c:Nat),k<=2/\i=.int .i64 k/\v=.slice a M.length c/\Hid (uY r1 n1 r2 n2 k=some M/\M.length=20*k/\St w none [] [⟨_,361,8,fl⟩,⟨_,106,3,c7 r2⟩,⟨_,106,3,c7 r1⟩] [⟨5,1,.slice a M.length c,M.length,dH M⟩] (λ_ _=>True) wr)) (λ_ i _=>2-(intOf i).toNat);exact⟨0,[],none,0,cw,ae,ae,cq ⟨ae,ae,S⟩⟩;clear S;obtain⟨k,M,ma,mc,hk,rfl,rfl,hS⟩:=hrel;by_cases f:k<2
 . (have S:=hS.o.2.2;have R:=cq hS.o.1;have G:=hS.o.2.1;have h:=V.o k;rw[R.o] at h;obtain⟨q,m,g⟩:∃q m,t k=(q,m):=⟨_,_,ae⟩;rw[g] at h;have n:=λi hi=>Q.o k i f hi;simp only[g] at n;have b:=T.o k f;rw[g] at b;obtain⟨hq,hm⟩:=b;simp only at hq hm;have HF:=cq n;have HT:=cq h;obtain⟨A0,l⟩:=eW (ct 3 (c7 q));obtain⟨A4,z⟩:=xm (ct 4 (Gf q m));have x:=cq l;have p:=cq (wC q hq);rw[cP l] at p;have h4:k*4+4<=8:=cw;have a4:(k:Int)<2:=cw;have L:=cq f;have D:=cq G;have a2:IntKind.u64.wrap ((m:Nat):Int)=((m:Nat):Int):=by unfold IntKind.wrap;simp[IntKind.bits,IntKind.signed];omega);clear hS h n g l f hk G;have HG:=cq (acH q m);cases s:fY q with|false=>rw[s] at p;have U:=cq s;clear s;go_wp2_with (first|refine Oq S 0 ae (o:=k*4) (m:=4) ae (Gf q m) h4 HF.o z.o acI ?_|refine oM_ S 0 ae (o:=0) (m:=3) (c7 q) HG.o x.o ?_|(refine(p.o _).mono ?_;rintro e W ⟨r,rfl,-,F⟩;replace S:=S.cx F)|refine ey λW S=>?_);have e2:uY r1 n1 r2 n2 2=none:=QD L.o (by rw[HT.o];simp[oN,U.o]);rw[e2];go_ret2;exact aG|true=>(rw[s] at p;simp only[nI] at p;have U:=cq s;clear s;have K:=cq λv u W hv hu=>Fp v u [4] [m] jR W hv hu;rw[ai6 hm] at K;have E:fp 21 (some (pE 4 m))=0:=rfl;rw[E] at K;simp only[ku] at K;have X:=cq (show∀y∈dh [4],(Lit.int .i64 y).wf=true by decide);have Y:=cq (show∀y∈dh [m],(Lit.int .u64 y).wf=true from λy hy=>by obtain rfl:=eV.1 hy;exact wf_u64 cw);have a1:M.length<=40:=by have:=D.o;have:=L.o;omega);have d:=cq (ff q);have j:=cq (fo 4 m);clear E;go_wp2_with (first|refine jl 40 3 39 S 1 3 (.int .i64 m) ?_|refine Oq S 0 ae (o:=k*4) (m:=4) ae (Gf q m) h4 HF.o z.o acI ?_|refine oM_ S 0 ae (o:=0) (m:=3) (c7 q) HG.o x.o ?_|(refine ag (p.o _) λr W⟨ho,F⟩=>?_;have N:=cq (cS ho);replace S:=S.gm F ho ae ae;obtain⟨ca,cc,rfl⟩:=N.o)|refine lK S .i64 (dh [4]) oW td cw cw rfl rfl rfl λW S=>?_|refine lK S .u64 (dh [m]) uk yV cw cw rfl rfl rfl λW S=>?_|(refine ag (K.o _ _ _ (dR.row S.k1 ae (show(1:Nat)<=_ by omega) X.o) (dR.row S.k0 ae (show(1:Nat)<=_ by omega) Y.o)) λr W⟨ho,F⟩=>?_;have O:=cq (cS ho);replace S:=S.gm F ho ae ae;obtain⟨da,dc,rfl⟩:=O.o)|(refine EP S 2 ae (by':=1) ae ae S.q1 AD (zD _) (by simp only;rw[d.o];omega) (by unfold maxLen;simp only;rw[d.o];omega) ?_;clear S;intro v' W S)|(refine EP S 2 ae (by':=1) ae ae S.q0 AD (zD _) (by simp only;rw[d.o,j.o];omega) (by unfold maxLen;simp only;rw[d.o,j.o];omega) ?_;clear S;intro v' W S)|refine ey λW S=>?_);have HV:Hid (∃va vc,v'=.slice va (M.length+(gK q).length+(pE 4 m).length) vc):=cq (cS S.o2);have HS:=cq S.pop.pop.pop.M6.M6;go_roundw;(obtain⟨va,vc,rfl⟩:=HV.o;have e6:uY r1 n1 r2 n2 (k+1)=some (M++gK q++pE 4 m):=by rw[HT.o];unfold oN;simp[U.o]);(refine⟨k+1,M++gK q++pE 4 m,va,vc,by have:=L.o;omega,by go_num,by rw[ik,ik],cq ⟨e6,by rw[ik,ik,D.o,d.o,j.o];omega,?_⟩⟩;have e8:dH (M++gK q++pE 4 m)=dH M++dH (gK q)++dH (pE 4 m):=by rw[ze,ze]);rw[e8,ik,ik];exact HS.o;have:=L.o;simp[intOf];omega
 . obtain rfl:k=2:=cw;have S:=hS.o.2.2;have R:=cq hS.o.1;clear hS;go_wp2;go_ret2;rw[R.o];exact bj
end
def XQ:(prog.info? 107).map (λi=>(i.zero,i.size,i.bytes))=some (some (.slice none 0 0),1,24):=cX
theorem QE(a:Pl×(List cy×List cy×Int))(b:Nat):(iM a b).2.2.1.length<=a.2.2.1.length+b:=by unfold iM;split;omega;split;grind;next h=>(rcases hl:fj a.1 a.2.1 b with⟨s',M,c⟩;rw[hl] at h;obtain rfl:c=0:=by grind);have:=DU hl;grind
def DZ:∀(ws:cD)(a:Pl×(List cy×List cy×Int)),(ws.foldl iM a).2.2.1.length<=a.2.2.1.length+ws.sum
 | [],a=>by simp
 |x::ws,a=>by
  rw[ym,sum_cons];have b:=DZ ws (iM a x);have c:=QE a x;omega
theorem XR(m:Nat):∀l:cD,(∀x∈l,x<=m)->l.sum<=l.length*m
 | [],_=>by simp
 |x::l,h=>by
  have b:=XR m l λy a=>h y (jI _ a)
  grind[mem_cons_self,succ_mul]
theorem q6(s:Pl)(cz:cy)(n:Int):(dP s cz n).2.2.1.length<=6000:=by unfold dP;split;grind;simp only;split;grind;split;grind;have a:=DZ (qG n) (s,([cz],[cz],0));have b:=XR 512 (qG n) λx c=>zM n x (by grind[qG,dropLast_sublist]);grind[x7,qG]
def mw5(a:Pl×(cD×(List cy×Int)))(q p2:cy)(n2:Nat):Pl×(cy×(List cy×Int)):=
 if a.2.2.2≠0 then(a.1,(cH,([],a.2.2.2))) else
 if(dP a.1 p2 (n2:Nat)).2.2.2≠0 then((dP a.1 p2 (n2:Nat)).1,(cH,([],(dP a.1 p2 (n2:Nat)).2.2.2)))
 else((dP a.1 p2 (n2:Nat)).1,(q,(([q]++a.2.2.1)++(dP a.1 p2 (n2:Nat)).2.2.1,0)))
def mw4(a:Pl×(cy×Int))(p1:cy)(n1:Nat)(p2:cy)(n2:Nat):Pl×(cy×(List cy×Int)):=
 if a.2.2≠0 then(a.1,(cH,([],a.2.2))) else mw5 (dP a.1 p1 (n1:Nat)) a.2.1 p2 n2
def mw3(a:Pl×(cy×Int))(p1:cy)(n1 n2 dO:Nat):Pl×(cy×(List cy×Int)):=
 if a.2.2≠0 then(a.1,(cH,([],a.2.2))) else
 match zh p1 n1 a.2.1 n2 with
 |none=>(a.1,(cH,([],51)))
 |some t=>mw4 (dY a.1 (dO:Nat) t) p1 n1 a.2.1 n2
def mw2(a:Pl×(cy×Int))(n1:Nat)(dO:cD):Pl×(cy×(List cy×Int)):=
 if a.2.2≠0 then(a.1,(cH,([],a.2.2))) else
 match iu (a.1.dv.n:Nat) (kA a.1.mp 2) with
 |none=>(a.1,(cH,([],81)))
 |some sp=>mw3 (fx a.1 sp ((dO.take (dO.length-1)).drop (jn (n1:Nat)))) a.2.1 n1 sp.length (dO.getD (dO.length-1) 0)
def gl(s:Pl)(text dO:cD):Pl×(cy×(List cy×Int)):=mw2 (fx s text (dO.take (jn (text.length:Nat)))) text.length dO
def ej.pK{P D M:Nat}(h:ej w P D M s):s.dv.n<=1024:=by obtain⟨_,c,b,pv,a⟩:=h.dev;exact a.pK
theorem Gg{t:Int}{l:List (Int×Int)}(h:iu t l=some sp):∀x∈sp,x<256:=by unfold iu at h;split at h;cases h;split at h;cases h;split at h;cases h;next log hlog=>split at h;cases h;cases h;intro x a;rcases fL.1 a with a|a;rcases fL.1 a with a|a;exact xt _ _ x a;unfold pU at a;obtain⟨y,b,rfl⟩:=fM.1 a;have:=Cn hlog y b;omega;grind
theorem Ny{t:Int}{l:List (Int×Int)}(h:iu t l=some sp):sp.length<=2567:=by grind[Cg,iu,fo,pU]
theorem Gh{a:Option cD}{p:cy×Nat}(h:oN a p=some t)(c:∀u,a=some u->∀x∈u,x<256):∀x∈t,x<256:=by unfold oN at h;cases a with|none=>cases h|some u=>rw[vO] at h;split at h;cases h;intro x b;rcases fL.1 b with b|b;rcases fL.1 b with b|b;grind;grind[oE];grind[xt];cases h
theorem ZP(h:zh p1 n1 p2 n2=some t):∀x∈t,x<256:=
 Gh h λ_ a=>Gh a λu a x b=>by grind
section
theorem acJ{t:dC}{z:Nat}(h:ER P t z)(ao:Option Addr)(n c y k:Nat)(b:y<=k)(a:k<=c)(W:cB):(Instr.sliceAt t (.slice ao n c) (some (.int .i64 y)) (some (.int .i64 k)) none).run P W=.ok (.slice (kx ao c y z) (k-y) (c-y)) W:=by rw[xT h,run_slice_lh W t ao n c h.1 .i64 .i64 (y:Nat) (k:Nat) cw cw cw,h.2];rfl
theorem QF{c:Nat}{d b:Operand}(i:ER P ty z)(j:a.eval (.tmp x)=.slice ao n c)(f:a.eval d=.int .i64 y)(e:a.eval b=.int .i64 k)(l:y<=k)(g:k<=c)(h:wpList P ops Q rest (a.put (some dst) (.slice (kx ao c y z) (k-y) (c-y))) w):
 wpList P ops Q (⟨some dst,.slice ty (.tmp x) (some d) (some b) none,t2,p,af,none⟩::rest) a w:=
 mD ae ty (.tmp x) (some d) (some b) none ae _ (by grind[acJ]) h
end
theorem ZQ(h:cu w g 106 3 (c7 q)):ko w (.slice (some ⟨g,0,none⟩) 1 1) [q]:=by
 unfold ko;refine Dl h (xK [q]) (dK _) bE λj u c=>?_;have a:j<3:=by grind[xK]
 refine⟨a,?_⟩;have b:=jK [q] (i:=0) dU (A:=ct 3 (c7 q)) ae j a;simp_all[cU]
def V6(v u:cI)(l:List (Int×Int))(ms:List km)(w:cB)(hv:eD w v l)(hu:vR w u ms):
 CP_ 204 #[v,u] w λe w'=>∃r,e=.returned (.tuple #[r,.int .i64 (UR (sU l ms))])/\mT w' w.heap.size r ((sU l ms).getD [])/\eD w' r ((sU l ms).getD [])/\dz w w':=by
 obtain⟨i0,hi,f8,d5,f9⟩:=nB JW;have HV:=cq hv;clear hv;obtain⟨uo,g7,rfl,f7,d4,d3⟩:=hu;have HU:=cq d3;clear d3;have HW:=cq d4;clear d4;obtain⟨S,HS⟩:=xm (sU l ms);rw[<-HS.o];obtain⟨r,HR⟩:=q8 (fS l);go_enter func204,ntmps204;go_wp2_with fail
 refine ah (sS r _ l HR.o _ HV.o) λD a9=>?_;cases r with
 |false=>
  have J:Hid (S=none):=by unfold Hid;rw[HS.o];unfold sU;rw[HR.o];rfl
  go_wp2;refine gE (v:=.tuple #[.slice none 0 0,.int .i64 81]) (by simp[results,results204,go_sem]) ae ⟨_,by rw[J.o];rfl,by rw[J.o];exact aR,by rw[J.o];exact rW _,a9⟩
 |true=>
 obtain⟨f,T⟩:=eW (qp l);have e1:Hid (S=(pX f ms).map gG):=by unfold Hid;rw[HS.o,T];unfold sU;rw[HR.o];rfl
 have HF:=cq T;clear T;have Z:=a9.size;obtain⟨Wa,X⟩:=eW (D.alloc (.cells zeroCells248 248));have f5:cu Wa D.heap.size 248 4096 (gF λ_=>false):=by rw[X,ad5];exact bg
 have a7:dz w Wa:=by rw[X];exact a9.alloc Z _
 go_wp2_with fail;rw[<-X];clear X;refine ag (aaR _ l _ (HV.o.cx a7)) λz w2⟨hz,c3⟩=>?_;have c1:=Below.step a7 a7.size c3;have b5:=f5.cx c3;obtain⟨q,hq⟩:=eW (ox l);rw[<-hq] at hz;have b7:Hid (∀k(hk:k<q.length),0<=q[k]/\q[k]<4096):=by subst hq;exact λk hk=>aaW HR.o hk
 have HQ:Hid (∀n,n<4096->nA q n=f n):=by subst hq;exact λn hn=>(US HR.o hn).trans (by rw[HF.o])
 clear hq;obtain⟨zo,g8,rfl,g5,_,d6⟩:=hz;obtain⟨b,o,HZ⟩:∃b o,q≠ []->zo=s_ b o/\b≠D.heap.size/\∀j(h:j<q.length),w2.cell? ⟨b,o+j,none⟩=some (.int .i64 q[j]):=by by_cases I:q=[];exact⟨0,0,λh=>absurd I h⟩;obtain⟨b,o,h1,h2,R⟩:=d6 I;refine⟨b,o,λ_=>⟨h1,?_,R⟩⟩;rintro rfl;have h4:=R 0 (Nat.pos_of_ne_zero λh=>I (wj h));rw[cell_of_row w2 D.heap.size _ _ 248 _ b5,cU] at h4;split at h4<;>simp[gF] at h4
 have e3:Hid (q≠ []->zo=s_ b o/\b≠D.heap.size):=λh=>⟨(HZ h).1,(HZ h).2.1⟩;have b9:Hid (q≠ []->∀j(h:j<q.length),w2.cell? ⟨b,o+j,none⟩=some (.int .i64 q[j])):=λh=>(HZ h).2.2;clear HZ d6;go_wp2_with fail
 go_loopw [22] (λi wr=>∃(k:Nat),k<=q.length/\i=.int .i64 k/\cu wr D.heap.size 248 4096 (gF (nA (q.take k)))/\Hid (q≠ []->∀j(h:j<q.length),wr.cell? ⟨b,o+j,none⟩=some (.int .i64 q[j]))/\dz w wr)
  (λi _=>q.length-(intOf i).toNat)
 exact⟨0,fN _,ae,b5.congr (λi _=>by simp[gF,nA]),b9,c1⟩;clear b5 b9 c1;obtain⟨k,hk,rfl,C,b6,hbel⟩:=hrel;by_cases d:k<q.length
 . (have I:q≠ []:=by intro h;simp[h] at d);obtain⟨rfl,e5⟩:=e3.o I;have h1:=b6.o I k d;obtain⟨n,hn⟩:∃n:Nat,q[k]=(n:Int):=⟨q[k].toNat,by have:=b7.o k d;omega⟩;have e9:=b7.o k d;have J:=cq hn;rw[hn] at h1 e9;clear hn I;have e7:=C.cell (i:=n) cw;have h5:=C.frozen n;simp only[gF] at e7;have c5:(n:Int)<(4096:Int):=cw;have e8:(0:Int)<=(n:Int):=cw;go_wp2;go_roundw;refine⟨k+1,cw,by go_num,C.Fl n true (λj hj=>?_),λhh j hj=>(xp (G1 _ _ _ _ (by show b≠D.heap.size;exact e5))).trans (b6.o hh j hj),hbel.setCell (p:=⟨D.heap.size,n,none⟩) Z _⟩;rw[Eo d,J.o];by_cases c6:j=n;subst c6;simp;rw[cM c6,iC cw,Bool.or_false];exact oV
 . obtain rfl:k=q.length:=cw;rw[oT] at C;have d1:cu wr D.heap.size 248 4096 (gF f):=C.congr (λn hn=>by simp only[gF];rw[HQ.o n hn]);go_wp2_with fail
   go_loopw [31] (λi wr=>∃(k:Nat)(g:Nat->Bool),k<=ms.length/\i=.int .i64 k/\cu wr D.heap.size 248 4096 (gF g)/\Hid (S=(pX g (ms.drop k)).map gG)/\dz w wr)
    (λi _=>ms.length-(intOf i).toNat)
   exact⟨0,f,fN _,ae,d1,e1,hbel⟩;clear d1 hbel C d hk;obtain⟨k,g,hk,rfl,C,HG,hbel⟩:=hrel;have Q:=hbel.size;by_cases d:k<ms.length
   . obtain⟨b,o,rfl,e6,M⟩:=HU.o (by intro h;simp[h] at d);obtain⟨h1,h2,R⟩:=Kl e6 M hbel d;clear M;have hw:=HW.o _ (lU d);have HD:Hid (ms.drop k=ms[k]::ms.drop (k+1)):=ad9 d;obtain⟨⟨t,s,n⟩,hx⟩:∃x,x=ms[k]:=⟨_,ae⟩;rw[<-hx] at h1 h2 R hw HD;clear hx;simp only at h1 h2 R hw;have e2:=cq hw;clear hw;obtain⟨c,HC⟩:=q8 (jC s n);go_wp2_with fail;(obtain⟨U,F⟩:=eW (wr.alloc (.cells #[.bool t,.int .i64 s,.int .i64 n] 334));have p0:U.cell? ⟨wr.heap.size,0,none⟩=some (.bool t):=by rw[F];exact aT);(have p1:U.cell? ⟨wr.heap.size,1,none⟩=some (.int .i64 s):=by rw[F];exact aT);(have p2:U.cell? ⟨wr.heap.size,2,none⟩=some (.int .i64 n):=by rw[F];exact aT);(have f6:U.heap.size=wr.heap.size+1:=by rw[F];simp);(have a8:dz w U:=by rw[F];exact hbel.alloc Q _);have d2:cu U D.heap.size 248 4096 (gF g):=by rw[F];exact C.alloc_old _
     have c7:=C.lt;rw[<-F];clear F hbel C h1 h2 R;obtain⟨E,hE⟩:=eW wr.heap.size;rw[<-hE] at p0 p1 p2 f6 c7 Q|-;clear hE;refine(Es t s n e2.o _).mono ?_;rw[HC.o];rintro e w4 ⟨rfl,H⟩;have a6:=Below.step a8 a8.size H;have c9:=d2.cx H;have q0:=(H.cell (p:=⟨E,0,none⟩) (by show E<U.heap.size;omega)).trans p0;have q1:=(H.cell (p:=⟨E,1,none⟩) (by show E<U.heap.size;omega)).trans p1;have q2:=(H.cell (p:=⟨E,2,none⟩) (by show E<U.heap.size;omega)).trans p2;have i1:=H.size;have f4:E≠D.heap.size:=cw;clear p0 p1 p2 a8 d2 H;cases c with
     |false=>(have J:Hid (S=none):=by unfold Hid;rw[HG.o,HD.o,RK HC.o];rfl);go_wp2;refine gE (v:=.tuple #[.slice none 0 0,.int .i64 81]) (by simp[results,results204,go_sem]) ae ⟨_,by rw[J.o];rfl,by rw[J.o];exact aR,by rw[J.o];exact rW _,a6⟩
     |true=>
      obtain⟨g1,g2,g3,g4⟩:=(fm s n).1 HC.o;obtain⟨a,rfl⟩:∃a:Nat,s=(a:Int):=⟨s.toNat,cw⟩;obtain⟨m,rfl⟩:∃a:Nat,n=(a:Int):=⟨n.toNat,cw⟩;have d8:Hid (∀j,j<=m->ph g a t j=true->S=none):=by
       intro j hj b2;rw[HG.o,HD.o,MQ]
       . rfl
       . exact Pp b2 (by simpa using hj)
      have d9:Hid (ph g a t m=false->S=(pX (xr g a t m) (ms.drop (k+1))).map gG):=by
       intro b2;rw[HG.o,HD.o,Fo HC.o (by simpa using b2)];simp
      have i2:IntKind.i64.wrap ((a:Int)+(m:Int))=(a:Int)+(m:Int):=j0 _ cw
      go_wp2_with fail
      go_loopw [41] (λi K=>∃(p j:Nat),p=a+j/\j<=m/\i=.int .i64 j/\cu K D.heap.size 248 4096 (gF (xr g a t j))/\Hid (ph g a t j=false)/\(K.cell? ⟨E,0,none⟩=some (.bool t)/\K.cell? ⟨E,1,none⟩=some (.int .i64 a)/\K.cell? ⟨E,2,none⟩=some (.int .i64 m))/\E<K.heap.size/\dz w K)
       (λi _=>m-(intOf i).toNat)
      case atStart=>exact⟨a,0,ae,fN _,ae,c9.congr (λi _=>by simp only[gF];rw[UP]),ae,⟨q0,q1,q2⟩,cw,a6⟩
      case round=>
       clear q0 q1 q2 c9 a6;obtain⟨p,j,O,hj,rfl,Y,HJ,⟨q0,q1,q2⟩,f3,L⟩:=hrel;by_cases h8:j<m
       . have g6:(j:Int)<(m:Int):=cw;have w6:IntKind.i64.wrap ((a:Int)+(j:Int))=(p:Int):=by rw[j0 _ cw];omega
         have c5:(p:Int)<(4096:Int):=cw;have e8:(0:Int)<=(p:Int):=cw;have b1:=Y.cell (i:=p) cw;have h6:=Y.frozen p;simp only[gF] at b1;rw[O,aaV,<-O] at b1;obtain⟨y,hy⟩:=c8 (g p);rw[hy] at b1;have HY:Hid (ph g a t (j+1)=(y==t)):=by
          unfold Hid;rw[Po,HJ.o,<-O,hy];rfl
         clear hy;have b8:=cq O;clear O;have c2:∀(W:cB)(v:cI)(o:Nat),(W.setCell ⟨D.heap.size,p,none⟩ v).cell? ⟨E,o,none⟩=W.cell? ⟨E,o,none⟩:=λW v o=>
          xp (G1 _ _ _ _ (by show E≠D.heap.size;exact f4))
         have a2:=cq c2;clear c2;cases t<;>cases y
         case false.false|true.true=>
          have J:Hid (S=none):=d8.o (j+1) cw HY.o
          go_wp2_with (go_quiet (fail))
          refine gE (v:=.tuple #[.slice none 0 0,.int .i64 81]) (by simp[results,results204,go_sem]) ae ⟨_,by rw[J.o];rfl,by rw[J.o];exact aR,by rw[J.o];exact rW _,by refine below_drewN ?_ _;exact L⟩
         all_goals
          have w5:IntKind.i64.wrap ((j:Int)+1)=(j:Int)+1:=j0 _ cw
          go_wp2_with (go_quiet (fail))
          go_roundw
          case rel=>
           refine⟨p+1,j+1,by have:=b8.o;omega,cw,by go_num,cu.Fl (w:=wr.drewN _) Y p _ (λn _=>by rw[UQ,<-b8.o]),HY.o,
            ⟨(a2.o (wr.drewN _) _ _).trans q0,(a2.o (wr.drewN _) _ _).trans q1,(a2.o (wr.drewN _) _ _).trans q2⟩,
            oS f3 (Below.size (B:=w.heap.size) ((below_drewN (fO _ wr) _).setCell (p:=⟨D.heap.size,p,none⟩) Z _)),(below_drewN L _).setCell (p:=⟨D.heap.size,p,none⟩) Z _⟩
          case measure=>exact oV
       . have f2:j=m:=cw;subst f2;have h7:¬(j:Int)<(j:Int):=cw;have a4:=d9.o HJ.o;have a4:=cq a4;go_wp2;go_roundw
         case rel=>exact⟨k+1,xr g a t j,cw,by go_num,Y,a4,L⟩
         case measure=>exact oV
   . (obtain rfl:k=ms.length:=cw;have a3:Hid (S=some (gG g)):=by unfold Hid;rw[HG.o,drop_length];rfl);have a1:=C;go_wp2_with (refine rT (o:=⟨some 61,.load 248 (.tmp 6),_,_,_,none⟩) ae 248 (.tmp 6) ae D.heap.size ae 4096 248 _ a1 _ underlying248 ae ad8 ?_);(obtain⟨A,hA⟩:=eW (ct 4096 (gF g));have HA:Hid (∀k,k<4096->A[k]?=some (.bool (g k))):=by intro k hk;rw[hA,cU,cL hk];rfl);(have g9:A.size=4096:=by rw[hA,cF]);rw[<-hA];clear hA a1;have N:=gz wr w.heap.size 3 1
     go_loopw [13,62] (λx i wr=>∃(k:Nat),k<=4096/\i=.int .i64 k/\wr.ownsRow w.heap.size 3 1 x (kX g k).length ((kX g k).map (Value.int .i64))/\dz w wr)
      (λ_ i _=>4096-(intOf i).toNat)
     exact⟨0,fN _,ae,N,hbel⟩;clear N hbel C;obtain⟨k,hk,rfl,G,hbel⟩:=hrel;have Q:=hbel.size;by_cases d:k<4096
     . have c5:(k:Int)<(4096:Int):=cw;have h9:=qN g k;have V:=HA.o k d;by_cases T:g k=true
       . (rw[T] at V;have f1:=RM A k true d V;have a5:Hid (kX g (k+1)=kX g k++[(k:Int)]):=by unfold Hid;rw[yo,cL T]);clear T;have d7:=cq G.lt;go_wp2_with (first|(at_builtin;refine xq _ ae _ _ 81 ae w.heap.size 3 i0 (.int .i64 0) 1 8 oW hi f8 d5 f9 ae jR _ _ _ ae (G.alloc _) ⟨wr.heap.size,0,none⟩ 1 1 [.int .i64 k] ae ae (cell_one_new _ _ _) a8 aI cw az ?_;intro v' w2 b4 b3 _));go_roundw;refine⟨k+1,cw,by go_num,?_,(hbel.alloc cw _).grown b3 az (λj h=>(d7.o j h).1)⟩;rw[a5.o,ik,mI];exact b4;exact oV
       . (have c4:g k=false:=by simpa using T);(rw[c4] at V;have f1:=RM A k false d V;have a5:Hid (kX g (k+1)=kX g k):=by unfold Hid;rw[yo,cM T]);clear T c4;go_wp2;go_roundw;exact⟨k+1,cw,by go_num,by rw[a5.o];exact G,hbel⟩;exact oV
     . obtain rfl:k=4096:=cw;have hx:=pJ G (NU g 4096 (dK _)) (gO (qN g 4096) cw);have HX:=cq hx;clear G hx;go_wp2_with fail;(refine(Vp _ _ _ HX.o).mono ?_;have hE:gG (nA (kX g 4096))=gG g:=rE λn hn=>by unfold nA;rw[wg,pG,uf];constructor;rintro⟨_,_,R⟩;simpa using R;intro R;exact⟨cw,cw,by simpa using R⟩);rw[hE];clear hE;rintro e w5 ⟨y,rfl,hy,e4⟩;have L:=Below.step hbel Q e4;go_wp2;refine gE (v:=.tuple #[y,.int .i64 0]) (by simp[results,results204,go_sem]) ae ⟨_,by rw[a3.o];rfl,by rw[a3.o];exact hy.mono Q,by rw[a3.o];exact mT.sl hy,L⟩
section
attribute[local irreducible]wpList Code.wp Calls Oper.wp wpAnyH
theorem Nz(P D l:Nat)(s:Pl)(h6:s.dv.ops<=990000000)(bs:cD)(g9:bs.length<=100000)(v:cI)(dO:cD)(av:cI)(E:jn (bs.length:Nat)+1<=dO.length)(g8:dO.length<=100000)(e2:∀x∈dO,x<=1000000)(w:cB)(h:ej w P D l s)(R:kZ w 5 v bs)(RA:cK w 3 1 av dO.length (pB dO)):
 CP_ 224 #[.pointer (some ⟨P,0,none⟩),v,av] w λe w'=>∃A r,e=.returned (.tuple #[.agg A,r,.int .i64 (gl s bs dO).2.2.2])/\A=ct 3 (c7 (gl s bs dO).2.1)/\cY (gl s bs dO).2.1/\gg w' w.heap.size r (gl s bs dO).2.2.1/\eU (gl s bs dO).2.2.1/\ej w' P D l (gl s bs dO).1/\Fr (some D) [] w w':=by
 obtain⟨bo,d9,rfl,a5,-⟩:=du R.1;obtain⟨aa,d,rfl,a4,e1⟩:=du RA;obtain⟨ab,ao,rfl⟩:=e1 cw;have HR:=cq R;have i1:=cq RA;have S:=St.start w (some D) [] (dw P D l s) h;obtain⟨MW,p⟩:=c8 (gl s bs dO);rw[p];unfold gl at p;obtain⟨n,d2⟩:=q8 (jn (bs.length:Nat));have C1:=cq λW=>FZ (bs.length:Nat) W;rw[d2.o] at C1 E p;obtain⟨o,h1⟩:∃o,dO.length=o+1:=⟨dO.length-1,cw⟩;have e7:dO.length-1=o:=cw;have g1:((dO.length:Nat):Int)-1=((o:Nat):Int):=cw;have V:n<=o:=cw;have h2:o<=d:=cw;have e9:n<=d:=cw;have d7:=cq (show cK w 3 1 (.slice (s_ ab ao) n d) (dO.take n).length (pB (dO.take n)) from by
  have I:=cK.take RA (i:=n) cw;rw[q7] at I;unfold pB at I|-;rw[<-map_take] at I;rw[kL,tW cw];exact I)
 obtain⟨da,d1⟩:=q8 (kx (s_ ab ao) d n 1);have d8:=cq (show cK w 3 1 (.slice da (o-n) (d-n)) ((dO.take o).drop n).length (pB ((dO.take o).drop n)) from by
  have I:=cK.take RA (i:=o) cw;have h8:=cK.Bj I (i:=n) V;rw[q7,q7,d1.o] at h8;unfold pB at h8|-;rw[<-map_take,<-map_drop] at h8;rw[r8,kL,tW cw];exact h8)
 obtain⟨O,b5⟩:=c8 (dO.getD o 0);have f2:(pB dO)[o]?=some (.int .i64 O):=by unfold pB;grind
 have i3:O<=1000000:=by rw[<-b5,tY,iz cw];exact e2 _ (lU _)
 have HQ:=cq λW(f:Fr (some D) [] w W)=>(RA.fr f (.inr rfl) rfl).cellAt cw f2;have i2:o<=100000:=cw;have h5:o<dO.length:=cw;have h4:(o:Int)<(dO.length:Int):=cw;obtain⟨Y,f3⟩:=c8 (dO.take n);obtain⟨t2,b8⟩:=c8 ((dO.take o).drop n);have a7:∀x∈Y,x<=1000000:=by grind
 have e8:∀x∈t2,x<=1000000:=by grind
 have f4:Y.length<=100000:=by grind
 have h3:t2.length<=100000:=by grind
 rw[f3] at d7 p;rw[b8] at d8;have C:MW=mw2 (fx s bs Y) bs.length dO:=p.symm;have g5:=cq (show∀a,mw2 a bs.length dO=if a.2.2≠0 then(a.1,(cH,([],a.2.2))) else
  match iu (a.1.dv.n:Nat) (kA a.1.mp 2) with
  |none=>(a.1,(cH,([],81)))
  |some sp=>mw3 (fx a.1 sp t2) a.2.1 bs.length sp.length O from λa=>by unfold mw2;rw[e7,d2.o,b8,b5])
 have C2:=cq λW h hr ha=>Gc P D l s cw bs g9 (.slice bo bs.length d9) Y (.slice (s_ ab ao) n d) f4 a7 W h hr ha;have a8:=wJ s bs Y;obtain⟨G,M⟩:=c8 ((fx s bs Y).1);obtain⟨p1,b4⟩:=c8 ((fx s bs Y).2.1);obtain⟨c1,a6⟩:=c8 ((fx s bs Y).2.2);rw[g5.o,a6,M,b4] at C;rw[a6,M,b4] at C2;rw[M] at a8;have b:=cq C;have h7:=cq a7;have g4:=cq e8;clear C p R RA h M b4 a6 e7 h1 f2 b5 f3 b8 e2 a7 e8 E g8 f4 a5 a4 e1;go_enter func224,ntmps224;go_upto_region 3 with(first|refine je S (C1.o _) λW S=>?_|refine SJ Qz rfl rfl (y:=n) e9 ?_|(refine(C2.o _ S.x (HR.o.fr S.fr (.inr rfl) rfl) (d7.o.fr S.fr (.inr rfl) rfl)).mono ?_;rintro e W ⟨A,rfl,ho,g,L,J⟩;have c6:=cq ho;have d3:=cq g;replace S:=S.call J (λD e=>e) dU (dw P D l G) (λB h=>L);clear ho g)|refine ey λW S=>?_);by_cases c:c1=0;case neg=>have g3:(c1 !=0)=true:=eO.2 c;rw[cL c] at b;have HG:=cq c;clear c;go_wp2_with first|(refine lC ?_;rw[b.o];exact⟨_,_,rfl,gQ,dA,gg.nil _ _,dy,S.x,S.fr⟩)|refine eR ?_|refine ey λW S=>?_
 subst c;rw[cM (show¬((0:Int)≠0) from λh=>h rfl)] at b;have f9:=cq S.x.pK;obtain⟨sp,a1⟩:=q8 (iu (G.dv.n:Nat) (kA G.mp 2));have C3:=cq λr W hr=>DY (G.dv.n:Nat) (by have:=f9.o;unfold ee;omega) r (kA G.mp 2) W hr;rw[a1.o] at C3 b;cases sp with
 |none=>have m:fp 81 (none:Option cD)=81:=rfl;rw[m] at C3;go_upto_region 6 with(first|(refine(mK P D l _ _ _ S.x.row).mono ?_;rintro e W ⟨rfl,rfl⟩)|(refine(yT D _ _ S.x.dev).mono ?_;rintro e W ⟨rfl,rfl⟩)|(refine(nN P D l _ _ _ S.x.row).mono ?_;rintro e W ⟨rfl,rfl⟩)|(refine(He l _ _ S.x.map).mono ?_;rintro e W ⟨r,rfl,ho,t⟩;have HO:=cq (KN ho);replace S:=S.cx t;clear ho)|(refine(C3.o _ _ HO.o).mono ?_;rintro e W ⟨r,rfl,ho,t⟩;replace S:=S.cx t;clear ho));go_wp2_with first|(refine lC ?_;rw[b.o];exact⟨_,_,rfl,gQ,dA,gg.nil _ _,dy,S.x,S.fr⟩)|refine eR ?_|refine ey λW S=>?_
 |some sp=>
  have m:fp 81 (some sp)=0:=rfl;rw[m] at C3;simp only[ku] at C3 b;have i4:=Ny a1.o;have g6:=cq (Gg a1.o);have C4:=cq λv W h hr ha=>Gc P D l G cw sp cw v t2 (.slice da (o-n) (d-n)) h3 g4.o W h hr ha;have a9:=wJ G sp t2;obtain⟨s2,b6⟩:=c8 ((fx G sp t2).1);obtain⟨p2,f1⟩:=c8 ((fx G sp t2).2.1);obtain⟨c2,e5⟩:=c8 ((fx G sp t2).2.2);unfold mw3 at b;rw[e5,b6,f1] at C4 b;rw[b6] at a9;clear m b6 f1 e5;go_upto_region 9 with(first|(refine(mK P D l _ _ _ S.x.row).mono ?_;rintro e W ⟨rfl,rfl⟩)|(refine(yT D _ _ S.x.dev).mono ?_;rintro e W ⟨rfl,rfl⟩)|(refine(nN P D l _ _ _ S.x.row).mono ?_;rintro e W ⟨rfl,rfl⟩)|(refine(He l _ _ S.x.map).mono ?_;rintro e W ⟨r,rfl,ho,t⟩;have HO:=cq (KN ho);replace S:=S.cx t;clear ho)|(refine(C3.o _ _ HO.o).mono ?_;rintro e W ⟨r,rfl,ho,t⟩;have Z:=cq (cS ho);replace S:=S.gm t ho rfl rfl;clear ho;obtain⟨ca,cc,rfl⟩:=Z.o)|(refine QF Qz rfl rfl rfl (y:=n) (k:=o) V h2 ?_;rw[d1.o])|(refine(C4.o _ _ S.x ⟨S.q0,g6.o⟩ (d8.o.fr S.fr (.inr rfl) rfl)).mono ?_;rintro e W ⟨A2,rfl,ho,g,L,J⟩;have c9:=cq ho;have d4:=cq g;replace S:=S.call J (λD e=>e) dU (dw P D l s2) (λB h=>L);clear ho g)|refine ey λW S=>?_);by_cases c:c2=0;case neg=>have g3:(c2 !=0)=true:=eO.2 c;rw[cL c] at b;have HG:=cq c;clear c;go_wp2_with first|(refine lC ?_;rw[b.o];exact⟨_,_,rfl,gQ,dA,gg.nil _ _,dy,S.x,S.fr⟩)|refine eR ?_|refine ey λW S=>?_
  subst c;rw[cM (show¬((0:Int)≠0) from λh=>h rfl)] at b;obtain⟨Q,a2⟩:=q8 (zh p1 bs.length p2 sp.length);have C5:=cq (TA p1 d3.o bs.length cw p2 d4.o sp.length cw);rw[cP c6.o,cP c9.o,a2.o] at C5;simp only[a2.o] at b;cases Q with|none=>have m:fp 51 (none:Option cD)=51:=rfl;rw[m] at C5;go_upto_region 12 with(first|(refine(C5.o _).mono ?_;rintro e W ⟨r,rfl,ho,t⟩;replace S:=S.cx t;clear ho)|refine eR ?_);go_wp2_with (first|(refine lC ?_;rw[b.o];exact⟨_,_,rfl,gQ,dA,gg.nil _ _,dy,S.x,S.fr⟩)|refine eR ?_|refine ey λW S=>?_)|some Q=>have m:fp 51 (some Q)=0:=rfl;rw[m] at C5;simp only[ku] at C5 b;have b9:=ZP a2.o;have g7:=cq b9;have X:gU s2.cA:=S.x.ok.1;have b3:=sw s2 (O:Nat) Q;have z:=zf X (O:Nat) Q b9;have C6:=cq λv W h hv=>y8 P D l s2 cw (O:Nat) (by unfold ee;omega) 5 v Q W h hv;obtain⟨s3,b7⟩:=c8 ((dY s2 (O:Nat) Q).1);obtain⟨q,F⟩:=c8 ((dY s2 (O:Nat) Q).2.1);obtain⟨c3,e6⟩:=c8 ((dY s2 (O:Nat) Q).2.2);obtain⟨A3,a3⟩:=eW (ct 3 (c7 q));unfold mw4 at b;rw[e6,b7,F] at C6 b;rw[cP a3] at C6;rw[b7] at b3;rw[F] at z;have z:=cq z;have H:=cq a3;clear m b7 F e6 a3 b9 X;go_upto_region 15 with(first|(first|refine jo 87 3 86 (HQ.o _ S.fr) ?_)|(refine(C5.o _).mono ?_;rintro e W ⟨r,rfl,ho,t⟩;have Z:=cq (cS ho);replace S:=S.gm t ho rfl rfl;clear ho;obtain⟨ga,gc,rfl⟩:=Z.o)|(refine(C6.o _ _ S.x ⟨S.q0,g7.o⟩).mono ?_;rintro e WK ⟨rfl,L,J⟩;replace S:=S.call J (λD e=>e) dU (dw P D l s3) (λB h=>L))|refine eR ?_|refine ey λW S=>?_);by_cases c:c3=0;(case neg=>have g3:(c3 !=0)=true:=eO.2 c;rw[cL c] at b;have HG:=cq c;clear c;go_wp2_with first|(refine lC ?_;rw[b.o];exact⟨_,_,rfl,gQ,dA,gg.nil _ _,dy,S.x,S.fr⟩)|refine eR ?_|refine ey λW S=>?_);subst c;rw[cM (show¬((0:Int)≠0) from λh=>h rfl)] at b;have C7:=cq λW h=>wI P D l s3 p1 d3.o (bs.length:Nat) W h;have T:=q6 s3 p1 (bs.length:Nat);obtain⟨b1,e3⟩:=c8 (dP s3 p1 (bs.length:Nat));rw[e3] at C7 b T;obtain⟨s4,y1,l1,c4⟩:=b1;simp only at C7 T;rw[cP c6.o] at C7;unfold mw5 at b;simp only at b;clear e3;go_upto_region 18 with(first|(refine(C7.o _ S.x).mono ?_;rintro e W ⟨r,r2,rfl,-,F,g,L,J⟩;have f5:=cq (cS F);have d5:=cq g;replace S:=S.sf J (λD e=>e) dU (dw P D l s4) (λB h=>L) F rfl rfl;clear F g;obtain⟨ha,hc,rfl⟩:=f5.o)|refine eR ?_);by_cases c:c4=0;(case neg=>have g3:(c4 !=0)=true:=eO.2 c;rw[cL c] at b;have HG:=cq c;clear c;go_wp2_with first|(refine lC ?_;rw[b.o];exact⟨_,_,rfl,gQ,dA,gg.nil _ _,dy,S.x,S.fr⟩)|refine eR ?_|refine ey λW S=>?_);subst c;rw[cM (show¬((0:Int)≠0) from λh=>h rfl)] at b;have C8:=cq λW h=>wI P D l s4 p2 d4.o (sp.length:Nat) W h;have U:=q6 s4 p2 (sp.length:Nat);obtain⟨b2,e4⟩:=c8 (dP s4 p2 (sp.length:Nat));rw[e4] at C8 b U;obtain⟨s5,y2,l2,c5⟩:=b2;simp only at C8 b U;rw[cP c9.o] at C8;clear e4;go_upto_region 21 with(first|(refine(C8.o _ S.x).mono ?_;rintro e W ⟨r,r2,rfl,-,F,g,L,J⟩;have f6:=cq (cS F);have d6:=cq g;replace S:=S.sf J (λD e=>e) dU (dw P D l s5) (λB h=>L) F rfl rfl;clear F g;obtain⟨ia,ic,rfl⟩:=f6.o)|refine eR ?_);by_cases c:c5=0;(case neg=>have g3:(c5 !=0)=true:=eO.2 c;rw[cL c] at b;have HG:=cq c;clear c;go_wp2_with first|(refine lC ?_;rw[b.o];exact⟨_,_,rfl,gQ,dA,gg.nil _ _,dy,S.x,S.fr⟩)|refine eR ?_|refine ey λW S=>?_);subst c;rw[cM (show¬((0:Int)≠0) from λh=>h rfl)] at b;go_upto_region 23 with(fail);refine dN S cX [⟨WK.heap.size,106,3,c7 q⟩] iG λW S=>?_;refine fW 0 (.agg A3) rfl (pZ (λw h=>h.row 0 rfl) rfl H.o eN) ?_;refine fW 1 (.agg A3) rfl (pZ (λw h=>h.row 0 rfl) rfl H.o eN) ?_;refine cJ 3 _ ?_;refine cJ 4 _ ?_;refine jQ 2 λK hK=>?_;refine agy S rfl H.o fU cw rfl λWG S=>?_;refine fC hK ?_;refine jQ 5 λK hK=>?_;refine XI S [_,_,_] underlying299 XQ cw cw rfl rfl (by intro v hv;simp only[ib,iS,sM] at hv;rcases hv with rfl|rfl|rfl<;>rfl) rfl λWH S=>?_;refine fC hK ?_;refine jQ 6 λK hK=>?_;go_wp2_with fail;refine(LF [(.slice (s_ W.heap.size 0) 1 1,[q]),(.slice ha l1.length hc,l1),(.slice ia l2.length ic,l2)] _ (show(3:Nat)<=1000 by omega) (show 1+(l1.length+(l2.length+0))<=100000 by omega) _ (Dl S.k0 rfl (dK 3) (show(3:Nat)<=maxLen by unfold maxLen;omega) λj u hu=>⟨(mQ.1 hu).1,by grind⟩) (by intro x hx;simp only[ib,iS,sM] at hx;rcases hx with rfl|rfl|rfl;exact ZQ S.k1;exact S.q1;exact cK.iW S.o0)).mono ?_;rintro e WI ⟨r,rfl,ho,t⟩;have f7:=cq (cS ho);replace S:=S.gm t ho rfl rfl;clear ho;obtain⟨ja,jc,rfl⟩:=f7.o;refine fC hK ?_;refine jQ 7 λK hK=>?_;refine ju S 5 rfl rfl rfl H.o eN (df _) λW S=>?_;refine fC hK ?_;refine cJ 8 _ ?_;refine cJ 9 _ ?_;refine pz ?_;have f8:=cq (show∀v:cI,([(v,[q]),(Value.slice ha l1.length hc,l1),(Value.slice ia l2.length ic,l2)].flatMap Prod.snd)=([q]++l1)++l2 from λv=>by simp);go_wp2_with (refine lC ?_;rw[b.o];exact⟨_,_,rfl,rfl,z.o,by have I:=S.o0;rw[f8.o] at I|-;exact I,λy N=>(by rcases fL.1 N with N|N;rcases fL.1 N with N|N;rw[eV.1 N];exact z.o;exact d5.o y N;exact d6.o y N),S.x,S.fr⟩)
def dI(s:Pl)(l:List cy):Pl:=l.foldl (λs q=>(oG s q).1) s
theorem ZT(s:Pl)(q:cy):(oG s q).1.dv=s.dv:=by grind[oG]
theorem oO(l:List cy):∀s,(dI s l).dv=s.dv:=by induction l<;>grind[ZT,dI]
theorem Jc{l:List cy}(a:l[k]?=some q):dI s (l.take (k+1))=(oG (dI s (l.take k)) q).1:=by grind[dI,take_add_one]
def gi(s:Pl)(b:dS)(iV:List cy):Pl×(cy×(List cy×Int)):=
 match gW b with
 |none=>(s,(cH,([],151)))
 |some text=>
  if eF (dI s iV).mp<mz text.length (dI s iV).dv.n then(dI s iV,(cH,([],71)))
  else gl {dI s iV with mp:=BO (dI s iV).mp (mz text.length (dI s iV).dv.n:Nat)} text (xF (dI s iV).mp (mz text.length (dI s iV).dv.n:Nat))
theorem ZU(h:n<=eF st):Sj (Bc st (n:Nat))=0/\(xF st (n:Nat)).length=n/\∀x∈xF st (n:Nat),x<1024:=by
 have e:Bc st (n:Nat)=some (il st n):=by simp_all[Bc]
 unfold xF Sj;rw[e];exact⟨ae,(yv st h).2,abD st n⟩
def vA{b:dS}(h:gW b=some t):∀x∈t,x<256:=by unfold gW at h;split at h;cases h;next u hu=>split at h;cases h;cases h;exact DS hu
def QG(P D g:Nat)(s:Pl)(Q:s.dv.ops<=990000000)(b:dD)(B:fJ)(hB:B=ct 2 (dk b))(y:eQ b.t)(iV:List cy)(C:eU iV)(b2:iV.length<=100000)(v:cI)(w:cB)(h:ej w P D g s)(RB:gV w b)(R:ko w v iV):
 CP_ 169 #[.pointer (some ⟨P,0,none⟩),.agg B,v] w λe w'=>∃A r,e=.returned (.tuple #[.agg A,r,.int .i64 (gi s b.t iV).2.2.2])/\A=ct 3 (c7 (gi s b.t iV).2.1)/\cY (gi s b.t iV).2.1/\gg w' w.heap.size r (gi s b.t iV).2.2.1/\eU (gi s b.t iV).2.2.1/\ej w' P D g (gi s b.t iV).1/\Fr (some D) [g] w w':=by
 obtain⟨ao,cap,rfl,a9,J⟩:=du R;have HR:=cq R;have J:=cq J;have HB:=cq hB;have S:=St.start w (some D) [g] (dw P D g s) h;have M:=cq λW(f:Fr (some D) [g] w W)=>I6 b B hB y W (RB.fr f);obtain⟨MS,a⟩:=c8 (gi s b.t iV);rw[a];have HO:=cq C;unfold gi at a;obtain⟨rb,G⟩:=q8 (gW b.t);rw[G.o] at M a;clear hB y C h RB R;go_enter func169,ntmps169;cases rb with
 |none=>have u:fp 151 (none:Option cD)=151:=rfl;rw[u] at M;have a3:=cq a.symm;clear a;go_wp2_with first|(refine ag (M.o _ S.fr) λr W⟨ho,N⟩=>?_;replace S:=S.cx N)|(refine lC ?_;rw[a3.o];exact aY)|refine eR ?_|refine ey λW S=>?_
 |some text=>
  have u:fp 151 (some text)=0:=rfl;rw[u] at M;simp only[ku] at M a;have b3:=F2 G.o;obtain⟨l,H⟩:=q8 (dI s iV);have a7:=cq (show l.dv=s.dv by rw[<-H.o];exact oO iV s);rw[H.o] at a;obtain⟨F,m⟩:=q8 (mz text.length l.dv.n);rw[m.o] at a;have j:=cq a.symm;clear u a;go_upto_region 5 with(first|(refine ag (M.o _ S.fr) λr W⟨ho,N⟩=>?_;have a1:=cq (cS ho);replace S:=S.gm N ho ae ae;obtain⟨ca,cc,rfl⟩:=a1.o)|refine eR ?_|refine ey λW S=>?_);go_loopw [26] (λi wr=>∃k:Nat,k<=iV.length/\i=.int .i64 k/\Hid (St w (some D) [g] [⟨_,106,3,c7 cH⟩,⟨_,99,2,dk b⟩] [⟨5,1,.slice ca text.length cc,text.length,dH text⟩] (Bq P D g (dI s (iV.take k))) wr)) (λi _=>iV.length-(intOf i).toNat);exact⟨0,cw,ae,cq S⟩;clear S;obtain⟨k,Y,rfl,hS⟩:=hrel;by_cases o:k<iV.length
  . (obtain⟨b9,o9,rfl⟩:=J.o cw;obtain⟨q,hq⟩:=c8 (iV[k]);obtain⟨A,I⟩:=eW (ct 3 (c7 q));have V:=cq (jK iV o (A:=A) (by rw[hq];exact I));have L:iV[k]?=some q:=by rw[iz o,hq]);have C2:=cq λW h=>F6 P D g (dI s (iV.take k)) q (HO.o q (kt L)) W h;rw[cP I,<-Jc L] at C2;have HA:=cq I;have S:=hS.o;clear hS I hq L;have HK:=cq o;go_wp2_with (first|refine Bf (HR.o.fr S.fr au ae) o (tL HA) V.o ?_|(refine ah (C2.o _ S.x) λW⟨p,y⟩=>?_;replace S:=S.call y (λD e=>by cases e) (λk Y=>.inl Y) (dw P D g _) (λB h=>p);clear p y)|refine eR ?_|refine ey λW S=>?_);go_roundw;have:=HK.o;exact⟨k+1,cw,by go_num,cq S.pop⟩;have:=HK.o;simp[intOf];omega
  . obtain rfl:k=iV.length:=cw;have S:=hS.o;rw[oT,H.o] at S;clear hS;have C3:=cq λW=>Td ca text.length cc (l.dv.n:Nat) W;rw[m.o] at C3;have C6:=cq λW h=>count_map g l.mp W h;have c:=ZU (st:=l.mp) (n:=F);obtain⟨cn,O⟩:=c8 (eF l.mp);rw[O] at C6 j c;clear O;by_cases d:cn<F;have a8:(cn:Int)<(F:Int):=cw;rw[cL d] at j;clear d c;rotate_left;(have a8:¬(cn:Int)<(F:Int):=cw;rw[cM d] at j;obtain⟨e0,u,e2⟩:=c cw;have b1:F<=20000:=by rw[<-m.o];unfold mz;have h1:=F1 (text.length:Nat);have h2:=F1 (fc (l.dv.n:Nat):Nat);omega);(have Z:=cq λW h=>abE g l.mp (F:Nat) aS W h;rw[e0] at Z;obtain⟨X,t⟩:∃X:Pl,{l with mp:=BO l.mp (F:Nat)}=X:=⟨_,ae⟩;have E:X.dv=l.dv:=by rw[<-t]);(have a6:=cq t;obtain⟨ml,K⟩:=c8 (xF l.mp (F:Nat));rw[K] at Z u e2;rw[t,K] at j;have z:jn (text.length:Nat)+1<=ml.length:=by rw[u,<-m.o];unfold mz;omega);have C5:=cq λv av W h hr ha=>Nz P D g X (by rw[E,a7.o];exact Q) text cw v ml av z cw (λx hx=>by have:=e2 x hx;omega) W h hr ha;rw[<-j.o] at C5;have a2:=cq (vA G.o);clear c d e0 u e2 t E K z
    all_goals
     go_wp2_with first|(refine(mK P D g _ _ _ S.x.row).mono ?_;rintro e W ⟨rfl,rfl⟩)|(refine(yT D _ _ S.x.dev).mono ?_;rintro e W ⟨rfl,rfl⟩)|refine je S (C3.o _) λW S=>?_|(refine(nN P D g _ _ _ S.x.row).mono ?_;rintro e W ⟨rfl,rfl⟩)|(go_at_call 61;refine lB (C6.o _ S.x.map) ?_)|(go_at_call 223;refine ag (Z.o _ S.x.map) λv W⟨ho,hm,N⟩=>?_;have p:=S.x.afZ N hm;replace S:=S.sf p.2 (λD e=>by cases e) (λk Y=>.inl Y) (dw P D g X) (λB h=>by rw[<-a6.o];exact p.1) ho ae ae;clear hm p)|(go_at_call 224;refine(C5.o _ _ _ S.x ⟨S.q1,a2.o⟩ S.q0).mono ?_;rintro e W ⟨A,r,rfl,I,U,ho,T,p,y⟩;have HA:=cq I;have a5:=cq U;have a4:=cq T;replace S:=S.sf y ar dU (dw P D g _) (λB h=>p) ho ae ae;clear I U T p y)|refine eR ?_|refine ey λW S=>?_|(refine lC ?_;rw[j.o];exact aY)|(refine lC ?_;exact⟨_,_,ae,ae,a5.o,S.o0,a4.o,S.x,S.fr⟩)
theorem aie(h:bs.length=2):qQ [2] bs=some [iH bs]:=by unfold qQ;simp_all[nZ,nz,okW,ru]
theorem agR(h:bs.length=2)(c:∀x∈bs,x<256):iH bs<65536:=by
 obtain⟨a,b,rfl⟩:∃a b,bs=[a,b]:=by
  match bs,h with
  | [a,b],_=>grind
 have d:=c a dU;have e:=c b dU;grind[iH]
def eD.nil(w:cB):eD w (.slice none 0 0) []:=⟨none,0,ae,by simp,by simp,by simp⟩
def oj(dZ:Int)(b:cD):Option (List (Int×Int)):=
 if fc dZ=0∨b.length≠fc dZ then none else
 if(fc dZ-2)/5<iH (b.take 2) then none else
 (zx (dh ((b.take (2+5*iH (b.take 2))).drop 2))).bind λms=>(sU [] ms).bind λset=>(iu dZ set).bind λt=>if t=b then some set else none
def LG(dZ:Int)(J:ee dZ)(v:cI)(b:cD)(V:∀x∈b,x<256)(w:cB)(R:cK w 5 1 v b.length (dH b)):
 CP_ 152 #[.int .i64 dZ,v] w λe w'=>∃r,e=.returned (.tuple #[r,.int .i64 (fp 81 (oj dZ b))])/\mT w' w.heap.size r ((oj dZ b).getD [])/\eD w' r ((oj dZ b).getD [])/\dz w w':=by
 obtain⟨ao,cap,rfl,F,F⟩:=du R;have HR:=cq R;have q:=cq V;obtain⟨T,c⟩:=c8 (oj dZ b);rw[c];unfold oj at c;obtain⟨n,H⟩:=c8 (fc dZ);have F:=Cg dZ;have G:=Gd dZ;rw[H] at F G c;have G:=cq H;have S:=pF w;clear R V;go_enter func152,ntmps152;by_cases F:n=0
 . (rw[cL (.inl F)] at c;subst c;have H:((n:Int)==0)=true:=by rw[yl];omega);clear F;go_wp2_with (refine(kG dZ _).mono ?_;rintro e W' ⟨rfl,rfl⟩;rw[G.o]);go_ret2;exact bK
 have H:((n:Int)==0)=false:=by rw[lx];omega
 by_cases U:b.length=n
 case neg=>
  rw[cL (.inr U)] at c;subst c;have H:(((b.length:Nat):Int)!=((n:Nat):Int))=true:=by rw[eO];omega
  clear F U;go_wp2_with (refine(kG dZ _).mono ?_;rintro e W' ⟨rfl,rfl⟩;rw[G.o]);go_ret2;exact bK
 have H:(((b.length:Nat):Int)!=((n:Nat):Int))=false:=by rw[tX];omega
 rw[cM (by intro h;rcases h with h|h;exact F h;exact h U)] at c;have H:2<=b.length:=cw;have F:=cq (show cK w 5 1 (.slice ao 2 cap) 2 (dH (b.take 2)) from by have g:=cK.take HR.o (i:=2) H;rwa [q7,sk] at g);have M:=cq λv u W V K hc=>II v u [2] (b.take 2) jR W V K hc;have I:(b.take 2).length=2:=by rw[kL];omega
 have Z:=agR I (λx hx=>q.o x (lu hx));rw[aie I] at M;have Q:fp 21 (some [iH (b.take 2)])=0:=rfl;rw[Q] at M;simp only[ku] at M;obtain⟨d,Y⟩:=c8 (iH (b.take 2));rw[Y] at M c Z;have H:=cq (show∀y∈dh [2],(Lit.int .i64 y).wf=true by decide);obtain⟨Z,X⟩:=c8 ((n-2)/5);rw[X] at c;have N:((n:Int)-2).tdiv 5=(Z:Int):=by rw[<-X,Int.tdiv_eq_ediv_of_nonneg cw];omega
 have N:Z<=513:=cw;have N:=cq U;clear Q I Y U;go_upto_region 5 with(first|(refine(kG dZ _).mono ?_;rintro e W' ⟨rfl,rfl⟩;rw[G.o])|refine lK S .i64 (dh [2]) oW td cw cw rfl rfl rfl λW S=>?_|refine SJ tz ae ae (y:=2) cw ?_|(refine ag (M.o _ _ _ (dR.row S.k0 ae (show(1:Nat)<=_ by omega) H.o) (F.o.cx S.b |>.tr (λx hx=>q.o x (lu hx))) ⟨_,_,_,ae,cw⟩) λr W⟨ho,a⟩=>?_;obtain⟨G,F,rfl⟩:=To ho;replace S:=S.gm a ho ae ae;clear ho a));replace S:St w none [] _ [⟨82,1,.slice (s_ G 0) 1 F,1,JI [d]⟩] _ _:=S;by_cases m:Z<d;rw[cL m] at c;subst c;rotate_left;rw[cM m] at c;obtain⟨o,G⟩:=c8 (2+5*d);rw[G] at c;have F:(2:Int)+5*(d:Int)=(o:Int):=cw;have A:2<=o:=cw;have F:o<=n:=cw;have F:o<=cap:=by have:=N.o;omega
 have H:IntKind.i64.wrap (5*(d:Int))=5*(d:Int):=j0 _ cw;have s:=cq (show cK w 5 1 (.slice (kx ao cap 2 1) (o-2) (cap-2)) (o-2) (dH ((b.take o).drop 2)) from by
  have g:=cK.Bj (cK.take HR.o (i:=o) (by have:=N.o;omega)) (i:=2) A
  rwa [q7,q7,sk,vz] at g)
 obtain⟨N,H⟩:=c8 ((b.take o).drop 2);have p:=cq (show∀x∈N,x<256 by rw[<-H];exact λx hx=>q.o x (lu (mR hx)));rw[H] at s c;have C:=cq λu W K hc=>acD u (dh N) W K hc;obtain⟨rs,I⟩:=c8 (zx (dh N));rw[I] at C c;have N:=cq G;have N:decide (Z<d)=false:=iC m;clear I H m G;rcases rs with _|ms;rw[Option.bind_none] at c;subst c;have H:N5 (none:Option (List km))=81:=rfl;rw[H] at C;rotate_left;rw[vO] at c;have H:N5 (some ms)=0:=rfl;rw[H] at C;simp only[ku] at C;have D:=cq λv u W V K=>V6 v u [] ms W V K;obtain⟨I,G⟩:=c8 (sU [] ms);rw[G] at D c;clear G H;rcases I with _|set;rw[Option.bind_none] at c;subst c;have t:UR (none:Option (List (Int×Int)))=81:=rfl;rw[t] at D;rotate_left;rw[vO] at c;have t:UR (some set)=0:=rfl;rw[t] at D;simp only[ku] at D;have E:=cq λv W V=>DY dZ J v set W V;obtain⟨K,J⟩:=c8 (iu dZ set);rw[J] at E c;have G:=cq J;clear J t;rcases K with _|K
 . rw[Option.bind_none] at c;subst c;have t:fp 81 (none:Option cD)=81:=rfl;rw[t] at E;go_wp2_with (first|(refine lh cX ?_;refine iB (v:=.int .u64 d) (by have g:=S.q0.cellAt (j:=0) (u:=.int .u64 d) cw ae;exact g) ae fg ?_)|refine iB (v:=.int .u64 d) (by have g:=S.q0.cellAt (j:=0) (u:=.int .u64 d) cw ae;exact g) ae fg ?_|refine QF tz ae ae ae (y:=2) (k:=o) A F ?_|(refine ag (C.o _ _ (s.o.cx S.b |>.tr p.o) ⟨_,_,_,ae,cw⟩) λr W⟨f,a⟩=>?_;have O:=cq f;replace S:=S.cx a;clear f a)|(refine ag (D.o _ _ _ (eD.nil _) O.o) λr W⟨ho,f,a⟩=>?_;have L:=cq f;replace S:=S.gm a ho ae ae;clear f a ho)|(refine ag (E.o _ _ L.o) λr W⟨ho,a⟩=>?_;replace S:=S.cx a;clear ho a));go_ret2;exact bK
 rw[vO] at c;have t:fp 81 (some K)=0:=rfl;rw[t] at E;simp only[ku] at E;have H:=cq (Gg G.o);have G:=cq λv u W I J=>Cf v u K b 5 5 K.length b.length H.o q.o W I J;obtain⟨B,l⟩:=c8 (decide (K=b));rw[l] at G;have z:T=if B=true then some set else none:=by rw[<-c,<-l];by_cases h:K=b<;>simp[h]
 clear c t l;rcases B with _|_
 . rw[cM jR] at z;subst z;go_wp2_with (first|(refine lh cX ?_;refine iB (v:=.int .u64 d) (by have g:=S.q0.cellAt (j:=0) (u:=.int .u64 d) cw ae;exact g) ae fg ?_)|refine iB (v:=.int .u64 d) (by have g:=S.q0.cellAt (j:=0) (u:=.int .u64 d) cw ae;exact g) ae fg ?_|refine QF tz ae ae ae (y:=2) (k:=o) A F ?_|(refine ag (C.o _ _ (s.o.cx S.b |>.tr p.o) ⟨_,_,_,ae,cw⟩) λr W⟨f,a⟩=>?_;have O:=cq f;replace S:=S.cx a;clear f a)|(refine ag (D.o _ _ _ (eD.nil _) O.o) λr W⟨ho,f,a⟩=>?_;have L:=cq f;replace S:=S.gm a ho ae ae;clear f a ho)|(refine ag (E.o _ _ L.o) λr W⟨ho,a⟩=>?_;replace S:=S.gm a ho ae ae;clear ho a)|refine lB (G.o _ _ _ S.q0 (HR.o.cx S.b)) ?_);go_ret2;exact bK
 rw[cL ae] at z;subst z
 all_goals
  go_wp2_with first|(refine lh cX ?_;refine iB (v:=.int .u64 d) (by have g:=S.q0.cellAt (j:=0) (u:=.int .u64 d) cw ae;exact g) ae fg ?_)|refine iB (v:=.int .u64 d) (by have g:=S.q0.cellAt (j:=0) (u:=.int .u64 d) cw ae;exact g) ae fg ?_|refine QF tz ae ae ae (y:=2) (k:=o) A F ?_|(go_at_call 203;refine ag (C.o _ _ (s.o.cx S.b |>.tr p.o) ⟨_,_,_,ae,cw⟩) λr W⟨f,a⟩=>?_;have O:=cq f;replace S:=S.cx a;clear f a)|(refine ag (D.o _ _ _ (eD.nil _) O.o) λr W⟨ho,f,a⟩=>?_;have L:=cq f;replace S:=S.gm a ho ae ae;clear f a ho)|(go_at_call 205;refine ag (E.o _ _ L.o) λr W⟨ho,a⟩=>?_;have F:=cq (L.o.cx a);replace S:=S.gm a ho ae ae;clear ho a)|(go_at_call 32;refine lB (G.o _ _ _ S.q0 (HR.o.cx S.b)) ?_)
  go_ret2
  first|exact bK|exact⟨_,rfl,S.o1,F.o,S.b⟩
attribute [local go_sem] Oper.semAt_some
def XS(Q:Exit->Act->cB->Prop):Exit->Act->cB->Prop
 | .normal,a,w=>Q .normal a w
 |_,_,_=>False
def Co(h:Q .normal a w):XS Q .normal a w:=h
def ZV:¬LetsOut (XS Q):=λ⟨_,_,h⟩=>h
def V7{F:Fence}(b:Open F){ops:List Oper}(S:St w0 d l L O X w){id:Nat}(f:P.follows .mixedOrders=true)(c:FE ops=true)(h:∀W,St w0 d l L O X W->wpAnyH P .any ops.toArray (XS Q) (SE w0 d l L O) ops.toArray.size (Array.replicate ops.toArray.size false) a W):(Code.region id ops.toArray true).wpIn F n P Q a w:=
 Code.wpIn_mono (Q:=XS Q) (λe a w h=>by cases e<;>first|exact h|exact h.elim) (yW b S f c ZV h)
def agS:kB prog 103:=⟨⟨_,underlying103,ae⟩,cX⟩
instance inbdb10 :pS 103:=⟨agS⟩
def ZX(l:List dg)(a:Nat)(b:List (Fin l.length)):Nat:=(b.filter λz=>decide ((l.get z).cG=a)).length
theorem OL(l:List dg)(a:Nat)(b:List (Fin l.length))(z:Fin l.length):ZX l a (b++[z])=if(l.get z).cG=a then ZX l a b+1 else ZX l a b:=by unfold ZX;grind
def iI(l:List cR)(s:cR):Bool:=
 if s.cW=false then true else
 match eu l s.cG with
 |none=>false
 |some i=>if(di l i).cW=true then false else decide (((l.filter λx=>decide (x.cT=s.id)).filter λx=>decide (x.cG=s.cG)).length=1)
def LH{l:List dg}{s:cR}{x:dg}(b:s.cW=true)(a:eu (dJ l) s.cG=some i)(c:l[i]?=some x):iI (dJ l) s=if x.cW=true then false else decide (ZX l s.cG (qE l s.id l.length)=1):=by unfold iI;rw[a,b];simp only[cM (show¬(true=false) by decide)];rw[kF c,Dj,filter_map,lV];rfl
def NA(l:List dg)(v:cI)(hl:l.length<=1000000)(s:dg)(a c:Nat)(w:cB)(R:fE w v l)(H:my w a c s):
 CallsIn Fence.wide 5 prog 201 #[v,.pointer (some ⟨a,c,none⟩)] w λe w'=>e=.returned (.bool (iI (dJ l) s.tocR))/\dz w w':=by
 obtain⟨ao,cap,rfl,a3,r⟩:=du R.1;have r:=cq r;have C:=cq λW(E:dz w W)=>si l _ s.cG hl W (R.cx E);have S:=pF w;obtain⟨T,L⟩:=c8 (iI (dJ l) s.tocR);rw[L];refine callsIn_of_wp_marks func201 ae gI ?_ ae;simp only[ntmps201,zm,kr,r7,reduceAdd,reduceSub,zn,zp,tU,tV,ot,sL];cases p:s.cW with
 |false=>
  obtain rfl:true=T:=by rw[<-L];unfold iI;rw[cL p]
  skip
  gi_upto_region 0 with fail
  refine jd rf cX tM ?_
  go_wp2_with refine ey λW S=>?_
  gi_upto_region 1 with fail
  refine jd rf cX tM ?_
  go_wp2_with first|refine jl 8 103 3 S 0 0 (cZ a c) ?_|refine iB (v:=.bool false) (by rw[<-p];exact bH) ae rZ ?_
  gi_wp2
  exact⟨.bool true,by simp[results,f201,go_sem],ae,S.b⟩
 |true=>
  cases j:eu (dJ l) s.cG with
  |none=>
   rw[j] at C;obtain rfl:false=T:=by rw[<-L];unfold iI;rw[j,p];rfl
   simp only[kE] at C
   gi_upto_region 0 with fail
   refine jd rf cX tM ?_
   go_wp2_with refine ey λW S=>?_
   gi_upto_region 1 with fail
   refine jd rf cX tM ?_
   go_wp2_with first|refine jl 8 103 3 S 0 0 (cZ a c) ?_|refine iB (v:=.bool true) (by rw[<-p];exact bH) ae rZ ?_
   gi_upto_region 3 with fail
   refine V7 rf S cX cX λW S=>?_;refine cJ 0 (.slice ao l.length cap) ?_;refine cJ 1 (cZ a c) ?_;refine cJ 2 (cZ a c) ?_;refine cJ 3 (cZ a (c+3)) ?_;refine fW 4 (.int .u64 s.cG) ae (fR (λw h=>by obtain⟨_,S⟩:=h;exact(H.cx S.b).c3) ae fg) ?_;refine jQ 5 λK n=>?_
   go_wp2_with fail
   refine je S (C.o _ S.b) λW S=>?_;refine fC n ?_;refine cJ 6 _ ?_;refine pz ?_;refine Co ?_
   gi_wp2
   exact⟨.bool false,by simp[results,f201,go_sem],ae,S.b⟩
  |some i=>
   obtain⟨a7,x,hx,-⟩:=jU j;have d:=LH p j hx;rw[L] at d;rw[j] at C;simp only[kE] at C;obtain⟨b,o,rfl⟩:=r.o cw;have HX:=cq (R.at hx);have a5:(i:Int)<(l.length:Int):=cw;have a6:¬(i:Int)<0:=cw
   gi_upto_region 0 with fail
   refine jd rf cX tM ?_
   go_wp2_with first|refine BX S (v:=.slice (s_ b o) l.length cap) rfl rfl rfl λWA S=>?_|refine BX S (v:=cZ a c) rfl rfl rfl λWB S=>?_
   gi_upto_region 1 with fail
   refine jd rf cX tM ?_
   go_wp2_with first|refine jl 8 103 3 S 0 0 (cZ a c) ?_|refine iB (v:=.bool true) (by rw[<-p];exact bH) ae rZ ?_
   gi_upto_region 3 with fail
   refine V7 rf S cX cX λW S=>?_;refine cJ 0 (.slice (s_ b o) l.length cap) ?_;refine cJ 1 (cZ a c) ?_;refine cJ 2 (cZ a c) ?_;refine cJ 3 (cZ a (c+3)) ?_;refine fW 4 (.int .u64 s.cG) ae (fR (λw h=>by obtain⟨_,S⟩:=h;exact(H.cx S.b).c3) ae fg) ?_;refine jQ 5 λK n=>?_
   go_wp2_with fail
   refine ah (C.o _ S.b) λWK E=>?_;replace S:=S.cx E;refine fC n ?_;refine cJ 6 _ ?_;refine pz ?_;refine Co ?_;obtain⟨px,u⟩:=c8 x.cW;rw[u] at d;cases px with
   |true=>
    obtain rfl:T=false:=d
    gi_upto_region 4 with fail
    refine jd rf cX tM ?_
    go_wp2_with first|refine jm 22 97 2 S 1 0 (.slice (s_ b o) l.length cap) ?_|(refine lh cX ?_;refine iB (v:=.bool true) (by rw[<-u];exact(HX.o.cx S.b).c2) ae rZ ?_)
    gi_wp2
    exact⟨.bool false,by simp[results,f201,go_sem],ae,S.b⟩
   |false=>
    rw[cM (show¬(false=true) by decide)] at d;have HT:=cq d;clear d
    gi_upto_region 4 with fail
    refine jd rf cX tM ?_
    go_wp2_with first|refine jm 22 97 2 S 1 0 (.slice (s_ b o) l.length cap) ?_|(refine lh cX ?_;refine iB (v:=.bool false) (by rw[<-u];exact(HX.o.cx S.b).c2) ae rZ ?_)
    gi_upto_region 6 with fail
    refine jd rf cX tM ?_
    go_wp2_with first|refine zC S zeroValue3 rfl rfl λWC S=>?_|refine tR S 0 rfl 0 (v:=.int .i64 0) pR rfl rfl rfl BU λW S=>?_
    gi_upto_region 7 with fail
    refine V7 rf S cX cX λW S=>?_;refine cJ 0 (.slice (s_ b o) l.length cap) ?_;refine cJ 1 (cZ a c) ?_;refine cJ 2 (cZ a c) ?_;refine cJ 3 (cZ a c) ?_;refine fW 4 (.int .u64 s.id) ae (fR (λw h=>by obtain⟨_,S⟩:=h;exact(H.cx S.b).c0) ae fg) ?_;refine jQ 5 λK n=>?_
    go_wp2_with fail
    refine ah (Cj (s_ b o) l.length cap s.id _) λN hW=>?_;have HB:=cq (Ck hW);have S0:=cq S;replace S:=S.cx HB.o.1;refine fC n ?_;refine pz ?_;refine Co ?_
    gi_wp2
    clear S;have S:St w none [] [⟨WK.heap.size,3,1,λ_=>.int .i64 (((0:Nat):Int))⟩,⟨WA.heap.size,103,1,λ_=>cZ a c⟩,⟨w.heap.size,97,1,λ_=>.slice (s_ b o) l.length cap⟩] [] (λ_ _=>True) W:=S0.o.wv (k:=0) ae (g:=λ_=>.int .i64 ((0:Nat):Int)) λi G=>by have G:i<1:=G;obtain rfl:i=0:=cw;rfl
    obtain⟨E,V,U,Z,d,a9⟩:=HB.o;have F:gx w b=some 109:=cK.ty R.1 ae cw;have X:∀k∈ [W.heap.size,W.heap.size+1]++(Value.slice (s_ b o) l.length cap).ownBlock.toList,(W.heap.size<=k∨k<w.heap.size)/\∃t,gx N k=some t/\kO t=false/\fT t=false:=by
     intro k f;simp only[Value.ownBlock,Kh,sL,ot,ib,iS,sM] at f;rcases f with rfl|rfl|rfl
     . exact⟨.inl (dK _),_,Z,ae,ae⟩
     . exact⟨.inl (le_succ _),_,d,ae,ae⟩
     . exact⟨.inr (gr F),_,uy (uy F S.b) E,ae,ae⟩
    replace S:=S.SU E X;have Q:=S.x.2;have b1:w.heap.size<=N.heap.size:=S.fr.size;refine wpIn_rangeFunc_ownF ae cw (gf:=232) (lb:=#[cZ W.heap.size 0,cZ (W.heap.size+1) 0]) ae gI (enters_of func232 cX ae)
     (EV 4 W.heap.size (W.heap.size+1) _ l s.id hl N (R.cx S.b) V U) me.trans (me.wA λk f=>let⟨_,h1,_⟩:=(Q k f).2;gr h1) (fO _ _) (λ_=>ae)
     (λA M=>∃y:Nat,Hid (y=ZX l s.cG A/\y<=A.length)/\St w none [] [⟨WK.heap.size,3,1,λ_=>.int .i64 ((y:Nat):Int)⟩,⟨WA.heap.size,103,1,λ_=>cZ a c⟩,⟨w.heap.size,97,1,λ_=>.slice (s_ b o) l.length cap⟩] [] (λB w=>True/\Rr ([W.heap.size,W.heap.size+1]++(Value.slice (s_ b o) l.length cap).ownBlock.toList) B w) M)
     (λ_ _ _=>False)
     (qB S.fr.size _ _ _ _ λ_ _=>kQ.t.and (kQ.av _)) (λ_ _ _ _ _ p _ _=>p)
     ⟨0,cq ⟨ae,dK _⟩,S⟩ ?a1 ?assign ?body ?done ?stop
    case assign=>
     intro lp z M K n
     gi_wp2
     exact n
    case body=>
     clear S;rintro lp A z W0 ⟨m,j,S⟩ a4;replace S:=S.fV;have J:=j.o.2;have I:=cq j.o.1;obtain⟨y,q⟩:=q8 (l.get z);have a2:l[z.val]?=some y:=by rw[iz z.isLt,<-q.o];rfl
     have HY:=cq (R.at a2);have b2:=z.isLt;have hz:(z.val:Int)<(l.length:Int):=cw;have a8:m<=1000000:=cw;rcases z6 (y.cG=s.cG) with he|he
     . have Y:(((y.cG:Nat):Int)==((s.cG:Nat):Int))=true:=by rw[yl];omega
       skip
       gi_wp2
       refine yW rf S cX cX tM λW S=>?_;refine cJ 0 (.slice (s_ b o) l.length cap) ?_;refine cJ 1 _ ?_;refine cJ 2 (cZ b (o+z.val*11)) ?_;refine cJ 3 (cZ b (o+z.val*11+3)) ?_;refine fW 4 (.int .u64 y.cG) ae (fR (λw h=>by obtain⟨_,S⟩:=h;exact(HY.o.cx S.b).c3) ae fg) ?_;refine cJ 5 (cZ a c) ?_;refine cJ 6 (cZ a c) ?_;refine cJ 7 (cZ a (c+3)) ?_;refine fW 8 (.int .u64 s.cG) ae (fR (λw h=>by obtain⟨_,S⟩:=h;exact(H.cx S.b).c3) ae fg) ?_;refine cJ 9 (.bool true) ?_;refine pz ?_
       gi_upto_region 10 with fail
       refine jd rf cX tM ?_
       go_wp2_with first|refine jl 45 3 6 S 0 0 (.int .i64 m) ?_|refine tR S 0 rfl 0 (v:=.int .i64 ((m+1:Nat):Int)) pR rfl rfl rfl BU λW S=>?_
       gi_wp2
       have f:=S.kept (vt.still (jM _));refine⟨f.1,f.2.1,m+1,cq ⟨by rw[OL,<-I.o,q.o,cL he],by rw[ik];exact succ_le_succ J⟩,?_⟩;exact(f.2.2.wv (k:=0) ae (g:=λ_=>.int .i64 ((m+1:Nat):Int)) λi G=>by have G:i<1:=G;obtain rfl:i=0:=cw;rfl).Dx (λ_ _ h=>h.2) (jM _).k8
     . have Y:(((y.cG:Nat):Int)==((s.cG:Nat):Int))=false:=by rw[lx];omega
       skip
       gi_wp2
       refine yW rf S cX cX tM λW S=>?_;refine cJ 0 (.slice (s_ b o) l.length cap) ?_;refine cJ 1 _ ?_;refine cJ 2 (cZ b (o+z.val*11)) ?_;refine cJ 3 (cZ b (o+z.val*11+3)) ?_;refine fW 4 (.int .u64 y.cG) ae (fR (λw h=>by obtain⟨_,S⟩:=h;exact(HY.o.cx S.b).c3) ae fg) ?_;refine cJ 5 (cZ a c) ?_;refine cJ 6 (cZ a c) ?_;refine cJ 7 (cZ a (c+3)) ?_;refine fW 8 (.int .u64 s.cG) ae (fR (λw h=>by obtain⟨_,S⟩:=h;exact(H.cx S.b).c3) ae fg) ?_;refine cJ 9 (.bool false) ?_;refine pz ?_
       gi_wp2
       have f:=S.kept (vt.still (jM _));refine⟨f.1,f.2.1,m,cq ⟨by rw[OL,<-I.o,q.o,cM he],by rw[ik];exact le_succ_of_le J⟩,f.2.2⟩
    case done=>
     clear S;rintro D ys W0 hD rfl ⟨m,j,S⟩ n;have O:T=decide (m=1):=by rw[HT.o,<-j.o.1]
     skip
     gi_upto_region 11 with fail
     gi_upto_region 11 with fail
     refine jd rf cX tM ?_
     go_wp2_with refine jl 47 3 6 S 0 0 (.int .i64 m) ?_
     gi_wp2
     refine Cl S (kQ.t.and (kQ.av _)) cw n λM S=>?_;have e9:(((m:Nat):Int)==1)=T:=by rw[O];by_cases h:m=1<;>simp[h];omega
     exact⟨.bool T,by rw[<-e9];simp[results,f201,go_sem],ae,S.b⟩
    case stop=>
     rintro _ _ _ _ _ _ h _;exact h.elim
def LI(l:List dg)(v:cI)(c:l.length<=1000000)(s:dg)(a b:Nat)(w:cB)(R:fE w v l)(H:my w a b s):
 rF 201 #[v,.pointer (some ⟨a,b,none⟩)] w (.bool (iI (dJ l) s.tocR)):=r9.1 (NA l v c s a b w R H)
def jG(l:List cR)(s:cR):Bool:=
 if s.cT=0 then s.cO.all λq=>decide (q.2.1<=0) else
 match eu l s.cT with
 |none=>false
 |some i=>(di l i).cW&& !(s.cW&&decide (s.cA<=(di l i).cA))&&s.cO.all λq=>decide (q.2.1<=(di l i).cA)
def LJ(l:List dg)(v:cI)(J:l.length<=1000000)(s:dg)(F:s.cO.length<=1000000)(F G:Nat)(w:cB)(R:fE w v l)(H:my w F G s)(I:xW w s):
 rF 200 #[v,.pointer (some ⟨F,G,none⟩)] w (.bool (jG (dJ l) s.tocR)):=by
 obtain⟨ao,cap,rfl,X,K⟩:=du R.1;have K:=cq K;have z:=cq λW(F:dz w W)=>si l _ s.cT J W (R.cx F);have S:=pF w;obtain⟨T,U⟩:=c8 (jG (dJ l) s.tocR);rw[U];have f:=I;unfold xW at f;obtain⟨F,F,B,F,e⟩:=du f;rw[B] at f;have e:=cq e;go_enter func200,ntmps200;by_cases D:s.cT=0
 . (have c:T=s.cO.all λq=>decide (q.2.1<=0):=by rw[<-U];unfold jG;rw[cL D]);have G:=cq c;clear c;go_upto_region 10 with(first|(refine iB ((H.cx S.b).c4) ae fg ?_;rw[D])|(refine iB ((H.cx S.b).c10) ae nk ?_;rw[B]));have S:=cq S;go_loopw [52] (λi wr=>∃k:Nat,k<=s.cO.length/\i=.int .i64 k/\Hid ((∀j(h:j<s.cO.length),j<k->(s.cO[j]).2.1<=0)/\St w none [] [] [] (λ_ _=>True) wr)) (λi _=>s.cO.length-(intOf i).toNat);exact aj5;obtain⟨k,Y,rfl,hS⟩:=hrel;by_cases a:k<s.cO.length
   . obtain⟨V,o9,e⟩:=e.o cw;obtain⟨q,g⟩:=c8 (s.cO[k]);obtain⟨A,I⟩:=eW (ct 3 (c7 q));have d:=cq (jK s.cO a (A:=A) (by rw[g];exact I));have F:=cq I;have S:=hS.o.2;have L:=cq hS.o.1;have O:(k:Int)<(s.cO.length:Int):=cw;subst e;by_cases m:q.2.1<=0
     . have u:¬(0:Int)<(q.2.1:Int):=cw;go_wp2_with (first|refine jl 57 82 56 S 0 1 (.int .u64 q.2.1) ?_|refine Bf (f.cx S.b) a (tL F) d.o ?_|refine ey λW S=>?_);go_roundw
       case rel=>exact⟨k+1,cw,by go_num,cq ⟨λj h p=>by
        rcases Bz.1 p with h1|rfl
        . exact L.o j h h1
        . rw[g];exact m,S.pop⟩⟩
       case measure=>exact oV
     . (have u:(0:Int)<(q.2.1:Int):=cw;have t:T=false:=by rw[G.o];exact Ke.2 λh=>by have:=qk.1 h q akr;exact m (by simpa using this));skip;go_wp2_with (first|refine jl 57 82 56 S 0 1 (.int .u64 q.2.1) ?_|refine Bf (f.cx S.b) a (tL F) d.o ?_|refine ey λW S=>?_);go_ret;rw[t];exact aw
   . (obtain rfl:k=s.cO.length:=cw;have S:=hS.o.2;have n:T=true:=by rw[G.o];exact qk.2 λq g=>by obtain⟨j,p,rfl⟩:=xh.1 g;simpa using hS.o.1 j p p);go_wp2;go_ret;rw[n];exact aw
 . have J:(((s.cT:Nat):Int) !=0)=true:=by rw[eO];omega
   cases Q:eu (dJ l) s.cT with
   |none=>(rw[Q] at z;simp only[kE] at z;obtain rfl:false=T:=by rw[<-U];unfold jG;rw[cM D,Q]);skip;go_wp2_with (first|(first|refine jo 12 82 11 ((H.cx S.b).c4) ?_|refine jo 18 82 17 ((H.cx S.b).c4) ?_)|refine je S (z.o _ S.b) λW S=>?_);go_ret;exact aw
   |some i=>
    obtain⟨J,x,Z,-⟩:=jU Q;have c:T=(x.cW&& !(s.cW&&decide (s.cA<=x.cA))&&s.cO.all λq=>decide (q.2.1<=x.cA)):=by
     rw[<-U];unfold jG;rw[cM D,Q];simp only;rw[kF Z]
    rw[Q] at z;simp only[kE] at z;obtain⟨b,o,rfl⟩:=K.o cw;have J:=cq (R.at Z);have K:(i:Int)<(l.length:Int):=cw;have K:¬(i:Int)<0:=cw;obtain⟨xs,y⟩:=c8 x.cW;obtain⟨ss,E⟩:=c8 s.cW;rw[y,E] at c;cases xs with
    |false=>
     obtain rfl:T=false:=by rw[c];rfl
     clear c
     go_wp2_with first|(first|refine jo 12 82 11 ((H.cx S.b).c4) ?_|refine jo 18 82 17 ((H.cx S.b).c4) ?_)|refine je S (z.o _ S.b) λW S=>?_|(refine lh cX ?_;refine iB (v:=.bool false) (by rw[<-y];exact(J.o.cx S.b).c2) ae rZ ?_)
     go_ret;exact aw
    |true=>
     obtain⟨r,C⟩:=c8 x.cA;rw[C] at c;cases ss with
     |false=>
      have G:=cq (show T=s.cO.all λq=>decide (q.2.1<=r) by rw[c];simp);clear c
      go_upto_region 10 with(first|(first|refine jo 12 82 11 ((H.cx S.b).c4) ?_|refine jo 18 82 17 ((H.cx S.b).c4) ?_)|refine je S (z.o _ S.b) λW S=>?_|(refine lh cX ?_;refine iB (v:=.bool true) (by rw[<-y];exact(J.o.cx S.b).c2) ae rZ ?_)|(refine iB ((J.o.cx S.b).c5) ae fg ?_;rw[C])|refine iB (v:=.bool false) (by rw[<-E];exact bH) ae rZ ?_|(refine iB ((H.cx S.b).c10) ae nk ?_;rw[B]))
      have S:=cq S
      go_loopw [52] (λi wr=>∃k:Nat,k<=s.cO.length/\i=.int .i64 k/\Hid ((∀j(h:j<s.cO.length),j<k->(s.cO[j]).2.1<=r)/\St w none [] [] [] (λ_ _=>True) wr)) (λi _=>s.cO.length-(intOf i).toNat)
      case atStart=>exact aj5
      case round=>
       obtain⟨k,Y,rfl,hS⟩:=hrel;by_cases a:k<s.cO.length
       . obtain⟨V,o9,e⟩:=e.o cw;obtain⟨q,g⟩:=c8 (s.cO[k]);obtain⟨A,I⟩:=eW (ct 3 (c7 q));have d:=cq (jK s.cO a (A:=A) (by rw[g];exact I));have F:=cq I;have S:=hS.o.2;have L:=cq hS.o.1;have O:(k:Int)<(s.cO.length:Int):=cw;subst e;by_cases m:q.2.1<=r
         . have u:¬(r:Int)<(q.2.1:Int):=cw
           go_wp2_with first|refine jl 57 82 56 S 0 1 (.int .u64 q.2.1) ?_|refine Bf (f.cx S.b) a (tL F) d.o ?_|refine ey λW S=>?_
           go_roundw
           case rel=>exact⟨k+1,cw,by go_num,cq ⟨λj h p=>by
            rcases Bz.1 p with h1|rfl
            . exact L.o j h h1
            . rw[g];exact m,S.pop⟩⟩
           case measure=>exact oV
         . have u:(r:Int)<(q.2.1:Int):=cw;have t:T=false:=by
            rw[G.o];exact Ke.2 λh=>by
             have:=qk.1 h q akr;exact m (by simpa using this)
           skip
           go_wp2_with first|refine jl 57 82 56 S 0 1 (.int .u64 q.2.1) ?_|refine Bf (f.cx S.b) a (tL F) d.o ?_|refine ey λW S=>?_
           go_ret;rw[t];exact aw
       . obtain rfl:k=s.cO.length:=cw;have S:=hS.o.2;have n:T=true:=by
          rw[G.o];exact qk.2 λq g=>by
           obtain⟨j,p,rfl⟩:=xh.1 g;simpa using hS.o.1 j p p
         go_wp2;go_ret;rw[n];exact aw
     |true=>
      by_cases M:s.cA<=r
      . have N:(s.cA:Int)<=(r:Int):=cw;obtain rfl:T=false:=by rw[c];simp[M]
        clear c
        go_wp2_with first|(first|refine jo 12 82 11 ((H.cx S.b).c4) ?_|refine jo 18 82 17 ((H.cx S.b).c4) ?_|refine jg 44 82 43 ((H.cx S.b).c5) ?_)|refine je S (z.o _ S.b) λW S=>?_|(refine lh cX ?_;refine iB (v:=.bool true) (by rw[<-y];exact(J.o.cx S.b).c2) ae rZ ?_)|(refine iB ((J.o.cx S.b).c5) ae fg ?_;rw[C])|refine iB (v:=.bool true) (by rw[<-E];exact bH) ae rZ ?_
        go_ret;exact aw
      . have N:¬(s.cA:Int)<=(r:Int):=cw;have G:=cq (show T=s.cO.all λq=>decide (q.2.1<=r) by rw[c];simp[M]);clear c
        go_upto_region 10 with(first|(first|refine jo 12 82 11 ((H.cx S.b).c4) ?_|refine jo 18 82 17 ((H.cx S.b).c4) ?_|refine jg 44 82 43 ((H.cx S.b).c5) ?_)|refine je S (z.o _ S.b) λW S=>?_|(refine lh cX ?_;refine iB (v:=.bool true) (by rw[<-y];exact(J.o.cx S.b).c2) ae rZ ?_)|(refine iB ((J.o.cx S.b).c5) ae fg ?_;rw[C])|refine iB (v:=.bool true) (by rw[<-E];exact bH) ae rZ ?_|(refine iB ((H.cx S.b).c10) ae nk ?_;rw[B]))
        have S:=cq S
        go_loopw [52] (λi wr=>∃k:Nat,k<=s.cO.length/\i=.int .i64 k/\Hid ((∀j(h:j<s.cO.length),j<k->(s.cO[j]).2.1<=r)/\St w none [] [] [] (λ_ _=>True) wr)) (λi _=>s.cO.length-(intOf i).toNat)
        case atStart=>exact aj5
        case round=>
         obtain⟨k,Y,rfl,hS⟩:=hrel;by_cases a:k<s.cO.length
         . obtain⟨V,o9,e⟩:=e.o cw;obtain⟨q,g⟩:=c8 (s.cO[k]);obtain⟨A,I⟩:=eW (ct 3 (c7 q));have d:=cq (jK s.cO a (A:=A) (by rw[g];exact I));have F:=cq I;have S:=hS.o.2;have L:=cq hS.o.1;have O:(k:Int)<(s.cO.length:Int):=cw;subst e;by_cases m:q.2.1<=r
           . have u:¬(r:Int)<(q.2.1:Int):=cw
             go_wp2_with first|refine jl 57 82 56 S 0 1 (.int .u64 q.2.1) ?_|refine Bf (f.cx S.b) a (tL F) d.o ?_|refine ey λW S=>?_
             go_roundw
             case rel=>exact⟨k+1,cw,by go_num,cq ⟨λj h p=>by
              rcases Bz.1 p with h1|rfl
              . exact L.o j h h1
              . rw[g];exact m,S.pop⟩⟩
             case measure=>exact oV
           . have u:(r:Int)<(q.2.1:Int):=cw;have t:T=false:=by
              rw[G.o];exact Ke.2 λh=>by
               have:=qk.1 h q akr;exact m (by simpa using this)
             skip
             go_wp2_with first|refine jl 57 82 56 S 0 1 (.int .u64 q.2.1) ?_|refine Bf (f.cx S.b) a (tL F) d.o ?_|refine ey λW S=>?_
             go_ret;rw[t];exact aw
         . obtain rfl:k=s.cO.length:=cw;have S:=hS.o.2;have n:T=true:=by
            rw[G.o];exact qk.2 λq g=>by
             obtain⟨j,p,rfl⟩:=xh.1 g;simpa using hS.o.1 j p p
           go_wp2;go_ret;rw[n];exact aw
end
section
open Go.Maps (Keyed IsMap)
def aif:laidOutB prog=true:=cX
def Gi:Keyed prog 258:=Keyed.of_law (deep_law_laid aif (m:=3) cw (lr cX) cX mB)
theorem ai7(d:Nat)(h:n<18446744073709551616):prog.keyLits (d+1) 82 [.int .u64 n]=some [.int .u64 n]:=by simp_all[Program.keyLits,wf_u64]
theorem kl9(d:Nat){s:fh}(h:s.size<=maxLen):prog.keyLits (d+1) 9 [.string s]=some [.string s.data.toList]:=by simp_all[Program.keyLits]
def ai8:prog.cellsOf 258=2:=cX
def c82:prog.cellsOf 82=1:=cX
def c9:prog.cellsOf 9=1:=cX
theorem tsz:∃d,prog.types.size=d+1:=by simp_all
def aih:prog.keyType 258=true:=cX
theorem agT(c:Nat×fh)(f:c.1<18446744073709551616)(g:c.2.size<=maxLen):∃kl,keyOf prog 258 (.agg (ct 2 (rj c)))=some kl:=by
 have e:prog.keyLits (prog.types.size+1) 258 [.int .u64 c.1,.string c.2]=some ([.int .u64 c.1]++[.string c.2.data.toList]):=by obtain⟨d,b⟩:=tsz;rw[b];unfold Program.keyLits;simp_all[ai8,c82,c9,ai7,kl9]
 have a:(Value.agg (ct 2 (rj c))).formed prog 258=true:=by rfl
 unfold keyOf;rw[underlying258];simp only[aih,a,Bool.and_self,nI];rw[B5];show∃kl,(prog.keyLits (prog.types.size+1) 258 [.int .u64 c.1,.string c.2]).map _=some kl
 simp_all
def ZY(b n:Nat)(D:DataW Unit):cD->cB->Prop:=λB w=>w.ownsMap prog 258 (plainElem prog 3) b n D/\b∉B
def Gj{D:DataW Unit}(h:w.ownsMap prog 258 (plainElem prog 3) b n D)(f:w'.heap[b]?=w.heap[b]?):w'.ownsMap prog 258 (plainElem prog 3) b n D:=by obtain⟨c,a,d,e⟩:=h;exact⟨c,a,f.trans d,e⟩
def OM(b n:Nat)(D:DataW Unit):kK none (ZY b n D) where
 cx:=λh hb=>⟨Gj h.1 (hb.block b h.1.lt),h.2⟩
 add:=λh hb=>⟨h.1,λhm=>by
  rcases ib.1 hm with e|hm
  . have:=h.1.lt;omega
  . exact h.2 hm⟩
 mono:=λh hs=>⟨h.1,λhm=>h.2 (hs _ hm)⟩
 but:=fun {B w w' c t} h hc hb _ _ _=>⟨Gj h.1 (hb.block b h.1.lt λe=>h.2 (e▸hc)),h.2⟩
 dev:=λ_ e=>by cases e
section
variable {v:Nat}
def mkMap(S:St w0 none l L O (λ_ _=>True) w)(h:∀W,St w0 none l L O (ZY w.heap.size 0 (.map [])) W->wpList prog ops Q rest (a.put (some dst) (.map (some w.heap.size))) W):
 wpList prog ops Q (⟨some dst,.makeMap ty none,t2,p,af,none⟩::rest) a w:=by refine lF ae λK c=>?_;unfold Oper.wp;simp only[execOp,kj,qq,Result.andThen,run_makeMap];refine c _ _ (h _ ?_);have d:dz w (w.alloc (.map #[] 0)):=(fO _ _).alloc (dK _) _;have b:=S.cx d;exact⟨b.fr,b.row,b.own,b.lo,b.nd,⟨World.ownsMap_made w prog 258 _,λe=>tP _ (S.lt _ e)⟩,OM _ _ _⟩
def XT{D:DataW Unit}(S:St w0 none l L O (ZY b n D) w)(e:a.eval (.tmp m)=.map (some b))(f:a.eval (.tmp x)=key)(d:keyOf prog 258 key=some kl)(h:∀c:Int,wpList prog ops Q rest (a.put (some dst) (.tuple #[.int .i64 c,.bool (Maps.has D kl)])) w):
 wpList prog ops Q (⟨some dst,.lookup 290 (.tmp m) (.tmp x) true,t2,p,af,none⟩::rest) a w:=
 wpList_lookup_own_ok_int w ae (.tmp m) (.tmp x) 290 ae 258 3 .i64 Gi underlying290 uh cX b n D e S.x.1 key kl f d λc _ _=>h c
theorem agU{D:DataW Unit}(S:St w0 none l L O (ZY b n D) w)(e:w0.heap.size<=b)(y:n<=1000000){i:Int}(j:(Lit.int .i64 i).wf=true)(o:a.eval (.tmp m)=.map (some b))(s:a.eval (.tmp x)=key)(r:a.eval (.tmp v)=.int .i64 i)(k:keyOf prog 258 key=some kl)(h:∀W,St w0 none l L O (ZY b (n+1) (D.put kl (.lit (.int .i64 i)))) W->wpList prog ops Q rest (a.put none undef) W):
 wpList prog ops Q (⟨none,.mapUpdate 290 (.tmp m) (.tmp x) (.tmp v),t2,p,af,none⟩::rest) a w:=by
 refine wpList_mapUpdate_own w ae (.tmp m) (.tmp x) (.tmp v) 290 ae 258 3 Gi underlying290 (plainElem prog 3) b n D o S.x.1 bE key _ kl s r k _ [] (plainElem_int uh j) λW ho g=>h W ?_;have f:=tg g;have q:gx w b=none:=by obtain⟨t,d,u,_⟩:=S.x.1;grind[gx]
 have c:=(S.Dx (X':=λ_ _=>True) (λ_ _ _=>gI) vt).obj f q e kQ.t;exact⟨c.fr,c.row,c.own,c.lo,c.nd,⟨ho,S.x.2⟩,OM _ _ _⟩
end
theorem acK{a:Nat×fh}(h:Value.agg (ct 2 (rj c))=.agg (ct 2 (rj a))):c=a:=by rw[B5,B5] at h;grind
noncomputable def Cp(seen:List (Nat×fh))(c:Nat×fh):Bool:=@decide (c∈seen) (Classical.propDecidable _)
theorem zP{seen:List (Nat×fh)}{c:Nat×fh}:Cp seen c=true↔c∈seen:=by simp_all[Cp]
theorem V8(seen:List (Nat×fh))(d c:Nat×fh)(h:c≠d):Cp (seen++[d]) c=Cp seen c:=by rw[wg,zP,zP];simp[h]
def LK(D:DataW Unit)(seen:List (Nat×fh)):Prop:=IsMap D/\∀c kl,keyOf prog 258 (.agg (ct 2 (rj c)))=some kl->Maps.has D kl=Cp seen c
theorem LK.nil:LK (.map []) []:=⟨Maps.isMap_empty,λc _ _=>(Ke.2 λh=>by grind[zP]).symm⟩
theorem LK.put{D:DataW Unit}(h:LK D seen)(f:keyOf prog 258 (.agg (ct 2 (rj c)))=some kl)(d:DataW Unit):LK (D.put kl d) (seen++[c]):=by refine⟨h.1.put _ _,λg b a=>?_⟩;by_cases e:b=kl;subst e;have hc:=acK (Gi.inj a f);subst hc;rw[Maps.has_put_same h.1 (Gi.key f)];grind[zP];rw[Maps.has_put_other e,h.2 g b a];grind[V8]
noncomputable def ny(next:Nat):Nat->List (Nat×fh)->List cR->Bool
 |_,_,[]=>true
 |last,seen,x::r=>eC x&&decide (last<x.id)&&decide (x.id<next)&& !Cp seen (dE x)&&ny next x.id (seen++[dE x]) r
noncomputable def mf(next:Nat)(l:List cR):Bool:=
 if 281474976710655<next∨32<l.length then false else
 ny next 0 [] l&&l.all λx=>jG l x&&iI l x
theorem NC{s:cR}(h:eC s=true):s.name.size<=maxLen:=by unfold eC at h;simp only[aiL] at h;have a:=h.1.1.1.2;unfold dV at a;simp only[aiL,pG] at a;grind[maxLen]
theorem LL{s:cR}(h:eC s=true):s.cG<=281474976710655:=by simp_all[eC]
end
theorem V9{x:cR}(a:eC x=true):∃kl,keyOf prog 258 (.agg (ct 2 (rj (dE x))))=some kl:=by have ho:=LL a;have b:=NC a;refine agT _ ?_ ?_;grind[dE];grind[dE]
theorem V'{next a:Nat}{l:List dg}{x:dg}(b:l[k]?=some x):ny next a seen ((dJ l).drop k)=(eC x.tocR&&decide (a<x.id)&&decide (x.id<next)&& !Cp seen (dE x.tocR)&&ny next x.id (seen++[dE x.tocR]) ((dJ l).drop (k+1))):=by grind[dJ,drop_eq_getElem?_toList_append,ny]
section
attribute[local irreducible]wpList Code.wp Calls Oper.wp wpAnyH
theorem QH(next:Nat)(l:List dg)(v:cI)(hd:∀x∈l,x.cO.length<=1000000)(hl:l.length<=1000000)(w:cB)(R:fE w v l):
 rF 151 #[.int .u64 next,v] w (.bool (mf next (dJ l))):=by
 obtain⟨ao,cap,rfl,b2,B⟩:=du R.1;have q:=cq R;have B:=cq B;have r:(dJ l).length=l.length:=by unfold dJ;rw[lV]
 obtain⟨T,H⟩:=c8 (mf next (dJ l));rw[H];have O:=cq hd;have S:=pF w;clear R hd;go_enter func151,ntmps151;by_cases hn:281474976710655<next
 . (obtain rfl:T=false:=by rw[<-H];unfold mf;rw[cL (.inl hn)]);have a7:(281474976710655:Int)<(next:Int):=cw;clear H r;go_wp2;go_ret;exact aw
 have a7:¬(281474976710655:Int)<(next:Int):=cw;by_cases a8:32<l.length
 . (obtain rfl:T=false:=by rw[<-H];unfold mf;rw[cL (.inr (by rw[r];exact a8))]);have a9:(32:Int)<(l.length:Int):=cw;clear H r;go_wp2;go_ret;exact aw
 have a9:¬(32:Int)<(l.length:Int):=cw;have Y:T=(ny next 0 [] (dJ l)&& (dJ l).all λx=>jG (dJ l) x&&iI (dJ l) x):=by rw[<-H];unfold mf;rw[cM (by rw[r];omega)]
 have F:=cq Y;clear Y H r hn;go_upto_region 6 with(refine mkMap S λW S=>?_);go_loopw [6,23] (λla i wr=>∃(k m:Nat)(seen:List (Nat×fh))(D:DataW Unit),k<=l.length/\i=.int .i64 k/\la=.int .u64 m/\Hid (LK D seen/\ny next 0 [] (dJ l)=ny next m seen ((dJ l).drop k)/\St w none [] [] [] (ZY w.heap.size k D) wr)) (λ_ i _=>l.length-(intOf i).toNat);exact⟨0,0,[],.map [],cw,ae,ae,cq ⟨LK.nil,ae,S⟩⟩;clear S;obtain⟨k,m,seen,D,hk,rfl,rfl,hS⟩:=hrel;by_cases e:k<l.length
 . (obtain⟨b,o,rfl⟩:=B.o cw;obtain⟨x,y⟩:∃x,l[k]?=some x:=⟨_,iz e⟩;have S:=hS.o.2.2;have Q:=cq hS.o.1;have J:=hS.o.2.1;rw[V' y] at J;have d:=cq J;have t:=cq (q.o.at y);have a6:(k:Int)<(l.length:Int):=cw;clear hS J;obtain⟨A,hA⟩:=eW (ct 11 (gq x));have a1:l[k]=x:=by grind);have h:=cq (mu l e (A:=A) (by rw[a1];exact hA));have N:=cq hA;have a:x∈l:=kt y;obtain⟨sr,n⟩:=c8 (eC x.tocR);have s:=cq λW(u:dz w W)=>FV x A hA (O.o x a) W ((q.o.cx u).2 x a);rw[n] at s;have C:=cq λW(u:dz w W)=>La b (o+k*11) x W (t.o.cx u);clear y a1 hA a;cases sr with|false=>have j:=cq (show T=false by rw[F.o,d.o,n];rfl);go_wp2_with (first|refine Bf (q.o.cx S.b).1 e (tL N) h.o ?_|refine je S (s.o _ S.b) λW S=>?_);go_ret;rw[j.o];exact aw|true=>have a2:=cq n;by_cases V:m<x.id;(case neg=>have a4:decide (x.id<=m)=true:=fQ cw;have j:=cq (show T=false by rw[F.o,d.o,iC V];simp);clear V n;go_wp2_with (first|refine jg 38 82 37 ((t.o.cx S.b).c0) ?_|refine Bf (q.o.cx S.b).1 e (tL N) h.o ?_|refine je S (s.o _ S.b) λW S=>?_);go_ret;rw[j.o];exact aw);(have a4:decide (x.id<=m)=false:=iC cw;by_cases h2:x.id<next);(case neg=>have a5:decide (next<=x.id)=true:=fQ cw;have j:=cq (show T=false by rw[F.o,d.o,iC h2];simp);clear V h2 n;go_wp2_with (first|(first|refine jg 38 82 37 ((t.o.cx S.b).c0) ?_|refine jg 46 82 45 ((t.o.cx S.b).c0) ?_)|refine Bf (q.o.cx S.b).1 e (tL N) h.o ?_|refine je S (s.o _ S.b) λW S=>?_);go_ret;rw[j.o];exact aw);have a5:decide (next<=x.id)=false:=iC cw;obtain⟨kl,f⟩:=V9 n;obtain⟨G,X⟩:=c8 (dE x.tocR);have d:=cq (show ny next 0 [] (dJ l)=(!Cp seen G&&ny next x.id (seen++[G]) ((dJ l).drop (k+1))) by rw[d.o,a2.o,fQ V,fQ h2,X];rfl);rw[X] at f C;have b1:=Q.o.2 G kl f;obtain⟨A2,z⟩:=xm (ct 2 (rj G));rw[<-z.o] at f;have p:=cq f;clear V h2 n f;obtain⟨sn,g⟩:=c8 (Cp seen G);rw[g] at b1;cases sn with|true=>have j:=cq (show T=false by rw[F.o,d.o,g];rfl);clear g;go_wp2_with (first|(first|refine jg 38 82 37 ((t.o.cx S.b).c0) ?_|refine jg 46 82 45 ((t.o.cx S.b).c0) ?_|refine jo 53 82 52 ((t.o.cx S.b).c0) ?_)|refine Bf (q.o.cx S.b).1 e (tL N) h.o ?_|refine je S (s.o _ S.b) λW S=>?_|(refine je S (C.o _ S.b) λW S=>?_;rw[<-z.o])|(refine XT S ae ae p.o ?_;intro c)|refine eR ?_|refine ey λW S=>?_);go_ret;rw[j.o];exact aw|false=>have d:=cq (show ny next 0 [] (dJ l)=ny next x.id (seen++[G]) ((dJ l).drop (k+1)) by rw[d.o,g];rfl);have a3:=cq (wf_i64 (x:=k) cw);clear g;go_wp2_with (first|(first|refine jg 38 82 37 ((t.o.cx S.b).c0) ?_|refine jg 46 82 45 ((t.o.cx S.b).c0) ?_|refine jo 53 82 52 ((t.o.cx S.b).c0) ?_)|refine Bf (q.o.cx S.b).1 e (tL N) h.o ?_|refine je S (s.o _ S.b) λW S=>?_|(refine je S (C.o _ S.b) λW S=>?_;rw[<-z.o])|(refine XT S ae ae p.o ?_;intro c)|refine agU S (dK _) cw (i:=(k:Nat)) a3.o rfl rfl rfl p.o λW S=>?_|refine eR ?_|refine ey λW S=>?_);go_roundw;exact⟨k+1,x.id,seen++[G],D.put kl (.lit (.int .i64 ((k:Nat):Int))),cw,by go_num,ae,cq ⟨Q.o.put (by rw[<-z.o];exact p.o) _,d.o,S.pop⟩⟩;exact oV
 . obtain rfl:k=l.length:=cw;have S:=hS.o.2.2.Dx (X':=λ_ _=>True) (λ_ _ _=>gI) vt;have F:=cq (show T=(dJ l).all λx=>jG (dJ l) x&&iI (dJ l) x by
    rw[F.o,hS.o.2.1];rw[drop_eq_nil_of_le (by unfold dJ;rw[lV];omega)];rfl)
   clear hS;go_upto_region 19 with(fail);go_loopw [69] (λi wr=>∃k:Nat,k<=l.length/\i=.int .i64 k/\Hid ((T=((dJ l).drop k).all λx=>jG (dJ l) x&&iI (dJ l) x)/\St w none [] [] [] (λ_ _=>True) wr)) (λi _=>l.length-(intOf i).toNat);exact⟨0,cw,ae,cq ⟨F.o,S⟩⟩;clear S;obtain⟨k,hk,rfl,hS⟩:=hrel;by_cases e:k<l.length
   . (obtain⟨b,o,rfl⟩:=B.o cw;obtain⟨x,y⟩:∃x,l[k]?=some x:=⟨_,iz e⟩;have S:=hS.o.2;have Z:(dJ l)[k]?=some x.tocR:=by unfold dJ;rw[ql,y];rfl);have K:=hS.o.1;rw[drop_eq_getElem?_toList_append,Z] at K;have E:=cq (show T=((jG (dJ l) x.tocR&&iI (dJ l) x.tocR)&& ((dJ l).drop (k+1)).all λx=>jG (dJ l) x&&iI (dJ l) x) from K);have a:x∈l:=kt y;have s:=cq λW(u:dz w W)=>LJ l _ hl x (O.o x a) b (o+k*11) W (q.o.cx u) ((q.o.cx u).at y) ((q.o.cx u).2 x a);have C:=cq λW(u:dz w W)=>LI l _ hl x b (o+k*11) W (q.o.cx u) ((q.o.cx u).at y);have a6:(k:Int)<(l.length:Int):=cw;obtain⟨er,I⟩:=c8 (jG (dJ l) x.tocR);obtain⟨M,L⟩:∃M,iI (dJ l) x.tocR=M:=⟨_,ae⟩;rw[I,L] at E;rw[I] at s;rw[L] at C;clear hS y Z K a I L;rcases er with _|_;rotate_left;rcases M with _|_;rotate_left
     . go_wp2_with (first|refine je S (s.o _ S.b) λW S=>?_|refine je S (C.o _ S.b) λW S=>?_);go_roundw;exact⟨k+1,cw,by go_num,cq ⟨E.o,S⟩⟩;exact oV
     all_goals
      go_wp2_with first|refine je S (s.o _ S.b) λW S=>?_|refine je S (C.o _ S.b) λW S=>?_
      go_ret;rw[E.o];exact aw
   . obtain rfl:k=l.length:=cw;have S:=hS.o.2;have U:=cq (show T=true by
      rw[hS.o.1];rw[drop_eq_nil_of_le (by unfold dJ;rw[lV];omega)];rfl)
     clear hS;go_wp2;go_ret;rw[U.o];exact aw
end
def ae4:qG 40=[]:=by rfl
theorem LM(c:pH s.dv)(hc:(eo s [cz] 40).2.2=0):(eo s [cz] 40).2.1.length=40:=by have a:oM s [cz]=jw (s,([],0)) cz:=rfl;have b:(fD s cz).2.1.length=128:=(BQ c cz).1;by_cases e:(fD s cz).2.2=0;(have d:oM s [cz]=((fD s cz).1,([]++(fD s cz).2.1,0)):=by rw[a];unfold jw;grind);unfold eo at hc|-;grind;(have d:oM s [cz]=((fD s cz).1,([],(fD s cz).2.2)):=by rw[a];unfold jw;grind);unfold eo at hc;grind
theorem LN(d:pH s.dv)(hc:(dP s cz 40).2.2.2=0):(dP s cz 40).2.1.length=40:=by unfold dP at hc|-;rw[ae4] at hc|-;by_cases a:jV 40=[]∨cz=cH;grind;(rw[cM a] at hc|-;show((if(eo s [cz] 40).2.2≠0 then((eo s [cz] 40).1,([],[],(eo s [cz] 40).2.2)) else((eo s [cz] 40).1,((eo s [cz] 40).2.1,[cz],0))):Pl×(cD×List cy×Int)).2.1.length=40;have b:((if(eo s [cz] 40).2.2≠0 then((eo s [cz] 40).1,([],[],(eo s [cz] 40).2.2)) else((eo s [cz] 40).1,((eo s [cz] 40).2.1,[cz],0))):Pl×(cD×List cy×Int)).2.2.2=0:=hc;by_cases c:(eo s [cz] 40).2.2=0);simp_all[LM];grind
theorem D0(c:∀y∈bs,y<256){l:List cR}(h:kJ bs=some (n,l)):l.length<=32/\∀s∈l,tt s/\s.cO.length<=4000:=by unfold kJ at h;split at h;cases h;next ts hts=>have d:=Dh hts c;split at h;cases h;next h33=>split at h;cases h;split at h;cases h;next l2 hl2=>split at h;cases h;split at h;(cases h;have key:∀(xs:List cD)(m:List cR),(∀x∈xs,∀y∈x,y<256)->lO xs=some m->m.length=xs.length/\∀s∈m,tt s/\s.cO.length<=4000:=by intro xs;induction xs with|nil=>intro m _ a;cases a<;>grind|cons x xs ih=>intro m e a;unfold lO at a;split at a;cases a;next s hs=>split at a;cases a;next r hr=>cases a;obtain⟨g,i⟩:=ih r (λy f=>e y (jI _ f)) hr;refine⟨by grind,λz b=>?_⟩;rcases ib.1 b with rfl|b;grind[FY];grind);grind;cases h
theorem Jd:∀(l:List cR){next a:Nat}{seen:List (Nat×fh)},ny next a seen l=true->∀s∈l,eC s=true
 | [],_,_,_,_,s,hs=>by cases hs
 |x::l,next,a,seen,h,s,hs=>by
  unfold ny at h;simp only[aiL] at h;rcases ib.1 hs with rfl|hs
  . grind
  . exact Jd l h.2 s hs
theorem JM{s:cR}(h:eC s=true):s.name.size<=24:=by simp_all[eC,dV]
theorem acL{bs:cD}(c:∀y∈bs,y<256){n:Nat}{l:List cR}(h:kJ bs=some (n,l))(a:mf n l=true):eQ ⟨n,l⟩:=by obtain⟨e,b⟩:=D0 c h;unfold mf at a;split at a;cases a;next hn=>simp only[aiL] at a;have f:=Jd l a.1;refine⟨?_,⟨?_,λt g=>⟨?_,?_⟩⟩,λs d=>(b s d).1⟩;grind;grind;grind;grind[JM]
def rP:dS:=⟨0,[]⟩
noncomputable def ml3(n:Nat)(a:List cy)(h g:Pl×(cD×List cy×Int)):dS×(List (Int×Int)×(List cy×Int)):=
 match kJ h.2.1 with
 |none=>(rP,([],([],91)))
 |some nl=>if mf nl.1 nl.2=false then(rP,([],([],91))) else
  match oj (n:Nat) g.2.1 with
  |none=>(rP,([],([],91)))
  |some zs=>(⟨nl.1,nl.2⟩,(zs,((a++h.2.2.1)++g.2.2.1,0)))
noncomputable def ml2(a h:Pl×(cD×List cy×Int)):Pl×(dS×(List (Int×Int)×(List cy×Int))):=
 let g:=iX h.1 (a.2.1.drop 20)
 if g.2.2.2≠0 then(g.1,(rP,([],([],Bk g.2.2.2)))) else(g.1,ml3 g.1.dv.n a.2.2.1 h g)
noncomputable def ml1(a:Pl×(cD×List cy×Int)):Pl×(dS×(List (Int×Int)×(List cy×Int))):=
 let h:=iX a.1 (a.2.1.take 20)
 if h.2.2.2≠0 then(h.1,(rP,([],([],Bk h.2.2.2)))) else ml2 a h
noncomputable def ji(s:Pl)(gJ:cy):Pl×(dS×(List (Int×Int)×(List cy×Int))):=
 if(dP s gJ 40).2.2.2≠0 then((dP s gJ 40).1,(rP,([],([],Bk (dP s gJ 40).2.2.2)))) else ml1 (dP s gJ 40)
theorem QI{p q r s:Tmp}{t:dC}{d:TypeDesc}(h:fn.results=#[.cell p ty,.tmp q,.tmp r,.tmp s])(j:tmps.getD p undef=.pointer (some ⟨g,0,none⟩))(c:cu w g t n f)(e:P.underlying ty=some d)(b:(match d with| .struct _| .array _ _=>true|_=>false)=true)(i:(P.info? ty).map (·.size)=some n):
 (results fn tmps).run P w=.ok (.tuple #[.agg (ct n f),tmps.getD q undef,tmps.getD r undef,tmps.getD s undef]) w:=by
 have a:tmps[p]?.getD undef=cZ g 0:=by simp_all
 simp[results,h,a,asAddr,G8 w g t ty (ct n f) (0,0) d c e b aD,Result.andThen]
section
theorem AV(S:St w0 d l L O X w)(k:Nat){p q b c:Tmp}(j:L[k]?=some r)(h:fn.results=#[.cell p ty,.tmp q,.tmp b,.tmp c])(m:a.tmps.getD p undef=.pointer (some ⟨r.b,0,none⟩))(n:jF P ty r.n)(i:a.defers=[])(g:R (.returned (.tuple #[.agg (ct r.n r.f),a.tmps.getD q undef,a.tmps.getD b undef,a.tmps.getD c undef])) w):bodyPost P fn R .ret a w:=by obtain⟨⟨o,e,s⟩,f⟩:=n;exact gE (QI h m (S.oh j) e iG f) i g
def St.ae6(S:St w0 d l L O X w)(h:F7 w base v bs)(e:∀b∈dM L O,b<base∨gx w b≠some 5):St w0 d l L O (λB w=>X B w/\xL 5 1 v bs.length (dH bs) B w) w:=
 S.B6 (eI 5 1 v _ _ ae ae) ⟨h.sl,λc b a f=>by
  rcases e b f with h1|h1
  . have:=h.new c b a;omega
  . exact h1 (h.sl.ty a c)⟩
def St.QJ(S:St w0 d l L O X w)(f:Fr d2 l2 w w')(g:∀D,d2=some D->d=some D)(i:∀k∈l2,k∈l∨w0.heap.size<=k)(m:kK d X')(n:∀B,X B w->X' B w'){q:cI}(h:F7 w' w.heap.size v bs)(ho:gg w' w.heap.size q ps):St w0 d l L (⟨106,3,q,ps.length,gY ps⟩::O) (λB w=>X' B w/\xL 5 1 v bs.length (dH bs) B w) w':=by refine(S.sf f g i m n ho ae ae).ae6 h λb c=>?_;rcases gy.1 c with⟨r,j,e⟩|⟨o,a,e⟩;exact .inl (S.lt b (gy.2 (.inl ⟨r,j,e⟩)));rcases ib.1 a with rfl|a;exact .inr (by rw[uQ ho e];decide);exact .inl (S.lt b (gy.2 (.inr ⟨o,a,e⟩)))
end
def abY:prog.built 99 []=some #[.int .u64 0,.slice none 0 0]:=cX
theorem ND(s:Pl)(cz:cy)(n:Int):(dP s cz n).2.1.length<=65535:=by unfold dP;split;grind;next h=>simp only;split;grind;split;grind;(have b:n.toNat<=65535:=by have a:jV n≠ []:=λe=>h (.inl e);unfold jV at a;grind);(show(eo _ _ _).2.1.length<=_;unfold eo);grind
theorem QK(s:Pl)(a:cD):(iX s a).2.1.length<=65535:=by unfold iX;split;grind;grind[ND]
theorem yK(s:Pl)(a:cD):(iX s a).2.2.1.length<=6000:=by unfold iX;split;grind;grind[q6]
def ZZ(w:cB)(base:Nat):kT w base (ct 2 (dk vy)) rP:=⟨vy,ae,ae,gz _ _ _ _,λx a=>by cases a⟩
section
attribute[local irreducible]wpList Code.wp Calls Oper.wp wpAnyH
theorem Gk(P D K:Nat)(s:Pl)(cz:cy)(hr:cY cz)(w:cB)(h:ej w P D K s):
 CP_ 87 #[.pointer (some ⟨P,0,none⟩),lT cz] w λe w'=>∃B r q,e=.returned (.tuple #[.agg B,r,q,.int .i64 (ji s cz).2.2.2.2])/\kT w' w.heap.size B (ji s cz).2.1/\mT w' w.heap.size r (ji s cz).2.2.1/\eD w' r (ji s cz).2.2.1/\gg w' w.heap.size q (ji s cz).2.2.2.1/\eU (ji s cz).2.2.2.1/\ej w' P D K (ji s cz).1/\Fr (some D) [] w w':=by
 obtain⟨A,hA⟩:=eW (ct 3 (c7 cz));have S:=St.start w (some D) [] (dw P D K s) h;have C1:=cq λW h=>wI P D K s cz hr 40 W h;have o:=LN h.dev.ok (cz:=cz);have a1:=q6 s cz 40;obtain⟨ML,C⟩:=c8 (ji s cz);rw[C,cP hA];rw[cP hA] at C1;unfold ji at C;obtain⟨a,Y⟩:=c8 (dP s cz 40);rw[Y] at C1 C o a1;obtain⟨s1,g,n,c1⟩:=a;simp only at C1 o a1;have HA:=cq hA;clear hA Y h hr;go_enter func87,ntmps87;go_upto_region 2 with(first|(refine(C1.o _ S.x).mono ?_;rintro e W ⟨r,q,rfl,F,N,t,hp,hf⟩;have I:=cq (du F.sl);have J:=cq (cS N);have b1:=cq t;have V:=cq F.lt;replace S:=S.QJ hf ar dU (dw P D K s1) (λB h=>hp) F N;clear F N t;obtain⟨Y,hc,rfl,d4,-⟩:=I.o;obtain⟨qa,qc,rfl⟩:=J.o)|refine eR ?_|refine ey λW S=>?_);by_cases E:c1=0;case neg=>have g3:(c1 !=0)=true:=eO.2 E;have l:=cq (show ML=(s1,(rP,([],([],Bk c1)))) by rw[<-C,cL E]);clear E C;go_wp2_with first|(refine(Hq _ _).mono ?_;rintro e W' ⟨rfl,rfl⟩)|(refine AV S 0 ae ae ae mP ae ?_;rw[l.o];exact⟨_,_,_,ae,ZZ _ _,gz _ _ _ _,eD.nil _,gg.nil _ _,dy,S.x.1,S.fr⟩)|refine eR ?_|refine ey λW S=>?_
 subst E;have d:ML=ml1 (s1,(g,(n,0))):=by rw[<-C,cM (λh=>h ae)]
 replace o:=o ae;unfold ml1 at d;simp only at d;have a4:(g.take 20).length=20:=by rw[kL,o];rfl
 have Z:(g.drop 20).length=20:=by rw[r8,o]
 have C2:=cq λv W h R=>Jb P D K s1 (g.take 20) a4 (λx p=>V.o x (lu p)) v W h R;have d1:=cq λW(R:cK W 5 1 (.slice Y g.length hc) g.length (dH g))=>(show cK W 5 1 (.slice Y 20 hc) 20 (dH (g.take 20)) from by have z:=cK.take R (i:=20) cw;rwa [q7,sk] at z);obtain⟨da,a8⟩:=q8 (kx Y hc 20 1);have d2:=cq λW(R:cK W 5 1 (.slice Y g.length hc) g.length (dH g))=>(show cK W 5 1 (.slice da (g.length-20) (hc-20)) 20 (dH (g.drop 20)) from by have z:=cK.Bj R (i:=20) cw;rw[q7,vz,a8.o,show g.length-20=20 by omega] at z;rw[show g.length-20=20 by omega];exact z);have d3:(20:Nat)<=g.length:=cw;have b5:(20:Nat)<=hc:=cw;have a2:=yK s1 (g.take 20);have a5:=QK s1 (g.take 20);obtain⟨a,M⟩:=c8 (iX s1 (g.take 20));rw[M] at C2 d a2 a5;obtain⟨s2,tx,O,c2⟩:=a;simp only at C2 d a2 a5;clear M C o a4;go_upto_region 5 with(first|refine SJ tz ae ae (y:=20) b5 ?_|(refine(C2.o _ _ S.x.1 (d1.o _ S.x.2.1)).mono ?_;rintro e W ⟨r,q,rfl,F,N,t,hp,hf⟩;have I:=cq (du F.sl);have J:=cq (cS N);have b2:=cq t;have X:=cq F.lt;replace S:=S.QJ hf ar dU ((dw P D K s2).still (eI 5 1 (.slice Y g.length hc) g.length (dH g) ae ae)) (λB h=>⟨hp,(eI 5 1 _ _ _ ae ae).fr h.2 hf⟩) F N;clear F N t;obtain⟨ta,tc,rfl,d5,-⟩:=I.o;obtain⟨ra,rc,rfl⟩:=J.o));by_cases E:c2=0;case neg=>have g3:(c2 !=0)=true:=eO.2 E;have l:=cq (show ML=(s2,(rP,([],([],Bk c2)))) by rw[d,cL E]);clear E d;go_wp2_with first|(refine(Hq _ _).mono ?_;rintro e W' ⟨rfl,rfl⟩)|(refine AV S 0 ae ae ae mP ae ?_;rw[l.o];exact aj3)|refine eR ?_|refine ey λW S=>?_
 subst E;rw[cM (λh=>h ae)] at d;unfold ml2 at d;simp only at d;have C3:=cq λv W h R=>Jb P D K s2 (g.drop 20) Z (λx p=>V.o x (mR p)) v W h R;have a3:=yK s2 (g.drop 20);obtain⟨a,M⟩:=c8 (iX s2 (g.drop 20));rw[M] at C3 d a3;obtain⟨s3,sx,l2,c3⟩:=a;simp only at C3 d a3;clear M Z;go_upto_region 8 with(first|(refine xU tz ae ae (y:=20) d3 ?_;rw[a8.o])|(refine(C3.o _ _ S.x.1.1 (d2.o _ S.x.1.2.1)).mono ?_;rintro e W ⟨r,q,rfl,F,N,t,hp,hf⟩;have I:=cq (du F.sl);have J:=cq (cS N);have b3:=cq t;have a9:=cq F.lt;replace S:=S.QJ hf ar dU ((dw P D K s3).still (eI 5 1 (.slice ta tx.length tc) tx.length (dH tx) ae ae)) (λB h=>⟨hp,(eI 5 1 _ _ _ ae ae).fr h.2 hf⟩) F N;clear F N t;obtain⟨ua,uc,rfl,d6,-⟩:=I.o;obtain⟨va,vc,rfl⟩:=J.o));by_cases E:c3=0;case neg=>have g3:(c3 !=0)=true:=eO.2 E;have l:=cq (show ML=(s3,(rP,([],([],Bk c3)))) by rw[d,cL E]);clear E d;go_wp2_with first|(refine(Hq _ _).mono ?_;rintro e W' ⟨rfl,rfl⟩)|(refine AV S 0 ae ae ae mP ae ?_;rw[l.o];exact aj3)|refine eR ?_|refine ey λW S=>?_
 subst E;rw[cM (λh=>h ae)] at d;unfold ml3 at d;simp only at d;have U:=cq λu W R=>Nn tx u cw X.o W R;obtain⟨er,Q⟩:=c8 (kJ tx);rw[Q] at U d;cases er with
 |none=>have L:fp 151 (none:Option (Nat×List cR))=151:=rfl;rw[L] at U;have l:=cq d;clear d Q L;go_upto_region 12 with(refine ag (U.o _ _ S.x.1.2.1) λr W⟨ho,g⟩=>?_;replace S:=S.cx g);go_wp2_with first|(refine AV S 0 ae ae ae mP ae ?_;rw[l.o];exact aj3)|refine eR ?_|refine ey λW S=>?_
 |some nl=>
  obtain⟨nx,sl⟩:=nl;have L:fp 151 (some (nx,sl))=0:=rfl;rw[L] at U;simp only[Kb,ku] at U d;obtain⟨b8,d7⟩:=D0 X.o Q;obtain⟨fr,a6⟩:=c8 (mf nx sl);rw[a6] at d;have C5:=cq λ(m:List dg)(G:dJ m=sl)(u:cI)W(R:fE W u m)=>QH nx m u (λx p=>by have:=(d7 x.tocR (by rw[<-G];exact fM.2 ⟨x,p,ae⟩)).2;omega) (by rw[<-G,gj] at b8;omega) W R;have C5:=cq λ(m:List dg)(G:dJ m=sl)(u:cI)W(R:fE W u m)=>(show rF 151 #[.int .u64 nx,u] W (.bool fr) from by have z:=C5.o m G u W R;rw[G,a6] at z;exact z);clear Q L a6;cases fr with
  |false=>
   rw[cL ae] at d;have l:=cq d;clear d
   go_upto_region 12 with(first|(refine ag (U.o _ _ S.x.1.2.1) λr W⟨⟨m,ho,G⟩,g⟩=>?_;have HM:=cq G;have H:=cq (cS ho.1);replace S:=S.B8 g ho;clear G;obtain⟨wa,wc,rfl⟩:=H.o)|refine je S (C5.o m HM.o _ _ ⟨S.q0,λx p=>(S.x.2 x p).1⟩) λW S=>?_)
   go_wp2_with first|(refine AV S 0 ae ae ae mP ae ?_;rw[l.o];exact akU)|refine eR ?_|refine ey λW S=>?_
  |true=>
   rw[cM jR] at d;have c9:=cq S.x.1.1.pK;have C6:=cq λv W R=>LG (s3.dv.n:Nat) (by have:=c9.o;unfold ee;omega) v sx a9.o W R;obtain⟨ms,b7⟩:=c8 (oj (s3.dv.n:Nat) sx);rw[b7] at C6 d;clear b7;cases ms with
   |none=>
    have L:fp 81 (none:Option (List (Int×Int)))=81:=rfl;rw[L] at C6;have l:=cq d;clear d L
    go_upto_region 15 with(first|(refine ag (U.o _ _ S.x.1.2.1) λr W⟨⟨m,ho,G⟩,g⟩=>?_;have HM:=cq G;have H:=cq (cS ho.1);replace S:=S.B8 g ho;clear G;obtain⟨wa,wc,rfl⟩:=H.o)|refine je S (C5.o m HM.o _ _ ⟨S.q0,λx p=>(S.x.2 x p).1⟩) λW S=>?_|(refine(mK P D K _ _ _ S.x.1.1.1.row).mono ?_;rintro e W ⟨rfl,rfl⟩)|(refine(yT D _ _ S.x.1.1.1.dev).mono ?_;rintro e W ⟨rfl,rfl⟩)|(refine(C6.o _ _ S.x.1.2.1).mono ?_;rintro e W ⟨r,rfl,-,-,g⟩;replace S:=S.cx g))
    go_wp2_with (first
   |(refine AV S 0 ae ae ae mP ae ?_;rw[l.o];exact akU)
   |refine eR ?_
   |refine ey λW S=>?_)
   |some set=>
    have L:fp 81 (some set)=0:=rfl;rw[L] at C6;simp only[ku] at C6 d;have l:=cq d;clear d L;obtain⟨B9,b6⟩:∃f:(Option Addr->Nat->List dg->fJ),f=λa c m=>ct 2 (dk ⟨nx,m,a,c⟩):=⟨_,ae⟩;have a7:=cq (show∀a c m,B9 a c m=ct 2 (dk ⟨nx,m,a,c⟩) from λa c m=>by rw[b6]);clear b6
    go_wp2_with first|(refine ag (U.o _ _ S.x.1.2.1) λr W⟨⟨m,ho,G⟩,g⟩=>?_;have HM:=cq G;have H:=cq (cS ho.1);have c6:=cq (show∀x∈m,qg w.heap.size x from λx p hn b z=>gO S.fr.size ((ho.2 x p).2 hn b z));replace S:=S.B8 g ho;clear G;obtain⟨wa,wc,rfl⟩:=H.o)|refine je S (C5.o m HM.o _ _ ⟨S.q0,λx p=>(S.x.2 x p).1⟩) λW S=>?_|(refine(mK P D K _ _ _ S.x.1.1.1.row).mono ?_;rintro e W ⟨rfl,rfl⟩)|(refine(yT D _ _ S.x.1.1.1.dev).mono ?_;rintro e W ⟨rfl,rfl⟩)|(refine ag (C6.o _ _ S.x.1.2.1) λr W⟨ho,hs,g⟩=>?_;have b4:=cq (And.intro (show∀x∈set,ee x.1/\ee x.2 from by obtain⟨_,_,_,_,z,_⟩:=hs;exact z) (show set.length<=9223372036854775807 from by obtain⟨_,_,_,z,_⟩:=hs;exact z));have c5:=cq (cS ho);replace S:=S.gm g ho ae ae;clear hs;obtain⟨xa,xc,rfl⟩:=c5.o)|refine kC (cells:=B9 wa wc m) ae (by rw[a7.o];exact Qd _ _ _ _) ?_|refine blV S [.slice qa n.length qc,.slice ra O.length rc,.slice va l2.length vc] underlying299 XQ cw cw rfl rfl akJ rfl λW S=>?_|(refine ag (LF [(.slice qa n.length qc,n),(.slice ra O.length rc,O),(.slice va l2.length vc,l2)] _ (show(3:Nat)<=1000 by omega) (show n.length+(O.length+(l2.length+0))<=100000 by omega) _ (Dl S.k0 ae (dK 3) (show(3:Nat)<=maxLen by unfold maxLen;omega) λj u hu=>⟨(mQ.1 hu).1,by grind⟩) (by intro x p;simp only[ib,iS,sM] at p;rcases p with rfl|rfl|rfl;exact cK.iW (S.s8 (k:=4) ae);exact cK.iW (S.s8 (k:=3) ae);exact cK.iW S.o2)) λr W⟨ho,g⟩=>?_;have c4:=cq (cS ho);replace S:=S.gm g ho ae ae;obtain⟨ja,jc,rfl⟩:=c4.o)|refine Ss S 1 rfl rfl rfl (a7.o wa wc m) mP (eY _) λW S=>?_
    have b9:=cq (show [(Value.slice qa n.length qc,n),(Value.slice ra O.length rc,O),(Value.slice va l2.length vc,l2)].flatMap Prod.snd=(n++O)++l2 by simp);refine AV S 1 ae ae ae mP ae ?_;rw[l.o];refine⟨_,_,_,ae,⟨⟨nx,m,wa,wc⟩,ae,?_,S.o2,λx p=>⟨(S.x.2 x p).1,c6.o x p⟩⟩,S.o1,sR S.o1 b4.o.1 b4.o.2,?_,λy T=>?_,S.x.1.1.1,S.fr⟩
    . unfold dD.t;rw[<-HM.o]
    . show gg W w.heap.size (.slice ja (n.length+(O.length+l2.length)) jc) ((n++O)++l2);rw[show n.length+(O.length+l2.length)=((n++O)++l2).length by rw[ik,ik];omega];have z:=S.o0;rw[b9.o] at z;exact z
    . rcases fL.1 T with T|T
      . rcases fL.1 T with T|T
        . exact b1.o y T
        . exact b2.o y T
      . exact b3.o y T
end