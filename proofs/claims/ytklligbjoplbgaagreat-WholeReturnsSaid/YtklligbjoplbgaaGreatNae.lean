/- Part 5 of the proof of WholeReturns. No conditions. -/
import Derived.Test.YtklligbjoplbgaaGreatNad
import Derived.WalkMore
import Derived.Lib.BufferWrite
import Derived.Deep.DeepMust
import Derived.Shelf.SlSortCmp.SmallK
import Derived.Shelf.Small.Bits
import Derived.Laws.MakeOwn
set_option linter.all false
namespace Go.Proofs.YtklligbjoplbgaaGreat
set_option maxRecDepth 100000
set_option maxHeartbeats 64000000
open Go.RowKit Lib List Nat _root_.Go.Proofs.Tryz Go.Shelf
variable {Z cells cur:fJ}{a:Act}{K:Act->cB->Prop}{parts:Array (Nat×Operand)}{listed:Array Bool}{af:Array Edge}{ops:Array Oper}{ts:Array dC}{A args:Array cI}{str:fh}{R:Ending->World->Prop}{Q:Exit->Act->cB->Prop}{fn:Func}{c:Int}{bs l2 s:cD}{X':cD->cB->Prop}{vs:List (Nat×cI)}{l:List Nat}{X:List Nat->World->Prop}{O:List O4}{rest:List Oper}{L M:List R4}{xs:List cI}{E base by' cap dst fuel i ix j k m n st cA x y z:Nat}{g:Nat×Bool}{f:Nat->cI}{r0:O4}{o' oi:Oper}{q:Operand}{gd:Option (Nat×Bool)}{d d2 o:Option Nat}{s1:Pl}{P Q':Prop}{r:R4}{p pp:String}{T dT e sT t t2 ty:dC}{q2:Tmp}{α β:Type}{v zv:cI}{w w' wS:cB}{w0:World}{SS:World->Prop}
def vT(P:kS)(t e:dC)(z by':Nat):Prop:=P.underlying t=some (.slice e)/\∃zv,(P.info? e).map (λi=>(i.zero,i.size,i.bytes))=some (some zv,z,by')/\zv.cells.size=z/\0<z
section
variable {P:kS}
variable {w0:cB}{l:cD}{X:cD->cB->Prop}
def St.pop(h:St w0 d l (r::L) O X w):St w0 d l L O X w:=by have a:∀k∈dM L O,k∈dM (r::L) O:=λk e=>jI _ e;exact⟨h.fr,λq f=>h.row q (jI _ f),h.own,λb c=>h.lo b (a b c),(vP.1 (show(r.b::dM L O).Nodup from h.nd)).2,h.k8.mono h.x a,h.k8⟩
theorem St.M6{o:O4}(h:St w0 d l L (o::O) X w):St w0 d l L O X w:=by
 have a:∀k∈dM L O,k∈dM L (o::O):=λk g=>by grind[gy]
 refine⟨h.fr,h.row,λq f=>h.own q (jI _ f),λb c=>h.lo b (a b c),?_,h.k8.mono h.x a,h.k8⟩;have e:=h.nd;grind[dM]
theorem St.Hi(h:St w0 d l L O X w)(e:dC)(z:Nat)(c:fT e=false)(f:kO e=false):St w0 d l L (⟨e,z,.slice none 0 0,0,[]⟩::O) X w:=by
 have a:dM L (⟨e,z,.slice none 0 0,0,[]⟩::O)=dM L O:=by rfl
 refine⟨h.fr,h.row,λq b=>?_,by rw[a];exact h.lo,by rw[a];exact h.nd,by rw[a];exact h.x,h.k8⟩;rcases ib.1 b with rfl|b;grind[World.ownsRow_nil];exact h.own q b
theorem St.Su{b:Nat}(h:St w0 d l (⟨b,e,n,f⟩::L) O X w)(m:kO e=false):
 St w0 d l L (⟨e,n,.slice (some ⟨b,0,none⟩) 1 1,1,(ct n f).toList⟩::O) X w:=by
 have c:dM L (⟨e,n,.slice (s_ b 0) 1 1,1,(ct n f).toList⟩::O)=L.map R4.b++b::O.filterMap O4.ob:=by rfl
 have i:(L.map R4.b++b::O.filterMap O4.ob).Perm (dM (⟨b,e,n,f⟩::L) O):=perm_middle;have j:=h.row _ (lW ..);refine⟨h.fr,λq a=>h.row q (jI _ a),λq a=>?_,λk g=>h.lo k (i.mem_iff.1 (c▸g)),by rw[c];exact i.nodup_iff.2 h.nd,h.k8.mono h.x λk g=>i.mem_iff.1 (c▸g),h.k8⟩;rcases ib.1 a with rfl|a;refine⟨⟨by simp_all[cF],.inr ⟨b,1,ct n f,ae,h.lo b (lW ..),j.1,dK _,by decide,by simp_all[cF],by grind[take_of_length_le,cF]⟩⟩,j.2.1,m⟩;exact h.own q a
def KV(S:St w0 d l L O X w){A:fJ}(i:a.eval (.tmp x)=.agg A)(b:A=ct n f)(g:vT P t e n by')(c:n<=16777216)(ho:fT e=false)(h:∀W,St w0 d l (⟨w.heap.size,e,n,f⟩::L) O X W->wpList P ops Q rest (a.put (some dst) (.slice (some ⟨w.heap.size,0,none⟩) 1 1)) W):
 wpList P ops Q (⟨some dst,.buildSlice t 1 #[(0,.tmp x)],t2,p,af,none⟩::rest) a w:=by have⟨hu,zv,hi,hz,h0⟩:=g;exact MV (o:=⟨some dst,.buildSlice t 1 #[(0,.tmp x)],t2,p,af,none⟩) ae t e (.tmp x) ae A n by' zv i hu hi h0 c (by rw[b,cF]) (h _ (S.alloc e b ho))
theorem rK(S:St w0 d l L O X w)(k:Nat)(n:L[k]?=some r)(j:Nat){o:O4}(e:O[j]?=some o)(z:a.eval (.tmp x)=o.v)(B:a.eval (.tmp y)=.slice (some ⟨r.b,0,none⟩) 1 1)(v:r.n=o.z)(A:vT P t o.e o.z by')(C:∀i,(r.f i).oneCell'=true)(s:(o.n+1)*by'<=140737488355328)(q:o.n+1<=maxLen)(h:∀g cap W,St w0 d l L (O.set j ⟨o.e,o.z,.slice (some ⟨g,0,none⟩) (o.n+1) cap,o.n+1,o.xs++(ct r.n r.f).toList⟩) X W->wpList P ops Q rest (a.put (some dst) (.slice (some ⟨g,0,none⟩) (o.n+1) cap)) W):
 wpList P ops Q (⟨some dst,.call {callee:=.builtin .append,args:=#[.tmp x,.tmp y],argTypes:=#[t,t]},t2,p,af,none⟩::rest) a w:=by
 have⟨f,zv,hi,hz,h0⟩:=A;refine KE (o:=⟨some dst,.call {callee:=.builtin .append,args:=#[.tmp x,.tmp y],argTypes:=#[t,t]},t2,p,af,none⟩) ae (.tmp x) (.tmp y) t ae w0.heap.size o.e zv o.z by' f hi hz h0 o.v o.n o.xs z (S.s8 e) r.b (ct r.n r.f) r.t (0,0) B (S.oh n) (by rw[cF,v])
  (λu f=>?_) q s S.fr.size λg cap w' b m c _=>h g cap w' ?_
 grind[nu,Array.all_eq_true_iff_forall_mem];exact S.grow e m b ae c
def IV{A B:fJ}(d:a.eval (.tmp x)=.agg A)(b:a.eval (.tmp ix)=.int .i64 k)(c:∀W,(Instr.index t (.agg A) (.int .i64 k)).run P W=.ok (.agg B) W)(h:wpList P ops Q rest (a.put (some dst) (.agg B)) w):wpList P ops Q (⟨some dst,.index t (.tmp x) (.tmp ix),t2,p,af,none⟩::rest) a w:=
 Fw (o:=⟨some dst,.index t (.tmp x) (.tmp ix),t2,p,af,none⟩) ae t (.tmp x) (.tmp ix) ae (.agg B) iG h
end
def eN:jF prog 106 3:=⟨⟨_,yS,ae⟩,jD⟩
def Bd:jF prog 191 24:=⟨⟨_,EF,ae⟩,yA⟩
def BT:jF prog 36 128:=⟨⟨_,uu,ae⟩,oc⟩
def fU:vT prog 107 106 3 24:=⟨underlying107,_,Xs,ae,cw⟩
theorem cP{q:cy}{A:fJ}(h:A=ct 3 (c7 q)):lT q=.agg A:=by grind[Fs]
def ly(l:Nat->cy):List cy:=(range 8).map l
def iL(cA:Nat)(x:Pl×(List cy×Int))(q:cy):Pl×(List cy×Int):=
 if x.2.2≠0 then x else
 if iP q cA=false then x else
 if(cQ x.1 q).2.2≠0 then((cQ x.1 q).1,([],(cQ x.1 q).2.2)) else
 ((cQ x.1 q).1,(x.2.1++q:: (ly (cQ x.1 q).2.1).filter (iP · cA),0))
def sd(cA:Nat)(l:List cy)(x:Pl×(List cy×Int)):Pl×(List cy×Int):=l.foldl (iL cA) x
def fA(s:Pl)(cz:cy)(cA:Nat):Pl×(List cy×Int):=
 if iP cz cA=false then(s,([],0)) else
 if(cQ s cz).2.2≠0 then((cQ s cz).1,([],(cQ s cz).2.2)) else
 sd cA (ly (cQ s cz).2.1) ((cQ s cz).1,([cz],0))
theorem Za{l:List cy}{x:Pl×(List cy×Int)}(h:x.2.2≠0):sd cA l x=x:=by unfold sd;induction l with|nil=>rfl|cons q l ih=>simp_all[iL]
theorem oI(l:Nat->cy):(ly l).length=8:=by rfl
theorem Hj(l:Nat->cy)(k:Nat)(h:k<(ly l).length):(ly l)[k]=l k:=by simp[ly]
theorem KW(f:β->α->β)(b:β)(l:List α)(a:k<l.length):(l.take (k+1)).foldl f b=f ((l.take k).foldl f b) l[k]:=by grind[take_succ_eq_append_getElem]
theorem Sv(f:β->α->β)(b:β)(l:List α)(k:Nat):l.foldl f b=(l.drop k).foldl f ((l.take k).foldl f b):=by grind[take_append_drop]
theorem Vv{s:Pl}{q:cy}(h:iP q st=false):fA s q st=(s,([],0)):=by simp_all[fA]
theorem Sw{s:Pl}{q:cy}{l:Nat->cy}(h:iP q st=true)(a:cQ s q=(s1,(l,c)))(hc:c≠0):fA s q st=(s1,([],c)):=by grind[fA]
theorem Vw{s:Pl}{q:cy}{l:Nat->cy}(h:iP q st=true)(a:cQ s q=(s1,(l,0))):fA s q st=sd st (ly l) (s1,([q],0)):=by grind[fA]
structure qi where
 lD:Nat
 cA:Nat
 gJ:cy
 len:Nat
 fB:Nat
def kb(u:qi):Nat->cI:=λi=>if i=0 then .int .u64 u.lD else if i=1 then .int .u64 u.cA else if i<5 then c7 u.gJ (i-2) else if i=5 then .int .i64 u.len else .int .i64 u.fB
theorem KX(u:qi):ct 7 (kb u)=#[.int .u64 u.lD,.int .u64 u.cA,.int .i64 u.gJ.1,.int .u64 u.gJ.2.1,.int .u32 u.gJ.2.2,.int .i64 u.len,.int .i64 u.fB]:=rfl
theorem se(u:qi):∀i,(kb u i).oneCell'=true:=by intro i;unfold kb;split;rfl;split;rfl;split;exact df _ _;split<;>rfl
def kI(u:qi):Bool:=decide (1<=u.lD/\u.lD<=281474976710655/\1<=u.cA/\u.cA<=281474976710655/\fY u.gJ=true/\u.gJ≠cH/\1<=u.len/\u.len<=65535/\64<=u.fB/\u.fB<=1024)
def KY{b:Nat}{u:qi}(h:cu w b 143 7 (kb u)):w.cell? ⟨b,0,none⟩=some (.int .u64 u.lD)/\w.cell? ⟨b,1,none⟩=some (.int .u64 u.cA)/\w.cell? ⟨b,2,none⟩=some (.int .i64 u.gJ.1)/\w.cell? ⟨b,3,none⟩=some (.int .u64 u.gJ.2.1)/\w.cell? ⟨b,4,none⟩=some (.int .u32 u.gJ.2.2)/\w.cell? ⟨b,5,none⟩=some (.int .i64 u.len)/\w.cell? ⟨b,6,none⟩=some (.int .i64 u.fB):=
 ⟨cu.cell h (i:=0) cw,cu.cell h (i:=1) cw,cu.cell h (i:=2) cw,cu.cell h (i:=3) cw,cu.cell h (i:=4) cw,cu.cell h (i:=5) cw,cu.cell h (i:=6) cw⟩
section
attribute[local irreducible]wpList Code.wp Calls Oper.wp wpAnyH
theorem M7(u:qi)(w:cB):rF 260 #[.agg (ct 7 (kb u))] w (.bool (kI u)):=by
 have d:=cq (xw u.gJ);have⟨b,a⟩:=c8 (decide (u.gJ=cH));have c:=Ew u.gJ cH b a;have⟨A,HA⟩:=xm (ct 7 (kb u));rw[<-HA.o];have S:=St.start w none [] vt gI;have⟨r,hr⟩:=c8 (fY u.gJ);rw[hr] at d;have o:kI u=decide (1<=u.lD/\u.lD<=281474976710655/\1<=u.cA/\u.cA<=281474976710655/\r=true/\b=false/\1<=u.len/\u.len<=65535/\64<=u.fB/\u.fB<=1024):=by unfold kI;rw[hr,<-a];simp
 have j:=cq o;clear o hr a;have⟨t,s,⟨p1,p2,p3⟩,l,n⟩:=u;simp only[lT] at d c j|-;unfold cH at c;simp only at c;have p:∀w,(binOp .neq 106 (.agg #[.int .i64 p1,.int .u64 p2,.int .u32 p3]) (.agg #[.int .i64 0,.int .u64 0,.int .u32 0])).run prog w=.ok (.bool !b) w:=c;clear c;go_enter func260,ntmps260;go_wp2_with (first|((with_reducible refine Xv 1 143 0 ?_);refine xN S ae HA.o ae ?_;clear S;intro W S;obtain⟨k0,k1,k2,f,g,h,i⟩:=KY (S.oh (k:=0) ae);simp only at k0 k1 k2 f g h i)|(go_at_call 241;refine ah (d.o _) λW a=>?_;replace S:=S.cx a;clear a k0 k1 k2 f g h i;obtain⟨k0,k1,k2,f,g,h,i⟩:=KY (S.oh (k:=0) ae);simp only at k0 k1 k2 f g h i));all_goals go_ret
 all_goals(refine⟨?_,S.fr.cx⟩;rw[j.o];clear S j d HA;first|(show Ending.returned (.bool false)=_;rw[iC (λm=>by obtain⟨_,_,_,_,_,_,_,_,_,_⟩:=m;first|omega|simp_all)])|refine fK (λx=>Ending.returned (.bool x)) (decide_eq_decide.2 ⟨λ_=>⟨cw,cw,by omega,cw,by assumption,by simp_all,cw,by omega,cw,cw⟩,λm=>by obtain⟨_,_,_,_,_,_,_,_,_,_⟩:=m;omega⟩))
end
def KZ(k:IntKind)(l:List Int):Nat->cI:=λi=>.int k (l.getD i 0)
theorem abQ(k:IntKind)(l:List Int)(h:l.length=n):(l.map (Value.int k)).toArray=ct n (KZ k l):=by apply xb;intro j;rw[Kc,ql,cU];by_cases a:j<n;simp_all[KZ];grind
theorem dR.row{b:Nat}{k:IntKind}{l:List Int}(h:cu w b t n (KZ k l))(a:l.length=n)(e:n<=9223372036854775807)(c:∀x∈l,(Lit.int k x).wf=true):dR k w (.slice (some ⟨b,0,none⟩) n n) l:=by refine⟨_,_,by rw[a],cw,c,λ_=>⟨b,0,ae,cu.lt h,λj d=>?_⟩⟩;rw[ou,cu.cell h cw];grind[KZ]
def yV:(prog.info? 82).map (λi=>(i.zero,i.size,i.bytes))=some (some (.int .u64 0),1,8):=cX
def td:(prog.info? 3).map (λi=>(i.zero,i.size,i.bytes))=some (some (.int .i64 0),1,8):=cX
section
variable {P:kS}
variable {w0:cB}{l:cD}{X:cD->cB->Prop}
def St.gm(h:St w0 d l L O X w)(a:dz w w')(ho:w'.ownsRow w.heap.size e z v n xs)(b:fT e=false)(c:kO e=false):St w0 d l L (⟨e,z,v,n,xs⟩::O) X w':=
 h.take (h.cx a) ho b c λB f=>h.k8.cx (B:=B) f a
def St.sf(h:St w0 d l L O X w)(f:Fr d2 l2 w w')(g:∀D,d2=some D->d=some D)(i:∀k∈l2,k∈l∨w0.heap.size<=k)(j:kK d X')(a:∀B,X B w->X' B w')(ho:w'.ownsRow w.heap.size e z v n xs)(b:fT e=false)(c:kO e=false):St w0 d l L (⟨e,z,v,n,xs⟩::O) X' w':=
 h.take (h.call f g i j a) ho b c a
def Zb(dst:Nat)(ty:dC)(n:Nat)(h:wpList P ops Q (⟨some dst,.buildSlice ty n parts,t2,p,af,none⟩::rest) a w):wpList P ops Q (⟨some dst,.buildSlice ty n parts,t2,p,af,none⟩::rest) a w:=h
def P5(x y:Nat)(h:wpList P ops Q (⟨o,.call {callee:=.builtin .copy,args:=#[.tmp x,.tmp y],argTypes:=ts},t2,p,af,none⟩::rest) a w):wpList P ops Q (⟨o,.call {callee:=.builtin .copy,args:=#[.tmp x,.tmp y],argTypes:=ts},t2,p,af,none⟩::rest) a w:=h
def Ay(dst:Nat)(ty:dC)(h:wpList P ops Q (⟨some dst,.build ty parts,t2,p,af,none⟩::rest) a w):wpList P ops Q (⟨some dst,.build ty parts,t2,p,af,none⟩::rest) a w:=h
def lK(S:St w0 d l L O X w)(k:IntKind)(b:List Int)(m:P.underlying t=some (.slice e))(g:(P.info? e).map (λi=>(i.zero,i.size,i.bytes))=some (some zv,1,by'))(q:0<n)(r:n<=16777216)(ho:fT e=false)(c:b.length=n)(j:parts.toList.map (λp=>(p.1,a.eval p.2))=((b.map (Value.int k)).zipIdx 0).map λx=>(x.2,x.1))(h:∀W,St w0 d l (⟨w.heap.size,e,n,KZ k b⟩::L) O X W->wpList P ops Q rest (a.put (some dst) (.slice (some ⟨w.heap.size,0,none⟩) n n)) W):
 wpList P ops Q (⟨some dst,.buildSlice t n parts,t2,p,af,none⟩::rest) a w:=by have⟨it,hi1,hz,hz1,hz2⟩:=nB g;refine lF ae λK f=>wp_buildSlice t e n parts ae (ct n (KZ k b)) it zv m hi1 hz iG iG (by rw[hz1];refine(fK (Instr.fill _ _) ((Array.toList_map).trans j)).trans ?_;rw[<-abQ k b c];exact Great.fill_flat _ _ (λv o=>by obtain⟨n,_,rfl⟩:=fM.1 o;rfl) (by simp[c])) (f _ _ (h _ (S.alloc e ae ho)))
theorem Sx(S:St w0 d l L O X w)(k:Nat){b:Nat}(f:L[k]?=some ⟨b,36,128,cN s⟩){q:Nat}(G:s.length=q)(R:kZ w T v bs)(E:s.length+bs.length<=128)(F:bs.length<=m)(g:P.underlying dT=some (.slice 5))(e:(P.info? 5).map (·.size)=some 1)(t:a.eval (.tmp x)=.slice (some ⟨b,q,none⟩) m cap)(A:a.eval (.tmp y)=v)(h:∀W,St w0 d l (L.set k ⟨b,36,128,cN (s++bs)⟩) O X W->wpList P ops Q rest (a.put o (goInt bs.length)) W):
 wpList P ops Q (⟨o,.call {callee:=.builtin .copy,args:=#[.tmp x,.tmp y],argTypes:=#[dT,sT]},t2,p,af,none⟩::rest) a w:=by
 subst G;obtain⟨⟨J,B,c,rfl,K,M,D⟩,N⟩:=R;by_cases C:bs.length=0;obtain rfl:bs=[]:=wj C;refine wpList_copy_nothing ae (.tmp x) (.tmp y) dT sT ae 5 g e _ B m cap _ c t A (Nat.zero_min _) (h _ ?_);have:=S.modify f (cN (s++[])) (iU.refl _ _) (by rw[vd];exact S.oh f);exact this
 . obtain⟨i,o',H,I,rfl,U,hc⟩:=D cw;have z:Nat.min bs.length m=bs.length:=tW F;refine wpList_copy_own ae (.tmp x) (.tmp y) dT sT ae 5 g e b s.length m cap ⟨i,o',none⟩ _ c t A (ct 128 (cN s)) 36 (S.oh f) (bs.map λ(x:Nat)=>Value.int .u8 (x:Int)) cw
    (λj u V=>?_) aD (λu g=>by obtain⟨_,_,rfl⟩:=fM.1 g;rfl) ?_
   (have r:(⟨i,o',none⟩:Addr).add j=⟨i,o'+j,none⟩:=by grind[Addr.add]);grind[cell_of_row];rw[lV];have n:=yU s bs E;unfold splice at n;rw[lV] at n;rw[n];exact h _ (S.set f _)
theorem M8(w:cB)(dT sT ty b:dC)(g o a c:Nat)(s:fh)(cur:fJ)(t:dC)(i:P.underlying dT=some (.slice b))(h:(P.info? b).map (·.size)=some 1)(f:w.heap[g]?=some (.cells cur t (0,0)))(e:s.size<=a)(d:o+s.size<=cur.size):
 (Builtin.copy_ #[dT,sT] ty #[.slice (some ⟨g,o,none⟩) a c,.string s]).run P w=.ok (goInt s.size) (w.setRow g (cur.toList.take o++byteCells s.data.toList++cur.toList.drop (o+s.size)).toArray):=
 by grind[run_copy_row_string]
def qx(s:fh):cD:=s.data.toList.map UInt8.toNat
def Zc(x:Nat){s:fh}(h:wpList P ops Q (⟨o,.call {callee:=.builtin .copy,args:=#[.tmp x,.const (.string s)],argTypes:=ts},t2,p,af,none⟩::rest) a w):wpList P ops Q (⟨o,.call {callee:=.builtin .copy,args:=#[.tmp x,.const (.string s)],argTypes:=ts},t2,p,af,none⟩::rest) a w:=h
theorem ahQ(S:St w0 d l L O X w)(k:Nat){b:Nat}(i:L[k]?=some ⟨b,36,128,cN s⟩){q:Nat}(u:s.length=q)(t:s.length+(qx str).length<=128)(y:(qx str).length<=m)(v:P.underlying dT=some (.slice 5))(f:(P.info? 5).map (·.size)=some 1)(r:a.eval (.tmp x)=.slice (some ⟨b,q,none⟩) m cap)(h:∀W,St w0 d l (L.set k ⟨b,36,128,cN (s++qx str)⟩) O X W->wpList P ops Q rest (a.put o (goInt str.size)) W):
 wpList P ops Q (⟨o,.call {callee:=.builtin .copy,args:=#[.tmp x,.const (.string str)],argTypes:=#[dT,sT]},t2,p,af,none⟩::rest) a w:=by
 subst u;have e:(qx str).length=str.size:=by grind[qx,size_eq]
 refine lF ae λK j=>?_;have c:=M8 (P:=P) w dT sT t2 5 b s.length m cap str (ct 128 (cN s)) 36 v f (S.oh i) cw aD;have g:=yU s (qx str) t;have n:byteCells str.data.toList=(qx str).map λ(x:Nat)=>Value.int .u8 (x:Int):=by unfold qx;rw[sK];rfl
 unfold splice at g;rw[lV,<-n,e,<-wh] at g;rw[g] at c;unfold Oper.wp;simp[execOp,resolve,invoke,builtin,r,show a.eval (.const (.string str))=.string str from ae,c,Result.andThen];exact j _ _ (h _ (S.set i _))
def uW(S:St w0 d l L O X w)(e:∀w,(zeroValue ty).run P w=.ok (.agg Z) w)(c:Z=ct n f)(ho:fT ty=false)(h:∀W,St w0 d l (⟨w.heap.size,ty,n,f⟩::L) O X W->wpList P ops Q rest (a.put (some dst) (.pointer (some ⟨w.heap.size,0,none⟩))) W):wpList P ops Q (⟨some dst,.alloc ty,t2,p,af,none⟩::rest) a w:=by refine lF ae λK b=>?_;unfold Oper.wp execOp;simp only[kj,Instr.alloc,e,newVar,newRow,EM,qq,mS];exact b _ _ (h _ (S.alloc ty c ho))
def Az(b:P.built ty []=some Z)(h:wpList P ops Q rest (a.put (some dst) (.agg Z)) w):wpList P ops Q (⟨some dst,.build ty #[],t2,p,af,none⟩::rest) a w:=
 wpList_buildTo ae ty #[] ae (some dst) ae Z (agm b _) h
theorem nQ{R:Ending->cB->Prop}(S:St w0 d l L O X w)(k:Nat){p q:Tmp}(e:L[k]?=some r)(h:fn.results=#[.cell p ty,.tmp q])(f:a.tmps.getD p undef=.pointer (some ⟨r.b,0,none⟩))(g:jF P ty r.n)(c:a.defers=[])(b:R (.returned (.tuple #[.agg (ct r.n r.f),a.tmps.getD q undef])) w):bodyPost P fn R .ret a w:=by have⟨⟨dd,h1,h2⟩,h3⟩:=g;exact gE (lG h f (S.oh e) h1 iG h3) c b
theorem FB{R:Ending->cB->Prop}(S:St w0 d l L O X w)(k:Nat){p q:Tmp}(e:L[k]?=some r)(h:fn.results=#[.cell p ty,.tmp q,.tmp q2])(f:a.tmps.getD p undef=.pointer (some ⟨r.b,0,none⟩))(g:jF P ty r.n)(c:a.defers=[])(b:R (.returned (.tuple #[.agg (ct r.n r.f),a.tmps.getD q undef,a.tmps.getD q2 undef])) w):bodyPost P fn R .ret a w:=by have⟨⟨dd,h1,h2⟩,h3⟩:=g;exact gE (MT h f (S.oh e) h1 iG h3) c b
theorem aex{R:Ending->cB->Prop}(S:St w0 d l L O X w)(k:Nat){p:Tmp}(e:L[k]?=some r)(h:fn.results=#[.cell p ty])(f:a.tmps.getD p undef=.pointer (some ⟨r.b,0,none⟩))(g:jF P ty r.n)(c:a.defers=[])(b:R (.returned (.agg (ct r.n r.f))) w):bodyPost P fn R .ret a w:=by have⟨⟨dd,h1,h2⟩,h3⟩:=g;exact gE (R3 h f (S.oh e) h1 iG h3) c b
end
theorem kZ.Da(h:cu w E 36 128 (cN s))(d:iY s)(o n cap:Nat)(i:o+n<=128)(hc:n<=cap)(e:cap<=128):kZ w 36 (.slice (some ⟨E,o,none⟩) n cap) ((s.drop o).take n):=by
 have f:((s.drop o).take n).length=n:=by rw[kL,r8,d.1];omega
 refine⟨⟨by grind,_,_,by rw[f],cw,by grind[maxLen],λ_=>⟨E,o,_,_,ae,h,λj u b=>?_⟩⟩,λx g=>d.2 x (mR (lu g))⟩;rw[ql] at b;cases c:((s.drop o).take n)[j]? with
 |none=>grind
 |some x=>
  rw[c] at b;cases b;have a:j<n:=by grind
  rw[getElem?_take,cL a,getElem?_drop] at c;rw[cU,cL cw];grind[cN]
theorem K0(s:cD)(n:Nat):cN (s++replicate n 0)=cN s:=by grind[cN]
def lz:qi:=⟨0,0,cH,0,0⟩
def Xw:(#[Value.int .u64 0,.int .u64 0,.int .i64 0,.int .u64 0,.int .u32 0,.int .i64 0,.int .i64 0]:fJ)=ct 7 (kb lz):=rfl
def DN:jF prog 143 7:=⟨⟨_,underlying143,ae⟩,cX⟩
def fg:kB prog 82:=⟨⟨_,underlying82,ae⟩,cX⟩
def BU:kB prog 3:=⟨⟨_,uh,ae⟩,cX⟩
def FC(u:qi):cD:=[65,81,70,82]++j8 [8,8] [u.lD,u.cA]++gK u.gJ++j8 [4,4] [u.len,u.fB]
theorem wG(u:qi):(FC u).length=44:=by rfl
def pY(u:qi):cD:=FC u++replicate 80 0
def sg(u:qi):cD:=pY u++pE 4 (j9 (pY u))
def lf(u:qi):Option cD:=if kI u=true then some (sg u) else none
theorem K1(u:qi):∀x∈FC u,x<256:=by intro x a;unfold FC at a;simp only[fL] at a;rcases a with((a|a)|a)|a;grind;exact vg _ _ x a;exact oE _ x a;exact vg _ _ x a
theorem Sy(u:qi):iY (sg u):=by grind[sg,pY,wG,fo,K1,xt,iY]
def nH(u:qi):Prop:=u.lD<18446744073709551616/\u.cA<18446744073709551616/\cY u.gJ/\u.len<4294967296/\u.fB<4294967296
theorem BV{u:qi}:∀i,i<3->kb u (2+i)=c7 u.gJ i:=by intro i a;unfold kb;grind
section
attribute[local irreducible]wpList Code.wp Calls Oper.wp wpAnyH
def Sz(u:qi)(w:cB):rF 188 #[.agg (ct 7 (kb u))] w (.int .i64 (u.lD%4:Nat)):=by
 have⟨A,HA⟩:=xm (ct 7 (kb u));rw[<-HA.o];have S:=St.start w none [] vt gI;have a:IntKind.i64.wrap ((u.lD:Int)%4)=((u.lD%4:Nat):Int):=by rw[j0 _ cw];omega
 go_enter func188,ntmps188;go_wp2_with (first|((with_reducible refine Xv 1 143 0 ?_);go_must (refine xN S ae HA.o ae ?_;clear S;intro W S))|((with_reducible refine vS 4 82 3 ?_);go_must (refine xM S 0 ae 0 (v:=.int .u64 u.lD) ae pR ae fg ?_)));go_ret;exact⟨fK (λx=>Ending.returned (.int .i64 x)) cw,S.fr.cx⟩
theorem aey{a b:Nat}(c:a<18446744073709551616)(d:b<18446744073709551616):uj [8,8] [a,b]=some (j8 [8,8] [a,b]):=by unfold uj;rw[cL ⟨by decide,ae,by grind[fitAll]⟩]
theorem aez{a b:Nat}(c:a<4294967296)(d:b<4294967296):uj [4,4] [a,b]=some (j8 [4,4] [a,b]):=by unfold uj;rw[cL ⟨by decide,ae,by grind[fitAll]⟩]
def agr{a:Nat}(b:a<4294967296):uj [4] [a]=some (pE 4 a):=by unfold uj;rw[cL ⟨by decide,ae,by simp[fitAll,b]⟩];rfl
theorem wf_i64{x:Nat}(h:x<=9223372036854775807):(Lit.int .i64 (x:Int)).wf=true:=by grind[Lit.wf,IntKind.min,IntKind.max,IntKind.bits]
theorem ahR(u:qi):iY (FC u++replicate 84 0):=by grind[wG,K1,iY]
theorem ags{u:qi}:(FC u++replicate 84 0).take 124=pY u:=by rfl
def DO(u:qi)(hp:nH u)(w:cB):CP_ 225 #[.agg (ct 7 (kb u))] w λe w'=>∃B,e=.returned (.tuple #[.agg B,.int .i64 (fp 61 (lf u))])/\B=ct 128 (cN ((lf u).getD eP))/\dz w w':=by
 obtain⟨A,K⟩:=eW (ct 7 (kb u));have D:=cq λw=>K▸M7 u w;rw[<-K];have G:=cq K;clear K;have S:=St.start w none [] vt gI;obtain⟨h1,h2,h3,h4,h5⟩:=hp;go_enter func225,ntmps225;cases l:kI u with
 |false=>
  have a:lf u=none:=by unfold lf;rw[l];rfl
  rw[a];rw[l] at D;go_wp2_with (first|((with_reducible refine Xv 1 143 0 ?_);go_must (refine xN S ae G.o ae ?_;clear S;intro W S))|((with_reducible refine J3 2 36 ?_);go_must (refine uW S zeroValue36 uq ae ?_;clear S;intro W S))|((with_reducible refine vS 10 143 1 ?_);go_must (refine Oo S 1 ae ae G.o DN ?_))|(go_at_call 260;go_must (refine ah (D.o _) λW a=>?_;replace S:=S.cx a;clear a))|((with_reducible refine Ay 13 36 ?_);go_must (refine Az PV ?_))|((with_reducible refine uV 36 2 13 ?_);go_must (refine Ss S 0 ae ae ae uq BT (iJ _) ?_;clear S;intro W S))|((with_reducible refine rA ?_);go_must (refine nQ S 0 ae ae ae BT ae<|Hid.o ?_)));exact cq ⟨_,⟨ae,ae⟩,ae,S.fr.cx⟩
 |true=>
  have a:lf u=some (sg u):=by unfold lf;rw[l];rfl
  rw[a];rw[l] at D;have Y:=cq λv v' w n C=>aey h1 h2▸Fp v v' [8,8] [u.lD,u.cA] jR w n C;have Z:=cq λv v' w n C=>aez h4 h5▸Fp v v' [4,4] [u.len,u.fB] jR w n C;have E:=cq λw=>wC u.gJ h3 w;have z:fY u.gJ=true:=by
   unfold kI at l;exact(lr l).2.2.2.2.1
  rw[z] at E;obtain⟨T,M⟩:=eW (ct 3 (c7 u.gJ));rw[cP M] at E;have HT:=cq M;clear M z l a;have O:∀x∈dh [8,8],(Lit.int .i64 x).wf=true:=by decide
  have Q:∀x∈dh [4,4],(Lit.int .i64 x).wf=true:=by decide
  have R:∀x∈dh [u.lD,u.cA],(Lit.int .u64 x).wf=true:=by
   intro x g;simp[dh] at g;rcases g with rfl|rfl<;>exact wf_u64 aK
  have U:∀x∈dh [u.len,u.fB],(Lit.int .u64 x).wf=true:=by
   intro x g;simp[dh] at g;rcases g with rfl|rfl<;>exact wf_u64 cw
  have a1:IntKind.u64.wrap (u.len:Int)=(u.len:Int):=An _ cw;have a2:IntKind.u64.wrap (u.fB:Int)=(u.fB:Int):=An _ cw;have y:j9 (pY u)<4294967296:=Kv _ _ jR (λx g=>by
   unfold pY at g;rcases fL.1 g with h|h
   . exact K1 u x h
   . simp at h;omega)
  have N:=agr y;have L:=cq λv v' w n C=>N▸Fp v v' [4] [j9 (pY u)] jR w n C;have X:IntKind.u64.wrap (j9 (pY u):Int)=(j9 (pY u):Int):=An _ cw;obtain⟨c,hc⟩:=c8 (j9 (pY u));have HS:Hid (sg u=pY u++pE 4 c):=cq (by unfold sg;rw[hc]);have C6:=cq λv w(n:dR .u8 w v (dh (pY u)))=>hc▸U6 v (pY u) w n;rw[hc] at L X y;clear hc;obtain⟨j,b⟩:=c8 (j8 [8,8] [u.lD,u.cA]);obtain⟨t,d⟩:=c8 (gK u.gJ);obtain⟨I,f⟩:=c8 (j8 [4,4] [u.len,u.fB]);obtain⟨J,i⟩:=c8 (pE 4 c);have hB:FC u=[65,81,70,82]++j++t++I:=by unfold FC;rw[b,d,f]
  have HB:=cq hB;clear hB;have l1:j.length=16:=by rw[<-b];simp[j8,fo]
  have l2:t.length=16:=by rw[<-d];exact ff _
  have l3:I.length=8:=by rw[<-f];simp[j8,fo]
  have l4:J.length=4:=by rw[<-i,fo]
  have t1:=cq (show∀x∈j,x<256 by rw[<-b];exact vg _ _);have t2:=cq (show∀x∈t,x<256 by rw[<-d];exact oE _);have t3:=cq (show∀x∈I,x<256 by rw[<-f];exact vg _ _);have t4:=cq (show∀x∈J,x<256 by rw[<-i];exact xt _ _);rw[b] at Y;rw[f] at Z;rw[i] at L HS;simp only[nI,d] at E;clear b d f i;have p:=cq l1;have H:=cq l2;have L3:=cq l3;have L4:=cq l4;clear l1 l2 l3 l4;obtain⟨F,HF⟩:=xm (ct 128 (cN (pY u++J)));have V:∀x∈dh [c],(Lit.int .u64 x).wf=true:=by
   intro x g;simp[dh] at g;subst g;exact wf_u64 cw
  go_upto_region 17 with(first|((with_reducible refine Xv 1 143 0 ?_);go_must (refine xN S ae G.o ae ?_;clear S;intro W S))|((with_reducible refine J3 2 36 ?_);go_must (refine uW S zeroValue36 uq ae ?_;clear S;intro W S))|((with_reducible refine vS 10 143 1 ?_);go_must (refine Oo S 1 ae ae G.o DN ?_))|(go_at_call 260;go_must (refine ah (D.o _) λW a=>?_;replace S:=S.cx a;clear a))|((with_reducible refine Zb 15 81 2 ?_);go_must (refine lK S .i64 [8,8] oW td cw cw ae ae mB ?_;clear S;intro W S))|((with_reducible refine vS 17 82 16 ?_);go_must (refine xM S 2 ae 0 (v:=.int .u64 u.lD) ae pR ae fg ?_))|((with_reducible refine vS 19 82 18 ?_);go_must (refine xM S 2 ae 1 (v:=.int .u64 u.cA) ae pR ae fg ?_))|((with_reducible refine Zb 20 78 2 ?_);go_must (refine lK S .u64 [(u.lD:Nat),(u.cA:Nat)] uk yV cw cw ae ae mB ?_;clear S;intro W S))|(go_at_call 73;refine ag (Y.o _ _ _ (dR.row (S.oh (k:=1) ae) ae pR O) (dR.row (S.oh (k:=0) ae) ae pR R)) λr W⟨ho,a⟩=>?_;replace S:=S.gm a ho ae ae;clear a)|((with_reducible refine vS 29 106 28 ?_);go_must (refine Oq S 3 ae (o:=2) (m:=3) ae (c7 u.gJ) pR BV HT.o eN ?_))|(go_at_call 233;go_must (refine ag (E.o _) λr W⟨ho,a⟩=>?_;replace S:=S.gm a ho ae ae;clear a))|((with_reducible refine Zb 37 81 2 ?_);go_must (refine lK S .i64 [4,4] oW td cw cw ae ae mB ?_;clear S;intro W S))|((with_reducible refine vS 39 3 38 ?_);go_must (refine xM S 4 ae 5 (v:=.int .i64 u.len) ae pR ae BU ?_))|((with_reducible refine vS 42 3 41 ?_);go_must (refine xM S 4 ae 6 (v:=.int .i64 u.fB) ae pR ae BU ?_))|((with_reducible refine Zb 44 78 2 ?_);go_must (refine lK S .u64 [(u.len:Nat),(u.fB:Nat)] uk yV cw cw ae ae mB ?_;clear S;intro W S))|(go_at_call 73;refine ag (Z.o _ _ _ (dR.row (S.oh (k:=1) ae) ae pR Q) (dR.row (S.oh (k:=0) ae) ae pR U)) λr W⟨ho,a⟩=>?_;replace S:=S.gm a ho ae ae;clear a)|((with_reducible refine J3 8 36 ?_);go_must (refine uW S zeroValue36 PL ae ?_;clear S;intro W S))|((with_reducible refine Zc 51 ?_);go_must (refine ahQ S 0 (s:=[]) ae (q:=0) ae jR jR nK Ba ae ?_;clear S;intro W S))|((with_reducible refine P5 53 54 ?_);go_must (refine Sx S 0 (s:=[65,81,70,82]) (bs:=j) ae (q:=4) ae (kZ.own (S.s8 (k:=2) ae) t1.o) (by show 4+j.length<=128;have:=p.o;omega) (by have:=p.o;omega) nK Ba ae ae ?_;clear S;intro W S))|((with_reducible refine P5 56 57 ?_);go_must (refine Sx S 0 (s:=[65,81,70,82]++j) (bs:=t) ae (q:=20) (by have:=p.o;simp;omega) (kZ.own (S.s8 (k:=1) ae) t2.o) (by have:=p.o;have:=H.o;simp;omega) (by have:=H.o;omega) nK Ba ae ae ?_;clear S;intro W S))|((with_reducible refine P5 59 60 ?_);go_must (refine Sx S 0 (s:=[65,81,70,82]++j++t) (bs:=I) ae (q:=36) (by have:=p.o;have:=H.o;simp;omega) (kZ.own (S.s8 (k:=0) ae) t3.o) (by have:=p.o;have:=H.o;have:=L3.o;simp;omega) (by have:=L3.o;omega) nK Ba ae ae ?_;clear S;intro W S)))
  go_wp2_with first|((with_reducible refine Zb 63 81 1 ?_);go_must (refine lK S .i64 [4] oW td cw cw ae ae mB ?_;clear S;intro W S))|(go_at_call 166;go_must (have hR:=S.oh (k:=1) ae;have h:=kZ.Da (s:=FC u++replicate 84 0) (by rw[K0,HB.o];exact hR) (ahR u) 0 124 128 cw cw cw;rw[drop_zero,ags] at h;refine(C6.o _ _ (kZ.ints h)).mono ?_;rintro e W ⟨rfl,rfl⟩;clear h hR))|((with_reducible refine Zb 67 78 1 ?_);go_must (refine lK S .u64 [(c:Nat)] uk yV cw cw ae ae mB ?_;clear S;intro W S))|(go_at_call 73;go_must (refine ag (L.o _ _ _ (dR.row (S.oh (k:=1) ae) ae pR jR) (dR.row (S.oh (k:=0) ae) ae pR V)) λr W⟨ho,a⟩=>?_;replace S:=S.gm a ho ae ae;clear a))|((with_reducible refine P5 74 75 ?_);go_must (refine Sx S 2 (s:=pY u) (bs:=J) (by unfold pY;rw[K0,HB.o];rfl) (q:=124) (by simp[pY,wG]) (kZ.own (S.s8 (k:=0) ae) t4.o) (by have:=L4.o;simp[pY,wG];omega) (by have:=L4.o;omega) nK Ba ae ae ?_;clear S;intro W S))|((with_reducible refine vS 77 36 8 ?_);go_must (refine Oo S 2 ae ae HF.o BT ?_))|((with_reducible refine uV 36 2 77 ?_);go_must (refine Ss S 7 ae ae ae HF.o BT (iJ _) ?_;clear S;intro W S))|((with_reducible refine rA ?_);go_must (refine nQ S 7 ae ae ae BT ae<|Hid.o ?_))
  exact cq ⟨_,⟨ae,ae⟩,by rw[HS.o],S.fr.cx⟩
end
def SE(w0:cB)(d:Option Nat)(l:cD)(L:List R4)(O:List O4):cB->Prop:=λW=>∃X,St w0 d l L O X W
section
variable {P:kS}
variable {w0:cB}{l:cD}{X:cD->cB->Prop}
def dL(S:St w0 d l L O X w){id:Nat}(b:P.follows .mixedOrders=true)(h:∀W,St w0 d l L O X W->wpAnyH P .any ops Q (SE w0 d l L O) ops.size (Array.replicate ops.size false) a W):(Code.region id ops true).wp P Q a w:=
 wp_region_held_drew b ⟨X,S.drew⟩ λ_=>h _ S.drew
def SE0(w0:cB)(d:Option Nat)(l:cD):cB->Prop:=λW=>∃L O X,St w0 d l L O X W
def AA(S:St w0 d l L O X w){id:Nat}(b:P.follows .mixedOrders=true)(h:∀W,St w0 d l L O X W->wpAnyH P .any ops Q (SE0 w0 d l) ops.size (Array.replicate ops.size false) a W):(Code.region id ops true).wp P Q a w:=
 wp_region_held_drew b ⟨L,O,X,S.drew⟩ λ_=>h _ S.drew
def tkG(i:Nat)(dst:Option Nat)(v:cI){SS:cB->Prop}(hS:SS w)(f:ops[i]?=some oi)(d:oi.dst=dst)(j:Region.noSelect ops=true)(e:Region.free .any ops listed i=true)(g:(Region.ready .any ops listed).contains i=true)(b:∀c a w,Q (.panic c) (a.put dst v) w->Q (.panic c) a w)(k:YieldsIf P ops SS oi v a)(h:wpAnyH P .any ops Q SS fuel (listed.setIfInBounds i true) (a.put dst v) w):wpAnyH P .any ops Q SS (fuel+1) listed a w:=by subst d;exact wpAnyH_take f j e g b k hS h
theorem rd1{SS:cB->Prop}{o:Oper}(b:Region.ready .any ops listed=[i])(ho:ops[i]?=some o)(d:Region.wanted o (yielded ops a.tmps)=true)(h:∀K,Shut (∀a w,SS w->(SS w->wpAnyH P .any ops Q SS fuel (listed.setIfInBounds i true) a w)->K a w)->o.wp P a w K Q):wpAnyH P .any ops Q SS (fuel+1) listed a w:=
 wpAnyH_ready b dU (AllReadyH.cons ho (λK c=>by grind) .nil)
def ahT{SS:cB->Prop}(b:a.eval q=v)(c:Region.wanted ⟨some dst,.move q,t2,p,af,gd⟩ (yielded ops a.tmps)=true:=by kernel_rfl):YieldsIf P ops SS ⟨some dst,.move q,t2,p,af,gd⟩ v a:=by subst b;exact .inl ⟨c,λw _=>by rfl⟩
def aeA{SS:cB->Prop}(b:a.eval q=v)(c:Region.wanted ⟨some dst,.assign q,t2,p,af,gd⟩ (yielded ops a.tmps)=true:=by kernel_rfl):YieldsIf P ops SS ⟨some dst,.assign q,t2,p,af,gd⟩ v a:=by subst b;exact .inl ⟨c,λw _=>by rfl⟩
def xO{SS:cB->Prop}(d:parts.toList.map (λp=>(p.1,a.eval p.2))=vs)(c:P.built ty vs=some cells)(b:Region.wanted ⟨some dst,.build ty parts,t2,p,af,gd⟩ (yielded ops a.tmps)=true:=by kernel_rfl):YieldsIf P ops SS ⟨some dst,.build ty parts,t2,p,af,gd⟩ (.agg cells) a:=
 Vs b ty parts ae cells bR
def aiW{SS:cB->Prop}{o:Oper}(b:Region.wanted o (yielded ops a.tmps)=false):YieldsIf P ops SS o undef a:=.inr ⟨b,ae⟩
theorem BW(h:w.ownsRow base e z v n xs)(b:0<n):∃g cap,v=.slice (some ⟨g,0,none⟩) n cap:=by rcases h.2 with⟨_,a⟩|⟨g,cap,cur,rfl,_⟩<;>grind
def kC(c:parts.toList.map (λp=>(p.1,a.eval p.2))=vs)(b:P.built ty vs=some cells)(h:wpList P ops Q rest (a.put (some dst) (.agg cells)) w):wpList P ops Q (⟨some dst,.build ty parts,t2,p,af,none⟩::rest) a w:=
 wpList_buildTo ae ty parts ae (some dst) ae cells bR h
def aiK(dst:Nat)(ty:dC)(x:Nat)(h:wpList P ops Q (⟨some dst,.load ty (.tmp x),t2,p,af,some g⟩::rest) a w):wpList P ops Q (⟨some dst,.load ty (.tmp x),t2,p,af,some g⟩::rest) a w:=h
def lh{o:Op}{dst:Option Nat}(b:Region.wanted ⟨dst,o,t2,p,af,some g⟩ (yielded ops a.tmps)=true)(h:wpList P ops Q (⟨dst,o,t2,p,af,none⟩::rest) a w):wpList P ops Q (⟨dst,o,t2,p,af,some g⟩::rest) a w:=
 Sq b ae h
def ahU{SS:cB->Prop}(_:St w0 d l L O X wS)(k:Nat)(e:∀w,SS w->SE w0 d l L O w)(c:L[k]?=some r)(i:a.eval (.tmp x)=.pointer (some ⟨r.b,0,none⟩)){A:fJ}(b:A=ct r.n r.f)(f:jF P ty r.n)(g:Region.wanted ⟨some dst,.load ty (.tmp x),t2,p,af,gd⟩ (yielded ops a.tmps)=true:=by kernel_rfl):YieldsIf P ops SS ⟨some dst,.load ty (.tmp x),t2,p,af,gd⟩ (.agg A) a:=by have⟨⟨dd,hu,hd⟩,hi⟩:=f;have h:=yieldsIf_load_mid (P:=P) (S:=SS) (op:=⟨some dst,.load ty (.tmp x),t2,p,af,gd⟩) (ops:=ops) g ty (.tmp x) ae r.b 0 i A.toList dd (λw h=>by obtain⟨_,S⟩:=e w h;exact Av (S.oh c) b) hu hd aD;omega
theorem fR{SS:cB->Prop}{b o:Nat}(hc:∀w,SS w->w.cell? ⟨b,o,none⟩=some v)(g:a.eval (.tmp x)=.pointer (some ⟨b,o,none⟩))(d:kB P ty)(e:Region.wanted ⟨some dst,.load ty (.tmp x),t2,p,af,gd⟩ (yielded ops a.tmps)=true:=by kernel_rfl):YieldsIf P ops SS ⟨some dst,.load ty (.tmp x),t2,p,af,gd⟩ v a:=by
 have⟨⟨dd,hu,hd⟩,hi⟩:=d;refine .inl ⟨e,λw f=>?_⟩;have c:(isAgg ty).run P w=.ok false w:=by unfold isAgg;rw[kj,xC hu w];cases dd<;>simp_all [TypeDesc.isRow]
 simp_all[execOp,Instr.loadAt,Instr.sureAddr,loadVar]
def sh{SS:cB->Prop}(_:St w0 d l L O X wS)(k:Nat)(e:∀w,SS w->SE w0 d l L O w)(c:L[k]?=some r)(i:Nat)(g:r.f i=v)(b:i<r.n)(m:a.eval (.tmp x)=.pointer (some ⟨r.b,i,none⟩))(f:kB P ty)(j:Region.wanted ⟨some dst,.load ty (.tmp x),t2,p,af,gd⟩ (yielded ops a.tmps)=true:=by kernel_rfl):YieldsIf P ops SS ⟨some dst,.load ty (.tmp x),t2,p,af,gd⟩ v a:=
 fR (λw h=>by obtain⟨_,S⟩:=e w h;rw[S.cell c b,g]) m f j
theorem abR{w:cB}{base:Nat}{e:dC}{g n cap:Nat}{xs:List cI}(h:w.ownsRow base e 1 (.slice (some ⟨g,0,none⟩) n cap) n xs){j:Nat}{v:cI}(a:xs[j]?=some v):w.cell? ⟨g,j,none⟩=some v:=by have:=h.cells (g:=g) ae j v a;grind[Addr.add]
theorem aeB{SS:cB->Prop}(_:St w0 d l L O X wS)(k:Nat){o:O4}(c:∀w,SS w->SE w0 d l L O w)(b:O[k]?=some o)(t:o.z=1){g:Nat}(s:o.v=.slice (some ⟨g,0,none⟩) n cap)(r:o.n=n)(j:Nat)(q:o.xs[j]?=some v)(i:a.eval (.tmp x)=.pointer (some ⟨g,j,none⟩))(e:kB P ty)(f:Region.wanted ⟨some dst,.load ty (.tmp x),t2,p,af,gd⟩ (yielded ops a.tmps)=true:=by kernel_rfl):YieldsIf P ops SS ⟨some dst,.load ty (.tmp x),t2,p,af,gd⟩ v a:=
 fR (λw h=>by obtain⟨_,S⟩:=c w h;have m:=S.s8 b;grind[abR]) i e f
def FD(S:St w0 d l L O X w)(c:∀w,(zeroValue ty).run P w=.ok (.agg Z) w)(b:Z=ct n f)(ho:fT ty=false)(h:∀W,St w0 d l (⟨w.heap.size,ty,n,f⟩::L) O X W->K (a.put (some dst) (.pointer (some ⟨w.heap.size,0,none⟩))) W):Oper.wp P ⟨some dst,.alloc ty,t2,p,af,none⟩ a w K Q:=by unfold Oper.wp execOp;simp only[kj,Instr.alloc,c,newVar,newRow,EM,qq,mS];exact h _ (S.alloc ty b ho)
def ju(S:St w0 d l L O X w)(k:Nat)(b:L[k]?=some r){A:fJ}(j:a.eval (.tmp x)=.pointer (some ⟨r.b,0,none⟩))(m:a.eval (.tmp y)=.agg A)(e:A=ct r.n f)(g:jF P ty r.n)(c:∀i,(f i).oneCell'=true)(h:∀W,St w0 d l (L.set k ⟨r.b,r.t,r.n,f⟩) O X W->K (a.put none undef) W):Oper.wp P ⟨none,.store ty (.tmp x) (.tmp y),t2,p,af,none⟩ a w K Q:=by subst e;unfold Oper.wp execOp;simp only[j,m,Instr.storeAt,Instr.sureAddr,kj,qq,mS,run_storeVar_row w ty r.b r.t r.n r.f f (S.oh b) g.2 c];exact h _ (S.set b f)
theorem ahV(S:St w0 d l L O X w)(k:Nat)(e:L[k]?=some r)(i:Nat)(B:i<r.n)(z:a.eval (.tmp x)=.pointer (some ⟨r.b,i,none⟩))(A:a.eval q=v)(y:v.oneCell'=true)(f:kB P ty)(h:∀W,St w0 d l (L.set k ⟨r.b,r.t,r.n,λj=>if j=i then v else r.f j⟩) O X W->K (a.put none undef) W):Oper.wp P ⟨none,.store ty (.tmp x) q,t2,p,af,none⟩ a w K Q:=by
 have b:=mO (S.oh e) (o:=i) (n:=1) cw;have c:=KU (P:=P) r.b i [v] 0 w (λj m=>by simpa using(b j cw).1) (λj m=>by simpa using(b j cw).2) (λu C=>by grind);have hc:v.cells=#[v]:=by cases v<;>first|rfl|cases y
 have g:(storeVar ty ⟨r.b,i,none⟩ v).run P w=.ok () (w.setCell ⟨r.b,i,none⟩ v):=by cases s:P.info? ty with|none=>have:=f.2;grind|some it=>(have t:it.size=1:=by have:=f.2;grind);simp only[wi] at c;simp[storeVar,sizeOf,typeInfo,s,hc,t,c];rfl
 unfold Oper.wp execOp;simp only[z,A,Instr.storeAt,Instr.sureAddr,kj,qq,mS,g];exact h _ (S.put e i v)
end
class pS(ty:dC):Prop where
 h:kB prog ty
class rB(ty:dC)(n:outParam Nat):Prop where
 h:jF prog ty n
instance ina5898 :rB 106 3:=⟨eN⟩
instance in030b1 :rB 191 24:=⟨Bd⟩
instance inf6ee7 :rB 36 128:=⟨BT⟩
instance in7c776 :rB 143 7:=⟨DN⟩
instance in547ec :pS 82:=⟨fg⟩
instance in65a1c :pS 3:=⟨BU⟩
section
variable {w:World}{Q:Exit->Act->World->Prop}
def jo(dst ty x:Nat)[h1:pS ty]{b o:Nat}(hc:w.cell? ⟨b,o,none⟩=some v)(h:wpList prog ops Q rest (a.put (some dst) v) w)(c:a.eval (.tmp x)=.pointer (some ⟨b,o,none⟩):=by with_unfolding_all rfl):wpList prog ops Q (⟨some dst,.load ty (.tmp x),t2,p,af,none⟩::rest) a w:=iB hc c h1.h h
def jg(dst ty x:Nat)[h1:pS ty]{b o:Nat}(hc:w.cell? ⟨b,o,none⟩=some v)(h:wpList prog ops Q rest (a.put (some dst) v) w)(d:a.eval (.tmp x)=.pointer (some ⟨b,o,none⟩):=by with_unfolding_all rfl)(c:Region.wanted ⟨some dst,.load ty (.tmp x),t2,p,af,some g⟩ (yielded ops a.tmps)=true:=by kernel_rfl):wpList prog ops Q (⟨some dst,.load ty (.tmp x),t2,p,af,some g⟩::rest) a w:=lh c (iB hc d h1.h h)
def jl(dst ty x:Nat)[h1:pS ty](S:St w0 d l L O X w)(k i:Nat)(v:cI)(h:wpList prog ops Q rest (a.put (some dst) v) w)(c:L[k]?=some r:=by with_unfolding_all rfl)(e:r.f i=v:=by with_unfolding_all rfl)(b:i<r.n:=by with_unfolding_all exact lr rfl)(f:a.eval (.tmp x)=.pointer (some ⟨r.b,i,none⟩):=by with_unfolding_all rfl):wpList prog ops Q (⟨some dst,.load ty (.tmp x),t2,p,af,none⟩::rest) a w:=xM S k c i e b f h1.h h
def jm(dst ty x:Nat)[h1:pS ty](S:St w0 d l L O X w)(k i:Nat)(v:cI)(h:wpList prog ops Q rest (a.put (some dst) v) w)(c:L[k]?=some r:=by with_unfolding_all rfl)(e:r.f i=v:=by with_unfolding_all rfl)(b:i<r.n:=by with_unfolding_all exact lr rfl)(j:a.eval (.tmp x)=.pointer (some ⟨r.b,i,none⟩):=by with_unfolding_all rfl)(f:Region.wanted ⟨some dst,.load ty (.tmp x),t2,p,af,some g⟩ (yielded ops a.tmps)=true:=by kernel_rfl):wpList prog ops Q (⟨some dst,.load ty (.tmp x),t2,p,af,some g⟩::rest) a w:=lh f (xM S k c i e b j h1.h h)
def jr(dst ty x:Nat)[h1:rB ty n](S:St w0 d l L O X w)(k:Nat){b:Nat}(c:A=ct n f)(h:wpList prog ops Q rest (a.put (some dst) (.agg A)) w)(e:L[k]?=some ⟨b,t,n,f⟩:=by with_unfolding_all rfl)(g:a.eval (.tmp x)=.pointer (some ⟨b,0,none⟩):=by with_unfolding_all rfl):wpList prog ops Q (⟨some dst,.load ty (.tmp x),t2,p,af,none⟩::rest) a w:=Oo S k e g c h1.h h
def jj(dst ty x:Nat)[h1:rB ty n](S:St w0 d l L O X w)(k:Nat){b:Nat}(c:A=ct n f)(h:wpList prog ops Q rest (a.put (some dst) (.agg A)) w)(e:L[k]?=some ⟨b,t,n,f⟩:=by with_unfolding_all rfl)(j:a.eval (.tmp x)=.pointer (some ⟨b,0,none⟩):=by with_unfolding_all rfl)(i:Region.wanted ⟨some dst,.load ty (.tmp x),t2,p,af,some g⟩ (yielded ops a.tmps)=true:=by kernel_rfl):wpList prog ops Q (⟨some dst,.load ty (.tmp x),t2,p,af,some g⟩::rest) a w:=lh i (Oo S k e j c h1.h h)
def js(ty x y:Nat)[h1:rB ty n](S:St w0 d l L O X w)(k:Nat){g:Nat->cI}{b:Nat}(e:A=ct n f)(c:∀i,(f i).oneCell'=true)(h:∀W,St w0 d l (L.set k ⟨b,t,n,f⟩) O X W->wpList prog ops Q rest (a.put none undef) W)(j:L[k]?=some ⟨b,t,n,g⟩:=by with_unfolding_all rfl)(m:a.eval (.tmp x)=.pointer (some ⟨b,0,none⟩):=by with_unfolding_all rfl)(o:a.eval (.tmp y)=.agg A:=by with_unfolding_all rfl):wpList prog ops Q (⟨none,.store ty (.tmp x) (.tmp y),t2,p,af,none⟩::rest) a w:=Ss S k j m o e h1.h c h
def jb(dst ty:Nat)(S:St w0 d l L O X w){Z:Array cI}(c:∀w,(zeroValue ty).run prog w=.ok (.agg Z) w)(b:Z=ct n f)(h:∀W,St w0 d l (⟨w.heap.size,ty,n,f⟩::L) O X W->wpList prog ops Q rest (a.put (some dst) (.pointer (some ⟨w.heap.size,0,none⟩))) W)(ho:fT ty=false:=by with_unfolding_all rfl):wpList prog ops Q (⟨some dst,.alloc ty,t2,p,af,none⟩::rest) a w:=uW S c b ho h
def jx(dst ty x:Nat)(S:St w0 d l L O X w)(b:A=ct n f)(h:∀W,St w0 d l (⟨w.heap.size,ty,n,f⟩::L) O X W->wpList prog ops Q rest (a.put (some dst) (.pointer (some ⟨w.heap.size,0,none⟩))) W)(c:a.eval (.tmp x)=.agg A:=by with_unfolding_all rfl)(ho:fT ty=false:=by with_unfolding_all rfl):wpList prog ops Q (⟨some dst,.box ty (.tmp x),t2,p,af,none⟩::rest) a w:=xN S c b ho h
def lB{n:Fi}(C:CP_ n args w λe w'=>e=.returned v/\w=w')(h:R (.returned v) w):CP_ n args w R:=
 C.mono λe W ⟨he,hb⟩=>by subst he hb;exact h
def je{n:Fi}(S:St w0 d l L O X w)(C:CP_ n args w λe w'=>e=.returned v/\Below w.heap.size w w')(h:∀W,St w0 d l L O X W->R (.returned v) W):CP_ n args w R:=
 C.mono λe W ⟨he,hb⟩=>by subst he;exact h W (S.cx hb)
def jz(h:P:=by first|exact⟨_,S⟩|exact⟨_,_,_,S⟩|exact⟨_,_,S,λ_ a=>absurd a iS⟩|exact⟨_,_,_,S,λ_ a=>absurd a iS⟩|exact⟨_,_,_,S,λ_ a=>absurd a iS,S.x.1.1.2⟩|exact⟨_,_,_,S,by simp only[mml,mmp,implies_true],S.x.1.1.2⟩|exact⟨_,_,S,by simp only[mml,mmp,implies_true]⟩|exact⟨_,_,_,S,by simp only[mml,mmp,implies_true]⟩):P:=h
end
section
variable {P:kS}{w:World}{Q:Exit->Act->World->Prop}
theorem Zd{g:Nat->cI}(h:∀i,i<n->f i=g i):ct n f=ct n g:=by
 apply xb;intro i;rw[cU,cU];split;next hi=>rw[h i hi]
 rfl
def St.wv(S:St w0 d l L O X w)(e:L[k]?=some r){g:Nat->cI}(f:∀i,i<r.n->g i=r.f i):St w0 d l (L.set k ⟨r.b,r.t,r.n,g⟩) O X w:=by have a:dM (L.set k ⟨r.b,r.t,r.n,g⟩) O=dM L O:=fK (· ++O.filterMap O4.ob) (DM (r':=⟨r.b,r.t,r.n,g⟩) e ae);refine⟨S.fr,λq j=>?_,S.own,by rw[a];exact S.lo,by rw[a];exact S.nd,by rw[a];exact S.x,S.k8⟩;rcases wq j with h1|rfl;exact S.row q h1;have c:=S.row r (kt e);refine⟨?_,c.2⟩;have b:=c.1;unfold cu at b|-;(show w.heap[r.b]?=_);rw[b,Zd (λi h=>(f i h).symm)]
def vU(S:St w0 d l L O X w)(k:Nat)(e:L[k]?=some r)(i:Nat)(g:Nat->cI)(f:∀j,j<r.n->g j=if j=i then v else r.f j)(m:i<r.n)(s:a.eval (.tmp x)=.pointer (some ⟨r.b,i,none⟩))(t:a.eval q=v)(o:v.oneCell'=true)(n:kB P ty)(h:∀W,St w0 d l (L.set k ⟨r.b,r.t,r.n,g⟩) O X W->wpList P ops Q rest (a.put none undef) W):wpList P ops Q (⟨none,.store ty (.tmp x) q,t2,p,af,none⟩::rest) a w:=by refine tR S k e i m s t o n λW hS=>h W ?_;have b:k<L.length:=(mQ.1 e).1;have c:=hS.wv (k:=k) (r:=⟨r.b,r.t,r.n,λj=>if j=i then v else r.f j⟩) (by rw[z8,cL ae,cL b]) (g:=g) f;rw[set_set] at c;exact c
def BX(S:St w0 d l L O X w)(e:a.eval (.tmp x)=v)(c:v.cells=#[v])(ho:fT ty=false)(h:∀W,St w0 d l (⟨w.heap.size,ty,1,λ_=>v⟩::L) O X W->wpList P ops Q rest (a.put (some dst) (.pointer (some ⟨w.heap.size,0,none⟩))) W):wpList P ops Q (⟨some dst,.box ty (.tmp x),t2,p,af,none⟩::rest) a w:=by refine lF ae λK b=>?_;unfold Oper.wp execOp;simp only[kj,Instr.box,newVar,newRow,EM,qq,mS];rw[e,c];exact akR
end
def zC{P:kS}{w:World}{Q:Exit->Act->World->Prop}(S:St w0 d l L O X w)(c:∀w,(zeroValue ty).run P w=.ok v w)(hc:v.cells=#[v])(ho:fT ty=false)(h:∀W,St w0 d l (⟨w.heap.size,ty,1,λ_=>v⟩::L) O X W->wpList P ops Q rest (a.put (some dst) (.pointer (some ⟨w.heap.size,0,none⟩))) W):wpList P ops Q (⟨some dst,.alloc ty,t2,p,af,none⟩::rest) a w:=by refine lF ae λK b=>?_;unfold Oper.wp execOp;simp only[kj,Instr.alloc,c,newVar,newRow,EM,qq,mS];rw[hc];exact akR
def rd2{P:kS}{w:World}{Q:Exit->Act->World->Prop}{o:Oper}(f:Region.ready .any ops listed=[i,j])(ho:ops[i]?=some o)(c:ops[j]?=some o')(g:Region.wanted o (yielded ops a.tmps)=true)(d:Region.wanted o' (yielded ops a.tmps)=true)(h:∀K,Shut (∀a w,SS w->(SS w->wpAnyH P .any ops Q SS fuel (listed.setIfInBounds i true) a w)->K a w)->o.wp P a w K Q)(e:∀K,Shut (∀a w,SS w->(SS w->wpAnyH P .any ops Q SS fuel (listed.setIfInBounds j true) a w)->K a w)->o'.wp P a w K Q):wpAnyH P .any ops Q SS (fuel+1) listed a w:=
 wpAnyH_ready f (by simp) (AllReadyH.cons ho (λK b=>by rw[cL g];exact h K b) (AllReadyH.cons c (λK b=>by rw[cL d];exact e K b) .nil))
section
variable {w:World}{Q:Exit->Act->World->Prop}
def Be(h:P:=by simp only[mml,mmp,implies_true]):P:=h
def jQ(i:Nat){o:Oper}(h:∀K,Shut (∀a w,SS w->(SS w->wpAnyH prog .any ops Q SS fuel (listed.setIfInBounds i true) a w)->K a w)->o.wp prog a w K Q)(b:Region.ready .any ops listed=[i]:=by kernel_rfl)(ho:ops[i]?=some o:=by rfl)(c:Region.wanted o (yielded ops a.tmps)=true:=by kernel_rfl):wpAnyH prog .any ops Q SS (fuel+1) listed a w:=rd1 b ho c h
def oJ(i:Nat){o:Oper}(h:∀K,Shut (∀a w,SS w->(SS w->wpAnyH prog .any ops Q SS fuel (listed.setIfInBounds i true) a w)->K a w)->o.wp prog a w K Q)(b:Region.ready .any ops listed=[i]:=by decide+kernel)(ho:ops[i]?=some o:=by rfl)(c:Region.wanted o (yielded ops a.tmps)=true:=by kernel_rfl):wpAnyH prog .any ops Q SS (fuel+1) listed a w:=rd1 b ho c h
def Xx(i j:Nat){o:Oper}(h:∀K,Shut (∀a w,SS w->(SS w->wpAnyH prog .any ops Q SS fuel (listed.setIfInBounds i true) a w)->K a w)->o.wp prog a w K Q)(d:∀K,Shut (∀a w,SS w->(SS w->wpAnyH prog .any ops Q SS fuel (listed.setIfInBounds j true) a w)->K a w)->o'.wp prog a w K Q)(e:Region.ready .any ops listed=[i,j]:=by kernel_rfl)(ho:ops[i]?=some o:=by rfl)(b:ops[j]?=some o':=by rfl)(f:Region.wanted o (yielded ops a.tmps)=true:=by kernel_rfl)(c:Region.wanted o' (yielded ops a.tmps)=true:=by kernel_rfl):wpAnyH prog .any ops Q SS (fuel+1) listed a w:=rd2 e ho b f c h d
def zX(i j:Nat){o:Oper}(h:∀K,Shut (∀a w,SS w->(SS w->wpAnyH prog .any ops Q SS fuel (listed.setIfInBounds i true) a w)->K a w)->o.wp prog a w K Q)(d:∀K,Shut (∀a w,SS w->(SS w->wpAnyH prog .any ops Q SS fuel (listed.setIfInBounds j true) a w)->K a w)->o'.wp prog a w K Q)(e:Region.ready .any ops listed=[i,j]:=by decide+kernel)(ho:ops[i]?=some o:=by rfl)(b:ops[j]?=some o':=by rfl)(f:Region.wanted o (yielded ops a.tmps)=true:=by kernel_rfl)(c:Region.wanted o' (yielded ops a.tmps)=true:=by kernel_rfl):wpAnyH prog .any ops Q SS (fuel+1) listed a w:=rd2 e ho b f c h d
def pz(h:Q .normal a w)(b:Region.ready .any ops listed=[]:=by kernel_rfl):wpAnyH prog .any ops Q SS fuel listed a w:=wpAnyH_done b h _
def Rp(h:Hid (Q .normal a w))(b:Region.ready .any ops listed=[]:=by decide+kernel):wpAnyH prog .any ops Q SS fuel listed a w:=wpAnyH_done b h.o _
def fC{K:Act->World->Prop}{Z:Act->World->Prop}(b:Shut (∀a w,SS w->(SS w->Z a w)->K a w))(q:Q')(h:Q'->Z a w:=by intro q;(try simp only[MH]);exact q)(hS:SS w:=by exact jz):K a w:=b.out _ _ hS λ_=>h q
def aM(h:YieldsIf prog ops SS ⟨some dst,.load ty (.tmp x),t2,p,af,gd⟩ v a):YieldsIf prog ops SS ⟨some dst,.load ty (.tmp x),t2,p,af,gd⟩ v a:=h
def yR{wS:World}(S:St w0 d l L O X wS)(k:Nat){b:Nat}(g:∀w,SS w->SE w0 d l L O w)(e:L[k]?=some ⟨b,t,n,f⟩)(i:a.eval (.tmp x)=.pointer (some ⟨b,0,none⟩))[h1:rB ty n](c:A=ct n f)(h:Region.wanted ⟨some dst,.load ty (.tmp x),t2,p,af,gd⟩ (yielded ops a.tmps)=true:=by kernel_rfl):YieldsIf prog ops SS ⟨some dst,.load ty (.tmp x),t2,p,af,gd⟩ (.agg A) a:=ahU S k g e i c h1.h h
def hy_(h:P:=by first|exact ahT rfl|exact aeA rfl|(refine aM ?_;first|exact sh S 0 (λ_ h=>h) rfl _ rfl (lr rfl) rfl pS.h|exact sh S 1 (λ_ h=>h) rfl _ rfl (lr rfl) rfl pS.h|exact sh S 2 (λ_ h=>h) rfl _ rfl (lr rfl) rfl pS.h|exact sh S 3 (λ_ h=>h) rfl _ rfl (lr rfl) rfl pS.h|exact sh S 4 (λ_ h=>h) rfl _ rfl (lr rfl) rfl pS.h|exact sh S 5 (λ_ h=>h) rfl _ rfl (lr rfl) rfl pS.h|exact fR (λw h=>cu.cell (h.row 0 rfl) (lr rfl)) rfl pS.h|exact fR (λw h=>cu.cell (h.row 1 rfl) (lr rfl)) rfl pS.h|exact fR (λw h=>cu.cell (h.row 2 rfl) (lr rfl)) rfl pS.h|exact fR (λw h=>cu.cell (h.row 3 rfl) (lr rfl)) rfl pS.h|exact fR (λw h=>cu.cell (h.row 4 rfl) (lr rfl)) rfl pS.h|exact yR S 0 (λ_ h=>h) rfl rfl Xy|exact yR S 1 (λ_ h=>h) rfl rfl Xy|exact yR S 2 (λ_ h=>h) rfl rfl Xy|exact yR S 3 (λ_ h=>h) rfl rfl Xy)|exact Or.inl ⟨by kernel_rfl,λw a=>by(try simp only[cZ]);go_simp⟩):P:=h
def cJ(i:Nat)(v:cI){rf:Oper}(q:Q')(f:ops[i]?=some rf:=by rfl)(d:rf.dst=some dst:=by rfl)(k:YieldsIf prog ops SS rf v a:=by exact hy_)(h:Q'->wpAnyH prog .any ops Q SS fuel (listed.setIfInBounds i true) (a.put (some dst) v) w:=by intro q;simp only[MH,cZ];exact q)(hS:SS w:=by exact jz)(j:Region.noSelect ops=true:=by kernel_rfl)(e:Region.free .any ops listed i=true:=by kernel_rfl)(g:(Region.ready .any ops listed).contains i=true:=by kernel_rfl)(b:∀c a w,Q (.panic c) (a.put (some dst) v) w->Q (.panic c) a w:=by exact λ_ _ _ h=>h):wpAnyH prog .any ops Q SS (fuel+1) listed a w:=tkG i (some dst) v hS f d j e g b k (h q)
def mi(i:Nat)(v:cI){rf:Oper}(q:Q')(f:ops[i]?=some rf:=by rfl)(d:rf.dst=some dst:=by rfl)(g:(Region.ready .any ops listed).contains i=true:=by decide+kernel)(k:YieldsIf prog ops SS rf v a:=by exact hy_)(h:Q'->wpAnyH prog .any ops Q SS fuel (listed.setIfInBounds i true) (a.put (some dst) v) w:=by intro q;simp only[MH,cZ];exact q)(hS:SS w:=by exact jz)(j:Region.noSelect ops=true:=by kernel_rfl)(e:Region.free .any ops listed i=true:=by kernel_rfl)(b:∀c a w,Q (.panic c) (a.put (some dst) v) w->Q (.panic c) a w:=by exact λ_ _ _ h=>h):wpAnyH prog .any ops Q SS (fuel+1) listed a w:=tkG i (some dst) v hS f d j e g b k (h q)
def fW(i:Nat)(v:cI){rf:Oper}(f:ops[i]?=some rf)(k:YieldsIf prog ops SS rf v a)(q:Q')(d:rf.dst=some dst:=by rfl)(h:Q'->wpAnyH prog .any ops Q SS fuel (listed.setIfInBounds i true) (a.put (some dst) v) w:=by intro q;simp only[MH,cZ];exact q)(hS:SS w:=by exact jz)(j:Region.noSelect ops=true:=by kernel_rfl)(e:Region.free .any ops listed i=true:=by kernel_rfl)(g:(Region.ready .any ops listed).contains i=true:=by kernel_rfl)(b:∀c a w,Q (.panic c) (a.put (some dst) v) w->Q (.panic c) a w:=by exact λ_ _ _ h=>h):wpAnyH prog .any ops Q SS (fuel+1) listed a w:=tkG i (some dst) v hS f d j e g b k (h q)
def nv_(i:Nat)(v:cI){rf:Oper}(f:ops[i]?=some rf)(k:YieldsIf prog ops SS rf v a)(q:Q')(d:rf.dst=some dst:=by rfl)(g:(Region.ready .any ops listed).contains i=true:=by decide+kernel)(h:Q'->wpAnyH prog .any ops Q SS fuel (listed.setIfInBounds i true) (a.put (some dst) v) w:=by intro q;simp only[MH,cZ];exact q)(hS:SS w:=by exact jz)(j:Region.noSelect ops=true:=by kernel_rfl)(e:Region.free .any ops listed i=true:=by kernel_rfl)(b:∀c a w,Q (.panic c) (a.put (some dst) v) w->Q (.panic c) a w:=by exact λ_ _ _ h=>h):wpAnyH prog .any ops Q SS (fuel+1) listed a w:=tkG i (some dst) v hS f d j e g b k (h q)
def oA(i:Nat){rf:Oper}(q:Q')(f:ops[i]?=some rf:=by rfl)(d:rf.dst=some dst:=by rfl)(k:Region.wanted rf (yielded ops a.tmps)=false:=by kernel_rfl)(h:Q'->wpAnyH prog .any ops Q SS fuel (listed.setIfInBounds i true) (a.put (some dst) undef) w:=by intro q;simp only[MH,cZ];exact q)(hS:SS w:=by exact jz)(j:Region.noSelect ops=true:=by kernel_rfl)(e:Region.free .any ops listed i=true:=by kernel_rfl)(g:(Region.ready .any ops listed).contains i=true:=by kernel_rfl)(b:∀c a w,Q (.panic c) (a.put (some dst) undef) w->Q (.panic c) a w:=by exact λ_ _ _ h=>h):wpAnyH prog .any ops Q SS (fuel+1) listed a w:=tkG i (some dst) undef hS f d j e g b (aiW k) (h q)
def pF(w:World):St w none [] [] [] (λ_ _=>True) w:=St.start w none [] vt gI
def St.k0{r0:R4}(S:St w0 d l (r0::L) O X w):cu w r0.b r0.t r0.n r0.f:=S.oh (k:=0) ae
theorem St.k1{r0 jQ:R4}(S:St w0 d l (r0::jQ::L) O X w):cu w jQ.b jQ.t jQ.n jQ.f:=S.oh (k:=1) ae
theorem St.k2{r0 jQ Xx:R4}(S:St w0 d l (r0::jQ::Xx::L) O X w):cu w Xx.b Xx.t Xx.n Xx.f:=S.oh (k:=2) ae
def St.o0(S:St w0 d l L (r0::O) X w):w.ownsRow w0.heap.size r0.e r0.z r0.v r0.n r0.xs:=S.s8 (k:=0) ae
def St.o1{jQ:O4}(S:St w0 d l L (r0::jQ::O) X w):w.ownsRow w0.heap.size jQ.e jQ.z jQ.v jQ.n jQ.xs:=S.s8 (k:=1) ae
def St.o2{jQ Xx:O4}(S:St w0 d l L (r0::jQ::Xx::O) X w):w.ownsRow w0.heap.size Xx.e Xx.z Xx.v Xx.n Xx.xs:=S.s8 (k:=2) ae
def St.q0{e:Nat}(S:St w0 d l L (⟨e,z,v,n,xs⟩::O) X w):cK w e z v n xs:=cK.iW S.o0
theorem St.q1{e:Nat}(S:St w0 d l L (r0:: ⟨e,z,v,n,xs⟩::O) X w):cK w e z v n xs:=cK.iW S.o1
theorem St.b(S:St w0 none [] L O X w):Below w0.heap.size w0 w:=S.fr.cx
def wR(h:P:=by unfold maxLen;(try simp only);omega):P:=h
def Br(h:P:=by(try simp only);omega):P:=h
theorem sp_(h:P:=by simp;omega):P:=h
def tL(h:Hid (A=ct n f)):A.size=n:=by rw[h.o,cF]
def ha_(h:A=ct n f):A.size=n:=by rw[h,cF]
def P6{o:Op}{dst:Option Nat}{g:Option (Nat×Bool)}(b:Region.wanted ⟨dst,o,t2,p,af,g⟩ (yielded ops a.tmps)=true)(h:wpList prog ops Q (⟨dst,o,t2,p,af,none⟩::rest) a w):wpList prog ops Q (⟨dst,o,t2,p,af,g⟩::rest) a w:=by cases g with|none=>exact h|some g=>exact lh b h
section
def aQ_(h:wpList prog ops Q (⟨some dst,.load ty (.tmp x),t2,p,af,gd⟩::rest) a w):wpList prog ops Q (⟨some dst,.load ty (.tmp x),t2,p,af,gd⟩::rest) a w:=h
def yi[h1:pS ty]{b o:Nat}(hc:w.cell? ⟨b,o,none⟩=some v)(h:wpList prog ops Q rest (a.put (some dst) v) w)(d:a.eval (.tmp x)=.pointer (some ⟨b,o,none⟩):=by with_unfolding_all rfl)(c:Region.wanted ⟨some dst,.load ty (.tmp x),t2,p,af,gd⟩ (yielded ops a.tmps)=true:=by kernel_rfl):
 wpList prog ops Q (⟨some dst,.load ty (.tmp x),t2,p,af,gd⟩::rest) a w:=P6 c (iB hc d h1.h h)
def Bf{b o:Nat}(R:cK w e z (.slice (some ⟨b,o,none⟩) n cap) n xs)(f:j<n)(c:A.size=z)(d:∀i,i<z->xs[j*z+i]?=A[i]?)(h:wpList prog ops Q rest (a.put (some dst) (.agg A)) w)[h1:rB ty z](k:a.eval (.tmp x)=.pointer (some ⟨b,o+j*z,none⟩):=by with_unfolding_all rfl)(g:Region.wanted ⟨some dst,.load ty (.tmp x),t2,p,af,gd⟩ (yielded ops a.tmps)=true:=by kernel_rfl):wpList prog ops Q (⟨some dst,.load ty (.tmp x),t2,p,af,gd⟩::rest) a w:=P6 g (agq R f k c d h1.h h)
def Db(S:St w0 d l L O X w)(k:Nat)(c:L[k]?=some r)(i:Nat)[h1:pS ty](e:r.f i=v)(h:wpList prog ops Q rest (a.put (some dst) v) w)(b:i<r.n:=by with_unfolding_all exact lr rfl)(g:a.eval (.tmp x)=.pointer (some ⟨r.b,i,none⟩):=by with_unfolding_all rfl)(f:Region.wanted ⟨some dst,.load ty (.tmp x),t2,p,af,gd⟩ (yielded ops a.tmps)=true:=by kernel_rfl):wpList prog ops Q (⟨some dst,.load ty (.tmp x),t2,p,af,gd⟩::rest) a w:=P6 f (xM S k c i e b g h1.h h)
def oM_(S:St w0 d l L O X w)(k:Nat)(e:L[k]?=some r){o:Nat}(g:Nat->cI)(c:∀i,i<m->r.f (o+i)=g i)(b:A=ct m g)(h:wpList prog ops Q rest (a.put (some dst) (.agg A)) w)[h1:rB ty m](f:o+m<=r.n:=by with_unfolding_all exact lr rfl)(n:a.eval (.tmp x)=.pointer (some ⟨r.b,o,none⟩):=by with_unfolding_all rfl)(j:Region.wanted ⟨some dst,.load ty (.tmp x),t2,p,af,gd⟩ (yielded ops a.tmps)=true:=by kernel_rfl):wpList prog ops Q (⟨some dst,.load ty (.tmp x),t2,p,af,gd⟩::rest) a w:=P6 j (Oq S k e n g f c b h1.h h)
end
end
class CV(f:Nat->cI)(i:Nat)(v:outParam cI):Prop where
 h:f i=v
class OF(f:Nat->cI):Prop where
 h:∀i,(f i).oneCell'=true
class ZR(ty:dC)(n:outParam Nat)(f:outParam (Nat->cI)):Prop where
 h:∃Z,(∀w,(zeroValue ty).run prog w=.ok (.agg Z) w)/\Z=ct n f
class Z1(ty:dC)(v:outParam cI):Prop where
 h:(∀w,(zeroValue ty).run prog w=.ok v w)/\v.cells=#[v]
class AO(A:Array cI)(n:outParam Nat)(f:outParam (Nat->cI)):Prop where
 h:A=ct n f
class B0(ty:dC)(A:outParam (Array cI)):Prop where
 h:prog.built ty []=some A
instance cvK(v:cI)(i:Nat):CV (λ_=>v) i v:=⟨rfl⟩
section
variable {w:World}{Q:Exit->Act->World->Prop}{P:kS}
def aL(h:wpList P ops Q (⟨some dst,.load ty (.tmp x),t2,p,af,none⟩::rest) a w):wpList P ops Q (⟨some dst,.load ty (.tmp x),t2,p,af,none⟩::rest) a w:=h
def aA(h:wpList P ops Q (⟨some dst,.alloc ty,t2,p,af,none⟩::rest) a w):wpList P ops Q (⟨some dst,.alloc ty,t2,p,af,none⟩::rest) a w:=h
def aB(h:wpList P ops Q (⟨some dst,.box ty (.tmp x),t2,p,af,none⟩::rest) a w):wpList P ops Q (⟨some dst,.box ty (.tmp x),t2,p,af,none⟩::rest) a w:=h
def gL(S:St w0 d l L O X w){b:Nat}[h1:pS ty](j:a.eval (.tmp x)=.pointer (some ⟨b,i,none⟩))(g:L[k]?=some ⟨b,t,n,f⟩)[c:CV f i v](e:i<n)(h:wpList prog ops Q rest (a.put (some dst) v) w):
 wpList prog ops Q (⟨some dst,.load ty (.tmp x),t2,p,af,none⟩::rest) a w:=xM S k g i c.h e j h1.h h
def gR(S:St w0 d l L O X w)[h1:rB ty n]{b:Nat}(g:a.eval (.tmp x)=.pointer (some ⟨b,0,none⟩))(e:L[k]?=some ⟨b,t,n,f⟩)(c:A=ct n f)(h:wpList prog ops Q rest (a.put (some dst) (.agg A)) w):
 wpList prog ops Q (⟨some dst,.load ty (.tmp x),t2,p,af,none⟩::rest) a w:=Oo S k e g c h1.h h
def gA(S:St w0 d l L O X w)[c:ZR ty n f](ho:fT ty=false)(h:∀W,St w0 d l (⟨w.heap.size,ty,n,f⟩::L) O X W->wpList prog ops Q rest (a.put (some dst) (.pointer (some ⟨w.heap.size,0,none⟩))) W):
 wpList prog ops Q (⟨some dst,.alloc ty,t2,p,af,none⟩::rest) a w:=by have⟨Z,h1,h2⟩:=c.h;exact uW S h1 h2 ho h
def gA1(S:St w0 d l L O X w)[c:Z1 ty v](ho:fT ty=false)(h:∀W,St w0 d l (⟨w.heap.size,ty,1,λ_=>v⟩::L) O X W->wpList prog ops Q rest (a.put (some dst) (.pointer (some ⟨w.heap.size,0,none⟩))) W):
 wpList prog ops Q (⟨some dst,.alloc ty,t2,p,af,none⟩::rest) a w:=zC S c.h.1 c.h.2 ho h
def gB(S:St w0 d l L O X w)[h1:rB ty n](c:a.eval (.tmp x)=.agg A)(b:A=ct n f)(ho:fT ty=false)(h:∀W,St w0 d l (⟨w.heap.size,ty,n,f⟩::L) O X W->wpList prog ops Q rest (a.put (some dst) (.pointer (some ⟨w.heap.size,0,none⟩))) W):
 wpList prog ops Q (⟨some dst,.box ty (.tmp x),t2,p,af,none⟩::rest) a w:=xN S c b ho h
def gS(S:St w0 d l L O X w)[h1:rB ty n]{b:Nat}{g:Nat->cI}(m:a.eval (.tmp x)=.pointer (some ⟨b,0,none⟩))(j:L[k]?=some ⟨b,t,n,g⟩)(o:a.eval (.tmp y)=.agg A)(e:A=ct n f)[c:OF f](i:L.set k ⟨b,t,n,f⟩=M)(h:∀W,St w0 d l M O X W->wpList prog ops Q rest (a.put none undef) W):
 wpList prog ops Q (⟨none,.store ty (.tmp x) (.tmp y),t2,p,af,none⟩::rest) a w:=Ss S k j m o e h1.h c.h (i▸h)
def gN(S:St w0 d l L O X w){Z:Array cI}[h1:rB ty n](g:a.eval (.tmp x)=.pointer (some ⟨w.heap.size,0,none⟩))(i:a.eval (.tmp y)=.agg A)(b:A=ct n f)[c:OF f](ho:fT ty=false)(e:Z.size=n)(h:∀W,St w0 d l (⟨w.heap.size,ty,n,f⟩::L) O X W->wpList prog ops Q rest (a.put none undef) W):
 wpList prog ops Q (⟨none,.store ty (.tmp x) (.tmp y),t2,p,af,none⟩::rest) a (w.alloc (.cells Z ty)):=nO S g i b h1.h ho e c.h h
def aC(h:wpList P ops Q (⟨some dst,.buildSlice ty 1 #[(0,.tmp x)],t2,p,af,none⟩::rest) a w):wpList P ops Q (⟨some dst,.buildSlice ty 1 #[(0,.tmp x)],t2,p,af,none⟩::rest) a w:=h
def aP(h:wpList P ops Q (⟨none,.store ty (.tmp x) q,t2,p,af,none⟩::rest) a w):wpList P ops Q (⟨none,.store ty (.tmp x) q,t2,p,af,none⟩::rest) a w:=h
def aU(h:wpList P ops Q (⟨some dst,.build ty #[],t2,p,af,none⟩::rest) a w):wpList P ops Q (⟨some dst,.build ty #[],t2,p,af,none⟩::rest) a w:=h
def gP(S:St w0 d l L O X w)[h1:pS ty]{b:Nat}(m:a.eval (.tmp x)=.pointer (some ⟨b,0,none⟩))(g:L[k]?=some ⟨b,t,1,f⟩)(n:a.eval q=v)(i:v.oneCell'=true)(e:L.set k ⟨b,t,1,λ_=>v⟩=M)(h:∀W,St w0 d l M O X W->wpList prog ops Q rest (a.put none undef) W):
 wpList prog ops Q (⟨none,.store ty (.tmp x) q,t2,p,af,none⟩::rest) a w:=
 vU S k g 0 (λ_=>v) (λj c=>by have c:j<1:=c;obtain rfl:j=0:=(by omega);rfl) Nat.one_pos m n i h1.h (e▸h)
def gT2(S:St w0 d l L O X w){b:Nat}{p q:Tmp}(h:fn.results=#[.cell p ty,.tmp q])(i:a.tmps.getD p undef=.pointer (some ⟨b,0,none⟩))(g:L[k]?=some ⟨b,t,n,f⟩)[h1:rB ty n](e:a.defers=[])(c:R (.returned (.tuple #[.agg (ct n f),a.tmps.getD q undef])) w):bodyPost prog fn R .ret a w:=nQ S k g h i h1.h e c
def gT3(S:St w0 d l L O X w){b:Nat}{p q:Tmp}(h:fn.results=#[.cell p ty,.tmp q,.tmp q2])(i:a.tmps.getD p undef=.pointer (some ⟨b,0,none⟩))(g:L[k]?=some ⟨b,t,n,f⟩)[h1:rB ty n](e:a.defers=[])(c:R (.returned (.tuple #[.agg (ct n f),a.tmps.getD q undef,a.tmps.getD q2 undef])) w):bodyPost prog fn R .ret a w:=FB S k g h i h1.h e c
def gT1(S:St w0 d l L O X w){b:Nat}{p:Tmp}(h:fn.results=#[.cell p ty])(i:a.tmps.getD p undef=.pointer (some ⟨b,0,none⟩))(g:L[k]?=some ⟨b,t,n,f⟩)[h1:rB ty n](e:a.defers=[])(c:R (.returned (.agg (ct n f))) w):bodyPost prog fn R .ret a w:=aex S k g h i h1.h e c
end
def Xz(h:P:=by with_unfolding_all rfl):P:=h
def wd_(h:P:=by with_unfolding_all exact lr rfl):P:=h
def ev_(h:P:=by(try simp only[MH]);with_unfolding_all rfl):P:=h
def Xy(h:P:=by with_reducible first|assumption|(refine Hid.o ?_;assumption)|exact oB|exact gQ|exact mZ|exact Xw|exact abT|exact uq|exact abU|exact abV|exact abW|exact XA|rfl):P:=h
section
variable {a0 a1 a2 a3 a4 a5 a6 a7:R4}
theorem e0:(a0::L)[0]?=some a0:=rfl
theorem e1:(a0::a1::L)[1]?=some a1:=rfl
theorem e2:(a0::a1::a2::L)[2]?=some a2:=rfl
theorem e3:(a0::a1::a2::a3::L)[3]?=some a3:=rfl
theorem e4:(a0::a1::a2::a3::a4::L)[4]?=some a4:=rfl
theorem e5:(a0::a1::a2::a3::a4::a5::L)[5]?=some a5:=rfl
theorem e6:(a0::a1::a2::a3::a4::a5::a6::L)[6]?=some a6:=rfl
theorem e7:(a0::a1::a2::a3::a4::a5::a6::a7::L)[7]?=some a7:=rfl
end
def rk_(h:P:=by(try simp only[z',Eh]);with_reducible first|exact Go.Proofs.YtklligbjoplbgaaGreat.e0|exact Go.Proofs.YtklligbjoplbgaaGreat.e1|exact Go.Proofs.YtklligbjoplbgaaGreat.e2|exact Go.Proofs.YtklligbjoplbgaaGreat.e3|exact Go.Proofs.YtklligbjoplbgaaGreat.e4|exact Go.Proofs.YtklligbjoplbgaaGreat.e5|exact Go.Proofs.YtklligbjoplbgaaGreat.e6|exact Go.Proofs.YtklligbjoplbgaaGreat.e7):P:=h
def sl_(h:P:=by(try simp only[z',Eh]);rfl):P:=h
def eR{Q:Prop}(q:Q)(h:Q->P:=by
 intro q
 first|((with_reducible refine aL ?_);first|exact gL S Xz rk_ wd_ q|exact gR S Xz rk_ Xy q)|((with_reducible refine aU ?_);first|exact Az K3 q|exact Az abX q|exact Az aeD q|exact Az aeE q|exact Az abY q|exact Az PV q|exact Az aeF q|exact Az aeG q|exact Az abZ q)):P:=h q
def ey{Q:Prop}(q:Q)(h:Q->P:=by
 intro q
 first|((with_reducible refine aA ?_);first|exact gA S rfl q|exact gA1 S rfl q)|((with_reducible refine aB ?_);first|exact gB S Xz Xy rfl q|exact BX S ev_ rfl rfl q)|((with_reducible refine aC ?_);first|exact KV S Xz Xy fU (by omega) rfl q|exact KV S Xz Xy Hk (by omega) rfl q|exact KV S Xz Xy Vx (by omega) rfl q|exact KV S Xz Xy agu (by omega) rfl q|exact KV S Xz Xy agv (by omega) rfl q|exact KV S Xz Xy XB (by omega) rfl q)|((with_reducible refine aP ?_);first|exact gP S Xz rk_ ev_ rfl sl_ q|exact gS S Xz rk_ Xz Xy sl_ q|exact gN S Xz Xz Xy rfl (by rfl) q)):P:=h q
def lC{Q:Prop}(q:Q)(h:Q->P:=by
 intro q
 with_reducible refine rA ?_
 first|exact gT2 S rfl rfl rk_ rfl q|exact gT3 S rfl rfl rk_ rfl q|exact gT1 S rfl rfl rk_ rfl q):P:=h q
instance in1dcc1(x:cy):OF (c7 x):=⟨df x⟩
instance incd7a9(s:List Nat):OF (cN s):=⟨iJ s⟩
instance inee145(l:Nat->cy):OF (dX l):=⟨mM l⟩
instance in5715c(u:qi):OF (kb u):=⟨se u⟩
instance in11ec6(a:Way):OF (mN a):=⟨abG a⟩
instance inf7a63 :ZR 106 3 (c7 cH):=⟨_,vV,gQ⟩
instance in8b829 :ZR 36 128 (cN eP):=⟨_,zeroValue36,uq⟩
instance in0396c :ZR 191 24 (dX l6):=⟨_,zeroValue191,CZ⟩
instance in8f1ca :ZR 193 51 (mN Ol):=⟨_,zeroValue193,aev⟩
instance in5fc21 :ZR 143 7 (kb lz):=⟨_,zeroValue143,Xw⟩
instance in68f14 :Z1 82 (.int .u64 0):=⟨zeroValue82,rfl⟩
instance in653bb :Z1 3 (.int .i64 0):=⟨zeroValue3,rfl⟩
instance infd7cf :Z1 27 (.int .i64 0):=⟨zeroValue27,rfl⟩
instance infa201 :Z1 107 (.slice none 0 0):=⟨zeroValue107,rfl⟩
instance in69130 :Z1 78 (.slice none 0 0):=⟨zeroValue78,rfl⟩
section
variable {F:Fence}{P:kS}
def Open(F:Fence):Prop:=F= {Fence.wide with round:=F.round}
def aiX:Open Fence.wide:=rfl
def aiY(l:Nat):Open (Fence.wide.inRound l):=rfl
def rf{P:Prop}(h:P:=by first|exact aiX|exact aiY _):P:=h
def tM{P:Prop}(h:P:=by rintro⟨_,_,h⟩;first|exact h|exact absurd h.1 dU|(obtain⟨_,h,_⟩:=h;cases h)):P:=h
def SA(b:Open F){row:String}{args:fJ}{R:cI->cB->Prop}(h:Rows P row args w R):RowsIn F n P row args w R:=
 λc a _=>let⟨v,w',r,s⟩:=h c a;⟨v,w',r,by rw[b];exact stepsIn_wide.2 s⟩
def ahW(b:Open F){o:Oper}(g:∀c,o.op≠.defer c)(h:o.wp P a w K Q):o.wpIn F n P a w K Q:=by refine⟨λf _=>by rw[b];trivial,?_⟩;rw[Oper.semAt_eq _ _ _ g];unfold Oper.wp at h;cases i:(execOp a.eval o).run P w with|ok nx w'=>(rw[i] at h;cases nx with|value v=>exact h|skip=>exact h|defer d=>exact h|enter f args=>exact⟨λg=>absurd g (by rw[b];simp[Fence.wide]),by rw[b];exact(r9 (n:=n-1)).2 (Calls.mono h λe w h=>by omega)⟩|row r args=>exact⟨λg=>absurd g (by rw[b];simp[Fence.wide]),SA b h⟩|_=>exact h.elim)|halt x w'=>rw[i] at h;cases x with|panic v=>exact h|_=>exact h.elim
def FE(l:List Oper):Bool:=l.all λo=>match o.op with| .defer _=>false|_=>true
theorem AB{l:List Oper}(h:FE l=true){o:Oper}(ho:o∈l):∀c,o.op≠.defer c:=by intro c e;have:=(qk.1 h) o ho;grind
theorem Vy(b:Open F){ops:Array Oper}{Q:Exit->Act->cB->Prop}(d:¬LetsOut Q):∀(l:List Oper),(∀o∈l,∀c,o.op≠.defer c)->∀a w,wpList P ops Q l a w->wpListIn F n P ops Q l a w
 | [],_,_,_,h=>h
 |o::l,hd,a,w,h=>by
  unfold wpListIn;unfold wpList at h;split
  . next hw=>
    rw[cL hw] at h;exact ahW b (hd o (lW ..)) (Oper.wp_mono (λa w h=>Vy b d l (λo ho=>hd o (jI _ ho)) a w h) (h.resolve_right λh=>d h.2))
  . next hw=>
    rw[cM hw] at h;exact⟨λf _=>by rw[b];trivial,Vy b d l (λo ho=>hd o (jI _ ho)) _ _ h⟩
theorem SB(d:Open F){ops:Array Oper}{Q:Exit->Act->cB->Prop}(e:¬LetsOut Q)(g:∀o∈ops.toList,∀c,o.op≠.defer c):∀(fuel:Nat)(listed:Array Bool)(a:Act)(w:cB),wpAny P .any ops Q fuel listed a w->wpAnyIn F n P .any ops Q fuel listed a w
 |0,_,_,_,h=>h
 |fuel+1,listed,a,w,h=>by
  refine⟨h.1,λi j=>?_⟩;have b:=h.2 i j;unfold wpOp at b;unfold wpOpIn;cases ho:ops[i]? with
  |none=>rw[ho] at b;exact SB d e g fuel _ _ _ b
  |some o=>
   rw[ho] at b;have k:o∈ops.toList:=by
    grind
   simp only at b|-;split
   . next hw=>
     rw[cL hw] at b;exact ahW d (g o k) (Oper.wp_mono (λa w h=>SB d e g fuel _ a w h) (b.resolve_right λh=>e h.2))
   . next hw=>
     rw[cM hw] at b;exact⟨λf _=>by rw[d];trivial,SB d e g fuel _ _ _ b⟩
theorem jd(b:Open F){id:Nat}{l:List Oper}(d:FE l=true)(c:¬LetsOut Q)(h:wpList P l.toArray Q l a w):(Code.region id l.toArray false).wpIn F n P Q a w:=
 by grind[wpIn_region_lit,Vy,AB]
def yW(b:Open F){w0:cB}{l:cD}{X:cD->cB->Prop}{ops:List Oper}(S:St w0 d l L O X w){id:Nat}(f:P.follows .mixedOrders=true)(e:FE ops=true)(c:¬LetsOut Q)(h:∀W,St w0 d l L O X W->wpAnyH P .any ops.toArray Q (SE w0 d l L O) ops.toArray.size (Array.replicate ops.toArray.size false) a W):(Code.region id ops.toArray true).wpIn F n P Q a w:=by exact wpIn_region_any f (SB b c (λ_ ho=>AB e cw) _ _ _ _ (wpAny_of_held _ _ _ _ (h _ S.drew)))
end
def EN(s:cD)(q:cy):qi:=⟨iH ((s.drop 4).take 8),iH ((s.drop 12).take 8),q,iH ((s.drop 36).take 4),iH ((s.drop 40).take 4)⟩
def jf(s:cD):Option qi:=match mU ((s.drop 20).take 16) with
 |none=>none
 |some q=>if lf (EN s q)=some s then some (EN s q) else none
theorem aeH(h:bs.length=16):qQ [8,8] bs=some [iH (bs.take 8),iH ((bs.drop 8).take 8)]:=by unfold qQ;simp_all[nZ,okW,ru]
theorem aeI(h:bs.length=8):qQ [4,4] bs=some [iH (bs.take 4),iH ((bs.drop 4).take 4)]:=by unfold qQ;simp_all[nZ,okW,ru]
theorem Vz(h:∀x∈s,x<256)(o n:Nat):∀x∈(s.drop o).take n,x<256:=by grind
theorem FF(h:∀x∈s,x<256){q:cy}(a:cY q):nH (EN s q):=by have c:∀o,iH ((s.drop o).take 8)<256^8:=λo=>BJ (Vz h o 8) iG;have b:∀o,iH ((s.drop o).take 4)<256^4:=λo=>BJ (Vz h o 4) iG;grind[nH,EN]
theorem vu{bs:cD}(h:∀x∈bs,x<256){q:cy}(a:mU bs=some q):cY q:=by grind[mU,Ez]
section
attribute[local irreducible]wpList Code.wp Calls Oper.wp wpAnyH
def P7(s:cD)(l:iY s)(w:cB):CP_ 187 #[.agg (ct 128 (cN s))] w λe w'=>∃U,e=.returned (.tuple #[.agg U,.bool (jf s).isSome])/\U=ct 7 (kb ((jf s).getD lz))/\dz w w':=by
 obtain⟨A,hA⟩:=eW (ct 128 (cN s));rw[<-hA];have Z:=cq hA;clear hA;have S:=pF w;obtain⟨n1,O⟩:=c8 (iH ((s.drop 4).take 8));obtain⟨n2,Q⟩:=c8 (iH ((s.drop 12).take 8));obtain⟨z,R⟩:=c8 (iH ((s.drop 36).take 4));obtain⟨C,V⟩:=c8 (iH ((s.drop 40).take 4));have D:qQ [8,8] ((s.drop 4).take 16)=some [n1,n2]:=by
  rw[aeH (by rw[kL,r8,l.1];rfl),<-O,<-Q,take_take,drop_take,drop_drop,take_take];rfl
 have E:qQ [4,4] ((s.drop 36).take 8)=some [z,C]:=by
  rw[aeI (by rw[kL,r8,l.1];rfl),<-R,<-V,take_take,drop_take,drop_drop,take_take];rfl
 have C1:=cq λv u w hv m hc=>D▸II v u [8,8] ((s.drop 4).take 16) jR w hv m hc;have C3:=cq λv u w hv m hc=>E▸II v u [4,4] ((s.drop 36).take 8) jR w hv m hc;have N:=cq λu w m hc=>vh u ((s.drop 20).take 16) w m hc;have M:∀x∈dh [8,8],(Lit.int .i64 x).wf=true:=by decide
 have a3:∀x∈dh [4,4],(Lit.int .i64 x).wf=true:=by decide
 cases j:mU ((s.drop 20).take 16) with
 |none=>
  have Y:jf s=none:=by unfold jf;rw[j]
  rw[Y];obtain⟨T,t⟩:=eW (ct 3 (c7 cH));rw[j,show(none:Option cy).getD cH=cH from rfl,cP t] at N;have HT:=cq t;clear O Q R V D E t;go_enter func187,ntmps187
  go_wp2_with first|refine lK S .i64 [8,8] oW td cw cw rfl rfl mB λW S=>?_|(go_at_call 29;have f:=S.k2;have h:=kZ.Da f l 4 16 124 cw cw cw;refine(C1.o _ _ _ (dR.row S.k0 rfl pR M) h.ints h.cap).mono ?_;rintro e W ⟨r,rfl,ho,a⟩;clear h f;replace S:=S.gm a ho rfl rfl;clear a ho)|(go_at_call 195;have f:=S.k2;have h:=kZ.Da f l 20 16 108 cw cw cw;refine(N.o _ _ h.ints h.cap).mono ?_;rintro e W ⟨rfl,a⟩;clear h f;replace S:=S.cx a;clear a)|(refine lC ?_;exact⟨_,rfl,rfl,S.b⟩)|refine ey λW S=>?_
 |some q=>
  have J:=vu (Vz l.2 20 16) j;have L:=FF (s:=s) l.2 J;obtain⟨T,t⟩:=eW (ct 3 (c7 q));rw[j,show(some q:Option cy).getD cH=q from rfl,cP t] at N;have HT:=cq t;clear t;obtain⟨u,m⟩:=c8 (EN s q);have o:u=⟨n1,n2,q,z,C⟩:=by rw[<-m,<-O,<-Q,<-R,<-V];rfl
  have d:jf s=if lf u=some s then some u else none:=by unfold jf;rw[j];simp only[m]
  obtain⟨U,X⟩:=eW (ct 7 (kb u));have i:nH u:=by rw[<-m];exact L
  have F:=cq λw=>DO u i w;rw[<-X] at F;have y:=X;rw[o,KX] at y;have a1:=cq y;have HU:=cq X;have a4:z<4294967296:=by have:=i.2.2.2.1;rw[o] at this;exact this
  have w3:IntKind.i64.wrap (z:Int)=(z:Int):=j0 _ cw;have a5:C<4294967296:=by have:=i.2.2.2.2;rw[o] at this;exact this
  have w4:IntKind.i64.wrap (C:Int)=(C:Int):=j0 _ cw;have n:=cq d;clear O Q R V D E X y j L i J m o d;go_enter func187,ntmps187
  go_upto_region 7 with(first|refine lK S .i64 [8,8] oW td cw cw rfl rfl mB λW S=>?_|(go_at_call 29;(have f:=S.k2;have h:=kZ.Da f l 4 16 124 cw cw cw;refine(C1.o _ _ _ (dR.row S.k0 rfl pR M) h.ints h.cap).mono ?_;rintro e W ⟨r1,rfl,ho,a⟩;clear h f;replace S:=S.gm a ho rfl rfl;clear a ho))|(go_at_call 195;have f:=S.k2;have h:=kZ.Da f l 20 16 108 cw cw cw;refine(N.o _ _ h.ints h.cap).mono ?_;rintro e W ⟨rfl,a⟩;clear h f;replace S:=S.cx a;clear a)|refine ey λW S=>?_)
  go_upto_region 10 with(first|refine lK S .i64 [4,4] oW td cw cw rfl rfl mB λW S=>?_|(have f:=S.oh (k:=4) rfl;have h:=kZ.Da f l 36 8 92 cw cw cw;refine(C3.o _ _ _ (dR.row S.k0 rfl pR a3) h.ints h.cap).mono ?_;rintro e W ⟨r2,rfl,ho,a⟩;clear h f;replace S:=S.gm a ho rfl rfl;clear a ho))
  have e2:∃g c,r2=.slice (s_ g 0) 2 c:=BW S.o0 (Nat.zero_lt_two);have e1:∃g c,r1=.slice (s_ g 0) 2 c:=BW S.o1 (Nat.zero_lt_two);obtain⟨E,c2,rfl⟩:=e2;obtain⟨D,c1,rfl⟩:=e1;refine dL S cX λW S=>?_;refine cJ 0 _ ?_;refine cJ 1 (cZ D 0) ?_;refine fW 2 (.int .u64 n1) rfl (aeB S 1 (λ_ h=>h) rfl rfl rfl rfl 0 rfl rfl fg) ?_;refine cJ 3 _ ?_;refine cJ 4 (cZ D 1) ?_;refine fW 5 (.int .u64 n2) rfl (aeB S 1 (λ_ h=>h) rfl rfl rfl rfl 1 rfl rfl fg) ?_;refine fW 6 (.agg #[.int .i64 q.1,.int .u64 q.2.1,.int .u32 q.2.2]) rfl (ahU S 1 (λ_ h=>h) rfl rfl (yu q).symm eN) ?_;refine cJ 7 _ ?_;refine cJ 8 (cZ E 0) ?_;refine fW 9 (.int .u64 z) rfl (aeB S 0 (λ_ h=>h) rfl rfl rfl rfl 0 rfl rfl fg) ?_;refine cJ 10 (.int .i64 z) ?_;refine cJ 11 _ ?_;refine cJ 12 (cZ E 1) ?_;refine fW 13 (.int .u64 C) rfl (aeB S 0 (λ_ h=>h) rfl rfl rfl rfl 1 rfl rfl fg) ?_;refine cJ 14 (.int .i64 C) ?_;refine fW 15 (.agg U) rfl (xO rfl (by rw[a1.o];kernel_rfl)) ?_;refine jQ 16 λK I=>?_;refine FD S zeroValue143 Xw rfl λW S=>?_;refine I.out _ _ ⟨_,S.pop⟩ λ_=>?_
  try simp only[MH]
  clear I K;refine jQ 17 λK I=>?_;refine ju S 0 rfl rfl rfl HU.o DN (se _) λW S=>?_;refine I.out _ _ ⟨_,S.pop⟩ λ_=>?_
  try simp only[MH]
  clear I K;refine pz ?_;cases a:lf u with
  |none=>
   rw[a,show fp 61 (none:Option cD)=61 from rfl] at F;rw[a] at n;have Y:jf s=none:=by rw[n.o];simp
   have p:=cq Y;clear Y
   go_wp2_with first|(refine(F.o _).mono ?_;rintro e W ⟨B,rfl,H,a⟩;have G:=cq H;replace S:=S.cx a;clear H a)|(refine lC ?_;exact⟨_,by rw[p.o];rfl,by rw[p.o];rfl,S.b⟩)|refine eR ?_|refine ey λW S=>?_
  |some b=>
   rw[a,show fp 61 (some b)=0 from rfl] at F;rw[a] at n;have a2:iY b:=by
    unfold lf at a;split at a;· cases a;exact Sy u
    . cases a
   obtain⟨r,hr⟩:=c8 (Oj b s);have j:=ahP b s r hr;rw[<-Z.o] at j;have HQ:=cq j;have d:jf s=if r=true then some u else none:=by
    rw[n.o,<-hr,Y7 a2 l];by_cases h:b=s<;>simp[h]
   clear j hr
   go_upto_region 12 with(first|(refine(F.o _).mono ?_;rintro e W ⟨B,rfl,H,a⟩;have G:=cq H;replace S:=S.cx a;clear H a)|refine eR ?_|refine ey λW S=>?_)
   have j:=HQ.o;rw[show(some b).getD eP=b from rfl] at G;rw[<-G.o] at j;cases r with
   |false=>
    have p:=cq (show jf s=none from d);clear d
    go_wp2_with (first
   |(first|refine jj 60 36 9 S 0 G.o ?_|refine jj 61 36 1 S 6 Z.o ?_)
   |(refine lC ?_;exact⟨_,by rw[p.o];rfl,by rw[p.o];rfl,S.b⟩)
   |refine ey λW S=>?_)
   |true=>
    have p:=cq (show jf s=some u from d);clear d
    go_wp2_with first|(first|refine jj 60 36 9 S 0 G.o ?_|refine jj 61 36 1 S 6 Z.o ?_)|(refine lC ?_;exact⟨_,by rw[p.o];rfl,by rw[p.o];rfl,S.b⟩)|refine eR ?_|refine ey λW S=>?_
end
def VA:Ren:=⟨fun|6=>189|15=>157|14=>237|28=>217|29=>218|20=>267|21=>268|22=>269|23=>270|24=>271|25=>272|26=>273|27=>274|46=>284|47=>251|48=>252|49=>285|50=>286|57=>290|n=>n,fun|22=>230|24=>143|25=>284|3=>3|39=>222|0=>0|53=>104|55=>82|4=>4|46=>304|45=>303|50=>156|5=>5|9=>9|66=>339|70=>342|76=>356|77=>357|n=>n,fun|n=>n⟩
def agw:SlLaysF0.n6 prog VA:={
 mixed:=cX
 f6:=⟨f189.name,by decide,func189.trans (fK some cX)⟩
 f14:=⟨f237.name,by decide,func237.trans (fK some cX)⟩
 f15:=func157.trans (fK some cX)
 f20:=⟨f267.name,by decide,func267.trans (fK some cX)⟩
 f21:=⟨f268.name,by decide,func268.trans (fK some cX)⟩
 f22:=⟨f269.name,by decide,func269.trans (fK some cX)⟩
 f23:=⟨f270.name,by decide,func270.trans (fK some cX)⟩
 f24:=⟨f271.name,by decide,func271.trans (fK some cX)⟩
 f25:=⟨f272.name,by decide,func272.trans (fK some cX)⟩
 f26:=⟨f273.name,by decide,func273.trans (fK some cX)⟩
 f27:=⟨f274.name,by decide,func274.trans (fK some cX)⟩
 f28:=func217.trans (fK some cX)
 f29:=func218.trans (fK some cX)
 f46:=⟨f284.name,by decide,func284.trans (fK some cX)⟩
 f47:=func251.trans (fK some cX)
 f48:=func252.trans (fK some cX)
 f49:=⟨f285.name,by decide,func285.trans (fK some cX)⟩
 f50:=⟨f286.name,by decide,func286.trans (fK some cX)⟩
 f57:=⟨f290.name,by decide,func290.trans (fK some cX)⟩
 t0:=underlying0
 a0:=isAgg0
 z0:=sizeOf0
 v0:=zeroValue0
 t3:=uh
 a3:=isAgg3
 z3:=sizeOf3
 v3:=zeroValue3
 t4:=underlying4
 a4:=isAgg4
 z4:=sizeOf4
 v4:=zeroValue4
 t5:=xI
 a5:=isAgg5
 z5:=sizeOf5
 v5:=zeroValue5
 t9:=xP
 a9:=isAgg9
 z9:=sizeOf9
 v9:=zeroValue9
 t22:=underlying230
 a22:=isAgg230
 z22:=sizeOf230
 v22:=zeroValue230
 t25:=underlying284
 a25:=isAgg284
 z25:=sizeOf284
 v25:=zeroValue284
 t39:=underlying222
 a39:=isAgg222
 z39:=sizeOf222
 v39:=zeroValue222
 t45:=underlying303
 a45:=isAgg303
 z45:=sizeOf303
 v45:=zeroValue303
 t46:=underlying304
 a46:=isAgg304
 z46:=sizeOf304
 v46:=zeroValue304
 t50:=underlying156
 a50:=isAgg156
 z50:=sizeOf156
 v50:=zeroValue156
 t53:=underlying104
 a53:=isAgg104
 z53:=sizeOf104
 v53:=zeroValue104
 t55:=underlying82
 a55:=isAgg82
 z55:=sizeOf82
 v55:=zeroValue82
 t66:=underlying339
 a66:=isAgg339
 z66:=sizeOf339
 v66:=zeroValue339
 t70:=underlying342
 a70:=isAgg342
 z70:=sizeOf342
 v70:=zeroValue342
 t76:=underlying356
 a76:=isAgg356
 z76:=sizeOf356
 v76:=zeroValue356
 t77:=underlying357
 a77:=isAgg357
 z77:=sizeOf357
 v77:=zeroValue357}
def SC:Ren:=⟨fun|125=>157|128=>217|129=>218|n=>n,fun|46=>222|3=>3|51=>104|53=>82|4=>4|5=>5|9=>9|n=>n,fun|n=>n⟩
def bitsLen:Lays.n125 prog SC:={
 mixed:=cX
 f125:=func157.trans (fK some cX)
 f128:=func217.trans (fK some cX)
 f129:=func218.trans (fK some cX)
 t3:=uh
 a3:=isAgg3
 z3:=sizeOf3
 v3:=zeroValue3
 t4:=underlying4
 a4:=isAgg4
 z4:=sizeOf4
 v4:=zeroValue4
 t5:=xI
 a5:=isAgg5
 z5:=sizeOf5
 v5:=zeroValue5
 t9:=xP
 a9:=isAgg9
 z9:=sizeOf9
 v9:=zeroValue9
 t46:=underlying222
 a46:=isAgg222
 z46:=sizeOf222
 v46:=zeroValue222
 t51:=underlying104
 a51:=isAgg104
 z51:=sizeOf104
 v51:=zeroValue104
 t53:=underlying82
 a53:=isAgg82
 z53:=sizeOf82
 v53:=zeroValue82}
theorem vw{α β:Type}{f:α->List β}{k:Nat}(a:∀x,(f x).length=k)(l:List α):(l.flatMap f).length=l.length*k:=by induction l<;>grind
theorem flat_get{α β:Type}{f:α->List β}{k:Nat}(d:∀x,(f x).length=k)(l:List α){i:Nat}(b:i<l.length){j:Nat}(c:j<k):(l.flatMap f)[i*k+j]?=(f l[i])[j]?:=by induction l generalizing i with|nil=>simp at b|cons a l ih=>rw[zY];cases i<;>grind
def SD(u:qi):List cI:=(ct 7 (kb u)).toList
theorem Dc(u:qi):(SD u).length=7:=by rfl
def Rq(l:List qi):List cI:=l.flatMap SD
theorem aeJ(u:qi):∀v∈SD u,v.oneCell'=true:=by grind[nu,se,Array.all_eq_true_iff_forall_mem,SD]
instance in5c214 :Inhabited qi:=⟨lz⟩
theorem K4{α:Type}[Inhabited α]{f:α->List cI}{k:Nat}(b:∀x,(f x).length=k)(a:0<k)(d:Array α):(Sort.flatK f k d).toList=d.toList.flatMap f:=by apply wm;intro t;by_cases c:t<d.size*k;grind[div_lt_iff_lt_mul,mod_lt,div_add_mod,Nat.mul_comm,flat_get,Sort.flatK];grind[Array.length_toList,Sort.size_flatK,vw]
section
open Go.Sort
theorem Ze{g:Nat}(h:w.ownsRow base e z (.slice (some ⟨g,0,none⟩) n cap) n xs)(F:fJ)(i:F.toList=xs):Holds id w g 0 F:=by
 intro j d;have a:j<xs.length:=by grind
 have hc:=h.cells (g:=g) ae j xs[j] (iz a);rw[show(⟨g,0,none⟩:Addr).add j=⟨g,j,none⟩ from by grind[Addr.add]] at hc;rw[ou,getElem!_pos F j d];refine⟨by grind,?_⟩;rcases h.2 with⟨c,_⟩|⟨f,b,cur,c,_,k,_⟩<;>grind[World.frozen?]
theorem VB{g:Nat}{c:List cI}{os:Array Obj}(h:w.ownsRow base e z (.slice (some ⟨g,0,none⟩) n cap) n xs)(F:fJ)(l:F.toList=c)(s:c.length=xs.length):
 (grow (putRow id (Sort.ahead w m) g 0 F) os).ownsRow base e z (.slice (some ⟨g,0,none⟩) n cap) n c/\w.grownBy (grow (putRow id (Sort.ahead w m) g 0 F) os) (some g):=by have b:=h.1;rcases h.2 with⟨a,_⟩|⟨v,d,cur,a,p,q,f,i,j,x⟩;cases a;(cases a;have r:g<w.heap.size:=(qj.1 q).1;have o:F.size=n*z:=by grind);have t:n*z<=cap*z:=GQ z f;refine⟨⟨by rw[s,b],.inr ⟨g,cap,putCells id 0 F cur,ae,p,?_,f,i,by simp[putCells,j],?_⟩⟩,⟨ae,ae,ae,by simp,λk y u=>?_⟩⟩;grind[heap_grow_old,putRow,mapBlock,Sort.ahead,onCells];rw[<-l];apply wm;grind[putCells];grind[heap_grow_old,putRow,mapBlock,Sort.ahead]
end
def FG(a b:Nat):Int:=if a<b then -1 else if b<a then 1 else 0
section
attribute[local irreducible]wpList Code.wp Calls Oper.wp wpAnyH
def Zf(a:Nat)(w:cB):CP_ 238 #[.int .u64 a] w λe w'=>e=.returned (.bool false)/\w=w':=by go_enter func238,ntmps238;go_wp2;go_ret;exact⟨by simp,ae⟩
def ab0(a b:Nat)(w:cB):CP_ 191 #[.int .u64 a,.int .u64 b] w λe w'=>e=.returned (.int .i64 (FG a b))/\w=w':=by
 go_enter func191,ntmps191;go_wp2_with (go_at_call 238;refine(Zf _ _).mono ?_;rintro e W ⟨rfl,rfl⟩);all_goals go_ret
 all_goals(refine⟨fK (λx=>Ending.returned (.int .i64 x)) ?_,ae⟩;unfold FG)
 rw[cL cw];omega;omega
theorem iK.agp{D b:Nat}{v:Dv}(h:iK w D v)(d:iU b w w')(g:gx w b=some t)(_:fT t=false)(c:kO t=false∨b∉nL w D):iK w' D v:=by
 have⟨l,hl⟩:=h.open;have a:b∉l:=by rcases c with a|a;intro f;have⟨u,hu,c⟩:=hl.ty b f;grind;rw[hl.nL] at a;exact a
 exact(hl.oQ (sI.qt (l:=[b]) d (dK _) aV) (λk e=>⟨hl.lt k e,by grind⟩)).shut
theorem fG(D:Nat)(v:Dv):kK (some D) (λ_ w=>iK w D v):=
 ⟨λh a=>iK.cx h a,λh _=>h,λh _=>h,fun {B w w' b t} h _ a ht ho hd=>iK.agp h a ht ho (hd.imp id λf=>f D ae),fun {B w D'} h e=>by grind[abM]⟩
def ab1(D:Nat)(d:Dv)(ho:d.ops<=1000000000)(w:cB)(a:iK w D d):CP_ 226 #[.pointer (some ⟨D,0,none⟩)] w λe w'=>e=.returned (.int .i64 (gZ d).2)/\iK w' D (gZ d).1/\Fr (some D) [] w w':=by have⟨l,hl⟩:=a.open;exact(abr D d l ho w hl).mono λe w' h=>⟨h.1,h.2.shut,h.2.fr hl []⟩
def ab2(D:Nat)(d:Dv)(ho:d.ops<=1000000000)(i:Int)(s:cD)(c:iY s)(A:fJ)(b:A=ct 128 (cN s))(w:cB)(a:iK w D d):CP_ 227 #[.pointer (some ⟨D,0,none⟩),.int .i64 i,.agg A] w λe w'=>e=.returned (.int .i64 (gu d i s).2)/\iK w' D (gu d i s).1/\Fr (some D) [] w w':=by have⟨l,hl⟩:=a.open;exact(abp D d l ho i s c A b w hl).mono λe w' h=>⟨h.1,h.2.shut,h.2.fr hl []⟩
def afR(D:Nat)(d:Dv)(i:Int)(b:ee i)(w:cB)(a:iK w D d):CP_ 165 #[.pointer (some ⟨D,0,none⟩),.int .i64 i] w λe w'=>∃A,e=.returned (.tuple #[.agg A,.int .i64 (fZ d i).2.2])/\A=ct 128 (cN (fZ d i).2.1)/\iK w' D (fZ d i).1/\Fr (some D) [] w w':=by have⟨l,hl⟩:=a.open;exact(aen D d l i b w hl).mono λe w' h=>by have⟨A,h1,h2,h3⟩:=h;exact⟨A,h1,h2,h3.shut,h3.fr hl []⟩
theorem IW(d:Dv):(gZ d).1.ops<=d.ops+1:=by grind[gZ,eG,vq]
def eS(d:Dv)(u:qi):Dv×Int:=match lf u with
 |none=>(d,61)
 |some b=>
  if(gZ d).2≠0 then gZ d else
  if(gu (gZ d).1 ((u.lD%4:Nat):Int) b).2≠0 then gu (gZ d).1 ((u.lD%4:Nat):Int) b else
  gZ (gu (gZ d).1 ((u.lD%4:Nat):Int) b).1
def K5(D:Nat)(d:Dv)(H:d.ops<=999999000)(u:qi)(E:nH u)(w:cB)(a:iK w D d):CP_ 170 #[.pointer (some ⟨D,0,none⟩),.agg (ct 7 (kb u))] w λe w'=>e=.returned (.int .i64 (eS d u).2)/\iK w' D (eS d u).1/\Fr (some D) [] w w':=by
 obtain⟨U,G⟩:=xm (ct 7 (kb u));have p:=cq λw=>DO u E w;have t:=cq λw=>Sz u w;rw[<-G.o] at p t|-;clear E;have S:=St.start w (some D) [] (fG D d) a;clear a;have s:=cq λw a=>ab1 D d cw w a;obtain⟨k,A⟩:=eW (u.lD%4);rw[<-A] at t;cases c:lf u with
 |none=>
  rw[c,show fp 61 (none:Option cD)=61 from rfl] at p;have l:Hid (eS d u=(d,61)):=cq (by unfold eS;rw[c]);go_enter func170,ntmps170
  go_wp2_with first|(go_at_call 225;refine(p.o _).mono ?_;rintro e W ⟨B,rfl,j,c⟩;have v:=cq j;replace S:=S.cx c;clear j c)|refine eR ?_|refine ey λW S=>?_
  go_ret;exact⟨by rw[l.o];rfl,by rw[l.o];exact S.x,S.fr⟩
 |some b=>
  have r:iY b:=by
   unfold lf at c;split at c
   . cases c;exact Sy u
   . cases c
  rw[c,show fp 61 (some b)=0 from rfl,show(some b).getD eP=b from rfl] at p;have l:Hid (eS d u=if(gZ d).2≠0 then gZ d else if(gu (gZ d).1 (k:Int) b).2≠0 then gu (gZ d).1 (k:Int) b else gZ (gu (gZ d).1 (k:Int) b).1):=cq (by unfold eS;rw[c,A]);have h:=IW d;rcases hfl:gZ d with⟨q,x⟩;rw[hfl] at s l h;simp only at h;have o:=yF q (k:Int) b;rcases hwr:gu q (k:Int) b with⟨d2,y⟩;rw[hwr] at o;simp only[hwr] at l;simp only at o;have C:=cq λB j w a=>ab2 D q cw (k:Int) b r B j w a;rw[hwr] at C;have F:=cq λw a=>ab1 D d2 cw w a;clear A c hfl hwr h o H r;go_enter func170,ntmps170;by_cases m:x=0
  case neg=>
   have g:(x !=0)=true:=by simpa using m
   have f:Hid (eS d u=(q,x)):=cq (by rw[l.o];simp[m])
   go_wp2_with first|(go_at_call 225;refine(p.o _).mono ?_;rintro e W ⟨B,rfl,j,c⟩;have v:=cq j;replace S:=S.cx c;clear j c)|(go_at_call 226;refine(s.o _ S.x).mono ?_;rintro e W ⟨rfl,i,h⟩;replace S:=S.call h (λ_ e=>e) dU (fG D q) (λ_ _=>i);clear i h)|refine eR ?_|refine ey λW S=>?_
   go_ret;exact⟨by rw[f.o];rfl,by rw[f.o];exact S.x,S.fr⟩
  subst m
  go_upto_region 7 with(first|(go_at_call 225;refine(p.o _).mono ?_;rintro e W ⟨B,rfl,j,c⟩;have v:=cq j;replace S:=S.cx c;clear j c)|(go_at_call 226;refine(s.o _ S.x).mono ?_;rintro e W ⟨rfl,i,h⟩;replace S:=S.call h (λ_ e=>e) dU (fG D q) (λ_ _=>i);clear i h)|refine eR ?_|refine ey λW S=>?_)
  refine dL S cX λW S=>?_;refine cJ 0 _ ?_;refine cJ 1 (.agg U) ?_;refine cJ 3 (.agg B) ?_;refine jQ 2 λK z=>?_
  go_wp2_with fail
  refine je S (t.o _) λW S=>?_;refine fC z ?_;refine jQ 4 λK z=>?_
  go_wp2_with fail
  refine(C.o B v.o _ S.x).mono ?_;rintro e W ⟨rfl,i,h⟩;replace S:=S.call h (λ_ e=>e) dU (fG D d2) (λ_ _=>i);clear i h;refine fC z ?_;refine cJ 5 _ ?_;refine pz ?_;by_cases n:y=0
  case neg=>
   have g:(y !=0)=true:=by simpa using n
   have f:Hid (eS d u=(d2,y)):=cq (by rw[l.o];simp[n]);go_wp2;go_ret;exact⟨by rw[f.o];rfl,by rw[f.o];exact S.x,S.fr⟩
  subst n;have f:Hid (eS d u=gZ d2):=cq (by rw[l.o];simp)
  go_wp2_with (go_at_call 226;refine(F.o _ S.x).mono ?_;rintro e W ⟨rfl,i,h⟩;replace S:=S.call h (λ_ e=>e) dU (fG D (gZ d2).1) (λ_ _=>i);clear i h)
  go_ret;exact⟨by rw[f.o];rfl,by rw[f.o];exact S.x,S.fr⟩
def Zg(x y:qi)(W:cB):CP_ 190 #[.agg (SD x).toArray,.agg (SD y).toArray] W λe w'=>e=.returned (.int .i64 (FG x.lD y.lD))/\∃q b,w'=Sort.grow (W.drewN q) b:=by
 have e1:(SD x).toArray=ct 7 (kb x):=by simp[SD]
 have e2:(SD y).toArray=ct 7 (kb y):=by simp[SD]
 rw[e1,e2,KX,KX];have a:=cq λw=>ab0 x.lD y.lD w;generalize FG x.lD y.lD=r at a|-;go_enter func190,ntmps190;go_wp2_with (refine(a.o _).mono ?_;rintro e w' ⟨rfl,rfl⟩);go_ret;exact⟨ae,0,_,by rw[Sort.alloc_eq_grow,Sort.alloc_eq_grow,Sort.grow_grow];rfl⟩
def nR(l:List qi):List qi:=(Sort.insertionSort (ltOf λx y:qi=>FG x.lD y.lD) l.toArray 0 l.toArray.size).toList
theorem ab3:Sort.SWO (ltOf λx y:qi=>FG x.lD y.lD):=by
 have h:∀x y:qi,ltOf (λx y:qi=>FG x.lD y.lD) x y=decide (x.lD<y.lD):=by grind[ltOf,FG]
 refine⟨λx=>?_,λx y z=>?_,λx y z=>?_⟩<;>simp only[h,pG,Pe]<;>omega
theorem qV(l:List qi):(nR l).Perm l:=by
 have h:=(Sort.insertionSort_holds ab3 l.toArray 0 l.toArray.size (fN _) (dK _)).1;have a:=h.1;have b:=h.2.2;unfold nR;have e1:∀d:Array qi,d.extract 0 d.size=d:=λd=>by simp
 grind
def XC(n:Nat)(W:cB)(h:n<=12):CP_ 157 #[.int .u64 n] W λe w'=>(∃l:Int,e=.returned (.int .i64 l))/\w'=W:=
 (Any.bits_Len bitsLen n W cw cw).mono λ_ _ ⟨he,hw⟩=>⟨⟨_,he⟩,hw⟩
def aeK(f:cI)(w:cB):CP_ 267 #[.slice none 0 0,.int .i64 0,.int .i64 0,f] w λe w'=>e=.returned (.tuple #[])/\w=w':=by go_enter func267,ntmps267;go_wp2_with fail;go_loopw [8] (λi wr=>i=.int .i64 1/\w=wr) (λ_ _=>0);exact ay;obtain⟨rfl,rfl⟩:=hrel;go_wp2;go_end0;exact ay
def aeL(f:cI)(n:Int)(w:cB):CP_ 237 #[.slice none 0 0,.int .i64 0,.int .i64 0,.int .i64 n,f] w λe w'=>e=.returned (.tuple #[])/\w=w':=by go_enter func237,ntmps237;go_wp2_with fail;go_loopw [1,2] (λa b wr=>a=.int .i64 0/\b=.int .i64 0/\w=wr) (λ_ _ _=>0);exact⟨ae,ae,ae⟩;obtain⟨rfl,rfl,rfl⟩:=hrel;go_wp2_with (refine(aeK _ _).mono ?_;rintro e w' ⟨rfl,rfl⟩);refine gE (ug ae _ _ _) ae ⟨ae,ae⟩
def ab4(f:cI)(w:cB):CP_ 189 #[.slice none 0 0,f] w λe w'=>e=.returned (.tuple #[])/\w=w':=by go_enter func189,ntmps189;go_wp2_with (first|(refine(XC 0 _ cw).mono ?_;rintro e w' ⟨⟨l,rfl⟩,rfl⟩)|(refine(aeL _ _ _).mono ?_;rintro e w' ⟨rfl,rfl⟩));go_end0;exact ay
end
theorem VC{w0:cB}{l:cD}{X:cD->cB->Prop}(S:St w0 d l L O X w)(k:Nat){a:List qi}(r:O[k]?=some ⟨143,7,v,a.length,Rq a⟩)(u:a.length<=12):
 CP_ 189 #[v,.func (.func 190) #[] #[]] w λe w'=>e=.returned (.tuple #[])/\St w0 d l L (O.set k ⟨143,7,v,a.length,Rq (nR a)⟩) X w':=by have ho:=S.s8 r;have i:=(qV a).length_eq;rcases ho.2 with⟨o,j⟩|⟨g,cap,cur,o,D,C,_⟩;(have b:v=.slice none 0 0:=o;subst b;have t:a=[]:=wj j;subst t;refine(ab4 _ w).mono λe w' h=>?_;obtain⟨q,rfl⟩:=h;refine⟨q,?_⟩;have e1:O.set k ⟨143,7,.slice none 0 0,([]:List qi).length,Rq (nR [])⟩=O:=by rw[show nR []=[] from Perm.eq_nil (qV [])];apply wm;grind);grind;(have b:v=.slice (s_ g 0) a.length cap:=o;subst b;have A:(Sort.flatK SD 7 a.toArray).toList=Rq a:=by grind[K4,Dc,Rq]);(have p:(Sort.flatK SD 7 (Sort.insertionSort (ltOf λx y:qi=>FG x.lD y.lD) a.toArray 0 a.toArray.size)).toList=Rq (nR a):=by rw[K4 Dc cw];rfl);have B:Sort.HoldsK SD 7 w g 0 a.toArray:=Ze ho _ A;have s:∀args w,(callFunc 190 args).run prog w=.ok (.enter 190 args) w:=enters_of func190 cX ae;have c:CmpLays prog 190 #[] SD 7 (λx y=>FG x.lD y.lD) g 0 a.toArray.size w:=λ_ _ _ _ x y=>Zg x y _;have f:=AnyQ.slices_SortFunc_small agw 7 isAgg143 sizeOf143 SD Dc aeJ (λx y=>FG x.lD y.lD) 190 #[] g 0 cap a.toArray w s c B (qj.1 C).1 cw XC;refine Calls.mono (show CP_ 189 #[.slice (s_ g 0) a.length cap,.func (.func 190) #[] #[]] w _ from f) λe w' h=>?_;have⟨q,n,os,hw⟩:=h;have j:=VB (m:=n) (os:=os) ho _ p (by rw[show(Rq (nR a)).length=_ from vw Dc _,show(Rq a).length=_ from vw Dc _,i]);have z:w'=Sort.grow (Sort.putRow id (Sort.ahead w n) g 0 (Sort.flatK SD 7 (Sort.insertionSort (ltOf λx y:qi=>FG x.lD y.lD) a.toArray 0 a.toArray.size))) os:=hw;rw[z];exact⟨q,S.grow r j.2 j.1 ae ax⟩
def qy(x:Dv×List qi)(i:Nat):Dv×List qi:=
 if(fZ x.1 (i:Int)).2.2≠0 then((fZ x.1 (i:Int)).1,x.2) else
 match jf (fZ x.1 (i:Int)).2.1 with
 |none=>((fZ x.1 (i:Int)).1,x.2)
 |some u=>if u.lD%4=i then((fZ x.1 (i:Int)).1,x.2++[u]) else((fZ x.1 (i:Int)).1,x.2)
def jq(d:Dv)(k:Nat):Dv×List qi:=(range k).foldl qy (d,[])
def xQ(d:Dv):Dv×List qi:=((jq d 4).1,nR (jq d 4).2)
theorem BY(d:Dv)(k:Nat):jq d (k+1)=qy (jq d k) k:=by grind[jq,range_succ]
theorem P8(x:Dv×List qi)(i:Nat):(qy x i).2.length<=x.2.length+1:=by grind[qy]
theorem EO(d:Dv)(k:Nat):(jq d k).2.length<=k:=by induction k<;>grind[jq,BY,P8]
def aeM:(prog.info? 143).map (λi=>(i.zero,i.size,i.bytes))=some (some (.agg #[.int .u64 0,.int .u64 0,.int .i64 0,.int .u64 0,.int .u32 0,.int .i64 0,.int .i64 0]),7,56):=cX
def XB:vT prog 230 143 7 56:=⟨underlying230,_,aeM,ae,cw⟩
theorem VD(l m:List qi):Rq (l++m)=Rq l++Rq m:=by grind[Rq]
theorem aeN(u:qi):Rq [u]=(ct 7 (kb u)).toList:=by rfl
section
attribute[local irreducible]wpList Code.wp Calls Oper.wp wpAnyH
theorem P9(D:Nat)(d:Dv)(w:cB)(a:iK w D d):CP_ 145 #[.pointer (some ⟨D,0,none⟩)] w λe w'=>∃v,e=.returned v/\w'.ownsRow w.heap.size 143 7 v (xQ d).2.length (Rq (xQ d).2)/\iK w' D (xQ d).1/\Fr (some D) [] w w':=by
 have S:=(St.start w (some D) [] (fG D d) a).Hi 143 7 rfl rfl;clear a;have S:=cq S;go_enter func145,ntmps145;go_wp2_with fail;go_loopw [3,9] (λv i wr=>∃k:Nat,k<=4/\i=.int .i64 k/\Hid (St w (some D) [] [] [⟨143,7,v,(jq d k).2.length,Rq (jq d k).2⟩] (λ_ w=>iK w D (jq d k).1) wr)) (λ_ i _=>4-(intOf i).toNat);exact⟨0,cw,rfl,S⟩;clear S;obtain⟨k,R,rfl,hS⟩:=hrel;by_cases Q:k<4
 . have S:=hS.o;clear hS;have f:=EO d k;have b:=cq (BY d k);generalize jq d k=x at S b f;obtain⟨q,t⟩:=x;simp only at S f;have H:=cq λw a=>afR D q (k:Int) ⟨cw,cw⟩ w a;have r:qy (q,t) k=if(fZ q (k:Int)).2.2≠0 then((fZ q (k:Int)).1,t) else match jf (fZ q (k:Int)).2.1 with
    |none=>((fZ q (k:Int)).1,t)
    |some u=>if u.lD%4=k then((fZ q (k:Int)).1,t++[u]) else((fZ q (k:Int)).1,t):=rfl
   have C:=Hb S.x.ok (k:Int);rcases hrd:fZ q (k:Int) with⟨y,s,c⟩;rw[hrd] at H r C;simp only at r C;have p:=cq r;clear r hrd;by_cases hc:c=0;case neg=>(have g:(c !=0)=true:=by simpa using hc);have B:Hid (jq d (k+1)=(y,t)):=cq (by rw[b.o,p.o,cL hc]);go_wp2_with (first|(refine(H.o _ S.x).mono ?_;rintro e W ⟨A,rfl,j,l,z⟩;have F:=cq j;replace S:=S.call z (λ_ e=>e) dU (fG D y) (λ_ _=>l);clear l j)|refine ey λW S=>?_);go_roundw;exact⟨k+1,cw,by go_num,by rw[B.o];exact cq S.pop⟩;exact oV
   subst hc;have E:=cq λw=>P7 s C w;obtain⟨L,M⟩:(jf s).isSome=(jf s).isSome/\True:=⟨rfl,gI⟩;clear L M;cases J:jf s with
   |none=>rw[J,show(none:Option qi).isSome=false from rfl] at E;have B:Hid (jq d (k+1)=(y,t)):=cq (by rw[b.o,p.o,cM dU,J]);go_wp2_with (first|(refine(H.o _ S.x).mono ?_;rintro e W ⟨A,rfl,j,l,z⟩;have F:=cq j;replace S:=S.call z (λ_ e=>e) dU (fG D y) (λ_ _=>l);clear l j;rw[<-F.o] at E)|(refine(E.o _).mono ?_;rintro e W ⟨U,rfl,G,N⟩;have K:=cq G;replace S:=S.cx N;clear G)|refine eR ?_|refine ey λW S=>?_);go_roundw;exact⟨k+1,cw,by go_num,by rw[B.o];exact cq S.pop.pop⟩;exact oV
   |some u=>
    (rw[J,show(some u).isSome=true from rfl,show(some u).getD lz=u from rfl] at E;obtain⟨U,G⟩:=eW (ct 7 (kb u));have I:=cq λw=>Sz u w;rw[<-G] at I;have K:=cq G;have o:=cq λw=>(E.o w).mono λe w' h=>show e=.returned (.tuple #[.agg U,.bool true])/\dz w w' by grind);clear G E;by_cases n:u.lD%4=k
    . have B:Hid (jq d (k+1)=(y,t++[u])):=cq (by rw[b.o,p.o,cM dU,J];simp only;rw[cL n]);rw[n] at I;clear n;go_wp2_with (first|(first|refine jj 27 143 7 S 0 K.o ?_)|(refine(H.o _ S.x).mono ?_;rintro e W ⟨A,rfl,j,l,z⟩;have F:=cq j;replace S:=S.call z (λ_ e=>e) dU (fG D y) (λ_ _=>l);clear l j;rw[<-F.o] at o)|refine je S (o.out _) λW S=>?_|refine je S (I.o _) λW S=>?_|refine rK S 0 rfl 0 rfl rfl rfl rfl XB (se _) Br wR λg cap W S=>?_|refine eR ?_|refine ey λW S=>?_);go_roundw;exact⟨k+1,cw,by go_num,by rw[B.o,ik,VD,aeN];exact cq S.pop.pop.pop⟩;exact oV
    . (have B:Hid (jq d (k+1)=(y,t)):=cq (by rw[b.o,p.o,cM dU,J];simp only;rw[cM n]);have g:(((u.lD%4:Nat):Int)==(k:Int))=false:=by rw[lx];omega);generalize u.lD%4=m at I g n;go_wp2_with (first|(first|refine jj 27 143 7 S 0 K.o ?_)|(refine(H.o _ S.x).mono ?_;rintro e W ⟨A,rfl,j,l,z⟩;have F:=cq j;replace S:=S.call z (λ_ e=>e) dU (fG D y) (λ_ _=>l);clear l j;rw[<-F.o] at o)|refine je S (o.out _) λW S=>?_|refine je S (I.o _) λW S=>?_|refine eR ?_|refine ey λW S=>?_);go_roundw;exact⟨k+1,cw,by go_num,by rw[B.o];exact cq S.pop.pop⟩;exact oV
 . obtain rfl:k=4:=cw;have S:=hS.o;have f:=EO d 4;clear hS;go_wp2_with (refine(VC S 0 rfl (gO f cw)).mono ?_;rintro e W ⟨rfl,hS⟩;clear S;have S:=hS;clear hS);go_ret;have O:=(qV (jq d 4).2).length_eq;refine⟨_,rfl,?_,S.x,S.fr⟩;show World.ownsRow _ _ _ _ _ (nR (jq d 4).2).length (Rq (nR (jq d 4).2));rw[O];exact S.o0
def eZ(d:Dv):Dv×Option qi:=((xQ d).1,(xQ d).2.getLast?)
def aeO(l:List qi)(b:i<l.length){A:fJ}(a:A=ct 7 (kb l[i])):∀j,j<7->(Rq l)[i*7+j]?=A[j]?:=by intro j c;unfold Rq;rw[flat_get Dc l b c,a];simp[SD]
theorem ab5(h:w.ownsRow base e z v 0 xs):v=.slice none 0 0∨∃g c,v=.slice (some ⟨g,0,none⟩) 0 c:=by rcases h.2 with⟨a,_⟩|⟨g,cap,cur,a,_⟩<;>grind
def FH(D:Nat)(d:Dv)(w:cB)(a:iK w D d):CP_ 83 #[.pointer (some ⟨D,0,none⟩)] w λe w'=>∃U,e=.returned (.tuple #[.agg U,.bool (eZ d).2.isSome])/\U=ct 7 (kb ((eZ d).2.getD lz))/\iK w' D (eZ d).1/\Fr (some D) [] w w':=by
 have S:=St.start w (some D) [] (fG D d) a;clear a;have f:=cq λw a=>P9 D d w a;rcases hl:xQ d with⟨q,b⟩;rw[hl] at f;simp only at f;have z:b.length<=4:=by have G:=(qV (jq d 4).2).length_eq;have H:=EO d 4;have s:(xQ d).2=nR (jq d 4).2:=rfl;rw[hl] at s;simp only at s;rw[s];omega
 have p:Hid (eZ d=(q,b.getLast?)):=cq (by unfold eZ;rw[hl]);clear hl;go_enter func83,ntmps83;by_cases r:b=[];subst r;rotate_left;obtain⟨n,B⟩:∃n,b.length=n+1:=⟨b.length-1,by have:=z7.2 r;omega⟩;obtain⟨u,C⟩:∃u,b[n]?=some u:=⟨b[n]'cw,iz cw⟩;have y:b.getLast?=some u:=by rw[getLast?_eq_getElem?,B];exact C
 rw[y] at p;obtain⟨U,x⟩:=eW (ct 7 (kb u));have E:=cq x;have m:=cq (aeO b (i:=n) cw (A:=U) iG);rw[B] at f;clear x y C r;have F:IntKind.i64.wrap ((n:Int)+1-1)=(n:Int):=by rw[j0 _ cw];omega
 all_goals
  go_wp2_with first|(go_at_call 145;refine(f.o _ S.x).mono ?_;rintro e W ⟨v,rfl,ho,k,l⟩;have h:=S.sf l (λ_ e=>e) dU (fG D q) (λ_ _=>k) ho rfl rfl;clear S;have S:=h;clear h k l ho;have t:v=.slice none 0 0∨∃g c,v=.slice (s_ g 0) 0 c:=ab5 S.o0;rcases t with rfl|⟨g,c,rfl⟩)|(go_at_call 145;refine(f.o _ S.x).mono ?_;rintro e W ⟨v,rfl,ho,k,l⟩;have h:=S.sf l (λ_ e=>e) dU (fG D q) (λ_ _=>k) ho rfl rfl;clear S;have S:=h;clear h k l ho;have t:∃g c,v=.slice (s_ g 0) (n+1) c:=BW S.o0 (succ_pos n);obtain⟨g,c,rfl⟩:=t)|((with_reducible refine vS 16 143 15 ?_);refine agq (o:=0) S.q0 (j:=n) (lt_succ_self n) (by rw[ou];rfl) (tL E) m.o DN ?_)|refine ey λW S=>?_|(refine lC ?_;exact⟨_,by rw[p.o];rfl,by rw[p.o];rfl,by rw[p.o];exact S.x,S.fr⟩)
def xR(q:cy):Bool:=decide (q≠cH)&&fY q
def SF(q:cy)(A:fJ)(c:A=ct 3 (c7 q))(w:cB):rF 236 #[.agg A] w (.bool (xR q)):=by have e:=cq λw=>xw q w;have⟨b,hb⟩:=c8 (decide (q=cH));have d:=Ew q cH b hb;rw[cP c] at d e;have g:∀w,(binOp .neq 106 (.agg A) (.agg #[.int .i64 0,.int .u64 0,.int .u32 0])).run prog w=.ok (.bool !b) w:=d;clear d;have f:=cq c;clear c;have S:=pF w;cases b with|true=>have a:Hid (xR q=false):=cq (by unfold xR;simp[lr hb]);clear hb;go_enter func236,ntmps236;go_wp2_with (first|refine eR ?_|refine ey λW S=>?_);go_ret;exact⟨by rw[a.o];rfl,S.b⟩|false=>have a:Hid (xR q=fY q):=cq (by unfold xR;simp[xg hb]);clear hb;go_enter func236,ntmps236;go_wp2_with (first|(first|refine jj 7 106 1 S 0 f.o ?_)|refine je S (e.o _) λW S=>?_|refine eR ?_|refine ey λW S=>?_);go_ret;exact⟨by rw[a.o];rfl,S.b⟩
def ahX(p:cy):List cI:=(ct 3 (c7 p)).toList
theorem xS(p:cy):(ahX p).length=3:=by rfl
def jK(l:List cy)(b:i<l.length){A:fJ}(a:A=ct 3 (c7 l[i])):∀j,j<3->(gY l)[i*3+j]?=A[j]?:=by intro j c;unfold gY;rw[flat_get (f:=λp=>(ct 3 (c7 p)).toList) xS l b c,a];simp
def rU(l:List cy)(i:Nat):Bool:=xR (l.getD i cH)&& (decide (i=0)||kN (l.getD (i-1) cH) (l.getD i cH))
def nj(l:List cy):Bool:=(range l.length).all (rU l)
theorem Ot{l:List cy}(a:k<l.length)(h:rU l k=false):nj l=false:=by unfold nj;grind
theorem VE{l:List cy}(h:∀k,k<l.length->rU l k=true):nj l=true:=by grind[nj]
theorem P'{l:List α}(a:k<l.length)(x:α):l.getD k x=l[k]:=by grind
theorem du(h:cK w e z v n xs):∃a cap,v=.slice a n cap/\n<=cap/\(0<n->∃b o,a=some ⟨b,o,none⟩):=by obtain⟨_,a,cap,c,d,_,f⟩:=h;grind
theorem ySl{P:kS}{SS:cB->Prop}{b o:Nat}(R:∀w,SS w->cK w e z (.slice (some ⟨b,o,none⟩) n cap) n xs)(r:j<n)(f:a.eval (.tmp x)=.pointer (some ⟨b,o+j*z,none⟩)){A:fJ}(m:A.size=z)(p:∀i,i<z->xs[j*z+i]?=A[i]?)(c:jF P ty z)(d:Region.wanted ⟨some dst,.load ty (.tmp x),t2,pp,af,gd⟩ (yielded ops a.tmps)=true:=by kernel_rfl):YieldsIf P ops SS ⟨some dst,.load ty (.tmp x),t2,pp,af,gd⟩ (.agg A) a:=by
 have⟨⟨dd,hu,hd⟩,hi⟩:=c;have h:=yieldsIf_load_mid (P:=P) (S:=SS) (op:=⟨some dst,.load ty (.tmp x),t2,pp,af,gd⟩) (ops:=ops) d ty (.tmp x) ae b _ f A.toList dd (λw h=>by
  have⟨h1,ao,cap',h2,h3,h4,h5⟩:=R w h;obtain⟨g,o',k,l,rfl,q,hc⟩:=h5 cw;cases h2;intro i v s
  grind[cell_of_row]) hu hd iG
 omega
theorem yX(l:List cy)(v:cI)(w:cB)(L:l.length<=1000000000)(R:ko w v l):rF 244 #[v] w (.bool (nj l)):=by
 obtain⟨H,cap,rfl,C,n⟩:=du R;have R:=cq R;have n:=cq n;have S:=cq (pF w);go_enter func244,ntmps244;go_wp2_with fail;go_loopw [7] (λi wr=>∃k:Nat,k<=l.length/\i=.int .i64 k/\Hid ((∀j,j<k->rU l j=true)/\St w none [] [] [] (λ_ _=>True) wr)) (λi _=>l.length-(intOf i).toNat);exact⟨0,cw,ae,λj t=>absurd t (u' _),S.o⟩;clear S;obtain⟨k,J,rfl,hS⟩:=hrel;by_cases a:k<l.length
 . obtain⟨b,o,rfl⟩:=n.o cw;have⟨hS,S⟩:=hS.o;have hS:=cq hS;have⟨q,hq⟩:=c8 (l[k]);have⟨A,hA⟩:=eW (ct 3 (c7 q));have e:=cq (jK l a (A:=A) bX);have u:=cq hA;have s:=cq (SF q A hA);have c:rU l k=(xR q&& (decide (k=0)||kN (l.getD (k-1) cH) q)):=by unfold rU;rw[P' a,hq]
   have c:=cq c;clear hA hq;cases D:xR q with
   |false=>rw[D] at s c;go_upto_region 4 with(first|refine Bf (R.o.cx S.b) a (tL u) e.o ?_|refine ey λW S=>?_);refine dL S cX λW S=>?_;refine cJ 0 (.agg A) ?_;refine jQ 1 λK m=>?_;go_wp2_with fail;refine je S (s.o _) λW S=>?_;refine fC m ?_;refine cJ 2 (.bool true) ?_;refine cJ 3 _ ?_;refine oA 4 ?_;refine oA 5 ?_;refine oA 6 ?_;refine oA 7 ?_;refine oA 8 ?_;refine oA 9 ?_;refine oA 10 ?_;refine oA 11 ?_;refine oA 12 ?_;refine oA 13 ?_;refine oA 14 ?_;refine oA 15 ?_;refine cJ 16 (.bool true) ?_;refine pz ?_;go_wp2;go_ret;exact⟨by rw[Ot a (by rw[c.o];rfl)];rfl,S.b⟩
   |true=>
    rw[D] at s c;by_cases f:k=0;have g:Hid (rU l k=true):=cq (by rw[c.o];simp[f]);have x:=cq f;clear f;go_upto_region 4 with(first|refine Bf (R.o.cx S.b) a (tL u) e.o ?_|refine ey λW S=>?_);refine dL S cX λW S=>?_;refine cJ 0 (.agg A) ?_;refine jQ 1 λK m=>?_;go_wp2_with fail;(refine je S (s.o _) λW S=>?_;refine fC m ?_;refine cJ 2 (.bool false) ?_;refine cJ 3 _ ?_;refine cJ 4 _ ?_;refine fW 5 (.bool false) ae (Or.inl ⟨cX,λw E=>by have z:=x.o;go_simp⟩) ?_;refine cJ 6 _ ?_;refine oA 7 ?_;refine oA 8 ?_;refine oA 9 ?_;refine oA 10 ?_;refine oA 11 ?_;refine oA 12 ?_;refine oA 13 ?_;refine oA 14 ?_;refine cJ 15 (.bool false) ?_;refine cJ 16 (.bool false) ?_;refine pz ?_;have d:∀j,j<k+1->rU l j=true:=λj t=>by rcases Bz.1 t with h|rfl;exact hS.o j h;exact g.o);rotate_left;have I:(k:Int)>0:=cw;obtain⟨k1,rfl⟩:∃k1,k=k1+1:=⟨k-1,cw⟩;have⟨p,hp⟩:=c8 (l[k1]);have⟨B,hB⟩:=eW (ct 3 (c7 p));have r:=cq (jK l (i:=k1) cw (A:=B) (by rw[hp];exact hB));have F:=cq hB;have⟨b2,hb2⟩:=c8 (kN p q);have y:=cq λw=>N4 p q w;rw[cP u.o,cP hB,hb2] at y;have g:Hid (rU l (k1+1)=b2):=cq iG;clear hB hp hb2 f;go_upto_region 4 with(first|refine Bf (R.o.cx S.b) a (tL u) e.o ?_|refine ey λW S=>?_);refine dL S cX λW S=>?_;refine cJ 0 (.agg A) ?_;refine jQ 1 λK m=>?_;go_wp2_with fail;refine je S (s.o _) λW S=>?_;refine fC m ?_;refine cJ 2 (.bool false) ?_;refine cJ 3 _ ?_;refine cJ 4 _ ?_;refine cJ 5 (.bool true) ?_;refine cJ 6 _ ?_;refine cJ 7 _ ?_;refine cJ 8 _ ?_;refine fW 9 (.int .i64 k1) ae (Or.inl ⟨cX,λw E=>by have z:IntKind.i64.wrap (k1:Int)=(k1:Int):=j0 _ cw;go_simp⟩) ?_;refine fW 10 (cZ b (o+k1*3)) ae (Or.inl ⟨cX,λw E=>by have z:k1<l.length:=cw;go_simp⟩) ?_;refine fW 11 (.agg B) ae (ySl (λw h=>by obtain⟨_,S⟩:=h;exact R.o.cx S.b) (show k1<l.length by omega) ae (tL F) r.o eN) ?_;refine cJ 12 (.agg A) ?_;refine jQ 13 λK m=>?_;go_wp2_with fail;refine je S (y.o _) λW S=>?_;refine fC m ?_;refine cJ 14 (.bool !b2) ?_;refine cJ 15 (.bool !b2) ?_;refine cJ 16 (.bool !b2) ?_;refine pz ?_;rcases b2 with _|_
    . go_wp2;go_ret;exact⟨by rw[Ot a g.o];rfl,S.b⟩
    have d:∀j,j<k1+1+1->rU l j=true:=λj t=>by rcases Bz.1 t with h|rfl;exact hS.o j h;exact g.o
    all_goals
     have d:=cq (And.intro d S.pop);go_wp2;go_roundw
     case rel=>first|exact⟨k+1,cw,by go_num,d⟩|exact⟨k1+1+1,cw,by go_num,d⟩
     case measure=>exact oV
 . obtain rfl:k=l.length:=cw;have⟨hS,S⟩:=hS.o;have G:=cq (VE hS);clear hS;go_wp2;go_ret;exact⟨by rw[G.o];rfl,S.b⟩
def ab6(p:cy)(s:Nat)(A:fJ)(a:A=ct 3 (c7 p))(w:cB):rF 154 #[.agg A,.int .u64 s] w (.bool (iP p s)):=by rw[<-cP a];exact Am p s w
def mr(l:List cy)(st:Nat):List cy:=l.filter λq=>!iP q st
def jT(l:List cy)(st:Nat):List cy:=l.filter (iP · st)
def M9(l:List cy)(v:cI)(st:Nat)(w:cB)(B:l.length<=1000000000)(R:ko w v l):
 CP_ 133 #[v,.int .u64 st] w λe w'=>∃a b,e=.returned (.tuple #[a,b])/\gg w' w.heap.size a (mr l st)/\gg w' w.heap.size b (jT l st)/\dz w w':=by
 obtain⟨y,cap,rfl,s,f⟩:=du R;have R:=cq R;have f:=cq f;have S:=cq (((pF w).Hi 106 3 ae ae).Hi 106 3 ae ae);go_enter func133,ntmps133;go_wp2_with fail;go_loopw [6,7,12] (λa b i wr=>∃k:Nat,k<=l.length/\i=.int .i64 k/\Hid (St w none [] [] [⟨106,3,a,(mr (l.take k) st).length,gY (mr (l.take k) st)⟩,⟨106,3,b,(jT (l.take k) st).length,gY (jT (l.take k) st)⟩] (λ_ _=>True) wr)) (λ_ _ i _=>l.length-(intOf i).toNat);exact⟨0,cw,ae,S⟩;clear S;obtain⟨k,z,rfl,hS⟩:=hrel;by_cases c:k<l.length
 . obtain⟨b,o,rfl⟩:=f.o cw;have S:=hS.o;clear hS;have n:=yE (λq=>!iP q st) l c;have p:=yE (iP · st) l c;have u:(mr (l.take k) st).length<=k:=gO (Ei _ _) bf;have x:(jT (l.take k) st).length<=k:=gO (Ei _ _) bf;have⟨q,hq⟩:=c8 (l[k]);have⟨A,hA⟩:=eW (ct 3 (c7 q));have d:=cq (jK l c (A:=A) bX);have r:=cq hA;have m:=cq (ab6 q st A hA);rw[hq] at n p;have h:Hid (mr (l.take (k+1)) st=mr (l.take k) st++if(!iP q st)=true then [q] else []):=cq n;have j:Hid (jT (l.take (k+1)) st=jT (l.take k) st++if iP q st=true then [q] else []):=cq p;clear n p hA hq;generalize mr (l.take k) st=M at S h u;generalize jT (l.take k) st=N at S j x;cases t:iP q st with|false=>rw[t] at m h j;go_wp2_with (first|refine Bf (R.o.cx S.b) c (tL r) d.o ?_|refine je S (m.o _) λW S=>?_|refine rK S 0 rfl 0 rfl rfl rfl rfl fU (df _) Br wR λg cap W S=>?_|refine eR ?_|refine ey λW S=>?_);go_roundw;exact⟨k+1,cw,by go_num,by rw[h.o,j.o];simp only[Bool.not_false,nI,Kd,lE,vd];rw[ik,im,oH];exact cq S.pop.pop⟩;exact oV|true=>rw[t] at m h j;go_wp2_with (first|refine Bf (R.o.cx S.b) c (tL r) d.o ?_|refine je S (m.o _) λW S=>?_|refine rK S 0 rfl 1 rfl rfl rfl rfl fU (df _) Br wR λg cap W S=>?_|refine eR ?_|refine ey λW S=>?_);go_roundw;exact⟨k+1,cw,by go_num,by rw[h.o,j.o];simp only[Bool.not_true,nI,Kd,lE,vd];rw[ik,im,oH];exact cq S.pop.pop⟩;exact oV
 . obtain rfl:k=l.length:=cw;have S:=hS.o;rw[oT] at S;clear hS;go_wp2;go_ret2;exact⟨_,_,ae,S.o0,S.o1,S.b⟩
end
section
variable {P:kS}
variable {w0:cB}{l:cD}{X:cD->cB->Prop}
def St.made(S:St w0 d l L O X w)(f:cur.size=cap*z)(c:cap<=maxLen)(a:fT e=false)(b:kO e=false):
 St w0 d l L (⟨e,z,.slice (some ⟨w.heap.size,0,none⟩) 0 cap,0,[]⟩::O) X (w.alloc (.cells cur e)):=
 S.gm ((fO _ _).alloc (dK _) _) (World.ownsRow_made w cur cap (dK _) c f) a b
def aiZ(dst:Nat)(ty:dC){r:Operand}(h:wpList P ops Q (⟨some dst,.makeSlice ty q r,t2,p,af,none⟩::rest) a w):wpList P ops Q (⟨some dst,.makeSlice ty q r,t2,p,af,none⟩::rest) a w:=h
theorem IX(S:St w0 d l L O X w){r:Operand}(o:vT P ty e z by')(k:a.eval q=.int .i64 0)(m:a.eval r=.int .i64 n)(s:by'*n<=281474976710656)(j:n<=maxLen)(c:fT e=false)(f:kO e=false)(h:∀g W,St w0 d l L (⟨e,z,.slice (some ⟨g,0,none⟩) 0 n,0,[]⟩::O) X W->wpList P ops Q rest (a.put (some dst) (.slice (some ⟨g,0,none⟩) 0 n)) W):
 wpList P ops Q (⟨some dst,.makeSlice ty q r,t2,p,af,none⟩::rest) a w:=by have⟨hu,zv,hi,hz,h0⟩:=o;have⟨it,hi1,hz0,hz1,hz2⟩:=nB hi;have b:=run_make w ty e it zv hu hi1 hz0 .i64 .i64 0 (n:Nat) cw cw iG bE;simp only[sO,hz1,Int.toNat_zero] at b;refine lF ae λK i=>?_;unfold Oper.wp execOp;simp only[kj,k,m,b,mS];exact i _ _ (h _ _ (S.made (by grind[madeCells]) j c f))
theorem Bg(w:cB)(base:Nat)(t ty e:dC)(i:TypeInfo)(b:Nat)(j:P.underlying t=some (.slice e))(h:P.info? e=some i)(v:cI)(n:Nat)(xs:List cI)(a:w.ownsRow base e b v n xs)(d:Option Addr)(c:Nat):
 (Builtin.append_ #[t,t] ty #[v,.slice d 0 c]).run P w=.ok v w:=by rcases a.2 with⟨rfl,rfl⟩|⟨g,cap,cur,rfl,_,_,f,_⟩;cases d<;>simp[Builtin.append_,xC j,sizeOf,typeInfo,h,Builtin.lenOf,Builtin.firstCells,loadCells,loadCellsFrom];cases d<;>simp[Builtin.append_,xC j,sizeOf,typeInfo,h,Builtin.lenOf,Builtin.firstCells,f,storeCells,loadCells,loadCellsFrom]
theorem agx(S:St w0 d l L O X w)(j:Nat){o:O4}(q:O[j]?=some o)(A:a.eval (.tmp x)=o.v)(B:a.eval (.tmp y)=v)(R:cK w T o.z v n xs)(Y:vT P t o.e o.z by')(F:∀u∈xs,u.oneCell'=true)(V:(o.n+n)*by'<=140737488355328)(U:o.n+n<=maxLen)(h:∀v' W,St w0 d l L (O.set j ⟨o.e,o.z,v',o.n+n,o.xs++xs⟩) X W->K (a.put (some dst) v') W):
 Oper.wp P ⟨some dst,.call {callee:=.builtin .append,args:=#[.tmp x,.tmp y],argTypes:=#[t,t]},t2,p,af,none⟩ a w K Q:=by have⟨hu,zv,hi,hz,h0⟩:=Y;have⟨it,hi1,hz0,hz1,hz2⟩:=nB hi;obtain⟨N,C,cap,rfl,G,H,m⟩:=R;by_cases r:n=0;(subst r;have s:xs=[]:=wj cw;subst s;have f:=Bg (P:=P) w w0.heap.size t t2 o.e it o.z hu hi1 o.v o.n o.xs (S.s8 q) C cap;unfold Oper.wp execOp;simp only[resolve,invoke,builtin,kj,qq,mS,map_toArray,xd,map_nil,A,B,f];refine h _ _ ?_;rw[wi,vd];have e1:O.set j ⟨o.e,o.z,o.v,o.n,o.xs⟩=O:=by apply wm;intro i;rw[z8];split;(next h=>subst h;split<;>simp_all);rfl);grind;obtain⟨b,c,D,E,rfl,M,I⟩:=m cw;refine wp_append_lies w (.tmp x) (.tmp y) t ae w0.heap.size o.e it zv o.z by' hu hi1 hz0 hz1 hz2 hz h0 o.v o.n o.xs A (S.s8 q) ⟨b,c,none⟩ n cap xs B N (λi u Z=>?_) F cw U V S.fr.size _ ae λg z w' e J k _=>h _ w' ?_;rw[show(⟨b,c,none⟩:Addr).add i=⟨b,c+i,none⟩ from by grind[Addr.add],cell_of_row w b _ D T E M];grind;exact S.grow q J e ae k
def EP(S:St w0 d l L O X w)(j:Nat){o:O4}(e:O[j]?=some o)(i:a.eval (.tmp x)=o.v)(m:a.eval (.tmp y)=v)(R:cK w T o.z v n xs)(k:vT P t o.e o.z by')(b:∀u∈xs,u.oneCell'=true)(g:(o.n+n)*by'<=140737488355328)(f:o.n+n<=maxLen)(h:∀v' W,St w0 d l L (O.set j ⟨o.e,o.z,v',o.n+n,o.xs++xs⟩) X W->wpList P ops Q rest (a.put (some dst) v') W):
 wpList P ops Q (⟨some dst,.call {callee:=.builtin .append,args:=#[.tmp x,.tmp y],argTypes:=#[t,t]},t2,p,af,none⟩::rest) a w:=
 lF ae λ_ c=>agx S j e i m R k b g f λv' W hS=>c _ _ (h v' W hS)
end
def ab7:(prog.info? 5).map (λi=>(i.zero,i.size,i.bytes))=some (some (.int .u8 0),1,1):=cX
def AD:vT prog 22 5 1 1:=⟨nK,_,ab7,ae,cw⟩
def zD(l:cD):∀u∈l.map λ(x:Nat)=>Value.int .u8 (x:Int),u.oneCell'=true:=λu a=>by obtain⟨_,_,rfl⟩:=fM.1 a;rfl
def oK(l:List cy):cD:=l.flatMap gK
def pN(l:List cy):Option cD:=if l.length<=4000/\nj l=true then some (oK l) else none
theorem uA(l:List cy):(oK l).length=l.length*16:=vw ff l
theorem SG{l:List cy}(h:nj l=true)(a:k<l.length):fY l[k]=true:=by simp_all[nj,rU,xR]
theorem K6(p:cy)(b:cY p)(c:fY p=true)(A:fJ)(a:A=ct 3 (c7 p))(w:cB):
 CP_ 233 #[.agg A] w λe w'=>∃r,e=.returned (.tuple #[r,.int .i64 0])/\w'.ownsRow w.heap.size 5 1 r 16 ((gK p).map λ(x:Nat)=>Value.int .u8 (x:Int))/\dz w w':=by rw[<-cP a];refine(wC p b w).mono λe w' h=>?_;simp_all[lS,ff]
theorem VF(l:List cy)(a:k<l.length):oK (l.take (k+1))=oK (l.take k)++gK l[k]:=by grind[oK,take_succ_eq_append_getElem]
section
attribute[local irreducible]wpList Code.wp Calls Oper.wp wpAnyH
def Na(l:List cy)(B:∀q∈l,cY q)(v:cI)(w:cB)(I:l.length<=1000000000)(R:ko w v l):
 CP_ 275 #[v] w λe w'=>∃r,e=.returned (.tuple #[r,.int .i64 (fp 131 (pN l))])/\lS w' w.heap.size r ((pN l).getD [])/\dz w w':=by
 have u:=cq λw R=>yX l v w I R;obtain⟨K,cap,rfl,z,f⟩:=du R;have R:=cq R;have f:=cq f;have S:=cq (pF w);by_cases c:l.length<=4000;case neg=>have d:Hid (pN l=none):=cq (by unfold pN;rw[cM (λh=>c h.1)]);have S:=S.o;go_enter func275,ntmps275;go_wp2;go_ret2;exact ak3
 cases m:nj l with
 |false=>rw[m] at u;have d:Hid (pN l=none):=cq (by unfold pN;rw[cM (λh=>by rw[m] at h;cases h.2)]);have S:=S.o;go_enter func275,ntmps275;go_wp2_with (refine je S (u.o _ (R.o.cx S.b)) λW S=>?_);go_ret2;exact ak3
 |true=>
  rw[m] at u;have d:Hid (pN l=some (oK l)):=cq (by unfold pN;rw[cL ⟨c,m⟩]);have F:=cq m;clear m;have S:=S.o;have J:IntKind.i64.wrap ((l.length:Int)*16)=((l.length*16:Nat):Int):=by rw[j0 _ cw];omega
  have E:=cq B;clear B;go_enter func275,ntmps275;go_upto_region 5 with(first|refine je S (u.o _ (R.o.cx S.b)) λW S=>?_|refine IX S (n:=l.length*16) AD rfl rfl cw wR rfl rfl λg W S=>?_);have S:=cq S;go_loopw [4,23] (λv i wr=>∃k:Nat,k<=l.length/\i=.int .i64 k/\Hid (St w none [] [] [⟨5,1,v,k*16,(oK (l.take k)).map λ(x:Nat)=>Value.int .u8 (x:Int)⟩] (λ_ _=>True) wr)) (λ_ i _=>l.length-(intOf i).toNat);exact⟨0,cw,ae,S⟩;clear S;obtain⟨k,L,rfl,hS⟩:=hrel;by_cases a:k<l.length
  . obtain⟨b,o,rfl⟩:=f.o cw;have S:=hS.o;clear hS;obtain⟨q,s⟩:=c8 (l[k]);obtain⟨A,y⟩:=eW (ct 3 (c7 q));have t:=cq (jK l a (A:=A) (by rw[s];exact y));have D:=cq y;have C:=cq (K6 q (s▸E.o _ (lU a)) (by rw[<-s];exact SG F.o a) A y);have j:=VF l a;rw[s] at j;have p:=cq j;clear y s j;generalize oK (l.take k)=M at S p;have H:=ff q;go_wp2_with (first|refine Bf (R.o.cx S.b) a (tL D) t.o ?_|(refine ag (C.o _) λr W⟨ho,G⟩=>?_;replace S:=S.gm G ho ae ae)|(refine EP S 1 ae (by':=1) ae ae S.q0 AD (zD _) Br wR ?_;clear S;intro v' W S)|refine eR ?_|refine ey λW S=>?_);go_roundw;exact⟨k+1,cw,by go_num,by rw[p.o,mI,succ_mul];exact cq S.pop.M6⟩;exact oV
  . obtain rfl:k=l.length:=cw;have S:=hS.o;rw[oT] at S;clear hS;go_wp2;go_ret2;refine⟨_,by rw[d.o];rfl,?_,S.b⟩;rw[d.o];have h:=S.o0;unfold lS;rw[show((some (oK l)).getD [])=oK l from ae,uA];exact h
def rC:Nat->cD->Option (List cy)
 |0,_=>some []
 |k+1,bs=>match rC k bs with
  |none=>none
  |some ps=>match mU ((bs.drop (16*k)).take 16) with
   |none=>none
   |some q=>some (ps++[q])
def ke(bs:cD):Option (List cy):=
 if bs.length%16=0/\bs.length<=64000 then
  match rC (bs.length/16) bs with
  |none=>none
  |some l=>if nj l=true then some l else none
 else none
theorem SH(h:rC k bs=none)(a:k<=m):rC m bs=none:=by induction m with|zero=>grind|succ m ih=>grind[rC]
theorem VG{k:Nat}{bs:cD}{l:List cy}(h:rC k bs=some l):l.length=k:=by induction k generalizing l<;>grind[rC]
theorem VH(l:cD)(k:Nat):(dh l).take k=dh (l.take k):=by simp_all[dh]
theorem Qa(bs:cD)(v:cI)(w:cB)(hs:bs.length<=1000000000)(L:dR .u8 w v (dh bs))(hc:yr v):
 CP_ 242 #[v] w λe w'=>∃r,e=.returned (.tuple #[r,.int .i64 (fp 131 (ke bs))])/\gg w' w.heap.size r ((ke bs).getD [])/\dz w w':=by
 have U:=cq L;obtain⟨ao,cap,rfl,-,-,-⟩:=L;obtain⟨_,_,_,he,d⟩:=hc;simp only[kM] at he;obtain⟨rfl,rfl,rfl⟩:=he;rw[cV] at U d|-;have S:=pF w;by_cases hm:bs.length%16=0
 case neg=>
  have B:Hid (ke bs=none):=cq (by unfold ke;rw[cM (λh=>hm h.1)]);have g:(((bs.length:Nat):Int)%16 !=0)=true:=by rw[eO];omega
  go_enter func242,ntmps242;go_wp2;go_ret2;exact⟨_,by rw[B.o];rfl,by rw[B.o];exact aR,S.b⟩
 have g:(((bs.length:Nat):Int)%16 !=0)=false:=by rw[tX];omega
 by_cases Z:bs.length<=64000;case neg=>have B:Hid (ke bs=none):=cq (by unfold ke;rw[cM (λh=>Z h.2)]);go_enter func242,ntmps242;go_wp2;go_ret2;exact⟨_,by rw[B.o];rfl,by rw[B.o];exact aR,S.b⟩
 obtain⟨n,B⟩:∃n,bs.length=16*n:=⟨bs.length/16,cw⟩;have f:Hid (ke bs=match rC n bs with|none=>none|some l=>if nj l=true then some l else none):=cq (by unfold ke;rw[cL ⟨hm,Z⟩,show bs.length/16=n by omega]);have hq:IntKind.i64.wrap (((bs.length:Nat):Int)/16)=(n:Int):=by rw[j0 _ cw];omega
 rw[B] at U d;have a2:(((bs.length:Nat):Int)/16)=(n:Int):=cw;go_enter func242,ntmps242;go_upto_region 4 with(refine IX S (n:=n) fU ae ae cw wR ae ae λg W S=>?_);have S:=cq S;go_loopw [0,4] (λu v wr=>∃(k m:Nat)(a:Option Addr)(c:Nat)(ps:List cy),m+16*k=16*n/\u=.slice a m c/\m<=c/\ps.length=k/\Hid (rC k bs=some ps/\dR .u8 w u (dh (bs.drop (16*k)))/\St w none [] [] [⟨106,3,v,ps.length,gY ps⟩] (λ_ _=>True) wr)) (λu _ _=>match u with| .slice _ m _=>m|_=>0);exact⟨0,16*n,ao,cap,[],cw,ae,d,ae,ae,U.o,S.o⟩;clear S;obtain⟨k,m,a,c,ps,hk,rfl,V,I,hS⟩:=hrel;by_cases a1:k<n
 . (obtain⟨M,rfl⟩:∃M,m=M+16:=⟨m-16,cw⟩;obtain⟨E,rfl⟩:∃E,c=E+16:=⟨c-16,cw⟩;obtain⟨i,C,S⟩:=hS.o;clear hS;have s:=UW (y:=16) C cw;rw[VH] at s;have t:=Ai (y:=16) C cw V;rw[Aj,drop_drop,Pb,Pb,show 16*k+16=16*(k+1) by omega] at t;obtain⟨b,o,rfl,-,-⟩:∃b o,a=s_ b o/\True/\True:=by(obtain⟨a',c',e1,_,_,e4⟩:=C;simp only[kM] at e1;obtain⟨rfl,-,-⟩:=e1;have X:dh (bs.drop (16*k))≠ []:=λh=>by have:=fK length h;rw[cV,r8] at this;simp at this;omega);obtain⟨b,o,h1,_⟩:=e4 X;exact⟨b,o,h1,gI,gI⟩);(have p:=cq s;have F:dR .u8 w (.slice (if E=0 then some ⟨b,o,none⟩ else some ⟨b,o+16,none⟩) M E) (dh (bs.drop (16*(k+1)))):=by rw[Ps] at t;grind);(have O:=cq F;have Q:=cq i;clear C s t F i;obtain⟨x,Y⟩:=c8 ((bs.drop (16*k)).take 16);rw[Y] at p;have K:=cq λu w L hc=>vh u x w L hc;have J:rC (k+1) bs=match mU x with|none=>none|some q=>some (ps++[q]):=by show(match rC k bs with|none=>none|some ps=>match mU ((bs.drop (16*k)).take 16) with|none=>none|some q=>some (ps++[q]))=_;rw[Q.o,Y]);have j:=cq J;clear J Y;cases D:mU x with|none=>obtain⟨T,z⟩:=eW (ct 3 (c7 cH));rw[D,show(none:Option cy).getD cH=cH from ae,cP z] at K;rw[D] at j;have HT:=cq z;clear z D;have H:Hid (ke bs=none):=cq (by rw[f.o,SH (k:=k+1) j.o cw]);go_wp2_with (first|refine je S (K.o _ _ (p.o.cx S.b) ⟨_,_,_,rfl,cw⟩) λW S=>?_|refine ey λW S=>?_);go_ret2;exact⟨_,by rw[H.o];rfl,by rw[H.o];exact aR,S.b⟩|some q=>obtain⟨T,z⟩:=eW (ct 3 (c7 q));rw[D,show(some q).getD cH=q from ae,cP z] at K;rw[D] at j;have HT:=cq z;clear z D;go_wp2_with (first|refine je S (K.o _ _ (p.o.cx S.b) ⟨_,_,_,rfl,cw⟩) λW S=>?_|refine rK S 0 rfl 0 rfl rfl rfl rfl fU (df _) Br wR λg cap W S=>?_|refine eR ?_|refine ey λW S=>?_);go_roundw;exact⟨k+1,M,_,E,ps++[q],cw,ae,cw,by simp[I],by rw[ik,im,oH];exact cq ⟨j.o,O.o,by rw[<-I];exact S.pop.pop⟩⟩;simp
 . obtain rfl:k=n:=cw;obtain rfl:m=0:=cw;obtain⟨i,C,S⟩:=hS.o;clear hS C;rw[i] at f;obtain⟨b,A⟩:=c8 (nj ps);have N:=cq λv w R=>yX ps v w cw R;rw[A] at N;simp only[A] at f;clear A i;cases b with|true=>go_wp2_with (refine je S (N.o _ _ (gg.sl S.o0)) λW S=>?_);go_ret2;have G:ke bs=some ps:=f.o;exact⟨_,by rw[G];rfl,by rw[G];exact S.o0,S.b⟩|false=>go_wp2_with (refine je S (N.o _ _ (gg.sl S.o0)) λW S=>?_);go_ret2;have G:ke bs=none:=f.o;exact⟨_,by rw[G];rfl,by rw[G];exact aR,S.b⟩
end
end Go.Proofs.YtklligbjoplbgaaGreat