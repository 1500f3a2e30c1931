/- Part 8. No conditions. -/
import Derived.Test.YtklligbjoplbgaaGreatNag
import Derived.Sort.CutIn
set_option linter.all false
namespace Go.Proofs.YtklligbjoplbgaaGreat
set_option maxRecDepth 100000
set_option maxHeartbeats 64000000
open Go.RowKit Lib List Nat _root_.Go.Proofs.Tryz Go.Shelf
variable {A tmps:fJ}{a:Act}{K:Act->cB->Prop}{parts:Array (Nat×Operand)}{af:Array Edge}{ops:Array Oper}{R:Ending->cB->Prop}{Q:Exit->Act->cB->Prop}{fn:Func}{B l:cD}{X:cD->cB->Prop}{O:List O4}{rest:List Oper}{L:List R4}{xs:List cI}{D G M b c dst i k n o own x z:Nat}{g:Nat×Bool}{m:Nat->Nat}{f:Nat->cI}{gd:Option (Nat×Bool)}{ao:Option Addr}{d:Option Nat}{P:kS}{s:Pl}{p:String}{e t t2 ty u:dC}{β:Type}{v:cI}{W W' w w' w0:cB}{SS:cB->Prop}
def kJ(bs:cD):Option (Nat×List cR):=
 match um bs with
 |none=>none
 |some ts=>if ts.length<1∨33<ts.length then none else match qQ [8] (ts.headD []) with
  |none=>none
  |some ns=>match lO (ts.drop 1) with
   |none=>none
   |some l=>match iw (ns.getD 0 0) l with
    |none=>none
    |some b=>if b=bs then some (ns.getD 0 0,l) else none
theorem VR(ao:Option Addr)(c y s:Nat)(n m k:Nat):Value.ownBlock (.slice (kx ao c y s) n k)=Value.ownBlock (.slice ao m c):=by unfold kx;split;cases ao<;>rfl;cases ao with|none=>rfl|some x=>grind[Value.ownBlock,Addr.add]
theorem acm(h:xL e z (.slice ao n c) n xs B w)(a:i<=n):xL e z (.slice (kx ao c i z) (n-i) (c-i)) (n-i) (xs.drop (i*z)) B w:=
 ⟨cK.Bj h.1 a,λf b d=>h.2 cw b (by grind[VR])⟩
def DS{l:List cR}{b:cD}(h:iw n l=some b):∀y∈b,y<256:=by unfold iw at h;split at h;cases h;split at h;cases h;next ts hts=>refine S8 h λt c=>?_;rcases ib.1 c with rfl|h2;exact vg _ _;obtain⟨s,a⟩:=FX hts t h2;exact Ll a
def aeU(w':cB)(base:Nat)(r:cI)(l:List cR):Prop:=∃m,AG w' base r m/\dJ m=l
def agG:ER prog 75 1:=⟨cX,λW=>by rfl⟩
section
attribute[local irreducible]wpList Code.wp Calls Oper.wp wpAnyH
theorem Nn(bs:cD)(u:cI)(d2:bs.length<=1000000000)(Z:∀y∈bs,y<256)(w:cB)(R:cK w 5 1 u bs.length (dH bs)):
 CP_ 150 #[u] w λe w'=>∃r,e=.returned (.tuple #[.int .u64 (((kJ bs).map Prod.fst).getD 0:Nat),r,.int .i64 (fp 151 (kJ bs))])/\aeU w' w.heap.size r (((kJ bs).map Prod.snd).getD [])/\dz w w':=by
 obtain⟨ua,uc,rfl,c6,d3⟩:=du R;have HR:=cq R;have U:=cq λW(d:dz w W)=>N3 _ bs cw W (cK.tr (HR.o.cx d) Z) ⟨_,_,_,ae,c6⟩;have S:=pF w;obtain⟨T,hT⟩:=c8 (kJ bs);rw[hT];have J:∀W B,AG W B (.slice none 0 0) []:=λW B=>⟨gz _ _ _ _,λx f=>by cases f⟩;have J:=cq J;go_enter func150,ntmps150;cases i:um bs with
 |none=>
  obtain rfl:none=T:=by rw[<-hT];unfold kJ;rw[i]
  rw[i] at U;go_wp2_with (refine ag (U.o _ S.b) λr W⟨ho,d⟩=>?_;replace S:=S.cx d);go_ret3;exact⟨_,ae,⟨[],J.o _ _,ae⟩,S.b⟩
 |some ts=>
  have D:=Dh i Z;rw[i] at U;simp only[ku] at U;by_cases h1:ts.length<1
  . obtain rfl:none=T:=by rw[<-hT];unfold kJ;rw[i];simp only[h1,true_or,nI]
    have i1:(ts.length:Int)<1:=cw
    go_wp2_with (refine ag (U.o _ S.b) λr W⟨ho,d⟩=>?_;obtain⟨ra,rc,rfl⟩:=zK ho;replace S:=S.cx d)
    go_ret3;exact⟨_,ae,⟨[],J.o _ _,ae⟩,S.b⟩
  have i1:¬(ts.length:Int)<1:=cw;by_cases V:33<ts.length
  . obtain rfl:none=T:=by rw[<-hT];unfold kJ;rw[i];simp only[V,or_true,nI]
    have i2:(33:Int)<(ts.length:Int):=cw
    go_wp2_with (refine ag (U.o _ S.b) λr W⟨ho,d⟩=>?_;obtain⟨ra,rc,rfl⟩:=zK ho;replace S:=S.cx d)
    go_ret3;exact⟨_,ae,⟨[],J.o _ _,ae⟩,S.b⟩
  have i2:¬(33:Int)<(ts.length:Int):=cw;have Y:(match qQ [8] (ts.headD []) with|none=>none|some ns=>match lO (ts.drop 1) with|none=>none|some l=>match iw (ns.getD 0 0) l with|none=>none|some b=>if b=bs then some (ns.getD 0 0,l) else none)=T:=by
   rw[<-hT];unfold kJ;rw[i];simp only[h1,V,or_self,lE]
  obtain⟨gn,z⟩:=c8 (qQ [8] (ts.headD []));have C2:=cq λv u W hv hu hc=>II v u [8] (ts.headD []) jR W hv hu hc;rw[z] at Y C2;have c2:∀ns,gn=some ns->∃A,A<18446744073709551616/\ns=[A]:=by
   intro ns h;rw[h] at z;unfold qQ at z;split at z
   . next hc=>
     cases z;refine⟨iH ((ts.headD []).take 8),?_,ae⟩;have d:∀y∈(ts.headD []).take 8,y<256:=λy hy=>by
      have q:=lu hy;rcases ts with _|⟨t,ts⟩
      . cases q
      . exact D t (lW ..) y q
     have h1:=Di d;have V:256^((ts.headD []).take 8).length<=256^8:=Pc cw bf;omega
   . cases z
  have b8:=cq (show∀y∈dh [8],(Lit.int .i64 y).wf=true by decide)
  go_upto_region 5 with(first|(refine ag (U.o _ S.b) λr W⟨ho,d⟩=>?_;obtain⟨ra,rc,rfl⟩:=zK ho;obtain⟨ps,F,b2,S9⟩:=S.OD d ho;replace S:=S9;have M:ps.length=ts.length:=(by rw[<-F,lV]);replace S:=S.Dx (X':=λB w=>xL 22 1 (.slice ra ts.length rc) ts.length (ps.map Prod.fst) B w/\AK ps B w) (λB w h=>(by rw[<-M];rw[<-M] at h;exact h.2)) ((eI _ _ _ _ _ ae ae).and (qD _)).k8;obtain⟨rb,ro,rfl⟩:∃rb ro,ra=s_ rb ro:=(by obtain⟨_,_,e1,_,h⟩:=du S.x.1.1;grind);obtain⟨v0,O,a,I⟩:∃v0 O a,ps=(v0,O)::a:=(by have:=M;rcases ps with _|⟨⟨v0,O⟩,a⟩;simp at this;omega;exact⟨v0,O,a,ae⟩);obtain⟨a0,c0,rfl,b9⟩:=zL (p:=O) (S.x.2 (v0,O) (by rw[I];simp)))|refine lK S .i64 (dh [8]) oW td cw cw rfl rfl rfl λW S=>?_|refine yi (cK.cellAt S.x.1.1 (j:=0) cw (by rw[I];rfl)) ?_|(refine ag (C2.o _ _ _ (dR.row S.k0 ae (show(1:Nat)<=_ by omega) b8.o) (by have q:=cK.tr (S.x.2 (.slice a0 O.length c0,O) (by rw[I];simp)).1 (D O (by rw[<-F,I];simp));rw[<-F,I];exact q) ⟨_,_,_,ae,b9⟩) λr W⟨ho,d⟩=>?_;obtain⟨na,nc,rfl⟩:=cS ho;replace S:=S.J4 d ho ae ae))
  cases gn with
  |none=>
   obtain rfl:none=T:=Y;go_wp2;go_ret3;exact⟨_,ae,⟨[],J.o _ _,ae⟩,S.b⟩
  |some ns=>
   obtain⟨A,c3,rfl⟩:=c2 ns ae;simp only[ku] at S|-;have hN:ts.length-1=a.length:=by have:=M;rw[I] at this;simp at this;omega
   have hw:IntKind.i64.wrap ((ts.length:Int)-1)=((a.length:Nat):Int):=by rw[j0 _ cw];omega
   have d1:a.length<=32:=cw;have a7:1<=ts.length:=cw;have c1:(ts.drop 1)=a.map Prod.snd:=by rw[<-F,I];rfl
   have Q:(match lO (a.map Prod.snd) with|none=>none|some l=>match iw A l with|none=>none|some b=>if b=bs then some (A,l) else none)=T:=by
    rw[<-c1];exact Y
   have b7:=cq (show∀p∈a,Al p.1/\p.2.length<=65535/\∀y∈p.2,y<256 from λp hp=>by
    have q:p∈ps:=by rw[I];exact jI _ hp
    exact⟨(b2 p q).1,(b2 p q).2,D p.2 (by rw[<-F];exact fM.2 ⟨p,q,ae⟩)⟩)
   skip
   go_upto_region 9 with(first|refine IX S (n:=a.length) Hk rfl rfl cw wR rfl rfl λg W S=>?_|(refine xU agG ae ae a7 ?_;obtain⟨md,b1⟩:=c8 (kx (s_ rb ro) rc 1 1);replace S:=S.Dx (X':=λB w=>(xL 22 1 (.slice md a.length (rc-1)) a.length (a.map Prod.fst) B w/\AK a B w/\xL 82 1 (.slice na 1 nc) 1 [.int .u64 A] B w)/\nE [] B w) (λB w h=>⟨⟨by have q:=acm h.1.1 a7;rw[b1,hN,I] at q;exact q,λp hp=>h.1.2 p (by rw[I];exact jI _ hp),h.2⟩,λx f=>by cases f⟩) (((eI _ _ _ _ _ ae ae).and ((qD _).and (eI _ _ _ _ _ ae ae))).and (iq _)).k8;rw[b1,hN]))
   have b6:=cq ((eI 22 1 (.slice md a.length (rc-1)) a.length (a.map Prod.fst) ae ae).and ((qD a).and (eI 82 1 (.slice na 1 nc) 1 [.int .u64 A] ae ae)));have S:=cq S
   go_loopw [8,48] (λlv kv wr=>∃(k:Nat)(m:List dg)(g c:Nat),k<=a.length/\kv=.int .i64 k/\m.length=k/\lv=.slice (s_ g 0) m.length c/\Hid (lO ((a.map Prod.snd).take k)=some (dJ m)/\(∀x∈m,qg w.heap.size x)/\(∀s∈dJ m,tt s/\s.cO.length<=4000)/\
    ∃L,St w none [] L [⟨109,11,.slice (s_ g 0) m.length c,m.length,ij m⟩] (λB w=>(xL 22 1 (.slice md a.length (rc-1)) a.length (a.map Prod.fst) B w/\AK a B w/\xL 82 1 (.slice na 1 nc) 1 [.int .u64 A] B w)/\nE m B w) wr)) (λ_ kv _=>a.length-(intOf kv).toNat)
   case atStart=>exact⟨0,[],g,a.length,cw,ae,ae,ae,cq ⟨ae,(by intro x f;cases f),(by intro x f;cases f),_,S.o⟩⟩
   case round=>
    obtain⟨k,m,g,c,hk,rfl,a3,rfl,hS⟩:=hrel;obtain⟨E,a9,a5,L,S⟩:=hS.o;have b5:=cq a3;have c7:m.length<=32:=cw;by_cases D:k<a.length
    . obtain⟨⟨vk,H⟩,a4⟩:∃p,a[k]?=some p:=⟨_,iz D⟩;have o:=kt a4;obtain⟨c4,c5,N⟩:=b7.o _ o;simp only at c4 c5 N;obtain⟨ak,ck,rfl,a8⟩:=zL (p:=H) (S.x.1.2.1 (vk,H) o);obtain⟨lb,lo,rfl⟩:∃lb lo,md=s_ lb lo:=by
       obtain⟨_,_,e1,_,h⟩:=du S.x.1.1.1
       grind
      have C:Hid ((a.map Prod.fst)[k]?=some (.slice ak H.length ck)):=cq (by rw[ql,a4];rfl);obtain⟨rp,a6⟩:=c8 (tu H);have C5:=cq λu W hu hc=>Zt H u cw W hu hc;rw[a6] at C5;have G:lO ((a.map Prod.snd).take (k+1))=rp.bind λs=>some (dJ m++[s]):=by
       have q:(a.map Prod.snd).take (k+1)=(a.map Prod.snd).take k++[H]:=by
        rw[take_succ,ql,a4];rfl
       rw[q,Nk,E,<-a6];simp only;cases tu H<;>rfl
      have K:=cq (show∀s,rp=some s->tt s/\s.cO.length<=4000 from λs hs=>FY N (a6.trans hs));clear a3;cases rp with
      |none=>
       obtain rfl:none=T:=by rw[<-Q,Nl G]
       go_wp2_with first|refine yi (cK.cellAt S.x.1.1.1 cw C.o) ?_|(refine ag (C5.o _ _ (cK.tr (S.x.1.2.1 (.slice ak H.length ck,H) o).1 N) ⟨_,_,_,ae,a8⟩) λB W⟨⟨y,hB,hy,ho⟩,d⟩=>?_;replace S:=S.cx d)|refine ey λW S=>?_
       go_ret3;exact⟨_,ae,⟨[],J.o _ _,ae⟩,S.b⟩
      |some s=>
       simp only[ku] at C5
       go_wp2_with first|refine yi (cK.cellAt S.x.1.1.1 cw C.o) ?_|(refine ag (C5.o _ _ (cK.tr (S.x.1.2.1 (.slice ak H.length ck,H) o).1 N) ⟨_,_,_,ae,a8⟩) λB W⟨⟨y,hB,hy,ho⟩,d⟩=>?_;have b4:=cq (show qg w.heap.size y from λhn b d=>gO S.fr.size ((qW.of ho).2 hn b d));replace S:=S.zH d ho)|refine rK S 0 rfl 0 rfl rfl rfl rfl Hk (lM _) Br wR λg9 c9 W S=>?_|refine eR ?_|refine ey λW S=>?_
       go_roundw
       case rel=>
        refine⟨k+1,m++[y],g9,c9,cw,by go_num,by rw[ik,b5.o];rfl,by rw[ik];rfl,cq ⟨?_,λx f=>?_,λx f=>?_,L,?_⟩⟩
        . rw[G,show dJ (m++[y])=dJ m++[y.tocR] by unfold dJ;rw[mI];rfl,hy];rfl
        . rcases fL.1 f with h|h
          . exact a9 x h
          . rw[eV.1 h];exact b4.o
        . rw[show dJ (m++[y])=dJ m++[y.tocR] by unfold dJ;rw[mI];rfl,hy] at f;rcases fL.1 f with h|h
          . exact a5 x h
          . rw[eV.1 h];exact K.o s ae
        . rw[ik,vx,SO];have S:=S.pop.pop;refine S.Dx (λB w h=>⟨h.1.1,λx f=>?_⟩) (b6.o.and (iq _)).k8;rcases fL.1 f with V|V
          . exact h.1.2 x V
          . rw[eV.1 V];exact h.2
       case measure=>exact oV
    . obtain rfl:k=a.length:=cw;have E:=E;rw[nz (by rw[lV];exact dK _)] at E;obtain⟨nb,no,rfl⟩:∃nb no,na=s_ nb no:=by
       obtain⟨_,_,e1,_,h⟩:=du S.x.1.2.2.1
       grind
      obtain⟨eb,a1⟩:=c8 (iw A (dJ m));have X:(eb.bind λb=>if b=bs then some (A,dJ m) else none)=T:=by rw[<-Q,E,<-a1];simp only;cases iw A (dJ m)<;>rfl
      have C6:=cq λv W R=>Ce A c3 m v cw (λs hs=>gO (a5 s hs).2 cw) (λs hs=>(a5 s hs).1) W R;rw[a1] at C6;have b3:=cq (show∀b,eb=some b->∀y∈b,y<256 from λb d=>DS (a1.trans d));clear a3;cases eb with
      |none=>
       obtain rfl:none=T:=X
       go_wp2_with first|refine yi (cK.cellAt S.x.1.2.2.1 (j:=0) cw ae) ?_|(refine ag (C6.o _ _ ⟨S.q0,λx f=>(S.x.2 x f).1⟩) λr W⟨ho,d⟩=>?_;replace S:=S.cx d)
       go_ret3;exact⟨_,ae,⟨[],J.o _ _,ae⟩,S.b⟩
      |some b=>
       have C7:=cq λv W R1 R2=>Cf v (.slice ua bs.length uc) b bs 5 5 b.length bs.length (b3.o b ae) Z W R1 R2;obtain⟨eq,a2⟩:=c8 (decide (b=bs));rw[a2] at C7;cases eq with
       |false=>
        obtain rfl:none=T:=by rw[<-X];simp only[vO];rw[cM (xg a2)]
        go_wp2_with first|refine yi (cK.cellAt S.x.1.2.2.1 (j:=0) cw ae) ?_|(refine ag (C6.o _ _ ⟨S.q0,λx f=>(S.x.2 x f).1⟩) λr W⟨ho,d⟩=>?_;replace S:=S.gm d ho ae ae)|refine lB (C7.o _ _ S.q0 (HR.o.cx S.b)) ?_
        go_ret3;exact⟨_,ae,⟨[],J.o _ _,ae⟩,S.b⟩
       |true=>
        obtain rfl:some (A,dJ m)=T:=by rw[<-X];simp only[vO];rw[cL (lr a2)]
        go_wp2_with first|refine yi (cK.cellAt S.x.1.2.2.1 (j:=0) cw ae) ?_|(refine ag (C6.o _ _ ⟨S.q0,λx f=>(S.x.2 x f).1⟩) λr W⟨ho,d⟩=>?_;replace S:=S.gm d ho ae ae)|refine lB (C7.o _ _ S.q0 (HR.o.cx S.b)) ?_
        go_ret3;exact⟨_,ae,⟨m,⟨S.o1,λx f=>⟨(S.x.2 x f).1,a9 x f⟩⟩,ae⟩,S.b⟩
def Zu(n:Nat)(f:n<=1000000000)(w:cB):CP_ 239 #[.int .i64 n,.int .i64 128] w λe w'=>e=.returned (.int .i64 ((n+127)/128:Nat))/\w=w':=by
 have a:IntKind.i64.wrap ((n:Int)+128)=(n:Int)+128:=j0 _ cw;have b:IntKind.i64.wrap ((n:Int)+128-1)=(n:Int)+127:=by rw[j0 _ cw];omega
 have c:IntKind.i64.wrap (((n:Int)+127)/128)=(((n+127)/128:Nat):Int):=by rw[j0 _ cw];omega
 have d:(((n:Int)+127)/128)=(((n+127)/128:Nat):Int):=cw;go_enter func239,ntmps239;go_wp2;go_ret;exact ay
def aeV(n:Nat)(f:n<=1000000000)(w:cB):CP_ 239 #[.int .i64 n,.int .i64 8] w λe w'=>e=.returned (.int .i64 ((n+7)/8:Nat))/\w=w':=by
 have a:IntKind.i64.wrap ((n:Int)+8)=(n:Int)+8:=j0 _ cw;have b:IntKind.i64.wrap ((n:Int)+8-1)=(n:Int)+7:=by rw[j0 _ cw];omega
 have c:IntKind.i64.wrap (((n:Int)+7)/8)=(((n+7)/8:Nat):Int):=by rw[j0 _ cw];omega
 have d:(((n:Int)+7)/8)=(((n+7)/8:Nat):Int):=cw;go_enter func239,ntmps239;go_wp2;go_ret;exact ay
def iT:Nat->Nat->cD
 |0,s=> [s]
 |f+1,s=>if 1<s then s::iT f ((s+7)/8) else [s]
def jV(n:Int):cD:=if n<1∨65535<n then [] else iT 10 ((n.toNat+127)/128)
def jn(n:Int):Nat:=(jV n).sum
def VS:vT prog 81 3 1 8:=⟨oW,_,td,ae,cw⟩
def pB(l:cD):List cI:=l.map λ(n:Nat)=>Value.int .i64 (n:Int)
def ah1(w:cB)(base:Nat)(v:cI)(l:cD):Prop:=w.ownsRow base 3 1 v l.length (pB l)
def Lo(n:Int)(w:cB):CP_ 192 #[.int .i64 n] w λe w'=>∃r,e=.returned r/\ah1 w' w.heap.size r (jV n)/\dz w w':=by
 have S:=pF w;obtain⟨T,j⟩:=c8 (jV n);rw[j];by_cases u:n<1∨65535<n
 . (obtain rfl:[]=T:=by rw[<-j];unfold jV;rw[cL u]);clear j;go_enter func192,ntmps192;go_wp2;all_goals(go_ret;exact aG)
 have K:¬n<1:=cw;have M:¬65535<n:=cw;obtain⟨k,rfl⟩:∃k:Nat,n=k:=⟨n.toNat,cw⟩;obtain⟨o,i⟩:=c8 ((k+127)/128);have x:o<=512:=cw;have l:iT 10 o=T:=by rw[<-j];unfold jV;rw[cM u,<-i];rfl
 have z:=cq (Zu k cw);rw[i] at z;have t:=cq l;clear j i l u;go_enter func192,ntmps192;go_upto_region 5 with(first|refine lB (z.o _) ?_|(refine lK S .i64 (dh [o]) oW td cw cw ae ae ae λW S=>?_;replace S:=S.Su ae));have S:=cq S;go_loopw [3,4] (λy J wr=>∃(f s:Nat)(b:cD)(a:Option Addr)(c:Nat),s<=8^f/\s<=512/\b.length+f=10/\y=.int .i64 s/\J=.slice a (b.length+1) c/\Hid (b++iT f s=T/\∃L,St w none [] L [⟨3,1,.slice a (b.length+1) c,b.length+1,pB (b++[s])⟩] (λ_ _=>True) wr)) (λy _ _=>(intOf y).toNat);exact⟨10,o,[],_,1,cw,x,ae,ae,ae,cq ⟨t.o,_,S.o⟩⟩;clear S;obtain⟨f,s,b,a,c,B,I,H,rfl,rfl,hS⟩:=hrel;obtain⟨d,L,S⟩:=hS.o;clear hS;by_cases C:1<s
 . (obtain⟨f,rfl⟩:∃g,f=g+1:=by rcases f with _|f;rw[Nat.pow_zero] at B;omega;exact⟨f,ae⟩);(have v:(1:Int)<(s:Int):=cw;unfold iT at d;rw[cL C] at d;obtain⟨p,m⟩:=c8 ((s+7)/8);have A:=cq (aeV s cw);rw[m] at d A;have q:=cq d;have h:p<=8^f:=by rw[Nat.pow_succ] at B;omega);have G:p<s:=cw;clear d m;go_wp2_with (first|refine lB (A.o _) ?_|refine lK S .i64 (dh [p]) oW td cw cw rfl rfl rfl λW S=>?_|refine rK S 0 rfl 0 rfl rfl rfl rfl VS (FR _ _) Br wR λE D W S=>?_);go_roundw;exact⟨f,p,b++[s],s_ E 0,D,h,cw,by simp;omega,ae,by simp,cq ⟨by rw[wh];exact q.o,L,by have S:=S.pop;unfold pB at S|-;rw[mI,ik];exact S⟩⟩;exact oV
 . (have v:¬(1:Int)<(s:Int):=cw;have h:iT f s=[s]:=by cases f with|zero=>rfl|succ f=>unfold iT;rw[cM C]);rw[h] at d;subst d;clear h;go_wp2;go_ret;exact⟨_,ae,by have F:=S.o0;unfold ah1;rw[ik];exact F,S.b⟩
theorem Zv(f s:Nat):(iT f s).length<=f+1:=by induction f generalizing s with|zero=>simp[iT]|succ f ih=>grind[iT]
theorem x7(n:Int):(jV n).length<=11:=by grind[jV,Zv]
theorem zM(n:Int):∀x∈jV n,x<=512:=by unfold jV;grind[iT]
theorem acn{m:Nat}(h:∀x∈l,x<=m):l.sum<=l.length*m:=by induction l<;>grind[succ_mul,mem_cons_self]
def FZ(n:Int)(w:cB):rF 256 #[.int .i64 n] w (.int .i64 (jn n:Nat)):=by
 have S:=pF w;obtain⟨l,d⟩:=c8 (jV n);have t:l.length<=11:=by rw[<-d];exact x7 n
 have f:∀x∈l,x<=512:=by rw[<-d];exact zM n
 have z:Hid (jn n=l.sum):=cq (by unfold jn;rw[d]);have o:=cq (Lo n);rw[d] at o;have b:=cq f;clear d f;go_enter func256,ntmps256;go_upto_region 3 with(refine ag (o.o _) λr W⟨ho,h⟩=>?_;obtain⟨D,E,rfl⟩:=cS ho;replace S:=S.gm h ho ae ae;clear h);have S:=cq S;go_loopw [3,9] (λF m wr=>∃k:Nat,k<=l.length/\m=.int .i64 k/\F=.int .i64 ((l.take k).sum:Nat)/\Hid (St w none [] [] [⟨3,1,.slice D l.length E,l.length,pB l⟩] (λ_ _=>True) wr)) (λ_ m _=>l.length-(intOf m).toNat);exact⟨0,cw,ae,ae,S⟩;clear S;obtain⟨k,G,rfl,rfl,hS⟩:=hrel;have S:=hS.o;clear hS;by_cases a:k<l.length
 . (obtain⟨g,c,s⟩:=BW S.o0 (by show 0<l.length;omega);simp only[kM] at s;obtain⟨rfl,-,rfl⟩:=s;obtain⟨x,i⟩:=c8 (l[k]);have A:(l.take k).length<=11:=by rw[kL];omega);(have h:(l.take k).sum<=5632:=gO (acn λy C=>b.o y (lu C)) cw;have B:x<=512:=b.o x (i▸lU a);have j:(l.take (k+1)).sum=(l.take k).sum+x:=by rw[xf a,sum_append,i];simp);(have u:Hid ((pB l)[k]?=some (.int .i64 x)):=cq (by unfold pB;rw[ql,iz a,i];rfl);obtain⟨q,p⟩:=q8 ((l.take k).sum);rw[p.o] at h j;have v:=cq j;have H:IntKind.i64.wrap ((q:Int)+(x:Int))=((q+x:Nat):Int):=by rw[j0 _ cw];omega);rw[p.o];clear i j;go_wp2_with (refine jo 12 3 11 (x5 S.o0 u.o) ?_);go_roundw;exact⟨k+1,cw,by go_num,by rw[v.o];first|rfl,cq S⟩;exact oV
 . obtain rfl:k=l.length:=cw;rw[oT];go_wp2;go_ret;exact⟨by rw[z.o];rfl,S.b⟩
def fc(t:Int):Nat:=if t<64∨1024<t then 0 else 2+5*((t.toNat+1)/2)
theorem Cg(t:Int):fc t<=2567:=by grind[fc]
def kG(t:Int)(w:cB):CP_ 202 #[.int .i64 t] w λe w'=>e=.returned (.int .i64 (fc t:Nat))/\w=w':=by
 by_cases b:t<64∨1024<t
 . have a:Hid (fc t=0):=cq (by unfold fc;rw[cL b]);go_enter func202,ntmps202;go_wp2;all_goals(go_ret;exact akG)
 . (obtain⟨n,rfl⟩:∃n:Nat,t=n:=⟨t.toNat,cw⟩;have a:Hid (fc (n:Int)=2+5*((n+1)/2)):=cq (by unfold fc;rw[cM b];rfl);have c:¬(n:Int)<64:=cw;have d:¬(1024:Int)<(n:Int):=cw;have f:IntKind.i64.wrap ((n:Int)+1)=(n:Int)+1:=j0 _ cw;have g:IntKind.i64.wrap (((n:Int)+1)/2)=((n:Int)+1)/2:=j0 _ cw;have h:IntKind.i64.wrap (5*(((n:Int)+1)/2))=5*(((n:Int)+1)/2):=j0 _ cw;have i:IntKind.i64.wrap (2+5*(((n:Int)+1)/2))=((2+5*((n+1)/2):Nat):Int):=by rw[j0 _ cw];omega);go_enter func202,ntmps202;go_wp2;go_ret;exact akG
theorem F1(n:Int):jn n<=5632:=by unfold jn;have a:=acn (zM n);grind[x7]
def mz(n:Nat)(dZ:Int):Nat:=1+jn n+jn (fc dZ:Nat)
def Td(a:Option Addr)(n c:Nat)(dZ:Int)(w:cB):rF 222 #[.slice a n c,.int .i64 dZ] w (.int .i64 (mz n dZ:Nat)):=by
 have S:=pF w;have d:=cq (FZ (n:Int));have e:=cq (kG dZ);have b:=cq (FZ ((fc dZ:Nat):Int));have hc:Hid (mz n dZ=1+jn n+jn (fc dZ:Nat)):=cq ae;have m:=F1 (n:Int);have f:=F1 ((fc dZ:Nat):Int);obtain⟨x,i⟩:=c8 (jn (n:Int));obtain⟨s,g⟩:=c8 (fc dZ);rw[g] at e b hc f;obtain⟨y,j⟩:=c8 (jn (s:Int));rw[i] at d hc m;rw[j] at b hc f;have o:IntKind.i64.wrap (1+(x:Int))=((1+x:Nat):Int):=by rw[j0 _ cw];omega
 have l:IntKind.i64.wrap (((1+x:Nat):Int)+(y:Int))=((1+x+y:Nat):Int):=by rw[j0 _ cw];omega
 obtain⟨z,k⟩:=c8 (1+x);rw[k] at o l hc;obtain⟨u,h⟩:=c8 (z+y);rw[h] at l hc;clear i g j k h;go_enter func222,ntmps222;go_wp2_with (first|(go_at_call_has 256 (Value.int .i64 n);refine je S (d.o _) λW S=>?_)|(go_at_call 202;refine lB (e.o _) ?_)|(go_at_call_has 256 (Value.int .i64 s);refine je S (b.o _) λW S=>?_));go_ret;exact⟨by rw[hc.o];rfl,S.b⟩
def Bk(c:Int):Int:=if c=42 then c else 91
def Hq(c:Int)(w:cB):CP_ 148 #[.int .i64 c] w λe w'=>e=.returned (.int .i64 (Bk c))/\w=w':=by
 by_cases h:c=42
 . subst h;go_enter func148,ntmps148;go_wp2;go_ret;exact ay
 . (have a:Hid (Bk c=91):=cq (by unfold Bk;rw[cM h]);have b:(c==42)=false:=by rw[lx];exact h);clear h;go_enter func148,ntmps148;go_wp2;go_ret;exact akG
def gW(b:dS):Option cD:=
 match iw b.next b.cE with
 |none=>none
 |some t=>if 65535<t.length then none else some t
structure eQ(b:dS):Prop where
 next:b.next<18446744073709551616
 fit:xZ b
 parts:∀s∈b.cE,tt s
def I6(b:dD)(A:fJ)(l:A=ct 2 (dk b))(h:eQ b.t)(w:cB)(R:gV w b):
 CP_ 221 #[.agg A] w λe w'=>∃r,e=.returned (.tuple #[r,.int .i64 (fp 151 (gW b.t))])/\lS w' w.heap.size r ((gW b.t).getD [])/\dz w w':=by
 have u:=cq l;have m:=cq R;have f:=cq λW(a:dz w W)=>Ce b.next h.next b.l b.sv h.fit.len (λs n=>(h.fit.2 s n).1) h.parts W (m.o.cx a);have S:=pF w;obtain⟨T,i⟩:=c8 (gW b.t);rw[i];obtain⟨j,d⟩:=c8 (iw b.next (dJ b.l));rw[d] at f;have g:(j.bind λt=>if 65535<t.length then none else some t)=T:=by rw[<-i,<-d];unfold gW;rw[show b.t.next=b.next from ae,show b.t.cE=dJ b.l from ae];cases iw b.next (dJ b.l)<;>rfl
 have c:=cq g;clear l h i d g;go_enter func221,ntmps221;cases j with
 |none=>obtain rfl:none=T:=c.o;go_wp2_with (first|(go_at_call 197;refine ag (f.o _ S.b) λr W⟨ho,a⟩=>?_;replace S:=S.cx a;clear a)|refine eR ?_|refine ey λW S=>?_);go_ret2;exact aG
 |some t=>
  simp only[ku] at f;by_cases k:65535<t.length
  . (obtain rfl:none=T:=by rw[<-c.o];simp only[vO];rw[cL k]);have o:(65535:Int)<(t.length:Int):=cw;go_wp2_with (first|(go_at_call 197;refine ag (f.o _ S.b) λr W⟨ho,a⟩=>?_;obtain⟨p,q,rfl⟩:=cS ho;replace S:=S.cx a;clear a)|refine eR ?_|refine ey λW S=>?_);go_ret2;exact aG
  . (obtain rfl:some t=T:=by rw[<-c.o];simp only[vO];rw[cM k]);have o:¬(65535:Int)<(t.length:Int):=cw;go_wp2_with (first|(go_at_call 197;refine ag (f.o _ S.b) λr W⟨ho,a⟩=>?_;obtain⟨p,q,rfl⟩:=cS ho;replace S:=S.gm a ho ae ae;clear a)|refine eR ?_|refine ey λW S=>?_);go_ret2;exact bj
def lP(b:dS)(dZ:Int):Nat:=
 match gW b with
 |none=>0
 |some t=>if fc dZ=0 then 0 else mz t.length dZ
def Qm(b:dD)(A:fJ)(i:A=ct 2 (dk b))(m:eQ b.t)(dZ:Int)(w:cB)(R:gV w b):
 rF 168 #[.agg A,.int .i64 dZ] w (.int .i64 (lP b.t dZ:Nat)):=by
 have p:=cq i;have o:=cq R;have g:=cq λW(c:dz w W)=>I6 b A i m W (o.o.cx c);have l:=cq (kG dZ);have S:=pF w;obtain⟨T,j⟩:=c8 (lP b.t dZ);rw[j];obtain⟨n,d⟩:=c8 (gW b.t);rw[d] at g;obtain⟨s,k⟩:=c8 (fc dZ);rw[k] at l;have f:(n.elim 0 λt=>if s=0 then 0 else mz t.length dZ)=T:=by rw[<-j,<-d,<-k];unfold lP;cases gW b.t<;>rfl
 have a:=cq f;clear i m j d f k;go_enter func168,ntmps168;cases n with
 |none=>obtain rfl:0=T:=a.o;go_wp2_with (first|(refine ag (g.o _ S.b) λr W⟨ho,c⟩=>?_;replace S:=S.cx c;clear c)|refine eR ?_|refine ey λW S=>?_);go_ret;exact aw
 |some t=>
  simp only[ku] at g;by_cases h:s=0;obtain rfl:0=T:=by rw[<-a.o,Aa,cL h]
  subst h;rotate_left;obtain rfl:mz t.length dZ=T:=by rw[<-a.o,Aa,cM h]
  have q:((s:Int)==0)=false:=by rw[lx];omega
  all_goals
   go_wp2_with first|(refine ag (g.o _ S.b) λr W⟨ho,c⟩=>?_;obtain⟨u,v,rfl⟩:=cS ho;replace S:=S.cx c;clear c)|refine lB (l.o _) ?_|refine je S (Td _ _ _ _ _) λW S=>?_|refine eR ?_|refine ey λW S=>?_
   go_ret;exact aw
def yZ(b:dD)(A:fJ)(U:A=ct 2 (dk b))(O:xZ b.t)(w:cB)(R:gV w b):CP_ 102 #[.agg A] w λe w'=>∃B,e=.returned (.agg B)/\kT w' w.heap.size B b.t/\dz w w':=by
 have Z:=O.len;have X:qe b.l:=O.2;obtain⟨E,l,ao,cap⟩:=b;change fE w (.slice ao l.length cap) l at R;simp only at Z X;obtain⟨n,r⟩:=c8 l.length;have f:=(du R.1);have R:=cq R;have HA:=cq U;have G:dk ⟨E,l,ao,cap⟩ 1=.slice ao n cap:=by rw[<-r];rfl
 have u:=cq G;have N:=cq r;rw[r] at R Z;have S:=pF w;obtain⟨a2,T,Y,H,f⟩:=f;simp only[kM] at Y;obtain⟨rfl,-,rfl⟩:=Y;rw[r] at H f;have f:=cq f;clear U G r O;go_enter func102,ntmps102;go_upto_region 3 with(first|refine xN S rfl HA.o rfl λW1 S=>?_|refine Db S 1 ae 1 (v:=.slice ao n cap) u.o ?_|(refine afW S (n:=n) Hk ae ae cw wR ae ae (XG n) λg W S=>?_;replace S:=S.Dx (X':=nE []) (λ_ _ _ x t=>by cases t) (iq []).k8)|refine ey λW S=>?_);have S:=cq S;go_loopw [12] (λi wr=>∃(k:Nat)(m:List dg),k<=n/\i=.int .i64 k/\Hid (m.length=n/\dJ (m.take k)=dJ (l.take k)/\(∀x∈m.take k,qg w.heap.size x)/\St w none [] [⟨W1.heap.size,99,2,dk vy⟩,⟨w.heap.size,99,2,dk ⟨E,l,ao,cap⟩⟩] [⟨109,11,.slice (s_ g 0) n n,n,ij m⟩] (nE (m.take k)) wr)) (λi _=>n-(intOf i).toNat);exact akZ;clear S;obtain⟨k,m,hk,rfl,hS⟩:=hrel;obtain⟨d,a,c,S⟩:=hS.o;clear hS;by_cases I:k<n
 . (obtain⟨b,o,rfl⟩:=f.o cw;have j:k<l.length:=by rw[N.o];exact I);obtain⟨x,t⟩:=c8 (l[k]);obtain⟨D,q⟩:=eW (ct 11 (gq x));have J:=cq (mu l j (A:=D) (by rw[t];exact q));have K:=cq q;have M:=lU j;rw[t] at M;have C9:=cq λW(s:dz w W)=>oZ x D K.o (X.at M).1 W ((R.o.cx s).2 x M);have HX:=cq t;have C:=cq (And.intro d (And.intro a c));have p:k<m.length:=cw;have R1:Hid (cK w 109 11 (.slice (s_ b o) n cap) n (ij l)):=cq (by have:=R.o.1;rwa [N.o] at this);clear q M t d a c;go_wp2_with (first|(first|refine Db S 1 ae 1 (v:=.slice (s_ b o) n cap) u.o ?_|refine Bf (R1.o.cx S.b) I (tL K) J.o ?_)|(refine(C9.o _ S.b).mono ?_;rintro e W ⟨B,y,rfl,V,L,s⟩;have HB:=cq V;have HF:=cq (show qg w.heap.size y from λr b s=>gO S.fr.size ((qW.of L.2).2 r b s));replace S:=S.zH s L.2;have HY:=cq L.1;clear s V L)|refine acf S 0 rfl rfl k (by show k*11+11<=n*11;omega) rfl rfl HB.o tf (lM _) λW S=>?_);go_roundw;obtain⟨d,a,c⟩:=C.o;refine⟨k+1,m.set k y,cw,by go_num,cq ⟨by rw[wu];exact d,?_,?_,?_⟩⟩;rw[pO m p,DP l j,<-a,HX.o,<-HY.o];unfold dJ;rw[mI];rfl;rw[pO m p];intro z Q;rcases fL.1 Q with h|h;exact c z h;rw[eV.1 h];exact HF.o;rw[pO m p,<-SV p y];refine S.Dx (λB w h z Q=>?_) (iq _).k8;rcases fL.1 Q with h2|h2;exact h.1 z h2;rw[eV.1 h2];exact h.2;exact oV
 . (obtain rfl:k=n:=cw;rw[nz cw] at a c S;rw[nz (by rw[N.o];exact dK _)] at a;have C:=cq (And.intro d (And.intro a c));obtain⟨D,q⟩:∃D:fJ,D=#[.int .u64 E,.slice (s_ g 0) k k]:=⟨_,ae⟩;have F:D=ct 2 (dk ⟨E,m,s_ g 0,k⟩):=by rw[q,<-d];rfl);have K:=cq q;have a1:=cq F;clear q F d a c;go_wp2_with first|refine kC (cells:=D) ae (by rw[K.o];exact Qd _ _ _ _) ?_|(refine lC ?_;exact⟨_,ae,⟨⟨E,m,s_ g 0,k⟩,ae,by unfold dD.t;rw[C.o.2.1],Lg C.o.1 S.o0 S.x C.o.2.2⟩,S.b⟩)|refine eR ?_|refine ey λW S=>?_
end
section
theorem bl0(S:St w0 d l L O X w){by':Nat}(m:vT P t e z by')(f:fT e=false)(i:kO e=false)(h:∀g W,St w0 d l L (⟨e,z,.slice (some ⟨g,0,none⟩) 0 0,0,[]⟩::O) X W->wpList P ops Q rest (a.put (some dst) (.slice (some ⟨g,0,none⟩) 0 0)) W):
 wpList P ops Q (⟨some dst,.buildSlice t 0 #[],t2,p,af,none⟩::rest) a w:=by
 obtain⟨n,x,k,u,s⟩:=m;obtain⟨v,c,o,q,r⟩:=nB k;have b:(Instr.buildSlice t 0 #[]).run P w=.ok (.slice (s_ w.heap.size 0) 0 0) (w.alloc (.cells #[] e)):=by simp[Instr.buildSlice,xC n,sizeOf,typeInfo,c,Instr.fill,newRow];grind
 refine lF ae λK j=>?_;unfold Oper.wp execOp;simp only[kj,map_toArray,map_nil,b,mS];exact j _ _ (h _ _ (S.made (cap:=0) dU (fN _) f i))
end
section
def ai2(f:P.underlying t=some (.slice e))(g:a.eval (.tmp x)=.slice ao n c)(h:wpList P ops Q rest (a.put (some dst) (.bool ao.isNone)) w):wpList P ops Q (⟨some dst,.binOp .eql t (.tmp x) (.const (.slice none 0 0)) u,t2,p,af,none⟩::rest) a w:=by refine lF ae λK b=>?_;unfold Oper.wp execOp;have hc:a.eval (.const (.slice none 0 0))=.slice none 0 0:=rfl;have d:eqGuard .eql t (.tmp x) (.const (.slice none 0 0)) (.slice ao n c) (.slice none 0 0)=pure ():=rfl;simp only[kj,g,hc,d,run_eql_slice_nil w t e ao n c 0 0 f,qq,mS];exact b _ _ h
end
section
attribute[local irreducible]wpList Code.wp Calls Oper.wp wpAnyH
theorem No(l:List cy)(v:cI)(f:l.length<=1000000)(w:cB)(R:ko w v l):CP_ 120 #[v] w λe w'=>∃r,e=.returned r/\gg w' w.heap.size r l/\dz w w':=by
 obtain⟨ao,cap,rfl,a,b⟩:=du R;have R:=cq R;have S:=pF w;rcases ao with _|u;have d:l.length=0:=by grind
 obtain rfl:=wj d;clear b d a;rotate_left;clear b a
 all_goals
  go_enter func120,ntmps120
  go_wp2_with first|refine ai2 (e:=106) underlying107 ae ?_|refine bl0 S fU rfl rfl λg W S=>?_|(refine apQ S 0 ae ae ae (R.o.cx S.b) fU (nG _) Br wR λao c W S=>?_;rw[show(0+l.length)=l.length from ou _] at S|-;rw[show([]++gY l)=gY l from ae] at S)
  go_ret
  first|exact aG|exact⟨_,rfl,S.o0,S.b⟩
end
structure gX where
 P:Nat
 b:dD
 dx:List cy
 ho:Option Addr
 hc:Nat
 ub:qi
def gX.hv(g:gX):cI:=.slice g.ho g.dx.length g.hc
def uF(g:gX):Nat->cI:=λi=>if i=0 then .pointer (some ⟨g.P,0,none⟩) else if i<3 then dk g.b (i-1) else if i=3 then g.hv else kb g.ub (i-4)
theorem aco(g:gX):∀i,(uF g i).oneCell'=true:=by intro i;unfold uF;split;rfl;split;exact eY _ _;split;rfl;grind[se]
instance in0c723(g:gX):OF (uF g):=⟨aco g⟩
structure dF(w:cB)(G:Nat)(g:gX)(D M:Nat)(s:Pl):Prop where
 row:cu w G 145 11 (uF g)
 kq:ej w g.P D M s
 wA:gV w g.b
 dx:ko w g.hv g.dx
def dF.c0{g:gX}(h:dF w G g D M s):w.cell? ⟨G,0,none⟩=some (.pointer (some ⟨g.P,0,none⟩)):=cu.cell h.row (i:=0) cw
def dF.c1{g:gX}(h:dF w G g D M s):w.cell? ⟨G,1,none⟩=some (.int .u64 g.b.next):=cu.cell h.row (i:=1) cw
def dF.c3{g:gX}(h:dF w G g D M s):w.cell? ⟨G,3,none⟩=some g.hv:=cu.cell h.row (i:=3) cw
def dF.c4{g:gX}(h:dF w G g D M s):w.cell? ⟨G,4,none⟩=some (.int .u64 g.ub.lD):=cu.cell h.row (i:=4) cw
section
def ai3(R:cu w b e n f){m:Nat}(s:a.eval (.tmp x)=.pointer (some ⟨b,o,none⟩))(g:Nat->cI)(l:o+m<=n)(k:∀i,i<m->f (o+i)=g i)(d:A=ct m g)(q:jF P ty m)(h:wpList P ops Q rest (a.put (some dst) (.agg A)) w):wpList P ops Q (⟨some dst,.load ty (.tmp x),t2,p,af,none⟩::rest) a w:=by obtain⟨⟨c,r,j⟩,t⟩:=q;have:=wpList_load_mid (op:=⟨some dst,.load ty (.tmp x),t2,p,af,none⟩) (ops:=ops) (rest:=rest) (Q:=Q) ae ty (.tmp x) ae b o s A.toList c (Aw R l k d) r j aD;rw[tO] at this;exact this h
end
section
attribute[local irreducible]wpList Code.wp Calls Oper.wp wpAnyH
def nT(G D M:Nat)(g:gX)(s:Pl)(w:cB)(h:dF w G g D M s):CP_ 24 #[.pointer (some ⟨G,0,none⟩)] w λe w'=>e=.returned (.pointer (some ⟨g.P,0,none⟩))/\w=w':=by have c0:=h.c0;clear h;go_enter func24,ntmps24;go_wp2;go_ret;exact ay
def Te(G D M:Nat)(g:gX)(s:Pl)(w:cB)(h:dF w G g D M s):CP_ 167 #[.pointer (some ⟨G,0,none⟩)] w λe w'=>e=.returned (.int .i64 g.dx.length)/\w=w':=by have c0:=h.c3;unfold gX.hv at c0;clear h;go_enter func167,ntmps167;go_wp2;go_ret;exact ay
def kP(G D M:Nat)(g:gX)(s:Pl)(b:xZ g.b.t)(w:cB)(h:dF w G g D M s):CP_ 43 #[.pointer (some ⟨G,0,none⟩)] w λe w'=>∃B,e=.returned (.agg B)/\kT w' w.heap.size B g.b.t/\dz w w':=by obtain⟨A,a⟩:=eW (ct 2 (dk g.b));have f:=cq a;have l:=cq h.row;have d:=cq λW(n:dz w W)=>yZ g.b A a b W (show fE W g.b.sv g.b.l from(show fE w g.b.sv g.b.l from h.wA).cx n);have S:=pF w;clear h a b;go_enter func43,ntmps43;go_wp2_with first|((with_reducible refine vS 6 99 5 ?_);refine ai3 (l.o.cx S.b) (o:=1) (m:=2) ae (dk g.b) cw (λi q=>by rcases i with(_|_|i)<;>first|rfl|omega) f.o mP ?_)|(go_at_call 102;refine zI S (d.o _ S.b) λW B c p j k S=>?_)|(refine lC ?_;exact⟨_,ae,⟨c,ae,j.o,S.iF k.o⟩,S.b⟩)|refine ey λW S=>?_
def yKn(e:∀w,SS w->cu w b t n f){m:Nat}(u:a.eval (.tmp x)=.pointer (some ⟨b,o,none⟩))(g:Nat->cI)(l:o+m<=n)(k:∀i,i<m->f (o+i)=g i)(d:A=ct m g)(q:jF P ty m)(s:Region.wanted ⟨some dst,.load ty (.tmp x),t2,p,af,gd⟩ (yielded ops a.tmps)=true:=by kernel_rfl):YieldsIf P ops SS ⟨some dst,.load ty (.tmp x),t2,p,af,gd⟩ (.agg A) a:=by obtain⟨⟨c,r,j⟩,v⟩:=q;have h:=yieldsIf_load_mid (P:=P) (S:=SS) (op:=⟨some dst,.load ty (.tmp x),t2,p,af,gd⟩) (ops:=ops) s ty (.tmp x) ae b o u A.toList c (λw h=>Aw (e w h) l k d) r j aD;omega
def Lp:kB prog 68:=⟨⟨_,underlying68,ae⟩,cX⟩
instance in570ca :pS 68:=⟨Lp⟩
def dF.cx{g:gX}(h:dF w G g D M s)(b:dz w w'):dF w' G g D M s:=
 ⟨cu.cx h.row b,h.kq.cx b,(show fE w g.b.sv g.b.l from h.wA).cx b,(show cK w 106 3 g.hv g.dx.length (gY g.dx) from h.dx).cx b⟩
def I7(G D M:Nat)(g:gX)(s:Pl)(j:eQ g.b.t)(w:cB)(h:dF w G g D M s):
 rF 121 #[.pointer (some ⟨G,0,none⟩)] w (.int .i64 (lP g.b.t s.dv.n:Nat)):=by obtain⟨A,c⟩:=eW (ct 2 (dk g.b));have n:=cq c;have e:=cq h;have k:=cq λW(b:dz w W)=>mK g.P D M s.cA s.base W ((h.cx b).kq.row);have l:=cq λW(b:dz w W)=>yT D s.dv W ((h.cx b).kq.dev);have d:=cq λW(b:dz w W)=>Qm g.b A c j (s.dv.n:Nat) W ((h.cx b).wA);have S:=pF w;obtain⟨T,f⟩:=c8 (lP g.b.t s.dv.n);rw[f] at d|-;clear h c j f;go_enter func121,ntmps121;go_upto_region 1 with(fail);refine dL S cX λW S=>?_;refine cJ 0 _ ?_;refine cJ 1 (cZ G 0) ?_;refine cJ 2 (cZ G 1) ?_;refine fW 3 (.agg A) ae (yKn (λw h=>by obtain⟨_,S⟩:=h;exact(e.o.cx S.b).row) (o:=1) (m:=2) ae (dk g.b) cw (λi p=>by rcases i with(_|_|i)<;>first|rfl|omega) n.o mP) ?_;refine cJ 4 _ ?_;refine cJ 5 (cZ G 0) ?_;refine cJ 6 (cZ G 0) ?_;refine fW 7 (cZ g.P 0) ae (fR (λw h=>by obtain⟨_,S⟩:=h;exact(e.o.cx S.b).c0) ae Lp) ?_;refine jQ 8 λK a=>?_;go_wp2_with fail;refine lB (k.o _ S.b) ?_;refine fC a ?_;refine jQ 9 λK a=>?_;go_wp2_with fail;refine lB (l.o _ S.b) ?_;refine fC a ?_;refine jQ 10 λK a=>?_;go_wp2_with fail;refine je S (d.o _ S.b) λW S=>?_;refine fC a ?_;refine cJ 11 _ ?_;refine pz ?_;go_wp2;go_ret;exact aw
theorem acq(b:dS)(dZ:Int)(a:∀t,gW b=some t->t.length<=65535):lP b dZ<=1000000:=by grind[lP,F1,mz]
theorem F2{b:dS}{t:cD}(h:gW b=some t):t.length<=65535:=by grind[gW]
def zN(jn a dx:Nat):Bool:=decide (0<jn)&&decide (jn<=a)&&decide (2*jn<=a+dx)
def Tf(G D M:Nat)(g:gX)(s:Pl)(r:eQ g.b.t)(w:cB)(h:dF w G g D M s)(y:g.dx.length<=1000000):
 rF 117 #[.pointer (some ⟨G,0,none⟩)] w (.bool (zN (lP g.b.t s.dv.n) (eF s.mp) g.dx.length)):=by
 have k:=cq h;have d:=cq λW(b:dz w W)=>I7 G D M g s r W (h.cx b);have i:=cq λW(b:dz w W)=>nN g.P D M s.cA s.base W ((h.cx b).kq.row);have e:=cq λW(b:dz w W)=>count_map M s.mp W ((h.cx b).kq.map);have j:=cq λW(b:dz w W)=>Te G D M g s W (h.cx b);have S:=pF w;have v:=acq g.b.t s.dv.n (λt h=>F2 h);obtain⟨T,q⟩:=c8 (lP g.b.t s.dv.n);rw[q] at d v|-;have x:eF s.mp<=1024:=by unfold eF;have:=R8 s.mp 16;omega
 obtain⟨F,o⟩:=c8 (eF s.mp);rw[o] at e x|-;obtain⟨H,p⟩:=c8 g.dx.length;rw[p] at j y|-;clear h r q o p;by_cases f:0<T;by_cases l:T<=F
 . by_cases n:2*T<=F+H
   . have c:Hid (zN T F H=true):=cq (by unfold zN;simp[f,l,n]);have m:(0:Int)<(T:Int):=cw;have u:(T:Int)<=(F:Int):=cw;have z:(2:Int)*(T:Int)<=(F:Int)+(H:Int):=cw;go_enter func117,ntmps117;go_upto_region 1 with(fail);refine dL S cX λW S=>?_;refine cJ 0 _ ?_;refine cJ 2 _ ?_;refine cJ 3 (cZ G 0) ?_;refine cJ 4 (cZ G 0) ?_;refine fW 5 (cZ g.P 0) ae (fR (λw h=>by obtain⟨_,S⟩:=h;exact(k.o.cx S.b).c0) ae Lp) ?_;refine jQ 1 λK a=>?_;go_wp2_with fail;refine je S (d.o _ S.b) λW S=>?_;refine fC a ?_;refine jQ 6 λK a=>?_;go_wp2_with fail;refine lB (i.o _ S.b) ?_;refine fC a ?_;refine jQ 7 λK a=>?_;go_wp2_with fail;refine lB (e.o _ S.b) ?_;refine fC a ?_;refine cJ 8 _ ?_;refine cJ 9 _ ?_;refine pz ?_
     all_goals(
     go_wp2_with (go_at_call 167;refine lB (j.o _ S.b) ?_);go_ret;exact⟨by rw[c.o];first|rfl,S.b⟩
     )
   . have c:Hid (zN T F H=false):=cq (by unfold zN;simp[f,l,n]);have m:(0:Int)<(T:Int):=cw;have u:(T:Int)<=(F:Int):=cw;have z:¬(2:Int)*(T:Int)<=(F:Int)+(H:Int):=cw;go_enter func117,ntmps117;go_upto_region 1 with(fail);refine dL S cX λW S=>?_;refine cJ 0 _ ?_;refine cJ 2 _ ?_;refine cJ 3 (cZ G 0) ?_;refine cJ 4 (cZ G 0) ?_;refine fW 5 (cZ g.P 0) ae (fR (λw h=>by obtain⟨_,S⟩:=h;exact(k.o.cx S.b).c0) ae Lp) ?_;refine jQ 1 λK a=>?_;go_wp2_with fail;refine je S (d.o _ S.b) λW S=>?_;refine fC a ?_;refine jQ 6 λK a=>?_;go_wp2_with fail;refine lB (i.o _ S.b) ?_;refine fC a ?_;refine jQ 7 λK a=>?_;go_wp2_with fail;refine lB (e.o _ S.b) ?_;refine fC a ?_;refine cJ 8 _ ?_;refine cJ 9 _ ?_;refine pz ?_
     all_goals(
     go_wp2_with (go_at_call 167;refine lB (j.o _ S.b) ?_);go_ret;exact⟨by rw[c.o];first|(show Ending.returned (Value.bool (decide ((2:Int)*(T:Int)<=(F:Int)+(H:Int))))=_;rw[iC cw]),S.b⟩
     )
 have c:Hid (zN T F H=false):=cq (by unfold zN;simp[f,l]);have m:(0:Int)<(T:Int):=cw;have u:¬(T:Int)<=(F:Int):=cw;rotate_left;have c:Hid (zN T F H=false):=cq (by unfold zN;simp[f]);have m:¬(0:Int)<(T:Int):=cw
 all_goals
  go_enter func117,ntmps117
  go_upto_region 1 with(fail)
  refine dL S cX λW S=>?_;refine cJ 0 _ ?_;refine cJ 2 _ ?_;refine cJ 3 (cZ G 0) ?_;refine cJ 4 (cZ G 0) ?_;refine fW 5 (cZ g.P 0) ae (fR (λw h=>by obtain⟨_,S⟩:=h;exact(k.o.cx S.b).c0) ae Lp) ?_;refine jQ 1 λK a=>?_
  go_wp2_with fail
  refine je S (d.o _ S.b) λW S=>?_;refine fC a ?_;refine jQ 6 λK a=>?_
  go_wp2_with fail
  refine lB (i.o _ S.b) ?_;refine fC a ?_;refine jQ 7 λK a=>?_
  go_wp2_with fail
  refine lB (e.o _ S.b) ?_;refine fC a ?_;refine cJ 8 _ ?_;refine cJ 9 _ ?_;refine pz ?_
  all_goals(
  go_wp2;go_ret;exact⟨by rw[c.o];first|rfl,S.b⟩
  )
structure vX(w:cB)(K G:Nat)(g:gX)(D M:Nat)(s:Pl):Prop where
 row:cu w K 101 1 (λ_=>.pointer (some ⟨G,0,none⟩))
 I8:dF w G g D M s
def vX.c0{K:Nat}{g:gX}(h:vX w K G g D M s):w.cell? ⟨K,0,none⟩=some (.pointer (some ⟨G,0,none⟩)):=cu.cell h.row (i:=0) cw
def AS(U G D M:Nat)(g:gX)(s:Pl)(w:cB)(h:vX w U G g D M s):CP_ 46 #[.pointer (some ⟨U,0,none⟩)] w λe w'=>e=.returned (.bool s.dv.cO)/\w=w':=by have c0:=h.c0;have c:=cq (nT G D M g s w h.I8);have d:=cq (mK g.P D M s.cA s.base w h.I8.kq.row);have a:=cq (J0 D s.dv w h.I8.kq.dev);obtain⟨T,b⟩:=c8 s.dv.cO;rw[b] at a|-;clear h b;go_enter func46,ntmps46;go_wp2_with (first|(go_at_call 24;refine lB c.o ?_)|(go_at_call 106;refine lB d.o ?_)|(go_at_call 82;refine lB a.o ?_));go_ret;exact ay
def Qn(U G D M:Nat)(g:gX)(s:Pl)(w:cB)(h:vX w U G g D M s):CP_ 18 #[.pointer (some ⟨U,0,none⟩)] w λe w'=>e=.returned (.int .i64 (eF s.mp:Nat))/\w=w':=by have c0:=h.c0;have c:=cq (nT G D M g s w h.I8);have d:=cq (nN g.P D M s.cA s.base w h.I8.kq.row);have a:=cq (count_map M s.mp w h.I8.kq.map);obtain⟨T,b⟩:=c8 (eF s.mp);rw[b] at a|-;clear h b;go_enter func18,ntmps18;go_wp2_with (first|(go_at_call 24;refine lB c.o ?_)|(go_at_call 25;refine lB d.o ?_)|(go_at_call 61;refine lB a.o ?_));go_ret;exact ay
def x8(c:Int):Int:=if c=0∨c=42∨c=71 then c else 91
def qY(c:Int)(w:cB):CP_ 49 #[.int .i64 c] w λe w'=>e=.returned (.int .i64 (x8 c))/\w=w':=by
 by_cases a:c=0;subst a;rotate_left;by_cases b:c=42;subst b;rotate_left;by_cases d:c=71;subst d;rotate_left
 . (have f:Hid (x8 c=91):=cq (by unfold x8;rw[cM cw]);have g:(c==0)=false:=by rw[lx];exact a);(have h:(c==42)=false:=by rw[lx];exact b);(have i:(c==71)=false:=by rw[lx];exact d);clear a b d;go_enter func49,ntmps49;go_wp2;go_ret;exact⟨by rw[f.o];rfl,ae⟩
 all_goals
  go_enter func49,ntmps49;go_wp2;go_ret;exact ay
def Zw(q:Nat)(v:cI)(W:cB):Sem.run prog (Instr.field 99 (.agg #[.int .u64 (q:Int),v]) 0) W=.ok (.int .u64 (q:Int)) W:=by rfl
def XJ:kB prog 69:=⟨⟨_,underlying69,ae⟩,cX⟩
instance in805a8 :rB 118 1:=⟨⟨⟨_,underlying118,rfl⟩,cX⟩⟩
instance in90860 :pS 69:=⟨XJ⟩
def yH(G D M:Nat)(g:gX)(s:Pl)(A:fJ)(b:A=ct 1 (λ_=>.pointer (some ⟨G,0,none⟩)))(d:eQ g.b.t)(w:cB)(h:dF w G g D M s)(e:g.dx.length<=1000000):
 rF 57 #[.agg A] w (.int .i64 (if zN (lP g.b.t s.dv.n) (eF s.mp) g.dx.length=true then 0 else 71)):=by
 have i:=cq b;have a:=cq λW(f:dz w W)=>Tf G D M g s d W (h.cx f) e;have S:=pF w;obtain⟨T,c⟩:=c8 (zN (lP g.b.t s.dv.n) (eF s.mp) g.dx.length);rw[c] at a|-;clear b d h e c;cases T
 all_goals(
 go_enter func57,ntmps57;go_wp2_with (first|(go_at_call 117;refine je S (a.o _ S.b) λW S=>?_)|refine eR ?_|refine ey λW S=>?_);go_ret;exact aw
 )
theorem y7(G D M:Nat)(g:gX)(s:Pl)(A:fJ)(j:A=ct 1 (λ_=>.pointer (some ⟨G,0,none⟩)))(k:xZ g.b.t)(w:cB)(h:dF w G g D M s):
 rF 53 #[.agg A] w (.bool (decide (281474976710651<g.b.next))):=by
 have o:=cq j;have m:=cq λW(d:dz w W)=>kP G D M g s k W (h.cx d);have S:=pF w;obtain⟨T,f⟩:=c8 (decide (281474976710651<g.b.next));rw[f];obtain⟨q,i⟩:=q8 g.b.next;have a:decide ((281474976710651:Int)<(q:Int))=T:=by rw[<-f,i.o];grind
 have n:=cq a;clear j k h f a;go_enter func53,ntmps53;go_wp2_with (first|(go_at_call 43;refine(m.o _ S.b).mono ?_;rintro e W ⟨B,rfl,⟨c,rfl,hc,ho⟩,d⟩;have b:c.next=q:=(fK dS.next hc).trans i.o;replace S:=S.cx d;clear d hc;rw[show ct 2 (dk c)=#[.int .u64 c.next,c.sv] from ae,b];clear b;have l:=λW=>Zw q c.sv W)|refine eR ?_|refine ey λW S=>?_);go_ret;exact⟨by rw[<-n.o];rfl,S.b⟩
def rN(b:dS)(cC:fh)(i:Int):cR×Int:=
 let r:=mF b.cE cC
 let s:=Ov b.cE r.1
 if r.2=141 then(nC,141) else if r.2≠0 then(nC,172) else if i<0∨(s.blocks:Int)<=i then(nC,176) else(s,0)
def F3(b:dD)(A:fJ)(D:A=ct 2 (dk b))(t:xZ b.t)(cC:fh)(u:cC.size<=140737488355328)(i:Int)(w:cB)(R:gV w b):
 CP_ 47 #[.agg A,.string cC,.int .i64 i] w λe w'=>∃B,e=.returned (.tuple #[.agg B,.int .i64 (rN b.t cC i).2])/\xY w' w.heap.size B (rN b.t cC i).1/\dz w w':=by
 have E:b.l.length<=1000000:=t.len;have K:=cq D;have g:=cq λW(d:dz w W)=>FQ b.l b.sv cC u E t.2 W (show fE W b.sv b.l from(show fE w b.sv b.l from R).cx d);have S:=pF w;obtain⟨T,r⟩:=c8 (rN b.t cC i);rw[r];obtain⟨n,f⟩:=c8 (mF (dJ b.l) cC);rw[f] at g;obtain⟨k,c⟩:=n;simp only at g;obtain⟨s,x⟩:=c8 (Ov (dJ b.l) k);rw[x] at g;have l:(if c=141 then(nC,141) else if c≠0 then(nC,172) else if i<0∨(s.blocks:Int)<=i then(nC,176) else(s,0))=T:=by rw[<-r,<-x];unfold rN;rw[show b.t.cE=dJ b.l from ae,f]
 have p:=cq l;clear D t E R r f x l;by_cases h:c=141;subst h;obtain rfl:(nC,141)=T:=p.o;rotate_left;have L:(c==141)=false:=by rw[lx];exact h
 by_cases q:c=0
 . (subst q;obtain⟨n,f⟩:=c8 s.blocks;have G:=cq f;have m:(if i<0∨(n:Int)<=i then(nC,176) else(s,0))=T:=by rw[<-p.o,cM (by decide:¬(0:Int)=141),cM (by decide:¬(0:Int)≠0),f]);(have a:=cq m;clear f m h p;by_cases C:i<0;obtain rfl:(nC,176)=T:=by rw[<-a.o,cL (.inl C)]);rotate_left;(have N:decide (i<0)=false:=iC C;by_cases J:(n:Int)<=i;obtain rfl:(nC,176)=T:=by rw[<-a.o,cL (.inr J)]);rotate_left;obtain rfl:(s,0)=T:=by rw[<-a.o,cM cw]
   all_goals
    go_enter func47,ntmps47
    go_wp2_with first|refine uW S wx oB rfl λI S=>?_|(refine ag (g.o _ S.b) λB W⟨⟨y,j,o,ho⟩,d⟩=>?_;have F:=cq j;have H:=cq o;have z:(y.blocks:Int)=(n:Int):=(by rw[<-G.o,<-o]);replace S:=S.gm d ho ae ae;clear d j o)|(refine lh cX ?_;refine xM S 0 ae 6 (v:=.int .i64 y.blocks) ae pR ae BU ?_;rw[z])|refine eR ?_|refine ey λW S=>?_|(refine lC ?_;exact⟨_,ae,qX _ _,S.b⟩)|(refine lC ?_;exact⟨_,ae,⟨y,ae,H.o,S.o0⟩,S.b⟩)
 have M:(c !=0)=true:=eO.2 q;obtain rfl:(nC,172)=T:=by rw[<-p.o,cM h,cL q]
 clear h q
 all_goals
  go_enter func47,ntmps47
  go_wp2_with first|refine uW S wx oB rfl λI S=>?_|(refine ag (g.o _ S.b) λB W⟨⟨y,j,o,ho⟩,d⟩=>?_;have F:=cq j;replace S:=S.cx d;clear d j o)|(refine lC ?_;exact⟨_,ae,qX _ _,S.b⟩)|refine eR ?_|refine ey λW S=>?_
def pT(b:dS)(cC:fh)(i:Int):cR×Int:=
 (dG cC).elim (nC,141) λp=>if p.2=qz then rN b cC i else(nC,141)
def Ci(G D M:Nat)(g:gX)(s:Pl)(A:fJ)(t:A=ct 1 (λ_=>.pointer (some ⟨G,0,none⟩)))(o:xZ g.b.t)(cC:fh)(d:cC.size<=140737488355328)(i:Int)(w:cB)(h:dF w G g D M s):
 CP_ 79 #[.agg A,.string cC,.int .i64 i] w λe w'=>∃B,e=.returned (.tuple #[.agg B,.int .i64 (pT g.b.t cC i).2])/\xY w' w.heap.size B (pT g.b.t cC i).1/\dz w w':=by
 have J:=cq t;have j:=cq (rM cC d);have u:=cq λW(m:dz w W)=>kP G D M g s o W (h.cx m);have v:=cq λ(c:dD)(B:fJ)(l:B=ct 2 (dk c))(hc:c.t=g.b.t)W(R:gV W c)=>F3 c B l (by rw[hc];exact o) cC d i W R;have S:=pF w;obtain⟨T,a⟩:=c8 (pT g.b.t cC i);rw[a];unfold pT at a;obtain⟨ns,f⟩:=c8 (dG cC);rw[f] at j a;have k:=cq a;clear t o h a f;rcases ns with _|p;obtain rfl:(nC,141)=T:=k.o;rotate_left;obtain⟨H,sn⟩:=p;simp only[ku] at j;rw[show fp 141 (some (H,sn))=0 from ae] at j;by_cases b:sn=qz;have F:sn.toList.isEmpty=true:=by rw[b,BZ];rfl
 obtain rfl:rN g.b.t cC i=T:=by rw[<-k.o];simp only[Aa,cL b]
 obtain⟨T,a⟩:=c8 (rN g.b.t cC i);have C:=cq a;rw[a];clear b a k;rotate_left;have F:sn.toList.isEmpty=false:=zE b;obtain rfl:(nC,141)=T:=by rw[<-k.o];simp only[Aa,cM b]
 clear b
 all_goals
  go_enter func79,ntmps79
  go_wp2_with first|((with_reducible refine J3 6 109 ?_);refine uW S wx oB ae λK S=>?_)|(go_at_call 63;refine je S (j.o _) λW S=>?_)|(go_at_call 43;refine zI S (u.o _ S.b) λW B c x r n S=>?_)|(go_at_call 47;refine ag (v.o c B x.o r.o _ (S.iF n.o).sl) λI W⟨⟨y,l,q,ho⟩,m⟩=>?_;have z:=cq l;rw[r.o,C.o] at q|-;have E:=cq q;replace S:=S.gm m ho ae ae;clear m l q)|refine eR ?_|refine ey λW S=>?_|(refine lC ?_;exact⟨_,ae,qX _ _,S.b⟩)|(refine lC ?_;exact⟨_,ae,⟨y,ae,E.o,S.o0⟩,S.b⟩)
attribute [local go_sem] Oper.semAt_some
def qE(l:List dg)(id k:Nat):List (Fin l.length):=((finRange l.length).take k).filter λi=>decide ((l.get i).cT=id)
theorem VT(l:List dg)(id:Nat)(a:k<l.length):qE l id (k+1)=if(l.get ⟨k,a⟩).cT=id then qE l id k++[⟨k,a⟩] else qE l id k:=by unfold qE;rw[take_add_one,iz iG,filter_append];grind
theorem Zx(l:List dg)(id k:Nat):(qE l id k).length<=k:=by grind[qE]
theorem Zy(l:List dg)(id:Nat):(qE l id l.length).map (λi=>(l.get i))=l.filter λs=>decide (s.cT=id):=by
 unfold qE;rw[nz dU];have h:(finRange l.length).map l.get=l:=by apply ext_getElem dU;grind
 conv=>rhs;rw[<-h]
 rw[filter_map];rfl
theorem Zz(l:List dg)(id:Nat)(a:k<=l.length):qE l id k<+:qE l id l.length:=by grind[qE]
def XK{J:β->cB->Prop}{B:Nat}(b:AbidesFrom B J){s:β}(h:J s W)(a:dz W W'):J s W':=
 b s W W' none h ⟨a.os,a.tape,a.output,a.size,λk c _=>a.block k c⟩ (λr e=>by cases e)
def Hr(h:w'.heap[b]?=w.heap[b]?):w'.cell? ⟨b,i,none⟩=w.cell? ⟨b,i,none⟩:=xp h
def acr(n:Nat)(lp m j:Nat)(v:cI)(l:List dg)(id:Nat)(a2:l.length<=1000000)(J O:List (Fin l.length)->cB->Prop)(W:cB)(hv:fE W v l)(hJ:AbidesFrom W.heap.size J)(hY:∀a x Q,J a Q->a.length<l.length->YieldAt Fence.wide (n-1) prog lp #[.int .i64 ((x:Fin l.length).val:Int)] Q λe W'=>
  (e=.returned (.bool true)/\J (a++[x]) W'/\me ([m,j]++v.ownBlock.toList) Q W')∨(e=.returned (.bool false)/\O (a++[x]) W'))(U:W.cell? ⟨m,0,none⟩=some v)(T:W.cell? ⟨j,0,none⟩=some (.int .u64 id))(h0:J [] W):
 CallsIn Fence.wide n prog 232 #[.func (.yield lp) #[] #[],.pointer (some ⟨m,0,none⟩),.pointer (some ⟨j,0,none⟩)] W λe W'=>(∃u,e=.returned u)/\
  ((∃ys,ys=qE l id l.length/\J ys W')∨(∃a,a<+:qE l id l.length/\O a W')):=by
 have HV:=cq hv;obtain⟨ao,cap,rfl,a1,z⟩:=du hv.1;have z:=cq z;clear hv;have HY:=cq hY;clear hY;have HJ:=cq hJ;clear hJ;refine callsIn_of_wp func232 ae gI ?_ ae;simp only[ntmps232,zm,kr,r7,reduceAdd,reduceSub,zn,zp,tU,tV,ot,sL];gi_wp2
 gi_loopw [7] (λi wr=>∃k:Nat,k<=l.length/\i=.int .i64 k/\J (qE l id k) wr/\Hid (me ([m,j]++(Value.slice ao l.length cap).ownBlock.toList) W wr)/\wr.cell? ⟨m,0,none⟩=some (.slice ao l.length cap)/\wr.cell? ⟨j,0,none⟩=some (.int .u64 id))
  (λi _=>l.length-(intOf i).toNat)
 exact⟨0,fN _,ae,h0,cq (me.refl _ _),U,T⟩;obtain⟨k,Z,rfl,y,B,d,c⟩:=hrel;by_cases g:k<l.length
 . (obtain⟨b,o,rfl⟩:=z.o cw;have f:=cq (VT l id g);obtain⟨x,hx⟩:=c8 (l.get ⟨k,g⟩);rw[hx] at f;have K:l[k]?=some x:=by rw[iz g,<-hx];rfl);(have t:wr.cell? ⟨b,o+k*11+4,none⟩=some (.int .u64 x.cT):=by rw[Hr (B.o.same b (by simp[Value.ownBlock]))];exact(HV.o.at K).c4);clear hx K;have a3:prog.follows .mixedOrders=true:=cX;rcases z6 (x.cT=id) with he|he
   . have M:=cq (f.o.trans (cL he));have Y:(((x.cT:Nat):Int)==((id:Nat):Int))=true:=by rw[yl];omega
     obtain⟨fn,tmps,q,C,hy,E⟩:=HY.o _ ⟨k,g⟩ _ (XK HJ.o y (fO _ _).drew) (Nat.lt_of_le_of_lt (Zx l id k) g);clear f he;have s:RoundIn Fence.wide (n-1) prog lp fn tmps q C wr.drew λe W'=>∃L:Bool,e=.returned (.bool L)/\Hid ((L=true/\J (qE l id (k+1)) W'/\me ([m,j]++(Value.slice (s_ b o) l.length cap).ownBlock.toList) wr.drew W')∨(L=false/\O (qE l id (k+1)) W')):=
      RoundIn.mono E λe W' h=>by
       rw[M.o];rcases h with⟨rfl,R,h2⟩|⟨rfl,R⟩
       . exact⟨true,ae,cq (.inl ⟨ae,R,h2⟩)⟩
       . exact⟨false,ae,cq (.inr ⟨ae,R⟩)⟩
     have N:=cq s;clear E s;gi_wp2;gi_region_with (refine⟨CH,RoundIn.mono N.o ?_⟩;rintro e W3 ⟨L,rfl,h3⟩)
     all_goals(
     rcases h3.o with⟨rfl,V,r⟩|⟨rfl,D⟩
     . have H:=(Hr (r.same m dU)).trans d;have F:=(Hr (r.same j dU)).trans c;have A:=cq (B.o.trans ((me.mk ((fO 0 wr).drew) λ_ _=>ae).trans r));clear r;gi_wp2;go_roundw;exact⟨k+1,cw,by go_num,V,A,H,F⟩;simp[intOf];omega
     . gi_wp2;refine gE (ug ae _ _ _) ae ?_;exact⟨⟨_,ae⟩,.inr ⟨_,Zz l id cw,D⟩⟩
     )
   . (have M:=cq (f.o.trans (cM he));have Y:(((x.cT:Nat):Int)==((id:Nat):Int))=false:=by rw[lx];omega);clear f he;gi_wp2
     have S:=St.start wr none [] vt gI;refine yW rf S cX cX tM λW S=>?_;refine fW 0 (.slice (s_ b o) l.length cap) ae (fR (λw h=>by obtain⟨_,S⟩:=h;exact(S.b.cell (p:=⟨m,0,none⟩) (q9 d)).trans d) ae rk) ?_;refine cJ 1 _ ?_;refine cJ 2 (cZ b (o+k*11)) ?_;refine cJ 3 (cZ b (o+k*11+4)) ?_;refine fW 4 (.int .u64 x.cT) ae (fR (λw h=>by obtain⟨_,S⟩:=h;exact(S.b.cell (p:=⟨b,o+k*11+4,none⟩) (q9 t)).trans t) ae fg) ?_;refine fW 5 (.int .u64 id) ae (fR (λw h=>by obtain⟨_,S⟩:=h;exact(S.b.cell (p:=⟨j,0,none⟩) (q9 c)).trans c) ae fg) ?_;refine cJ 6 (.bool false) ?_;refine cJ 7 _ ?_;refine oA 8 ?_;refine oA 9 ?_;refine oA 10 ?_;refine oA 11 ?_;refine cJ 12 (.bool false) ?_;refine pz ?_;have X:=XK HJ.o y S.b;have I:=(S.b.cell (p:=⟨m,0,none⟩) (q9 d)).trans d;have G:=(S.b.cell (p:=⟨j,0,none⟩) (q9 c)).trans c;have A:=cq (B.o.trans (me.mk (FO S.b) λk Z=>S.b.block k (by
      simp only[Value.ownBlock,Kh,sL,ot,ib,iS,sM] at Z;rcases Z with rfl|rfl|rfl
      . exact q9 d
      . exact q9 c
      . exact q9 t)))
     gi_wp2;go_roundw;exact⟨k+1,cw,by go_num,by rw[M.o];exact X,A,I,G⟩;simp[intOf];omega
 . obtain rfl:k=l.length:=cw;gi_wp2;refine El (ug ae _ _ _) ae ?_;exact⟨⟨_,ae⟩,.inl ⟨_,ae,y⟩⟩
def EV(n b a:Nat)(v:cI)(l:List dg)(id:Nat)(f:l.length<=1000000)(w:cB)(hv:fE w v l)(d:w.cell? ⟨b,0,none⟩=some v)(c:w.cell? ⟨a,0,none⟩=some (.int .u64 id)):
 SeqStopsK Fence.wide n prog 232 #[.pointer (some ⟨b,0,none⟩),.pointer (some ⟨a,0,none⟩)] (λx:Fin l.length=>#[Value.int .i64 (x.val:Int)]) (me ([b,a]++v.ownBlock.toList)) (λo=>o=qE l id l.length) (λg=>g<+:qE l id l.length) l.length w:=by intro m J h W e j _ k i;exact acr n m b a v l id f J h W (hv.cx e) j k ((e.cell (p:=⟨b,0,none⟩) (q9 d)).trans d) ((e.cell (p:=⟨a,0,none⟩) (q9 c)).trans c) i
def Cj(a:Option Addr)(b cap id:Nat)(w:cB):
 CP_ 175 #[.slice a b cap,.int .u64 id] w λe w'=>e=.returned (.func (.func 232) #[] #[.pointer (some ⟨w.heap.size,0,none⟩),.pointer (some ⟨w.heap.size+1,0,none⟩)])/\w'=(w.alloc (.cells #[.slice a b cap] 97)).alloc (.cells #[.int .u64 id] 82):=by go_enter func175,ntmps175;go_wp2;go_ret;exact ay
theorem Ck{u:cI}{a:dC}(h:W=(w.alloc (.cells #[u] a)).alloc (.cells #[v] t2)):
 dz w W/\W.cell? ⟨w.heap.size,0,none⟩=some u/\W.cell? ⟨w.heap.size+1,0,none⟩=some v/\gx W w.heap.size=some a/\gx W (w.heap.size+1)=some t2/\W.heap.size=w.heap.size+2:=by
 have d:(w.alloc (.cells #[u] a)).heap.size=w.heap.size+1:=World.size_alloc ..;have e:cu (w.alloc (.cells #[u] a)) w.heap.size a 1 (λ_=>u):=cu.alloc w a 1 (λ_=>u);have b:cu W (w.heap.size+1) t2 1 (λ_=>v):=by rw[h,<-d];exact cu.alloc _ t2 1 (λ_=>v)
 have c:cu W w.heap.size a 1 (λ_=>u):=by rw[h];exact e.alloc_old _
 exact⟨by rw[h];exact((fO _ _).alloc (dK _) _).alloc cw _,cu.cell c (i:=0) cw,cu.cell b (i:=0) cw,cu.ty c,cu.ty b,by simp_all⟩
attribute [local go_sem] Oper.semAt_some
def XL:ER prog 22 1:=⟨cX,λW=>by rfl⟩
def XM{J:β->cB->Prop}{B:Nat}(b:AbidesFrom B J){s:β}(h:J s W)(a:dz W W'):J s W':=
 b s W W' none h ⟨a.os,a.tape,a.output,a.size,λk c _=>a.block k c⟩ (λr e=>by cases e)
def AT(h:w'.heap[b]?=w.heap[b]?):w'.cell? ⟨b,i,none⟩=w.cell? ⟨b,i,none⟩:=xp h
def eJ(m n:Nat):Nat:=(m+n-1)/n
theorem qZ{m n k:Nat}(a:0<n):k<eJ m n↔k*n<m:=by grind[eJ,le_div_iff_mul_le]
def sq(b o z m n k:Nat):cI:=.slice (some ⟨b,o+k*n*z,none⟩) (min n (m-k*n)) (min n (m-k*n))
def Tg(h:ER P t z)(b o n c l y:Nat)(a:l<y)(d:y<=c)(W:cB):(Instr.sliceAt t (.slice (some ⟨b,o,none⟩) n c) (some (.int .i64 l)) (some (.int .i64 y)) (some (.int .i64 y))).run P W=.ok (.slice (some ⟨b,o+l*z,none⟩) (y-l) (y-l)) W:=by rw[xT h,run_slice_lhm W t _ n c h.1 .i64 .i64 .i64 (l:Nat) (y:Nat) (y:Nat) cw cw cw cw,h.2];simp only[Result.andThen,sliced,sO];rw[cM cw];simp[Addr.add]
theorem ZA(n:Nat)(K h g m cap:Nat)(ao:Option Addr)(b o:Nat)(f:0<m->ao=some ⟨b,o,none⟩)(T:m<=cap)(F:m<=1000000)(J D:List (Fin (eJ m 128))->cB->Prop)(W:cB)(F:AbidesFrom W.heap.size J)(G:∀a x t,J a t->a.length<eJ m 128->YieldAt Fence.wide (n-1) prog K #[sq b o 1 m 128 (x:Fin (eJ m 128)).val] t λe W'=>
  (e=.returned (.bool true)/\J (a++[x]) W'/\me [h,g] t W')∨(e=.returned (.bool false)/\D (a++[x]) W'))(Q:W.cell? ⟨h,0,none⟩=some (.slice ao m cap))(O:W.cell? ⟨g,0,none⟩=some (.int .i64 128))(H:J [] W):
 CallsIn Fence.wide n prog 292 #[.func (.yield K) #[] #[],.pointer (some ⟨h,0,none⟩),.pointer (some ⟨g,0,none⟩)] W λe W'=>(∃u,e=.returned u)/\
  ((∃L,L=finRange (eJ m 128)/\J L W')∨(∃a,a<+:finRange (eJ m 128)/\D a W')):=by
 have N:=cq G;clear G;have M:=cq F;clear F;refine callsIn_of_wp func292 ae gI ?_ ae;simp only[ntmps292,zm,kr,r7,reduceAdd,reduceSub,zn,zp,tU,tV,ot,sL];gi_wp2
 gi_loopw [4] (λi wr=>∃k:Nat,k<=eJ m 128/\i=.int .i64 ((k*128:Nat):Int)/\J ((finRange (eJ m 128)).take k) wr/\wr.cell? ⟨h,0,none⟩=some (.slice ao m cap)/\wr.cell? ⟨g,0,none⟩=some (.int .i64 128))
  (λi _=>(m+128)-(intOf i).toNat)
 grind;obtain⟨k,R,rfl,d,z,w⟩:=hrel;by_cases c:k<eJ m 128
 . have B:k*128<m:=(qZ cw).1 c;obtain rfl:=f cw;have l:Hid ((finRange (eJ m 128)).take (k+1)=(finRange (eJ m 128)).take k++[⟨k,c⟩]):=cq (by
    rw[take_add_one,iz (by simpa using c)];simp)
   (obtain⟨i,A⟩:=c8 (k*128);rw[A] at B|-;obtain⟨y,C⟩:=eW (min 128 (m-i));have Y:=λW=>K7 XL (s_ b o) m cap i cw W;have Z:∀W,(Instr.sliceAt 22 (.slice (s_ b o) m cap) (some (.int .i64 i)) (some (.int .i64 ((i+y:Nat):Int))) (some (.int .i64 ((i+y:Nat):Int)))).run prog W=.ok (sq b o 1 m 128 k) W:=λW=>by rw[Tg XL b o m cap i (i+y) cw cw];unfold sq;rw[A,<-C,show i+y-i=y by omega]);clear f R;have I:((m:Int)-(i:Int))=((m-i:Nat):Int):=cw;have V:min (128:Int) ((m-i:Nat):Int)=(y:Int):=cw;have H:((i:Int)+(y:Int))=((i+y:Nat):Int):=cw;have X:prog.follows .mixedOrders=true:=cX;have v:=XM M.o d (fO _ _).drew;obtain⟨fn,tmps,r,E,C,j⟩:=N.o _ ⟨k,c⟩ _ v bf;have s:=cq j;clear j;rw[show sq b o 1 m 128 k=.slice (s_ b (o+i)) (min 128 (m-i)) (min 128 (m-i)) from by unfold sq;rw[A];try simp] at C;gi_wp2;gi_region;gi_wp2;refine⟨CH,RoundIn.mono s.o ?_⟩;rintro e F (⟨rfl,hJ3,hk3⟩|⟨rfl,hJx3⟩)
   . have q:=(AT (hk3.same h dU)).trans z;have p:=(AT (hk3.same g dU)).trans w;gi_wp2;go_roundw;exact⟨k+1,cw,by rw[show(k+1)*128=i+128 by omega];go_num,by rw[l.o];exact hJ3,q,p⟩;exact oV
   . gi_wp2;refine gE (ug ae _ _ _) ae ?_;exact⟨⟨_,ae⟩,.inr ⟨_,by rw[<-l.o];exact take_prefix _ _,hJx3⟩⟩
 . (have U:m<=k*128:=by have:=mt (qZ (m:=m) (k:=k) (n:=128) cw).2 c;omega);clear f;gi_wp2;refine El (ug ae _ _ _) ae ?_;exact⟨⟨_,ae⟩,.inl ⟨_,ae,by rw[nz sp_] at d;exact d⟩⟩
def Qo(n c a m cap:Nat)(ao:Option Addr)(b o:Nat)(f:0<m->ao=some ⟨b,o,none⟩)(g:m<=cap)(r:m<=1000000)(w:cB)(e:w.cell? ⟨c,0,none⟩=some (.slice ao m cap))(d:w.cell? ⟨a,0,none⟩=some (.int .i64 128)):
 SeqStopsK Fence.wide n prog 292 #[.pointer (some ⟨c,0,none⟩),.pointer (some ⟨a,0,none⟩)] (λx:Fin (eJ m 128)=>#[sq b o 1 m 128 x.val]) (me [c,a]) (λt=>t=finRange (eJ m 128)) (λh=>h<+:finRange (eJ m 128)) (eJ m 128) w:=by intro s J j W i l _ q k;exact ZA n s c a m cap ao b o f g r J j W l q ((i.cell (p:=⟨c,0,none⟩) (q9 e)).trans e) ((i.cell (p:=⟨a,0,none⟩) (q9 d)).trans d) k
def VU(a:Option Addr)(b cap:Nat)(w:cB):
 CP_ 288 #[.slice a b cap,.int .i64 128] w λe w'=>e=.returned (.func (.func 292) #[] #[.pointer (some ⟨w.heap.size,0,none⟩),.pointer (some ⟨w.heap.size+1,0,none⟩)])/\w'=(w.alloc (.cells #[.slice a b cap] 22)).alloc (.cells #[.int .i64 128] 3):=by go_enter func288,ntmps288;go_wp2;go_ret;exact ay
theorem ZB(n:Nat)(K h g m cap:Nat)(ao:Option Addr)(b o:Nat)(f:0<m->ao=some ⟨b,o,none⟩)(T:m<=cap)(F:m<=1000000)(J D:List (Fin (eJ m 8))->cB->Prop)(W:cB)(F:AbidesFrom W.heap.size J)(G:∀a x t,J a t->a.length<eJ m 8->YieldAt Fence.wide (n-1) prog K #[sq b o 3 m 8 (x:Fin (eJ m 8)).val] t λe W'=>
  (e=.returned (.bool true)/\J (a++[x]) W'/\me [h,g] t W')∨(e=.returned (.bool false)/\D (a++[x]) W'))(Q:W.cell? ⟨h,0,none⟩=some (.slice ao m cap))(O:W.cell? ⟨g,0,none⟩=some (.int .i64 8))(H:J [] W):
 CallsIn Fence.wide n prog 293 #[.func (.yield K) #[] #[],.pointer (some ⟨h,0,none⟩),.pointer (some ⟨g,0,none⟩)] W λe W'=>(∃u,e=.returned u)/\
  ((∃L,L=finRange (eJ m 8)/\J L W')∨(∃a,a<+:finRange (eJ m 8)/\D a W')):=by
 have N:=cq G;clear G;have M:=cq F;clear F;refine callsIn_of_wp func293 ae gI ?_ ae;simp only[ntmps293,zm,kr,r7,reduceAdd,reduceSub,zn,zp,tU,tV,ot,sL];gi_wp2
 gi_loopw [4] (λi wr=>∃k:Nat,k<=eJ m 8/\i=.int .i64 ((k*8:Nat):Int)/\J ((finRange (eJ m 8)).take k) wr/\wr.cell? ⟨h,0,none⟩=some (.slice ao m cap)/\wr.cell? ⟨g,0,none⟩=some (.int .i64 8))
  (λi _=>(m+8)-(intOf i).toNat)
 grind;obtain⟨k,R,rfl,d,z,w⟩:=hrel;by_cases c:k<eJ m 8
 . have B:k*8<m:=(qZ cw).1 c;obtain rfl:=f cw;have l:Hid ((finRange (eJ m 8)).take (k+1)=(finRange (eJ m 8)).take k++[⟨k,c⟩]):=cq (by
    rw[take_add_one,iz (by simpa using c)];simp)
   (obtain⟨i,A⟩:=c8 (k*8);rw[A] at B|-;obtain⟨y,C⟩:=eW (min 8 (m-i));have Y:=λW=>K7 Df (s_ b o) m cap i cw W;have Z:∀W,(Instr.sliceAt 107 (.slice (s_ b o) m cap) (some (.int .i64 i)) (some (.int .i64 ((i+y:Nat):Int))) (some (.int .i64 ((i+y:Nat):Int)))).run prog W=.ok (sq b o 3 m 8 k) W:=λW=>by rw[Tg Df b o m cap i (i+y) cw cw];unfold sq;rw[A,<-C,show i+y-i=y by omega]);clear f R;have I:((m:Int)-(i:Int))=((m-i:Nat):Int):=cw;have V:min (8:Int) ((m-i:Nat):Int)=(y:Int):=cw;have H:((i:Int)+(y:Int))=((i+y:Nat):Int):=cw;have X:prog.follows .mixedOrders=true:=cX;have v:=XM M.o d (fO _ _).drew;obtain⟨fn,tmps,r,E,C,j⟩:=N.o _ ⟨k,c⟩ _ v bf;have s:=cq j;clear j;rw[show sq b o 3 m 8 k=.slice (s_ b (o+i*3)) (min 8 (m-i)) (min 8 (m-i)) from by unfold sq;rw[A];skip] at C;gi_wp2;gi_region;gi_wp2;refine⟨CH,RoundIn.mono s.o ?_⟩;rintro e F (⟨rfl,hJ3,hk3⟩|⟨rfl,hJx3⟩)
   . have q:=(AT (hk3.same h dU)).trans z;have p:=(AT (hk3.same g dU)).trans w;gi_wp2;go_roundw;exact⟨k+1,cw,by rw[show(k+1)*8=i+8 by omega];go_num,by rw[l.o];exact hJ3,q,p⟩;exact oV
   . gi_wp2;refine gE (ug ae _ _ _) ae ?_;exact⟨⟨_,ae⟩,.inr ⟨_,by rw[<-l.o];exact take_prefix _ _,hJx3⟩⟩
 . (have U:m<=k*8:=by have:=mt (qZ (m:=m) (k:=k) (n:=8) cw).2 c;omega);clear f;gi_wp2;refine El (ug ae _ _ _) ae ?_;exact⟨⟨_,ae⟩,.inl ⟨_,ae,by rw[nz sp_] at d;exact d⟩⟩
def Qp(n c a m cap:Nat)(ao:Option Addr)(b o:Nat)(f:0<m->ao=some ⟨b,o,none⟩)(g:m<=cap)(r:m<=1000000)(w:cB)(e:w.cell? ⟨c,0,none⟩=some (.slice ao m cap))(d:w.cell? ⟨a,0,none⟩=some (.int .i64 8)):
 SeqStopsK Fence.wide n prog 293 #[.pointer (some ⟨c,0,none⟩),.pointer (some ⟨a,0,none⟩)] (λx:Fin (eJ m 8)=>#[sq b o 3 m 8 x.val]) (me [c,a]) (λt=>t=finRange (eJ m 8)) (λh=>h<+:finRange (eJ m 8)) (eJ m 8) w:=by intro s J j W i l _ q k;exact ZB n s c a m cap ao b o f g r J j W l q ((i.cell (p:=⟨c,0,none⟩) (q9 e)).trans e) ((i.cell (p:=⟨a,0,none⟩) (q9 d)).trans d) k
def VV(a:Option Addr)(b cap:Nat)(w:cB):
 CP_ 289 #[.slice a b cap,.int .i64 8] w λe w'=>e=.returned (.func (.func 293) #[] #[.pointer (some ⟨w.heap.size,0,none⟩),.pointer (some ⟨w.heap.size+1,0,none⟩)])/\w'=(w.alloc (.cells #[.slice a b cap] 107)).alloc (.cells #[.int .i64 8] 3):=by go_enter func289,ntmps289;go_wp2;go_ret;exact ay
attribute [local go_sem] Oper.semAt_some
def pI(l:List cR)(id:Nat):Nat:=
 match eu l id with
 |none=>0
 |some i=>if(di l i).cW=true then((l.filter λs=>decide (s.cT=id)).find? λs=>decide (s.cG=(di l i).cG)).elim 0 cR.id else 0
def Cl{F:Fence}(S:St w0 d l L O X W)(c:kQ X)(b:w0.heap.size<=D)(a:W.heap[D]?=some (.deferred (some [])))(h:∀W',St w0 d l L O X W'->∃v,(results fn tmps).run P W'=.ok v W'/\R (.returned v) W'):LeavesInM F n P fn tmps R [{target:=.collected D,args:=#[]}] .returning W:=
 ⟨by simp,.inl ⟨_,_,ae,run_takeDeferred a,h _ (S.obj (tg (grownBy_putObj' W D _)) (FM a ae) b c)⟩⟩
theorem Th{l:List dg}{id:Nat}{x:dg}(a:eu (dJ l) id=some i)(b:l[i]?=some x):pI (dJ l) id=if x.cW=true then(((dJ l).filter λs=>decide (s.cT=id)).find? λs=>decide (s.cG=x.cG)).elim 0 cR.id else 0:=by grind[pI,kF]
theorem Dj(l:List dg)(id:Nat):((dJ l).filter λs=>decide (s.cT=id))=(qE l id l.length).map λi=>(l.get i).tocR:=by have h:=fK (map dg.tocR) (Zy l id);rw[sK] at h;unfold dJ;rw[filter_map];exact h.symm
theorem ZC{l:List dg}{id:Nat}(h:∀z∈qE l id l.length,(l.get z).cG≠own):(((dJ l).filter λs=>decide (s.cT=id)).find? λs=>decide (s.cG=own))=none:=by rw[Dj,find?_eq_none];grind
theorem ZD{l:List dg}{id:Nat}{p:List (Fin l.length)}{z:Fin l.length}(a:p++[z]<+:qE l id l.length)(h:∀z∈p,(l.get z).cG≠own)(b:(l.get z).cG=own):(((dJ l).filter λs=>decide (s.cT=id)).find? λs=>decide (s.cG=own))=some (l.get z).tocR:=by grind[Dj]
def VW(l:List dg)(v:cI)(id:Nat)(hl:l.length<=1000000)(w:cB)(R:fE w v l):
 CallsIn Fence.wide 5 prog 132 #[v,.int .u64 id] w λe w'=>e=.returned (.int .u64 (pI (dJ l) id:Nat))/\dz w w':=by
 obtain⟨ao,cap,rfl,a4,m⟩:=du R.1;have G:=cq R;have m:=cq m;have r:=cq λW(n:dz w W)=>si l _ id hl W (R.cx n);have S:=pF w;obtain⟨T,u⟩:=c8 (pI (dJ l) id);rw[u];clear R;refine callsIn_of_wp_marks func132 ae gI ?_ ae;simp only[ntmps132,zm,kr,r7,reduceAdd,reduceSub,zn,zp,tU,tV,ot,sL];rcases f:eu (dJ l) id with _|i;rw[f] at r;obtain rfl:0=T:=by rw[<-u];unfold pI;rw[f]
 simp only[kE] at r;clear u f
 rotate_left
 obtain⟨a7,x,hx,-⟩:=jU f;have a:=Th f hx;rw[u] at a;rw[f] at r;simp only[kE] at r;clear u f;obtain⟨b,o,rfl⟩:=m.o cw;have H:=cq (G.o.at hx);have a6:(i:Int)<(l.length:Int):=cw;rcases hs:x.cW with _|_;obtain rfl:T=0:=by rw[a,hs];rfl
 clear a
 rotate_left
 . rw[cL hs] at a;have HT:=cq a;clear a
   gi_upto_region 0 with fail
   refine jd rf cX tM ?_
   go_wp2_with first|refine BX S (v:=.slice (s_ b o) l.length cap) rfl rfl rfl λM S=>?_|refine ey λW S=>?_
   gi_upto_region 1 with fail
   refine jd rf cX tM ?_
   go_wp2_with first|(refine ah (r.o _ S.b) λN n=>?_;replace S:=S.cx n;clear n)|refine eR ?_|refine ey λW S=>?_
   gi_upto_region 2 with fail
   refine jd rf cX tM ?_
   go_wp2_with first|(first|refine jm 13 97 2 S 2 0 (.slice (s_ b o) l.length cap) ?_|refine jm 14 3 5 S 0 0 (.int .i64 i) ?_)|(refine lh cX ?_;refine iB (v:=.bool true) (by rw[<-hs];exact(H.o.cx S.b).c2) ae rZ ?_)|refine eR ?_
   gi_upto_region 4 with fail
   refine jd rf cX tM ?_
   go_wp2_with first|(refine ah (Cj (s_ b o) l.length cap id _) λL hW=>?_;have HB:=cq (Ck hW);clear hW)|refine eR ?_
   gi_wp2
   replace S:St w none [] [⟨N.heap.size,3,1,λ_=>.int .i64 i⟩,⟨M.heap.size,82,1,λ_=>.int .u64 0⟩,⟨w.heap.size,97,1,λ_=>.slice (s_ b o) l.length cap⟩] [] (λ_ _=>True) W:=S;obtain⟨n,V,U,a3,a,a8⟩:=HB.o;have A:gx w b=some 109:=cK.ty G.o.1 ae cw;have X:∀k∈ [W.heap.size,W.heap.size+1]++(Value.slice (s_ b o) l.length cap).ownBlock.toList,(W.heap.size<=k∨k<w.heap.size)/\∃t,gx L k=some t/\kO t=false/\fT t=false:=by
    intro k d;simp only[Value.ownBlock,Kh,sL,ot,ib,iS,sM] at d;rcases d with rfl|rfl|rfl
    . exact⟨.inl (dK _),_,a3,ae,ae⟩
    . exact⟨.inl (le_succ _),_,a,ae,ae⟩
    . exact⟨.inr (gr A),_,uy (uy A S.b) n,ae,ae⟩
   replace S:=S.SU n X;have Q:=S.x.2;have a9:w.heap.size<=L.heap.size:=S.fr.size;refine wpIn_rangeFunc_ownF ae cw (gf:=232) (lb:=#[cZ W.heap.size 0,cZ (W.heap.size+1) 0]) ae gI (enters_of func232 cX ae)
    (EV 4 W.heap.size (W.heap.size+1) _ l id hl L (G.o.cx S.b) V U) me.trans (me.wA λk d=>let⟨_,h1,_⟩:=(Q k d).2;gr h1) (fO _ _) (λ_=>ae)
    (λj W'=>∃y:Unit,Hid (∀z∈j,(l.get z).cG≠x.cG)/\St w none [] [⟨N.heap.size,3,1,λ_=>.int .i64 i⟩,⟨M.heap.size,82,1,λ_=>.int .u64 0⟩,⟨w.heap.size,97,1,λ_=>.slice (s_ b o) l.length cap⟩] [] (λB w=>True/\Rr ([W.heap.size,W.heap.size+1]++(Value.slice (s_ b o) l.length cap).ownBlock.toList) B w) W')
    (λc j W'=>∃y:Fin l.length,Hid (c=.ret/\∃p,j=p++[y]/\(∀z∈p,(l.get z).cG≠x.cG)/\(l.get y).cG=x.cG)/\St w none [] [⟨N.heap.size,3,1,λ_=>.int .i64 i⟩,⟨M.heap.size,82,1,λ_=>.int .u64 ((l.get y).id:Nat)⟩,⟨w.heap.size,97,1,λ_=>.slice (s_ b o) l.length cap⟩] [] (λB w=>True/\Rr ([W.heap.size,W.heap.size+1]++(Value.slice (s_ b o) l.length cap).ownBlock.toList) B w) W')
    (qB S.fr.size _ _ _ _ λ_ _=>kQ.t.and (kQ.av _)) (λc=>qB S.fr.size _ _ _ _ λ_ _=>kQ.t.and (kQ.av _))
    ⟨(),cq (λ_ h=>by cases h),S⟩ ?a1 ?assign ?body ?done ?stop
   case assign=>
    intro lp z W' K s
    gi_wp2
    exact s
   case body=>
    clear S;rintro lp j z W0 ⟨-,f,S⟩ -;replace S:=S.fV;obtain⟨y,I⟩:=c8 (l.get z);have F:l[z.val]?=some y:=by rw[iz z.isLt,<-I];rfl
    have J:=cq (G.o.at F);have b1:=z.isLt;have hz:(z.val:Int)<(l.length:Int):=cw;clear F;rcases z6 (y.cG=x.cG) with he|he
    . have Y:(((y.cG:Nat):Int)==((x.cG:Nat):Int))=true:=by rw[yl];omega
      gi_wp2
      refine yW rf S cX cX tM λW S=>?_;refine cJ 0 (.slice (s_ b o) l.length cap) ?_;refine cJ 1 _ ?_;refine cJ 2 (cZ b (o+z.val*11)) ?_;refine cJ 3 (cZ b (o+z.val*11+3)) ?_;refine fW 4 (.int .u64 y.cG) ae (fR (λw h=>by obtain⟨_,S⟩:=h;exact(J.o.cx S.b).c3) ae fg) ?_;refine cJ 5 (.slice (s_ b o) l.length cap) ?_;refine cJ 6 (.int .i64 i) ?_;refine cJ 7 (cZ b (o+i*11)) ?_;refine cJ 8 (cZ b (o+i*11+3)) ?_;refine fW 9 (.int .u64 x.cG) ae (fR (λw h=>by obtain⟨_,S⟩:=h;exact(H.o.cx S.b).c3) ae fg) ?_;refine cJ 10 (.bool true) ?_;refine pz ?_
      gi_upto_region 7 with fail
      refine jd rf cX tM ?_
      go_wp2_with first|(first|refine jo 39 82 38 (v:=.int .u64 y.id) ((J.o.cx S.b).c0) ?_)|refine eR ?_|refine ey λW S=>?_
      gi_wp2
      have d:=S.kept (vt.still (jM _));refine⟨d.1,z,cq ⟨ae,j,ae,f.o,by rw[I];exact he⟩,?_⟩;rw[I];exact(d.2.2.wv (k:=1) ae (g:=λ_=>.int .u64 y.id) λi hi=>by have hi:i<1:=hi;obtain rfl:i=0:=cw;rfl)
    . have Y:(((y.cG:Nat):Int)==((x.cG:Nat):Int))=false:=by rw[lx];omega
      gi_wp2
      refine yW rf S cX cX tM λW S=>?_;refine cJ 0 (.slice (s_ b o) l.length cap) ?_;refine cJ 1 _ ?_;refine cJ 2 (cZ b (o+z.val*11)) ?_;refine cJ 3 (cZ b (o+z.val*11+3)) ?_;refine fW 4 (.int .u64 y.cG) ae (fR (λw h=>by obtain⟨_,S⟩:=h;exact(J.o.cx S.b).c3) ae fg) ?_;refine cJ 5 (.slice (s_ b o) l.length cap) ?_;refine cJ 6 (.int .i64 i) ?_;refine cJ 7 (cZ b (o+i*11)) ?_;refine cJ 8 (cZ b (o+i*11+3)) ?_;refine fW 9 (.int .u64 x.cG) ae (fR (λw h=>by obtain⟨_,S⟩:=h;exact(H.o.cx S.b).c3) ae fg) ?_;refine cJ 10 (.bool false) ?_;refine pz ?_
      gi_wp2
      have d:=S.kept (vt.still (jM _));refine⟨d.1,d.2.1,(),cq λq E=>?_,d.2.2⟩;rcases fL.1 E with E|E
      . exact f.o q E
      . obtain rfl:=eV.1 E;rw[I];exact he
   case done=>
    clear S;rintro D ys W0 hD rfl ⟨-,f,S⟩ s;have O:T=0:=by rw[HT.o,ZC f.o];rfl
    replace S:=S.fV
    gi_upto_region 8 with fail
    gi_upto_region 8 with fail
    refine jd rf cX tM ?_
    go_wp2_with refine ey λW S=>?_
    gi_wp2
    have d:=S.kept (vt.still (jM _));refine Cl d.2.2 (kQ.t.and (kQ.av _)) cw (d.1.same D _ s ae) λW' S=>?_;have hc:=S.cell (k:=1) ae (i:=0) yn;exact⟨.int .u64 0,by simp[results,f132,go_sem,hc],by rw[O];rfl,S.b⟩
   case stop=>
    clear S;rintro D c j W0 hD C ⟨z,f,S⟩ s;obtain⟨rfl,p,rfl,a2,Z⟩:=f.o;have a5:T=(l.get z).id:=by rw[HT.o,ZD C a2 Z];rfl
    gi_wp2
    refine Cl S (kQ.t.and (kQ.av _)) cw s λW' S=>?_;have hc:=S.cell (k:=1) ae (i:=0) yn;exact⟨.int .u64 ((l.get z).id:Nat),by simp[results,f132,go_sem,hc],by first|rfl,S.b⟩
 all_goals
  gi_upto_region 0 with fail
  refine jd rf cX tM ?_
  go_wp2_with refine ey λW S=>?_
  gi_upto_region 1 with fail
  refine jd rf cX tM ?_
  go_wp2_with first|refine je S (r.o _ S.b) λW S=>?_|refine eR ?_|refine ey λW S=>?_
  gi_upto_region 2 with fail
  refine jd rf cX tM ?_
  go_wp2_with first|(first|refine jm 13 97 2 S 2 0 (.slice (s_ b o) l.length cap) ?_|refine jm 14 3 5 S 0 0 (.int .i64 i) ?_)|(refine lh cX ?_;refine iB (v:=.bool false) (by rw[<-hs];exact(H.o.cx S.b).c2) ae rZ ?_)|refine eR ?_
  gi_upto_region 3 with fail
  refine jd rf cX tM ?_
  go_wp2_with refine ey λW S=>?_
  gi_wp2
  have hc:=S.cell (k:=1) ae (i:=0) (yn);exact⟨_,by simp[results,f132,go_sem,hc],ae,S.b⟩
end
attribute [local go_sem] Oper.semAt_some
def XN:kB prog 78:=⟨⟨_,uk,ae⟩,cX⟩
instance indde69 :pS 78:=⟨XN⟩
def rV(l:List cR)(id:Nat):cD:=
 match eu l id with
 |none=> []
 |some i=>if(di l i).cW=true then((l.filter λs=>decide (s.cT=id)).filter λs=>!decide (s.cG=(di l i).cG)).map cR.id else []
theorem VX{l:List dg}{id:Nat}{x:dg}(a:eu (dJ l) id=some i)(b:l[i]?=some x):rV (dJ l) id=if x.cW=true then(((dJ l).filter λs=>decide (s.cT=id)).filter λs=>!decide (s.cG=x.cG)).map cR.id else []:=by grind[rV,kF]
section
theorem afY(hc:w.cell? ⟨b,o,none⟩=some v)(g:a.eval (.tmp x)=.pointer (some ⟨b,o,none⟩))(e:kB P ty)(h:K (a.put (some dst) v) w):Oper.wp P ⟨some dst,.load ty (.tmp x),t2,p,af,none⟩ a w K Q:=by
 obtain⟨⟨d,f,i⟩,j⟩:=e;have c:(isAgg ty).run P w=.ok false w:=by unfold isAgg;rw[kj,xC f w];cases d<;>simp_all [TypeDesc.isRow]
 unfold Oper.wp execOp;simp only[g,Instr.loadAt,Instr.sureAddr,kj,qq,mS,loadVar,c,cM Pd,run_load,hc];exact h
def agH{F:Fence}(b:Open F){ops:List Oper}(S:St w0 d l L O X w){id:Nat}(f:P.follows .mixedOrders=true)(e:FE ops=true)(c:¬LetsOut Q)(rs:List R4)(g:∀r∈rs,r∈L)(h:∀W,St w0 d l L O X W->wpAnyH P .any ops.toArray Q (SE1 w0 d l rs) ops.toArray.size (Array.replicate ops.toArray.size false) a W):(Code.region id ops.toArray true).wpIn F n P Q a w:=
 wpIn_region_any f (SB b c (λ_ ho=>AB e cw) _ _ _ _ (wpAny_of_held _ _ _ _ (h _ S.drew)))
end
def qF(l:List dg)(own:Nat)(a:List (Fin l.length)):cD:=(a.filter λz=>!decide ((l.get z).cG=own)).map λz=>(l.get z).id
theorem Qq(l:List dg)(own:Nat)(a:List (Fin l.length)):(qF l own a).length<=a.length:=by grind[qF]
theorem Np(l:List dg)(own:Nat)(a:List (Fin l.length))(z:Fin l.length):qF l own (a++[z])=qF l own a++if(l.get z).cG=own then [] else [(l.get z).id]:=by unfold qF;grind
def Qr(l:List dg)(id own:Nat):(((dJ l).filter λs=>decide (s.cT=id)).filter λs=>!decide (s.cG=own)).map cR.id=qF l own (qE l id l.length):=by rw[Dj,filter_map,sK];rfl
section
attribute[local irreducible]wpList Code.wp Calls Oper.wp wpAnyH
def Qs(l:List dg)(v:cI)(id:Nat)(hl:l.length<=1000000)(w:cB)(R:fE w v l):
 CallsIn Fence.wide 5 prog 130 #[v,.int .u64 id] w λe w'=>∃r,e=.returned r/\JC w' w.heap.size r (rV (dJ l) id)/\dz w w':=by
 obtain⟨ao,cap,rfl,a2,n⟩:=du R.1;have H:=cq R;have n:=cq n;have q:=cq λW(p:dz w W)=>si l _ id hl W (R.cx p);have S:=pF w;obtain⟨T,u⟩:=c8 (rV (dJ l) id);rw[u];clear R;refine callsIn_of_wp_marks func130 ae gI ?_ ae;simp only[ntmps130,zm,kr,r7,reduceAdd,reduceSub,zn,zp,tU,tV,ot,sL];rcases hp:eu (dJ l) id with _|i;rw[hp] at q;obtain rfl:[]=T:=by rw[<-u];unfold rV;rw[hp]
 simp only[kE] at q;clear u hp
 rotate_left
 obtain⟨a5,x,hx,-⟩:=jU hp;have a:=VX hp hx;rw[u] at a;rw[hp] at q;simp only[kE] at q;clear u hp;obtain⟨b,o,rfl⟩:=n.o cw;have I:=cq (H.o.at hx);have a4:(i:Int)<(l.length:Int):=cw;rcases s:x.cW with _|_;obtain rfl:T=[]:=by rw[a,s];rfl
 clear a
 rotate_left
 . rw[cL s,Qr] at a;have HT:=cq a;clear a
   gi_upto_region 0 with fail
   refine jd rf cX tM ?_
   go_wp2_with refine ey λW S=>?_
   gi_upto_region 1 with fail
   refine jd rf cX tM ?_
   go_wp2_with first|(refine ah (q.o _ S.b) λWC p=>?_;replace S:=S.cx p;clear p)|refine vU S 0 rfl 0 (λ_=>.int .i64 i) (λj hj=>by have hj:j<1:=hj;obtain rfl:j=0:=cw;rfl) pR rfl rfl rfl BU λWE S=>?_|refine eR ?_|refine ey λW S=>?_
   gi_upto_region 2 with fail
   refine jd rf cX tM ?_
   go_wp2_with first|(first|refine jm 14 97 2 S 1 0 (.slice (s_ b o) l.length cap) ?_|refine jm 15 3 5 S 0 0 (.int .i64 i) ?_)|(refine lh cX ?_;refine iB (v:=.bool true) (by rw[<-s];exact(I.o.cx S.b).c2) ae rZ ?_)|refine eR ?_
   gi_upto_region 4 with fail
   refine jd rf cX tM ?_
   go_wp2_with refine ey λW S=>?_
   gi_upto_region 5 with fail
   refine jd rf cX tM ?_
   go_wp2_with first|(refine ah (Cj (s_ b o) l.length cap id _) λL hW=>?_;have HB:=cq (Ck hW);clear hW)|refine eR ?_
   gi_wp2
   replace S:St w none [] [⟨WE.heap.size,78,1,λ_=>.slice none 0 0⟩,⟨WC.heap.size,3,1,λ_=>.int .i64 i⟩,⟨w.heap.size,97,1,λ_=>.slice (s_ b o) l.length cap⟩] [] (λ_ _=>True) W:=S;obtain⟨p,O,N,V,a,a6⟩:=HB.o;have A:gx w b=some 109:=cK.ty H.o.1 ae cw;have Q:∀k∈ [W.heap.size,W.heap.size+1]++(Value.slice (s_ b o) l.length cap).ownBlock.toList,(W.heap.size<=k∨k<w.heap.size)/\∃t,gx L k=some t/\kO t=false/\fT t=false:=by
    intro k m;simp only[Value.ownBlock,Kh,sL,ot,ib,iS,sM] at m;rcases m with rfl|rfl|rfl
    . exact⟨.inl (dK _),_,V,ae,ae⟩
    . exact⟨.inl (le_succ _),_,a,ae,ae⟩
    . exact⟨.inr (gr A),_,uy (uy A S.b) p,ae,ae⟩
   replace S:=(S.Hi 82 1 ae ae).SU p Q;have M:=S.x.2;have a7:w.heap.size<=L.heap.size:=S.fr.size;refine wpIn_rangeFunc_ownF ae cw (gf:=232) (lb:=#[cZ W.heap.size 0,cZ (W.heap.size+1) 0]) ae gI (enters_of func232 cX ae)
    (EV 4 W.heap.size (W.heap.size+1) _ l id hl L (H.o.cx S.b) O N) me.trans (me.wA λk m=>let⟨_,h1,_⟩:=(M k m).2;gr h1) (fO _ _) (λ_=>ae)
    (λc W'=>∃y:Option Addr×Nat,True/\St w none [] [⟨WE.heap.size,78,1,λ_=>.slice y.1 (qF l x.cG c).length y.2⟩,⟨WC.heap.size,3,1,λ_=>.int .i64 i⟩,⟨w.heap.size,97,1,λ_=>.slice (s_ b o) l.length cap⟩] [⟨82,1,.slice y.1 (qF l x.cG c).length y.2,(qF l x.cG c).length,JI (qF l x.cG c)⟩] (λB w=>True/\Rr ([W.heap.size,W.heap.size+1]++(Value.slice (s_ b o) l.length cap).ownBlock.toList) B w) W')
    (λ_ _ _=>False)
    (qB S.fr.size _ _ _ _ λ_ _=>kQ.t.and (kQ.av _)) (λ_ _ _ _ _ s _ _=>s)
    ⟨(none,0),gI,S⟩ ?a1 ?assign ?body ?done ?stop
   case assign=>
    intro lp z W' K d
    gi_wp2
    exact d
   case body=>
    clear S;rintro lp c z W0 ⟨⟨Z,yc⟩,-,S⟩ a3;replace S:=S.fV;have F:=Qq l x.cG c;have f:=cq (Np l x.cG c z);obtain⟨Y,E⟩:=c8 (qF l x.cG c);rw[E] at S F f;obtain⟨y,X⟩:=c8 (l.get z);rw[X] at f;have G:l[z.val]?=some y:=by rw[iz z.isLt,<-X];rfl
    have J:=cq (H.o.at G);have a8:=z.isLt;have hz:(z.val:Int)<(l.length:Int):=cw;clear G E X;rcases z6 (y.cG=x.cG) with he|he
    . have U:(((y.cG:Nat):Int)!=((x.cG:Nat):Int))=false:=by rw[tX];omega
      gi_wp2
      refine yW rf S cX cX tM λW S=>?_;refine cJ 0 (.slice (s_ b o) l.length cap) ?_;refine cJ 1 _ ?_;refine cJ 2 (cZ b (o+z.val*11)) ?_;refine cJ 3 (cZ b (o+z.val*11+3)) ?_;refine fW 4 (.int .u64 y.cG) ae (fR (λw h=>by obtain⟨_,S⟩:=h;exact(J.o.cx S.b).c3) ae fg) ?_;refine cJ 5 (.slice (s_ b o) l.length cap) ?_;refine cJ 6 (.int .i64 i) ?_;refine cJ 7 (cZ b (o+i*11)) ?_;refine cJ 8 (cZ b (o+i*11+3)) ?_;refine fW 9 (.int .u64 x.cG) ae (fR (λw h=>by obtain⟨_,S⟩:=h;exact(I.o.cx S.b).c3) ae fg) ?_;refine cJ 10 (.bool false) ?_;refine pz ?_
      gi_wp2
      have m:=S.kept (vt.still (jM _));rw[cL he,vd] at f;exact⟨m.1,m.2.1,(Z,yc),gI,by rw[f.o];exact m.2.2⟩
    . have U:(((y.cG:Nat):Int)!=((x.cG:Nat):Int))=true:=by rw[eO];omega
      gi_wp2
      refine yW rf S cX cX tM λW S=>?_;refine cJ 0 (.slice (s_ b o) l.length cap) ?_;refine cJ 1 _ ?_;refine cJ 2 (cZ b (o+z.val*11)) ?_;refine cJ 3 (cZ b (o+z.val*11+3)) ?_;refine fW 4 (.int .u64 y.cG) ae (fR (λw h=>by obtain⟨_,S⟩:=h;exact(J.o.cx S.b).c3) ae fg) ?_;refine cJ 5 (.slice (s_ b o) l.length cap) ?_;refine cJ 6 (.int .i64 i) ?_;refine cJ 7 (cZ b (o+i*11)) ?_;refine cJ 8 (cZ b (o+i*11+3)) ?_;refine fW 9 (.int .u64 x.cG) ae (fR (λw h=>by obtain⟨_,S⟩:=h;exact(I.o.cx S.b).c3) ae fg) ?_;refine cJ 10 (.bool true) ?_;refine pz ?_
      gi_upto_region 8 with fail
      refine agH rf S cX cX tM [⟨w.heap.size,97,1,λ_=>.slice (s_ b o) l.length cap⟩] Be λW S=>?_;refine cJ 1 (.slice (s_ b o) l.length cap) ?_;refine cJ 2 _ ?_;refine cJ 3 (cZ b (o+z.val*11)) ?_;refine cJ 4 (cZ b (o+z.val*11)) ?_;refine fW 5 (.int .u64 y.id) ae (fR (λw h=>by obtain⟨_,_,_,S,_⟩:=h;exact(J.o.cx S.b).c0) ae fg) ?_
      repeat' first|refine Rp ?_|refine zX 0 6 (λK d=>?_) λK d=>?_|refine oJ 0 λK d=>?_|refine oJ 7 λK d=>?_|refine oJ 8 λK d=>?_|refine oJ 6 λK d=>?_|(refine XI S [.int .u64 y.id] uk yV cw cw ae ae (by intro v hv;obtain rfl:=eV.1 hv;rfl) ae λW S=>?_;replace S:=S.wv (k:=0) ae (g:=λ_=>Value.int .u64 y.id) (λi C=>by have C:i<1:=C;obtain rfl:i=0:=cw;rfl);refine fC d ?_)|(first|refine afY (S.cell (k:=1) ae (i:=0) yn) ae XN ?_;refine fC d ?_)|(refine agz S 0 ae 0 ae ae ae ae acd (λ_=>ae) Br wR λg9 c9 W S=>?_;refine fC d ?_)|(refine ahV S 1 ae 0 pR ae ae ae XN λW S=>?_;refine fC d ?_)|(first|refine afY (S.cell (k:=0) ae (i:=0) yn) ae XN ?_;refine fC d ?_)
      all_goals(
      refine cq ?_
      gi_wp2
      have m:=S.kept (vt.still (jM _));rw[cM he] at f;refine⟨m.1,m.2.1,s_ g9 0,c9,?_⟩;rw[f.o];have S9:=m.2.2.pop;unfold JI;rw[mI,ik];exact(S9.wv (k:=0) ae (g:=λ_=>.slice (s_ g9 0) (Y.length+1) c9) λi C=>by have C:i<1:=C;obtain rfl:i=0:=cw;rfl).Dx (λ_ _ h=>h.2) (jM _).k8
      )
   case done=>
    clear S;rintro D ys W0 hD rfl ⟨⟨Z,yc⟩,-,S⟩ d;rw[<-HT.o] at S
    gi_upto_region 9 with fail
    gi_upto_region 9 with fail
    refine jd rf cX tM ?_
    go_wp2_with refine eR ?_
    gi_wp2
    refine Cl S (kQ.t.and (kQ.av _)) cw d λW' S=>?_;exact⟨_,results_tmp ae _ _ _,.slice Z T.length yc,ae,S.o0,S.b⟩
   case stop=>
    rintro _ _ _ _ _ _ h _;exact h.elim
 all_goals
  gi_upto_region 0 with fail
  refine jd rf cX tM ?_
  go_wp2_with refine ey λW S=>?_
  gi_upto_region 1 with fail
  refine jd rf cX tM ?_
  go_wp2_with first|refine je S (q.o _ S.b) λW S=>?_|refine eR ?_|refine ey λW S=>?_
  gi_upto_region 2 with fail
  refine jd rf cX tM ?_
  go_wp2_with first|(first|refine jm 14 97 2 S 1 0 (.slice (s_ b o) l.length cap) ?_|refine jm 15 3 5 S 0 0 (.int .i64 i) ?_)|(refine lh cX ?_;refine iB (v:=.bool false) (by rw[<-s];exact(I.o.cx S.b).c2) ae rZ ?_)|refine eR ?_
  gi_wp2
  exact⟨_,results_tmp ae _ _ _,.slice none 0 0,ae,gz _ _ _ _,S.b⟩
end
def Nq(l:List dg)(v:cI)(id:Nat)(a:l.length<=1000000)(w:cB)(R:fE w v l):
 CP_ 130 #[v,.int .u64 id] w λe w'=>∃r,e=.returned r/\JC w' w.heap.size r (rV (dJ l) id)/\dz w w':=r9.1 (Qs l v id a w R)
def Ti(l:List dg)(v:cI)(id:Nat)(a:l.length<=1000000)(w:cB)(R:fE w v l):
 rF 132 #[v,.int .u64 id] w (.int .u64 (pI (dJ l) id:Nat)):=r9.1 (VW l v id a w R)
theorem St.acs{r q:R4}(S:St w0 d l (r::q::L) O X w):St w0 d l (q::r::L) O X w:=by
 have a:(dM (q::r::L) O).Perm (dM (r::q::L) O):=by grind[dM]
 refine⟨S.fr,λx f=>S.row x ?_,S.own,λb c=>S.lo b (a.mem_iff.1 c),a.nodup_iff.2 S.nd,S.k8.mono S.x λk e=>a.mem_iff.1 e,S.k8⟩;grind
def St.nm(_:St w0 d l (⟨b,t,n,f⟩::L) O X w):∃a,b=a:=⟨_,ae⟩
def K3:prog.built 106 []=some #[.int .i64 0,.int .u64 0,.int .u32 0]:=cX
section
end
def Lq(n D:Nat)(X:cD->cB->Prop):cD->cB->Prop:=λB w=>X B w/\∀k∈nL w D,n<=k/\k∉B
section
variable {l2:cD}{X':cD->cB->Prop}
theorem wW(h:kK (some D) X):kK none (Lq n D X):=by refine⟨fun {B w w'} g b=>?_,fun {B w b} g c=>?_,λg a=>⟨h.mono g.1 a,λk d=>⟨(g.2 k d).1,λc=>(g.2 k d).2 (a k c)⟩⟩,fun {B w w' b t} g c hbut ht ho _=>?_,aH⟩;have f:=gr (h.dev g.1 ae).1;exact⟨h.cx g.1 b,by rw[qT (b.block D f)];exact g.2⟩;refine⟨h.add g.1 c,λk d=>⟨(g.2 k d).1,λa=>?_⟩⟩;rcases ib.1 a with rfl|a;exact tP _ (oS ((h.dev g.1 ae).2 _ d) c);exact(g.2 k d).2 a;(have f:=(h.dev g.1 ae).1;have j:b∉nL w D:=λa=>(g.2 b a).2 c;have i:D≠b:=by rintro rfl;grind[Om]);exact⟨h.but g.1 c hbut ht ho (.inr λl e=>by grind),by rw[qT (hbut.block D (gr f) i)];exact g.2⟩
end
theorem ZE(l:Nat->cy)(k:Nat)(p:cy)(i:Nat):dX (ig l k p) i=if k*3<=i/\i<k*3+3 then c7 p (i-k*3) else dX l i:=by unfold dX ig;grind
theorem F4{l:Nat->cy}(h:cu w b 191 24 (dX l))(k:Nat)(p:cy)(e:w'=w.setCells b (k*3) (ct 3 (c7 p)).toList):cu w' b 191 24 (dX (ig l k p)):=by rw[e];refine cu.congr (cu.setCells _ _ h) λj c=>?_;unfold KC;rw[mq,cF,ZE];by_cases a:k*3<=j/\j<k*3+3;rw[cL a,cL a];grind[FA];grind
def Tj:jF prog 193 51:=⟨⟨_,underlying193,ae⟩,aeu⟩
instance ine6c60 :rB 193 51:=⟨Tj⟩
theorem EW(y:Way):∀i,i<3->mN y (48+i)=c7 y.block i:=λi a=>by unfold mN;grind
theorem Lr(y:Way):∀i,i<24->mN y (0+i)=dX y.first i:=by simp_all[mN]
theorem I9(y:Way):∀i,i<24->mN y (24+i)=dX y.lJ i:=λi a=>by unfold mN;grind
def Lt:prog.built 106 []=some #[.int .i64 0,.int .u64 0,.int .u32 0]:=cX
section
theorem ixN{E:Nat}(c:k<8)(d:a.eval (.tmp x)=.pointer (some ⟨E,0,none⟩))(b:a.eval (.tmp i)=.int .i64 k)(h:wpList prog ops Q rest (a.put (some dst) (.pointer (some ⟨E,k*3,none⟩))) w):
 wpList prog ops Q (⟨some dst,.indexAddr 191 (.tmp x) (.tmp i),t2,p,af,none⟩::rest) a w:=
 ux (o:=⟨some dst,.indexAddr 191 (.tmp x) (.tmp i),t2,p,af,none⟩) ae 191 (.tmp x) (.tmp i) ae (cZ E (k*3)) (by grind[xE]) h
end
def ah4:prog.built 193 []=some (ct 51 (mN Ol)):=cX
def ah5:prog.built 36 []=some (ct 128 (cN eP)):=cX
theorem ai4{E:Nat}(c:k<8)(d:a.eval (.tmp x)=.pointer (some ⟨E,o,none⟩))(b:a.eval (.tmp i)=.int .i64 k)(h:wpList prog ops Q rest (a.put (some dst) (.pointer (some ⟨E,o+k*3,none⟩))) w):wpList prog ops Q (⟨some dst,.indexAddr 191 (.tmp x) (.tmp i),t2,p,af,none⟩::rest) a w:=
 ux (o:=⟨some dst,.indexAddr 191 (.tmp x) (.tmp i),t2,p,af,none⟩) ae 191 (.tmp x) (.tmp i) ae (cZ E (o+k*3)) (by grind[P0]) h
theorem agI(y:Way)(b:k<8):∀i,i<3->mN y (k*3+i)=c7 (y.first k) i:=λi a=>by unfold mN dX;grind
theorem agJ(y:Way)(b:k<8):∀i,i<3->mN y (24+k*3+i)=c7 (y.lJ k) i:=λi a=>by unfold mN dX;grind
def ah6:prog.built 191 []=some (ct 24 (dX l6)):=cX
def ah7:kB prog 45:=⟨⟨_,underlying45,ae⟩,cX⟩
def ah8:kB prog 104:=⟨⟨_,underlying104,ae⟩,cX⟩
def ej.pc{P:Nat}(h:ej w P D M s)(f:Fr (some D) l w w')(a:P∉l):k7 w' P D M s.cA s.base:=cu.fr h.row f au (.inr a)
def ej.dv'{P:Nat}{d:Dv}(h:ej w P D M s)(c:iK w' D d)(f:Fr (some D) l w w')(b:P∉l)(a:M∉l):ej w' P D M {s with dv:=d}:=⟨h.pc f b,c,h.map.fr f a,h.ok⟩
def ah9:kB prog 67:=⟨⟨_,underlying67,ae⟩,cX⟩
theorem qh{a:Nat}(c:gx w a=some t)(d:gx w b=some u)(h:t≠u):a≠b:=by grind
def ej.afZ{P:Nat}(h:ej w P D M s)(d:iU M w w')(b:eE w' M m):ej w' P D M {s with mp:=m}/\Fr none [M] w w':=by have a:Fr none [M] w w':=Fr.qt d (cu.ty h.map) ae (eV.2 ae);have c:P∉ [M]:=λb=>qh (cu.ty h.row) (cu.ty h.map) jR (eV.1 b);exact⟨⟨cu.fr h.row a ax (.inr c),h.dev.fr a,b,h.ok⟩,a⟩
theorem ej.aia{P:Nat}(h:Lq 0 D (Bq P D M s) B w)(b:iU M w w')(d:eE w' M m):Lq 0 D (Bq P D M {s with mp:=m}) B w'/\Fr none [M] w w':=by have a:=ej.afZ h.1 b d;have c:=ej.dlt h.1 D ae;refine⟨⟨a.1,?_⟩,a.2⟩;rw[qT (b.block D (gr c) (by rintro rfl;have:=ej.tyM h.1;grind))];exact h.2
def aeW:zeroCells36=ct 128 (cN []):=PL
section
attribute[local irreducible]wpList Code.wp Calls Oper.wp wpAnyH
theorem F5(a:Way)(q:cy)(i:Nat)(hi:i<64)(N:fJ)(hN:N=ct 51 (mN a))(w:cB):
 CP_ 143 #[.agg N,lT q,.int .i64 i] w λe w'=>∃v,e=.returned v/\gg w' w.heap.size v (kH a q i)/\dz w w':=by
 obtain⟨A,E⟩:=eW (ct 3 (c7 q));rw[cP E];obtain⟨h,z⟩:=c8 (i/8);have B:h<8:=cw;have x:(i:Int)/8=(h:Int):=cw;obtain⟨I,j⟩:=xm (ct 3 (c7 a.block));obtain⟨J,l⟩:=xm (ct 3 (c7 (a.first h)));obtain⟨L,G⟩:=eW ([a.block,a.first h,q]);have u:L.length=3:=by rw[G];rfl
 obtain⟨X,HX⟩:=xm (ct 9 (dX λi=>L.getD i cH));have K:=cq (show prog.built 278 [(0,.agg I),(1,.agg J),(2,.agg A)]=some X by rw[j.o,l.o,E,HX.o,G];exact abI _ _ _);have Q:=cq (show kH a q i=L.filter λp=>decide (p≠cH) by unfold kH;rw[G,z]);have M:=cq x;have HA:=cq E;have HN:=cq hN;have o:=cq u;have S:=pF w;clear E hN G u x z;go_enter func143,ntmps143;go_upto_region 2 with(first|refine xN S rfl HN.o rfl λW1 S=>?_|refine ey λW S=>?_);have hR:=S.k1;refine dL S cX λW S=>?_;refine cJ 0 (cZ w.heap.size 48) ?_;refine fW 1 (.agg I) ae (uP cX 106 (.tmp 10) mB w.heap.size 48 mB I _ (λw H=>P4 (by obtain⟨_,S⟩:=H;exact S.k1) j.o) yS ae (by rw[j.o,cF];exact jD)) ?_;refine cJ 2 _ ?_;refine fW 3 (.int .i64 h) ae (Or.inl ⟨cX,λw H=>by have h1:=M.o;go_simp;exact j0 _ cw⟩) ?_;refine cJ 4 (cZ w.heap.size 0) ?_;refine fW 5 (cZ w.heap.size (h*3)) ae (KR cX 191 (.tmp 14) (.tmp 13) mB _ (λww=>xE w.heap.size h B ww)) ?_;refine fW 6 (.agg J) ae (uP cX 106 (.tmp 15) mB w.heap.size (h*3) mB J _ (λw H=>PZ (by obtain⟨_,S⟩:=H;exact S.k1) B l.o) yS ae (by rw[l.o,cF];exact jD)) ?_;refine cJ 7 (.agg A) ?_;refine fW 8 (.agg X) ae (xO ae K.o) ?_;refine cJ 9 _ ?_;refine pz ?_;replace S:=((S.pop).pop).Hi 106 3 ae ae;have S:=cq S;go_wp2_with fail;go_loopw [7,19] (λv c wr=>∃(k:Nat)(R:Option Addr)(T:Nat)(m:List cy)(Ls:List R4),k<=3/\c=.int .i64 k/\m.length<=k/\v=.slice R m.length T/\Hid ((L.take k).filter (λp=>decide (p≠cH))=m/\St w none [] Ls [⟨106,3,.slice R m.length T,m.length,gY m⟩] (λ_ _=>True) wr)) (λ_ c _=>3-(intOf c).toNat);exact⟨0,none,0,[],_,fN _,ae,dK _,ae,ae,S.o⟩;clear S;obtain⟨k,R,T,m,Ls,hk,rfl,a2,rfl,hrel⟩:=hrel;obtain⟨hm,S⟩:=hrel.o;have Y:=cq hm;clear hrel hm;by_cases D:k<3
 . (have V:k<L.length:=by rw[o.o];exact D);(have d:=yE (λp=>decide (p≠cH)) L V;obtain⟨p,hp⟩:=c8 (L[k]);have y:L.getD k cH=p:=by grind);rw[hp,Y.o] at d;obtain⟨C,F⟩:=eW (ct 3 (c7 p));have g:=λW=>Sp (λi=>L.getD i cH) k D W;rw[<-HX.o] at g;simp only[y,<-F] at g;have n:=cq g;obtain⟨b,U⟩:=c8 (decide (p=cH));have f:=λW=>Ew p cH b U W;rw[cP F,show lT cH=.agg #[Value.int .i64 0,.int .u64 0,.int .u32 0] from ae] at f;have HC:=cq F;have t:=cq d;have Z:=cq f;have r:=cq U;have a1:m.length<=3:=cw;clear d g y hp F f U;cases b with|true=>have d:=t.o;rw[cM (by simp[lr r.o]),vd] at d;have s:=cq d;clear d;have O:=Z.o;go_wp2_with (first|refine IV ae ae n.o ?_|refine eR ?_|refine ey λW S=>?_);go_roundw;grind;exact oV|false=>have d:=t.o;rw[cL (by simp[xg r.o])] at d;have s:=cq d;clear d;have O:=Z.o;go_wp2_with (first|refine IV ae ae n.o ?_|refine rK S 0 rfl 0 rfl rfl rfl rfl fU (df _) Br wR λg9 c9 W S=>?_|refine eR ?_|refine ey λW S=>?_);go_roundw;exact⟨k+1,s_ g9 0,c9,m++[p],_,cw,by go_num,by simp;omega,by simp,s.o,by rw[ik,im,oH];exact S⟩;exact oV
 . obtain rfl:k=3:=cw;go_wp2;go_ret;refine⟨_,ae,?_,S.b⟩;rw[Q.o];have h9:=Y.o;rw[nz (by rw[o.o];exact dK _)] at h9;rw[h9];exact S.o0
def yI(P D M:Nat)(s:Pl)(q:cy)(hq:cY q)(w:cB)(h:ej w P D M s):
 CP_ 110 #[.pointer (some ⟨P,0,none⟩),lT q] w λe w'=>∃B,e=.returned (.tuple #[.agg B,.int .i64 (fD s q).2.2])/\B=ct 128 (cN (fD s q).2.1)/\ej w' P D M (fD s q).1/\Fr (some D) [] w w':=by
 obtain⟨A,H⟩:=eW (ct 3 (c7 q));have k:=cP H;have S:=St.start w (some D) [] (dw P D M s) h;have H0:=cq h;obtain⟨T,I⟩:=c8 (fD s q);have a:=cq I;unfold fD at a;rw[I,k];have HA:=cq H;obtain⟨o,j⟩:=eW (ct 128 (cN eP));have a1:=cq j;have c:=cq (show prog.built 36 []=some o by rw[j];exact ah5);obtain⟨V,l⟩:=c8 (decide (q=cH));have J:=Ev q cH V l;obtain⟨G,g⟩:=eW (ct 3 (c7 cH));rw[k,cP g] at J;have m:=cq (show prog.built 106 []=some G by rw[g,<-gQ];exact Lt);have n:=cq l;have E:=cq λW(X:iK W D s.dv)=>afR D s.dv (q.1:Int) (by have:=hq.1;unfold ee;omega) W X;have d:=Hb h.dev.ok (q.1:Int);obtain⟨r,U⟩:=c8 (fZ s.dv (q.1:Int));rw[U] at E a d;obtain⟨d1,bs,c1⟩:=r;simp only at E a d;have F:=cq d;clear H h I j l g k U d;go_enter func110,ntmps110;cases V with
 |true=>rw[cL (lr n.o)] at a;obtain rfl:=a.o;go_wp2_with first|refine kC (cells:=G) ae m.o ?_|refine kC (cells:=o) ae c.o ?_|(refine lC ?_;exact⟨_,ae,ae,S.x,S.fr⟩)|refine eR ?_|refine ey λW S=>?_
 |false=>
  rw[cM (xg n.o)] at a;obtain⟨B,Q⟩:=eW (ct 128 (cN bs));have O:=cq Q;have N:=cq λu W hu=>U6 u bs W hu;obtain⟨cr,v⟩:=c8 (j9 bs);rw[v] at N a;obtain⟨Y,x⟩:=c8 (((cr:Int)!=((q.2.2:Nat):Int)));have f:=cq x;clear Q v x
  go_upto_region 3 with(first|refine kC (cells:=G) ae m.o ?_|refine eR ?_|refine ey λW S=>?_)
  refine dN S cX [⟨w.heap.size,106,3,c7 q⟩] Be λW S=>?_;refine cJ 0 _ ?_;refine cJ 1 (cZ P 0) ?_;refine cJ 2 (cZ P 0) ?_;refine fW 3 (cZ D 0) ae (fR (λw h=>(H0.o.pc h.fr dU).cells.1) ae ah7) ?_;refine cJ 4 (cZ w.heap.size 0) ?_;refine cJ 5 (.int .i64 q.1) ?_
  repeat' first|refine Rp ?_|refine mi 7 _ ?_|refine mi 8 (.agg B) ?_|refine mi 9 (.int .i64 c1) ?_|refine mi 12 _ ?_|refine zX 6 10 (λK b=>?_) λK b=>?_|refine oJ 10 λK b=>?_|refine oJ 6 λK b=>?_|refine oJ 11 λK b=>?_|(go_wp2_with fail;refine(E.o _ S.x.dev).mono ?_;rintro e W ⟨Z,rfl,t,R,L⟩;obtain rfl:B=Z:=O.o.trans t.symm;replace S:=S.call L ar dU (dw P D M {s with dv:=d1}) (λB h=>ej.dv' h R L dU dU);clear t R L;refine fC b ?_;clear b K)|(refine fu (dst:=6) S zeroValue36 uq ae λE6 W S=>?_;refine fC b ?_;clear b K)|(refine ju S 0 ae ae ae O.o BT (iJ _) λW S=>?_;refine fC b ?_;clear b K)
  all_goals(
   refine cq ?_;by_cases p:c1=41
   case pos=>
    subst p;rw[cL ae] at a;obtain rfl:=a.o
    go_wp2_with first|refine kC (cells:=o) ae c.o ?_|(refine lC ?_;exact⟨_,ae,ae,S.x,S.fr⟩)|refine ey λW S=>?_
   have g2:(c1==41)=false:=by rw[lx];exact p
   rw[cM p] at a;by_cases y:c1=0
   case neg=>
    have g4:(c1 !=0)=true:=eO.2 y;rw[cL y] at a;obtain rfl:=a.o;clear p y
    go_wp2_with first|refine kC (cells:=o) ae c.o ?_|(refine lC ?_;exact⟨_,ae,ae,S.x,S.fr⟩)|refine ey λW S=>?_
   subst y;rw[cM (λh=>h ae)] at a;clear p g2
   go_upto_region 8 with(fail)
   refine dN S cX [⟨w.heap.size,106,3,c7 q⟩] Be λW S=>?_;refine cJ 0 (.slice (s_ E6 0) 128 128) ?_;refine cJ 2 (cZ w.heap.size 2) ?_;refine fW 3 (.int .u32 q.2.2) ae (fR (λw h=>cu.cell (h.row 0 ae) (i:=2) pR) ae ah8) ?_;refine jQ 1 λK b=>?_
   go_wp2_with fail
   have C:=S.k0;have C:=kZ.ints (kZ.sec C F.o);refine lB (N.o _ _ C) ?_;clear C;refine fC b ?_;clear b K;refine fW 4 (.bool Y) ae (Or.inl ⟨cX,λw hw=>by have z:=f.o;go_simp⟩) ?_;refine cJ 5 _ ?_;refine pz ?_;cases Y with
   |true=>
    rw[cL (by have z:=f.o;rw[eO] at z;omega)] at a;obtain rfl:=a.o
    go_wp2_with (first
   |refine kC (cells:=o) ae c.o ?_
   |(refine lC ?_;exact⟨_,ae,ae,S.x,S.fr⟩)
   |refine ey λW S=>?_)
   |false=>
    rw[cM (by have z:=f.o;rw[tX] at z;omega)] at a;obtain rfl:=a.o
    go_wp2_with first|(refine lC ?_;exact⟨_,ae,ae,S.x,S.fr⟩)|refine eR ?_|refine ey λW S=>?_
  )
def DT(P D M:Nat)(s:Pl)(ho:s.dv.ops<=1000000000)(i:Int)(F:ee i)(T:dC)(v:cI)(b:cD)(y:b.length<=128)(w:cB)(h:ej w P D M s)(hv:kZ w T v b):
 CP_ 184 #[.pointer (some ⟨P,0,none⟩),.int .i64 i,v] w λe w'=>e=.returned (.tuple #[lT (jE s i b).2.1,.int .i64 (jE s i b).2.2])/\ej w' P D M (jE s i b).1/\Fr (some D) [] w w':=by
 have S:=St.start w (some D) [] ((dw P D M s).sl T 1 v b.length (dH b)) ⟨h,hv.1,λ_ _ _=>by simp⟩;have Z:=cq h;have V:=cq hv.2;obtain⟨U,Q⟩:=c8 (jE s i b);have a:=cq Q;unfold jE at a;rw[Q];have l:=Fz y hv.2;obtain⟨A,O⟩:=eW (ct 128 (cN b));have F:=cq λW(X:iK W D s.dv)=>ab2 D s.dv ho i (oe b) l A (O.trans Sk) W X;have C:=PU (d:=s.dv) (i:=i) (s:=oe b);obtain⟨r,z⟩:=c8 (gu s.dv i (oe b));rw[z] at F a C;obtain⟨d1,c1⟩:=r;simp only at F a C;have Y:=cq λu W H=>U6 u (oe b) W H;obtain⟨N,m⟩:=c8 (j9 (oe b));rw[m] at Y a;have I:=cq l;have U:=cq O;have R:=y;obtain⟨J,j⟩:=eW (ct 3 (c7 cH));have L:=cq j;have G:=cq (show prog.built 106 []=some J by rw[j,<-gQ];exact Lt);have H:=cq y;clear h Q z l m O j y R hv;go_enter func184,ntmps184;go_upto_region 3 with(first|refine jb 8 36 S zeroValue36 aeW λW S=>?_|refine uW S vV gQ rfl λo S=>?_|refine Sx S 0 (s:=[]) (bs:=b) rfl (q:=0) rfl ⟨S.x.2.1,V.o⟩ (by show 0+b.length<=128;have:=H.o;omega) H.o nK Ba rfl rfl λW S=>?_);replace S:=S.Dx (X':=Bq P D M s) (λB w h=>h.1) (dw P D M s);rw[ot] at S;refine dN S cX [⟨o.heap.size,36,128,cN b⟩] Be λW S=>?_;refine cJ 0 _ ?_;refine cJ 1 (cZ P 0) ?_;refine cJ 2 (cZ P 0) ?_;refine fW 3 (cZ D 0) ae (fR (λw h=>(Z.o.pc h.fr dU).cells.1) ae ah7) ?_;refine cJ 4 _ ?_;refine fW 5 (.agg A) ae (pZ (b:=o.heap.size) (t:=36) (n:=128) (f:=cN b) aF ae U.o BT) ?_;refine jQ 6 λK c=>?_;go_wp2_with fail;refine(F.o _ S.x.dev).mono ?_;rintro e W ⟨rfl,F,V⟩;replace S:=S.call V ar dU (dw P D M {s with dv:=d1}) (λB h=>ej.dv' h F V dU dU);clear F V;refine fC c ?_;clear c K;refine cJ 7 _ ?_;refine pz ?_;by_cases p:c1=0;case neg=>have F:(c1 !=0)=true:=eO.2 p;rw[cM p] at a;obtain rfl:=a.o;clear p;go_wp2_with first|refine js 106 6 22 S 1 L.o (df _) λW S=>?_|refine kC (cells:=J) ae G.o ?_|(refine nQ S 1 ae ae ae eN ae ?_;exact⟨by rw[cP (q:=cH) ae];rfl,S.x,S.fr⟩)
 subst p;rw[cL ae] at a;obtain⟨k,rfl⟩:∃k:Nat,i=(k:Int):=⟨i.toNat,by have:=(C ae).1;omega⟩;rw[sO] at a;obtain rfl:=a.o;obtain⟨F,g⟩:=eW (ct 3 (c7 (k,s.cA,N)));have J:=cq g;have H:=cq (show prog.built 106 [(0,.int .i64 k),(1,.int .u64 s.cA),(2,.int .u32 N)]=some F by rw[g];kernel_rfl);clear g C;go_upto_region 6 with(fail);refine dN S cX [] (by intro r z;cases z) λW S=>?_;refine cJ 0 _ ?_;refine cJ 1 _ ?_;refine cJ 2 (cZ P 0) ?_;refine cJ 3 (cZ P 2) ?_;refine fW 4 (.int .u64 s.cA) ae (fR (λw h=>(Z.o.pc h.fr dU).cells.2.2.1) ae fg) ?_;refine cJ 5 (.slice (s_ o.heap.size 0) 128 128) ?_;refine jQ 6 λK c=>?_;go_wp2_with fail;have x:=S.k0;have x:=kZ.ints (kZ.sec (s:=oe b) (E:=o.heap.size) (by unfold cu;rw[<-Sk];exact x) I.o);refine(Y.o _ _ x).mono ?_;rintro e W ⟨rfl,rfl⟩;clear x;refine fC c ?_;clear c K;refine fW 7 (.agg F) ae (xO ae H.o) ?_;refine jQ 8 λK c=>?_;refine ju S 1 ae ae ae J.o eN (df _) λW S=>?_;refine fC c ?_;clear c K;refine cJ 9 _ ?_;refine pz ?_;go_wp2_with first|(refine nQ S 1 ae ae ae eN ae ?_;exact⟨by rw[cP (q:=(k,s.cA,N)) ae];rfl,S.x,S.fr⟩)
def I'(P D M:Nat)(s:Pl)(ho:s.dv.ops<=1000000000)(T:dC)(F:T≠206)(v:cI)(b:cD)(w:cB)(h:ej w P D M s)(hv:kZ w T v b):
 CP_ 141 #[.pointer (some ⟨P,0,none⟩),v] w λe w'=>e=.returned (.tuple #[lT (rJ s b).2.1,.int .i64 (rJ s b).2.2])/\ej w' P D M (rJ s b).1/\Fr (some D) [M] w w':=by
 obtain⟨H,z,rfl,I,I⟩:=hv.form;obtain⟨V,R⟩:=eW (Value.slice H b.length z);have S:=St.start w (some D) [M] ((dw P D M s).sl T 1 V b.length (dH b)) ⟨h,by rw[R];exact hv.1,λ_ _ _=>by simp⟩;have H:=cq h;have HB:=cq hv.2;have N:=cq F;obtain⟨U,Q⟩:=c8 (rJ s b);have a:=cq Q;unfold rJ at a;rw[Q];obtain⟨J,m⟩:=eW (ct 3 (c7 cH));have l:=cq m;have j:=cq (show prog.built 106 []=some J by rw[m,<-gQ];exact Lt);have H:=cq λW(X:eE W M s.mp)=>Oh M s.mp W X;have HV:=cq R;clear h hv Q m R F;by_cases K:b.length>128
 . rw[cL K] at a;obtain rfl:=a.o;have F:decide ((b.length:Int)>128)=true:=fQ cw;go_enter func141,ntmps141;go_wp2_with first|(first|refine jb 4 106 S vV gQ λW S=>?_|refine js 106 4 12 S 0 l.o (df _) λW S=>?_)|refine kC (cells:=J) ae j.o ?_|(refine nQ S 0 ae ae ae eN ae ?_;exact⟨by rw[cP (q:=cH) ae];rfl,S.x.1,S.fr⟩)
 rw[cM K] at a;have HL:=cq (Nat.le_of_not_lt K);have F:decide ((b.length:Int)>128)=false:=iC cw;clear K;go_enter func141,ntmps141;go_upto_region 3 with(first|refine uW S vV gQ rfl λF S=>?_)
 cases n:mC s.mp with
 |none=>obtain⟨u,x,y⟩:=KM n;rw[n] at a;obtain rfl:=a.o;have d:=cq H.o;rw[u,x,y] at d;clear u x y n;have c1:=S.x.1.row.cells.2.1;go_wp2_with first|refine js 106 4 23 S 0 l.o (df _) λW S=>?_|(refine(d.o _ S.x.1.map).mono ?_;rintro e W ⟨rfl,f,c⟩;clear c1;replace S:=S.call (S.x.1.xG f c).2 aH (λk F=>.inl F) (dw P D M s) (λB X=>(X.1.xG f c).1);clear f c)|refine kC (cells:=J) ae j.o ?_|(refine nQ S 0 ae ae ae eN ae ?_;exact⟨by rw[cP (q:=cH) ae];rfl,S.x,S.fr⟩)
 |some i=>
  obtain⟨Z,I,-,-⟩:=oY n;have G:tQ (jP s.mp i 2) (i:Nat) 2 1=s.mp:=by unfold tQ isB;rw[cL (fQ ⟨cw,cw,by rw[sO,G9]⟩),sO];exact Y5 I
  have U:=cq λW(X:eE W M (jP s.mp i 2))=>Sg M (jP s.mp i 2) (i:Nat) aS W X;rw[G] at U;clear G I;obtain⟨u,x,y⟩:=EJ n;rw[n] at a;have d:=cq H.o;rw[u,x,y] at d;have o:=cq λW(X:ej W P D M {s with mp:=jP s.mp i 2})(Y:kZ W T V b)=>DT P D M {s with mp:=jP s.mp i 2} ho (i:Nat) aS T V b HL.o W X Y;clear u x y n Z;have I:jE {s with mp:=jP s.mp i 2} (i:Nat) b=({(jE s (i:Nat) b).1 with mp:=jP s.mp i 2},(jE s (i:Nat) b).2):=rfl;have g:(jE s (i:Nat) b).1.mp=s.mp:=rfl;rw[I] at o;obtain⟨r,H⟩:=c8 (jE s (i:Nat) b);simp only[H] at o a g;clear I H;obtain⟨s',q,I⟩:=r;simp only at o a g;obtain⟨A,O⟩:=eW (ct 3 (c7 q));rw[cP O] at o;have t:=cq O;have L:=cq g;clear O g;have c1:=S.x.1.row.cells.2.1;go_upto_region 4 with(first|(go_at_call 183;refine(d.o _ S.x.1.map).mono ?_;rintro e W ⟨rfl,f,c⟩;clear c1;replace S:=S.call (S.x.1.xG f c).2 aH (λk F=>.inl F) ((dw P D M {s with mp:=jP s.mp i 2}).sl T 1 V b.length (dH b)) (λB X=>⟨(X.1.xG f c).1,X.2.1.but c X.1.tyM (oU N.o),X.2.2⟩);clear f c));have p:=cq o;clear o;by_cases C:I=0
  . rw[cL C] at a;obtain rfl:=a.o;subst C;go_wp2_with first|refine jr 42 106 8 S 0 t.o ?_|refine js 106 4 42 S 1 t.o (df _) λW S=>?_|(rw[<-HV.o];refine(p.o _ S.x.1 ⟨S.x.2.1,HB.o⟩).mono ?_;rintro e W ⟨rfl,H,E⟩;replace S:=S.call E (λ_ e=>e) aH (dw P D M {s' with mp:=jP s.mp i 2}) (λB _=>H);clear H E)|refine nO S rfl rfl t.o eN rfl (by rfl) (df _) λW S=>?_|(refine nQ S 1 ae ae ae eN ae ?_;exact⟨by rw[t.o];rfl,S.x,S.fr⟩)
  . have N:(I !=0)=true:=eO.2 C;rw[cM C] at a;obtain rfl:=a.o;clear C;go_wp2_with first|refine js 106 4 40 S 1 l.o (df _) λW S=>?_|(go_at_call 184;rw[<-HV.o];refine(p.o _ S.x.1 ⟨S.x.2.1,HB.o⟩).mono ?_;rintro e W ⟨rfl,H,E⟩;replace S:=S.call E (λ_ e=>e) aH (dw P D M {s' with mp:=jP s.mp i 2}) (λB _=>H);clear H E)|((with_reducible refine uV 106 8 30 ?_);refine nO S ae ae t.o eN ae (by rfl) (df _) λW S=>?_;have c1:=S.x.row.cells.2.1)|(go_at_call 179;refine(U.o _ S.x.map).mono ?_;rintro e W ⟨rfl,f,c⟩;clear c1;replace S:=S.call (S.x.xG f c).2 aH (λk F=>.inl F) (dw P D M s') (λB X=>by have F:=(X.xG f c).1;rw[<-L.o] at F;exact F);clear f c)|((with_reducible refine Ay 40 106 ?_);refine kC (cells:=J) ae j.o ?_)|((with_reducible refine rA ?_);go_must (refine nQ S 1 ae ae ae eN ae ?_;exact⟨by rw[cP (q:=cH) ae];rfl,S.x,S.fr⟩))
def y8(P D M:Nat)(s:Pl)(ho:s.dv.ops<=1000000000)(i:Int)(F:ee i)(T:dC)(v:cI)(b:cD)(w:cB)(h:ej w P D M s)(hv:kZ w T v b):
 CP_ 259 #[.pointer (some ⟨P,0,none⟩),.int .i64 i,v] w λe w'=>e=.returned (.tuple #[lT (dY s i b).2.1,.int .i64 (dY s i b).2.2])/\ej w' P D M (dY s i b).1/\Fr (some D) [] w w':=by
 obtain⟨O,j,rfl,Q,R⟩:=hv.form;obtain⟨V,u⟩:=eW (Value.slice O b.length j);have S:=St.start w (some D) [] ((dw P D M s).sl T 1 V b.length (dH b)) ⟨h,by rw[u];exact hv.1,λ_ _ _=>by simp⟩;have H:=cq hv.2;have J:=cq F;obtain⟨U,t⟩:=c8 (dY s i b);have c:=cq t;unfold dY at c;rw[t];obtain⟨o,d⟩:=eW (ct 3 (c7 cH));have N:=cq d;have g:=cq (show prog.built 106 []=some o by rw[d,<-gQ];exact Lt);have F:=cq λW(X:eE W M s.mp)=>He M s.mp W X;have L:=cq u;clear h hv t d u;by_cases n:b.length>128;rw[cL n] at c;obtain rfl:=c.o;have Z:decide ((b.length:Int)>128)=true:=fQ cw;go_enter func259,ntmps259;rotate_left;rw[cM n] at c;have K:=cq (Nat.le_of_not_lt n);have m:=cq λW(X:ej W P D M s)(Y:kZ W T V b)=>DT P D M s ho i J.o T V b K.o W X Y;obtain⟨z,x⟩:=c8 (Pk (kA s.mp 2) i);have f:=x;rw[Y6] at f;have I:=cq λa r W(J:mT W a r (kA s.mp 2))=>x▸ad7 r _ i W (KN J);have Z:decide ((b.length:Int)>128)=false:=iC cw;clear n x;go_enter func259,ntmps259;go_upto_region 3 with(refine ey λW S=>?_);have c1:=S.x.1.row.cells.2.1;rcases z with _|_;rw[cM (xg f.symm.symm)] at c;obtain rfl:=c.o;rotate_left;rw[cL (lr f)] at c;obtain⟨s',q,J⟩:=U;rw[c.o] at m;obtain⟨A,p⟩:=eW (ct 3 (c7 q));simp only at m;rw[cP p] at m;have G:=cq p;clear p
 all_goals
  go_wp2_with first|refine kC (cells:=o) ae g.o ?_|(refine(F.o _ S.x.1.map).mono ?_;rintro e W ⟨F,rfl,l,k⟩;have y:=cq (I.o _ _ _ l);clear c1 l;replace S:=S.cx k;clear k)|(refine y.o.mono ?_;rintro e W ⟨rfl,k⟩;clear y;replace S:=S.cx k;clear k)|refine kC (cells:=o) ae g.o ?_|(rw[<-L.o];refine(m.o _ S.x.1 ⟨S.x.2.1,H.o⟩).mono ?_;rintro e W ⟨rfl,E,C⟩;replace S:=S.call C (λ_ e=>e) aH (dw P D M s') (λB _=>E);clear E C)|refine ey λW S=>?_|(refine lC ?_;exact⟨by rw[cP (q:=cH) ae];rfl,S.x.1,S.fr⟩)|(refine lC ?_;exact⟨by rw[G.o];rfl,S.x,S.fr⟩)
def F6(P D M:Nat)(s:Pl)(q:cy)(E:cY q)(w:cB)(h:ej w P D M s):
 CP_ 135 #[.pointer (some ⟨P,0,none⟩),lT q] w λe w'=>e=.returned (.int .i64 (oG s q).2)/\ej w' P D M (oG s q).1/\Fr none [M] w w':=by
 obtain⟨A,p⟩:=eW (ct 3 (c7 q));have d:=cP p;have S:=St.start w none [M] (wW (n:=0) (dw P D M s)) ⟨h,λk C=>⟨fN _,by simp⟩⟩;have m:Hid (∀W,Fr none [M] w W->k7 W P D M s.cA s.base):=cq λW f=>cu.fr h.row f ax (.inr (by rw[eV];exact h.ne));have H:=cq λW(X:eE W M s.mp)=>Sg M s.mp (q.1:Int) (by have:=E.1;unfold ee;omega) W X;have I:=cq λW(X:eE W M s.mp)=>YZ M s.mp (q.1:Int) (by have:=E.1;unfold ee;omega) W X;obtain⟨T,r⟩:=c8 (oG s q);have a:=cq r;unfold oG at a;rw[r,d];have J:=cq p;obtain⟨F,g⟩:=c8 (decide (q=cH));have u:=Ev q cH F g;obtain⟨o,c⟩:=eW (ct 3 (c7 cH));rw[d,cP c] at u;have i:=cq (show prog.built 106 []=some o by rw[c,<-gQ];exact Lt);have j:=cq g;clear p h r g c d;go_enter func135,ntmps135;cases F with
 |true=>rw[cL (lr j.o)] at a;obtain rfl:=a.o;go_wp2_with (first|((with_reducible refine Ay 7 106 ?_);refine kC (cells:=o) ae i.o ?_)|refine eR ?_|refine ey λW S=>?_);go_ret;exact⟨ae,S.x.1,S.fr⟩
 |false=>
  rw[cM (xg j.o)] at a;go_upto_region 3 with(first|((with_reducible refine Ay 7 106 ?_);refine kC (cells:=o) ae i.o ?_)|refine eR ?_|refine ey λW S=>?_);obtain⟨G,l⟩:=c8 (decide (s.base<q.2.1));have b:=cq l;clear l;refine dN S cX [⟨w.heap.size,106,3,c7 q⟩] Be λW S=>?_;refine cJ 0 (cZ w.heap.size 1) ?_;refine cJ 1 (.int .u64 q.2.1) ?_;refine cJ 2 _ ?_;refine cJ 3 (cZ P 0) ?_;refine cJ 4 (cZ P 3) ?_;refine fW 5 (.int .u64 s.base) ae (fR (λw h=>(m.o _ h.fr).cells.2.2.2) ae fg) ?_;refine fW 6 (.bool G) ae (Or.inl ⟨cX,λw L=>by have x:=b.o;go_simp⟩) ?_;refine cJ 7 _ ?_;refine pz ?_;rcases G with _|_;rw[cM (by have x:=xg b.o;omega)] at a;obtain rfl:=a.o;go_upto_region 5 with(fail);rotate_left;rw[cL (by have x:=lr b.o;omega)] at a;obtain rfl:=a.o;go_upto_region 4 with(fail)
  all_goals
   refine dN S cX [⟨w.heap.size,106,3,c7 q⟩] Be λW S=>?_
   first|refine cJ 0 _ ?_|refine cJ 0 _ ?_
   first|refine cJ 1 (cZ P 0) ?_|refine cJ 1 (cZ P 0) ?_
   first|refine cJ 2 (cZ P 1) ?_|refine cJ 2 (cZ P 1) ?_
   first|refine fW 3 (cZ M 0) ae (fR (λw h=>(m.o _ h.fr).cells.2.1) ae ah9) ?_|refine fW 3 (cZ M 0) ae (fR (λw h=>(m.o _ h.fr).cells.2.1) ae ah9) ?_
   first|refine cJ 4 (cZ w.heap.size 0) ?_|refine cJ 4 (cZ w.heap.size 0) ?_
   first|refine cJ 5 (.int .i64 q.1) ?_|refine cJ 5 (.int .i64 q.1) ?_
   refine jQ 6 λK y=>?_
   go_wp2_with fail
   first|refine(I.o _ S.x.1.map).mono ?_|refine(H.o _ S.x.1.map).mono ?_
   rintro e W ⟨rfl,v,t⟩;have z:=(ej.aia S.x t v).2;replace S:=S.call z aH (λk C=>.inl C) (wW (dw P D M {s with mp:=_})) (λB X=>(ej.aia X t v).1);clear v t z;refine fC y ?_;clear y K;refine cJ 7 _ ?_;refine pz ?_;go_wp2;go_ret;exact⟨ae,S.x.1,S.fr⟩
def wH(P D M:Nat)(s:Pl)(q:cy)(F:cY q)(w:cB)(h:ej w P D M s):
 CP_ 155 #[.pointer (some ⟨P,0,none⟩),lT q] w λe w'=>∃N,e=.returned (.tuple #[.agg N,.int .i64 (cQ s q).2.2])/\N=ct 24 (dX (cQ s q).2.1)/\ej w' P D M (cQ s q).1/\Fr (some D) [] w w':=by
 obtain⟨A,n⟩:=eW (ct 3 (c7 q));have d:=cP n;have S:=St.start w (some D) [] (dw P D M s) h;obtain⟨T,p⟩:=c8 (cQ s q);have a:=cq p;have i:=cq λW(X:ej W P D M s)=>yI P D M s q F W X;have b:=BQ h.dev.ok q;unfold cQ at a;rw[p,d];rw[d] at i;obtain⟨r,y⟩:=c8 (fD s q);rw[y] at i a b;obtain⟨G,bs,c1⟩:=r;simp only at i a b;obtain⟨B,o⟩:=eW (ct 128 (cN bs));have j:=cq λW=>Au bs b B o W;have C:=cq o;have H:=cq n;obtain⟨m,c⟩:=eW (ct 24 (dX l6));have E:=cq c;have f:=cq (show prog.built 191 []=some m by rw[c];exact ah6);clear n h p y d b o c;go_enter func155,ntmps155;go_upto_region 2 with(first|(refine(i.o _ S.x).mono ?_;rintro e W ⟨z,rfl,g,x,v⟩;obtain rfl:B=z:=C.o.trans g.symm;replace S:=S.call v ar dU (dw P D M G) (λB h=>x);clear g x v)|refine eR ?_|refine ey λW S=>?_);by_cases k:c1=0;case neg=>have J:(c1 !=0)=true:=eO.2 k;rw[cL k] at a;obtain rfl:=a.o;clear k;go_wp2_with first|refine kC (cells:=m) ae f.o ?_|(refine lC ?_;exact⟨_,ae,ae,S.x,S.fr⟩)|refine ey λW S=>?_
 subst k;rw[cM (λh=>h ae)] at a;rcases hn:oF bs with _|l;rotate_left
 all_goals
  rw[hn] at a j
  first|simp only[fp,Option.isSome_none] at a j|simp only[fp,Option.isSome_some,nI,ku] at a j
  obtain rfl:=a.o;clear hn
  go_wp2_with first|(refine(j.o _).mono ?_;rintro e W ⟨N,rfl,t,u⟩;have I:=cq t;replace S:=S.cx u;clear t u)|refine kC (cells:=m) ae f.o ?_|refine eR ?_|refine ey λW S=>?_|(refine lC ?_;exact⟨_,ae,ae,S.x,S.fr⟩)
def tA(P D M:Nat)(s:Pl)(ho:s.dv.ops<=1000000000)(l:Nat->cy)(H:∀i,i<8->cY (l i))(N:fJ)(t:N=ct 24 (dX l))(w:cB)(h:ej w P D M s):
 CP_ 142 #[.pointer (some ⟨P,0,none⟩),.agg N] w λe w'=>e=.returned (.tuple #[lT (eH s l).2.1,.int .i64 (eH s l).2.2])/\ej w' P D M (eH s l).1/\Fr (some D) [M] w w':=by have S:=St.start w (some D) [M] (dw P D M s) h;have j:=cq λW=>(show CP_ 185 #[.agg N] W λe w'=>∃A,e=.returned (.tuple #[.agg A,.int .i64 (fp 51 (lZ l))])/\A=ct 128 (cN ((lZ l).getD eP))/\dz W w' from by rw[t];exact DJ l H W);have J:=cq t;obtain⟨T,x⟩:=c8 (eH s l);have d:=cq x;unfold eH at d;rw[x];obtain⟨y,g⟩:=eW (ct 3 (c7 cH));have G:=cq g;have o:=cq (show prog.built 106 []=some y by rw[g,<-gQ];exact Lt);clear h x t g;go_enter func142,ntmps142;cases m:lZ l with|none=>rw[m] at d j;simp only[fp,Option.isSome_none] at d j;obtain rfl:=d.o;clear m;go_wp2_with (first|(refine(j.o _).mono ?_;rintro e W ⟨A,rfl,k,a⟩;have E:=cq k;replace S:=S.cx a;clear k a)|refine kC (cells:=y) ae o.o ?_|(refine lC ?_;exact⟨by rw[cP (q:=cH) ae];rfl,S.x,S.fr⟩)|refine eR ?_|refine ey λW S=>?_)|some b=>rw[m] at d j;simp only[fp,Option.isSome_some,nI,ku] at d j;have a:=EK m;have n:=cq λu W(X:ej W P D M s)R=>I' P D M s ho 36 jR u b W X R;obtain⟨I,p,c⟩:=T;rw[d.o] at n;simp only at n|-;obtain⟨K,f⟩:=eW (ct 3 (c7 p));rw[cP f] at n|-;have r:=cq f;have F:=cq a;clear m f a;go_wp2_with first|(go_at_call 185;refine(j.o _).mono ?_;rintro e L ⟨A,rfl,k,a⟩;have E:=cq k;replace S:=S.cx a;clear k a)|(go_at_call 141;have v:=S.k0;have v:=kZ.sec v F.o;refine(n.o _ _ S.x v).mono ?_;rintro e W ⟨rfl,C,z⟩;replace S:=S.call z ar dU (dw P D M I) (λB h=>C);clear C z)|(refine lC ?_;exact⟨by rw[r.o];rfl,S.x,S.fr⟩)|refine eR ?_|refine ey λW S=>?_
def AU(P D M:Nat)(s:Pl)(q:cy)(F:cY q)(i:Nat)(J:i<64)(w:cB)(h:ej w P D M s):
 CP_ 109 #[.pointer (some ⟨P,0,none⟩),lT q,.int .i64 i] w λe w'=>∃N,e=.returned (.tuple #[.agg N,.int .i64 (eB s q i).2.2])/\N=ct 51 (mN (eB s q i).2.1)/\ej w' P D M (eB s q i).1/\Fr (some D) [] w w':=by
 obtain⟨A,V⟩:=eW (ct 3 (c7 q));have k:=cP V;have S:=St.start w (some D) [] (dw P D M s) h;obtain⟨T,Y⟩:=c8 (eB s q i);have a:=cq Y;have H:=cq λW(X:ej W P D M s)=>wH P D M s q F W X;have b:=xJ h.dev.ok q;unfold eB at a;rw[Y,k];rw[k] at H;obtain⟨c,y⟩:=c8 (i/8);obtain⟨f,z⟩:=c8 (i%8);have C:c<8:=cw;have E:f<8:=cw;have F:(i:Int)/8=(c:Int):=cw;have Z:(i:Int)%8=(f:Int):=cw;rw[y,z] at a;obtain⟨r,d⟩:=c8 (cQ s q);rw[d] at H a b;obtain⟨L,l,c1⟩:=r;simp only at H a b;have I:=cq λW(X:ej W P D M L)=>wH P D M L (l c) (b c) W X;obtain⟨r,G⟩:=c8 (cQ L (l c));rw[G] at I a;obtain⟨s2,l2,N⟩:=r;simp only at I a;obtain⟨F,g⟩:=eW (ct 3 (c7 (l c)));rw[cP g] at I;have R:=cq g;have F:=cq V;obtain⟨U,j⟩:=eW (ct 51 (mN Ol));have F:=cq j;have n:=cq (show prog.built 193 []=some U by rw[j];exact ah4);clear V h Y d G g k y z J b j;go_enter func109,ntmps109;go_upto_region 4 with(first|(refine(H.o _ S.x).mono ?_;rintro e W ⟨F,rfl,t,F,x⟩;have O:=cq t;replace S:=S.call x ar dU (dw P D M L) (λB h=>F);clear t F x)|refine IU S 0 rfl (o:=0) (m:=24) pR rfl rfl O.o Bd (mM _) (λw' d e=>by rw[e];exact Y8 d l) λW S=>?_|refine eR ?_|refine ey λW S=>?_);by_cases J:c1=0;case neg=>have H:(c1 !=0)=true:=eO.2 J;rw[cL J] at a;obtain rfl:=a.o;clear J;go_wp2_with first|refine kC (cells:=U) ae n.o ?_|(refine lC ?_;exact⟨_,ae,ae,S.x,S.fr⟩)|refine ey λW S=>?_
 subst J;rw[cM (λh=>h ae)] at a;go_upto_region 7 with(first|refine ixN C ae bQ ?_|refine Oq S 0 ae (o:=c*3) (m:=3) ae (c7 (l c)) (show c*3+3<=51 by omega) (agI _ C) R.o eN ?_|(refine(I.o _ S.x).mono ?_;rintro e W ⟨I,rfl,t,F,x⟩;have Q:=cq t;replace S:=S.call x ar dU (dw P D M s2) (λB h=>F);clear t F x)|refine IU S 0 rfl (o:=24) (m:=24) pR rfl rfl Q.o Bd (mM _) (λw' d e=>by rw[e];exact Vr d l2) λW S=>?_);by_cases K:N=0;case neg=>have H:(N !=0)=true:=eO.2 K;rw[cL K] at a;obtain rfl:=a.o;clear K;go_wp2_with first|refine kC (cells:=U) ae n.o ?_|(refine lC ?_;exact⟨_,ae,ae,S.x,S.fr⟩)|refine ey λW S=>?_
 subst K;rw[cM (λh=>h ae)] at a;obtain rfl:=a.o;obtain⟨F,u⟩:=eW (ct 3 (c7 (l2 f)));have p:=cq u;obtain⟨F,v⟩:=eW (ct 51 (mN ⟨l,l2,l2 f⟩));have F:=cq v;clear u v;go_wp2_with first|refine ai4 E ae (by first|exact fK (Value.int .i64) Z) ?_|refine Oq S 0 ae (o:=24+f*3) (m:=3) ae (c7 (l2 f)) (show 24+f*3+3<=51 by omega) (agJ _ E) p.o eN ?_|refine IU S 0 rfl (o:=48) (m:=3) pR rfl rfl p.o eN (df _) (λw' d e=>by rw[e];exact Y9 d (l2 f)) λW S=>?_|(refine lC ?_;exact⟨_,ae,ae,S.x,S.fr⟩)|refine eR ?_|refine ey λW S=>?_
def Tk(P D M:Nat)(s:Pl)(q:cy)(O:cY q)(i:Int)(w:cB)(h:ej w P D M s):
 CP_ 48 #[.pointer (some ⟨P,0,none⟩),lT q,.int .i64 i] w λe w'=>∃B,e=.returned (.tuple #[.agg B,.int .i64 (py s q i).2.2])/\B=ct 128 (cN (py s q i).2.1)/\ej w' P D M (py s q i).1/\Fr (some D) [] w w':=by
 obtain⟨A,C⟩:=eW (ct 3 (c7 q));have n:=cP C;have S:=St.start w (some D) [] (dw P D M s) h;obtain⟨T,E⟩:=c8 (py s q i);have a:=cq E;have p:=cq λW=>EL i W;have F:=h.dev.ok;unfold py at a;rw[E,n];have R:=cq C;obtain⟨z,f⟩:=eW (ct 128 (cN eP));have L:=cq f;have g:=cq (show prog.built 36 []=some z by rw[f];exact ah5);clear C h E f;go_enter func48,ntmps48;cases c:l7 i with
 |false=>rw[c] at p a;rw[cL ae] at a;obtain rfl:=a.o;clear c;go_wp2_with first|refine lB (p.o _) ?_|refine kC (cells:=z) ae g.o ?_|(refine lC ?_;exact⟨_,ae,ae,S.x,S.fr⟩)|refine ey λW S=>?_
 |true=>
  rw[c] at p a;rw[cM jR] at a;obtain⟨k,rfl⟩:∃k:Nat,i=(k:Int):=⟨i.toNat,by unfold l7 at c;rw[pG] at c;omega⟩;have J:k<64:=by unfold l7 at c;rw[pG] at c;omega
  rw[sO] at a;have t:=cq λW(X:ej W P D M s)=>AU P D M s q O k J W X;have b:=qv F q k;obtain⟨r,K⟩:=c8 (eB s q k);rw[K] at t a b;obtain⟨G,y,c1⟩:=r;simp only at t a b;rw[n] at t;have u:=cq λW(X:ej W P D M G)=>yI P D M G y.block b.2.2 W X;obtain⟨Y,d⟩:=eW (ct 3 (c7 y.block));rw[cP d] at u;have x:=cq d;clear c K b d J;go_upto_region 4 with(first|refine lB (p.o _) ?_|(refine(t.o _ S.x).mono ?_;rintro e W ⟨N,rfl,I,l,j⟩;have V:=cq I;replace S:=S.call j ar dU (dw P D M G) (λB h=>l);clear I l j)|refine eR ?_|refine ey λW S=>?_);by_cases v:c1=0;case neg=>have F:(c1 !=0)=true:=eO.2 v;rw[cL v] at a;obtain rfl:=a.o;clear v;go_wp2_with first|refine kC (cells:=z) ae g.o ?_|(refine lC ?_;exact⟨_,ae,ae,S.x,S.fr⟩)|refine ey λW S=>?_
  subst v;rw[cM (λh=>h ae)] at a;obtain⟨Q,bs,Z⟩:=T;rw[a.o] at u;simp only at u|-;go_wp2_with first|refine oM_ S 0 ae (o:=48) (m:=3) (c7 y.block) (EW y) x.o ?_|(refine(u.o _ S.x).mono ?_;rintro e W ⟨B,rfl,H,l,j⟩;have U:=cq H;replace S:=S.call j ar dU (dw P D M Q) (λB h=>l);clear H l j)|(refine lC ?_;exact⟨_,ae,ae,S.x,S.fr⟩)|refine ey λW S=>?_
end