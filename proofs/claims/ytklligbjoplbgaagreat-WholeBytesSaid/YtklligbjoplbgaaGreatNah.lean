/- Part 8 of 15 of the proof of WholeBytes; no conditions. -/
import Derived.Test.YtklligbjoplbgaaGreatNag
import Derived.Sort.CutIn
namespace Go.Proofs.YtklligbjoplbgaaGreat
set_option linter.all false
set_option maxRecDepth 100000
set_option maxHeartbeats 64000000
open Go.RowKit Lib List Nat _root_.Go.Proofs.Tryz Go.Shelf
variable {A tmps:iw}{a:Act}{K:Act->aD->Prop}{parts:Array (Nat×Operand)}{af:Array Edge}{ops:Array Oper}{R:Ending->aD->Prop}{Q:Exit->Act->aD->Prop}{fn:Func}{B l:aK}{X:aK->aD->Prop}{O:List O4}{rest:List Oper}{L:List R4}{xs:List bh}{D G M b c dst i id k n o own x z:Nat}{g:Nat×Bool}{m:Nat->Nat}{f:Nat->bh}{gd:Option (Nat×Bool)}{ao:Option Addr}{d:Option Nat}{P:pw}{s:Pl}{p:String}{e t t2 ty u:dD}{β:Type}{v:bh}{W W' w w' w0:aD}{SS:aD->Prop}
def jk (bs:aK):Option (Nat×List cu):=
 match np bs with
 | none=>none
 | some ts=>if ts.length<1∨33<ts.length then none else match kx [8] (ts.headD []) with
  | none=>none
  | some ns=>match gV (ts.drop 1) with
   | none=>none
   | some l=>match eZ (ns.getD 0 0) l with
    | none=>none
    | some b=>if b=bs then some (ns.getD 0 0,l) else none
theorem Qy (ao:Option Addr) (c y s:Nat) (n m k:Nat):Value.ownBlock (.slice (fD ao c y s) n k)=Value.ownBlock (.slice ao m c):=by
 unfold fD;split
 . cases ao <;> rfl
 . cases ao with
   | none=>rfl
   | some x=>
    grind[Value.ownBlock,Addr.add]
theorem NL (h:qC e z (.slice ao n c) n xs B w)(hi:i<=n):qC e z (.slice (fD ao c i z) (n - i) (c - i)) (n - i) (xs.drop (i*z)) B w:=
 ⟨ar.vN h.1 hi,λhn b hb=>h.2 au b (by grind[Qy])⟩
theorem yS {l:List cu}{b:aK}(h:eZ n l=some b): ∀y∈b,y<256:=by
 unfold eZ at h;split at h
 . cases h
 . split at h
   . cases h
   . next ts hts=>
     refine AU h λt ht=>?_;rcases iI.1 ht with rfl | h2
     . exact lj _ _
     . obtain⟨s,hs⟩:=AW hts t h2;exact F5 hs
def YI (w':aD) (base:Nat) (r:bh) (l:List cu):Prop:=∃m,vi w' base r m/\bA m=l
theorem Ww:zM prog 75 1:=⟨cm,λW=>by rfl⟩
theorem IE (bs:aK)(u:bh)(hbl:bs.length<=1000000000)(hby: ∀y∈bs,y<256)(w:aD)(R:ar w 5 1 u bs.length (aQ bs)):
 Calls prog 150 #[u] w λe w'=>∃r,e=.returned (.tuple #[.int .u64 (((jk bs).map Prod.fst).getD 0:Nat),r,.int .i64 (codeF 151 (jk bs))])/\YI w' w.heap.size r (((jk bs).map Prod.snd).getD [])/\dp w w':=by
 obtain⟨ua,uc,rfl,huc,hua⟩:=aR R;have HR:=ae R;have C1:=ae λW (hb:dp w W)=>xN _ bs au W (ar.iC (HR.o.below hb) hby) ⟨_,_,_,rfl,huc⟩;have S:=ug w;obtain⟨T,hT⟩:=cM (jk bs);have HT:=ae hT;rw[hT];clear hT;have HN: ∀W B,vi W B (.slice none 0 0) []:=λW B=>⟨ju _ _ _ _,λx hx=>by cases hx⟩;have HN:=ae HN;go_enter func150,ntmps150;cases hts:np bs with
 | none=>
  obtain rfl:none=T:=by rw[<-HT.o];unfold jk;rw[hts]
  rw[hts] at C1;clear hts
  go_wp2_with (go_at_call 28;refine(C1.o _ S.b).mono ?_;rintro e W ⟨r,rfl,ho,hb⟩;replace S:=S.below hb;clear hb ho)
  go_ret3;exact⟨_,rfl,⟨[],HN.o _ _,rfl⟩,S.b⟩
 | some ts=>
  have hlt:=rA hts hby;rw[hts] at C1;simp only[mb] at C1;by_cases h1:ts.length<1
  . obtain rfl:none=T:=by rw[<-HT.o];unfold jk;rw[hts];simp only[h1,true_or,wz]
    have i1: (ts.length:Int)<1:=au;clear hts
    go_wp2_with (go_at_call 28;refine(C1.o _ S.b).mono ?_;rintro e W ⟨r,rfl,ho,hb⟩;obtain⟨ra,rc,rfl⟩:=lD ho;replace S:=S.below hb;clear hb ho)
    go_ret3;exact⟨_,rfl,⟨[],HN.o _ _,rfl⟩,S.b⟩
  have i1: ¬(ts.length:Int)<1:=au;by_cases h2:33<ts.length
  . obtain rfl:none=T:=by rw[<-HT.o];unfold jk;rw[hts];simp only[h2,or_true,wz]
    have i2: (33:Int)< (ts.length:Int):=au;clear hts
    go_wp2_with (go_at_call 28;refine(C1.o _ S.b).mono ?_;rintro e W ⟨r,rfl,ho,hb⟩;obtain⟨ra,rc,rfl⟩:=lD ho;replace S:=S.below hb;clear hb ho)
    go_ret3;exact⟨_,rfl,⟨[],HN.o _ _,rfl⟩,S.b⟩
  have i2: ¬(33:Int)< (ts.length:Int):=au;have hTT: (match kx [8] (ts.headD []) with | none=>none | some ns=>match gV (ts.drop 1) with | none=>none | some l=>match eZ (ns.getD 0 0) l with | none=>none | some b=>if b=bs then some (ns.getD 0 0,l) else none)=T:=by
   rw[<-HT.o];unfold jk;rw[hts];simp only[h1,h2,or_self,Jq]
  obtain⟨gn,hgn⟩:=cM (kx [8] (ts.headD []));have C2:=ae λv u W hv hu hc=>yC v u [8] (ts.headD []) nh W hv hu hc;rw[hgn] at hTT C2;have hgs: ∀ns,gn=some ns->∃n0,n0<18446744073709551616/\ns=[n0]:=by
   intro ns h;rw[h] at hgn;unfold kx at hgn;split at hgn
   . next hc=>
     cases hgn;refine⟨et ((ts.headD []).take 8),?_,rfl⟩;have hb: ∀y∈(ts.headD []).take 8,y<256:=λy hy=>by
      have h9:=rD hy;rcases ts with _ | ⟨t,ts⟩
      . cases h9
      . exact hlt t (D0 ..) y h9
     have h1:=pJ hb;have h2:256 ^ ((ts.headD []).take 8).length<=256 ^ 8:=Sx au (by rw[pM];omega);omega
   . cases hgn
  have HGS:=ae hgs;have HTT:=ae hTT;have HLT:=ae hlt;have HW1:=ae (show ∀y∈aW [8],(Lit.int .i64 y).wf=true by decide);clear hts hlt hTT hgn hgs
  go_upto_region 5 with(first|(go_at_call 28;refine(C1.o _ S.b).mono ?_;rintro e W ⟨r,rfl,ho,hb⟩;obtain⟨ra,rc,rfl⟩:=lD ho;obtain⟨ps,hps,hsh,S9⟩:=S.J5 hb ho;replace S:=S9;clear S9 hb ho;have hpl:ps.length=ts.length:=(by rw[<-hps,pr]);replace S:=S.vP (X':=λB w=>qC 22 1 (.slice ra ts.length rc) ts.length (ps.map Prod.fst) B w/\mS ps B w) (λB w h=>(by rw[<-hpl];rw[<-hpl] at h;exact h.2)) ((cz _ _ _ _ _ rfl rfl).and (ff _)).fs;have HPS:=ae hps;have HSH:=ae hsh;have HPL:=ae hpl;clear hps hsh hpl;obtain⟨rb,ro,rfl⟩: ∃rb ro,ra=s_ rb ro:=(by obtain⟨_,_,e1,_,h⟩:=aR S.x.1.1;grind);obtain⟨v0,p0,qs,hq⟩: ∃v0 p0 qs,ps=(v0,p0)::qs:=(by have:=HPL.o;rcases ps with _ | ⟨⟨v0,p0⟩,qs⟩;simp at this;omega;exact⟨v0,p0,qs,rfl⟩);have HQ:=ae hq;obtain⟨a0,c0,rfl,hc0⟩:=j0 (p:=p0) (S.x.2 (v0,p0) (by rw[hq];simp));clear hq)|((with_reducible refine j6 32 81 1 ?_);refine eY S .i64 (aW [8]) um lH au au rfl rfl rfl λW S=>?_)|((with_reducible refine pP ?_);refine BN (ar.cellAt S.x.1.1 (j:=0) au (by rw[HQ.o];rfl)) ?_)|(go_at_call 29;refine(C2.o _ _ _ (br.row S.k0 rfl (show(1:Nat)<=_ by omega) HW1.o) (by have h9:=ar.iC (S.x.2 (.slice a0 p0.length c0,p0) (by rw[HQ.o];simp)).1 (HLT.o p0 (by rw[<-HPS.o,HQ.o];simp));rw[<-HPS.o,HQ.o];exact h9) ⟨_,_,_,rfl,hc0⟩).mono ?_;rintro e W ⟨r,rfl,ho,hb⟩;obtain⟨na,nc,rfl⟩:=aH ho;replace S:=S.ti hb ho rfl rfl;clear ho hb))
  cases gn with
  | none=>
   obtain rfl:none=T:=HTT.o;go_wp2;go_ret3;exact⟨_,rfl,⟨[],HN.o _ _,rfl⟩,S.b⟩
  | some ns=>
   obtain⟨n0,hn0,rfl⟩:=HGS.o ns rfl;simp only[mb] at S ⊢;have hN:ts.length - 1=qs.length:=by have:=HPL.o;rw[HQ.o] at this;simp at this;omega
   have hw:IntKind.i64.wrap ((ts.length:Int) - 1)=((qs.length:Nat):Int):=by rw[mT _ au];omega
   have hq32:qs.length<=32:=au;have h1l:1<=ts.length:=au;have hdr: (ts.drop 1)=qs.map Prod.snd:=by rw[<-HPS.o,HQ.o];rfl
   have hTT2: (match gV (qs.map Prod.snd) with | none=>none | some l=>match eZ n0 l with | none=>none | some b=>if b=bs then some (n0,l) else none)=T:=by
    rw[<-hdr];exact HTT.o
   have HTT2:=ae hTT2;have HTS:=ae (show ∀p∈qs,kV p.1/\p.2.length<=65535/\∀y∈p.2,y<256 from λp hp=>by
    have h9:p∈ps:=by rw[HQ.o];exact yz _ hp
    exact⟨(HSH.o p h9).1,(HSH.o p h9).2,HLT.o p.2 (by rw[<-HPS.o];exact lY.2 ⟨p,h9,rfl⟩)⟩)
   clear hdr hTT2
   go_upto_region 9 with(first|((with_reducible refine qm 44 97 ?_);refine Dp S (n:=qs.length) AE rfl rfl au BM rfl rfl λg W S=>?_)|((with_reducible refine ej 46 75 45 ?_);refine qn Ww rfl rfl h1l ?_;obtain⟨md,hmd⟩:=cM (fD (s_ rb ro) rc 1 1);replace S:=S.vP (X':=λB w=>(qC 22 1 (.slice md qs.length (rc - 1)) qs.length (qs.map Prod.fst) B w/\mS qs B w/\qC 82 1 (.slice na 1 nc) 1 [.int .u64 n0] B w)/\jU [] B w) (λB w h=>⟨⟨by have h9:=NL h.1.1 h1l;rw[hmd,hN,HQ.o] at h9;exact h9,λp hp=>h.1.2 p (by rw[HQ.o];exact yz _ hp),h.2⟩,λx hx=>by cases hx⟩) (((cz _ _ _ _ _ rfl rfl).and ((ff _).and (cz _ _ _ _ _ rfl rfl))).and (dF _)).fs;rw[hmd,hN];clear hmd))
   have HST:=ae ((cz 22 1 (.slice md qs.length (rc - 1)) qs.length (qs.map Prod.fst) rfl rfl).and ((ff qs).and (cz 82 1 (.slice na 1 nc) 1 [.int .u64 n0] rfl rfl)));have S:=ae S;clear hw hN
   go_loopw [8,48] (λlv kv wr=>∃(k:Nat) (m:List aZ) (g c:Nat),k<=qs.length/\kv=.int .i64 k/\m.length=k/\lv=.slice (s_ g 0) m.length c/\Hid (gV ((qs.map Prod.snd).take k)=some (bA m)/\(∀x∈m,l5 w.heap.size x)/\(∀s∈bA m,vt s/\s.dead.length<=4000)/\
    ∃L,St w none [] L [⟨109,11,.slice (s_ g 0) m.length c,m.length,dR m⟩] (λB w=>(qC 22 1 (.slice md qs.length (rc - 1)) qs.length (qs.map Prod.fst) B w/\mS qs B w/\qC 82 1 (.slice na 1 nc) 1 [.int .u64 n0] B w)/\jU m B w) wr)) (λ_ kv _=>qs.length - (intOf kv).toNat)
   case atStart=>exact⟨0,[],g,qs.length,au,rfl,rfl,rfl,ae ⟨rfl,(by intro x hx;cases hx),(by intro x hx;cases hx),_,S.o⟩⟩
   case round=>
    clear S;obtain⟨k,m,g,c,hk,rfl,hmk,rfl,hS⟩:=hrel;obtain⟨hpa,hfm,hpm,L,S⟩:=hS.o;clear hS;have HPA:=ae hpa;have HFM:=ae hfm;have HPM:=ae hpm;have HMK:=ae hmk;have hm32:m.length<=32:=au;clear hpa hfm hpm;by_cases hlt:k<qs.length
    . obtain⟨⟨vk,pk⟩,hpk⟩: ∃p,qs[k]? =some p:=⟨_,j4 hlt⟩;have hmem:=nf hpk;obtain⟨hs1,hs2,hs3⟩:=HTS.o _ hmem;simp only at hs1 hs2 hs3;obtain⟨ak,ck,rfl,hck⟩:=j0 (p:=pk) (S.x.1.2.1 (vk,pk) hmem);obtain⟨lb,lo,rfl⟩: ∃lb lo,md=s_ lb lo:=by
       obtain⟨_,_,e1,_,h⟩:=aR S.x.1.1.1
       grind
      have HCELL:Hid ((qs.map Prod.fst)[k]? =some (.slice ak pk.length ck)):=ae (by rw[tY,hpk];rfl);obtain⟨rp,hrp⟩:=cM (oT pk);have C5:=ae λu W hu hc=>TV pk u au W hu hc;rw[hrp] at C5;have hstep:gV ((qs.map Prod.snd).take (k+1))=rp.bind λs=>some (bA m++[s]):=by
       have h9: (qs.map Prod.snd).take (k+1)=(qs.map Prod.snd).take k++[pk]:=by
        rw[take_succ,tY,hpk];rfl
       rw[h9,IC,HPA.o,<-hrp];simp only;cases oT pk <;> rfl
      have HSTEP:=ae hstep;have HPARTS:=ae (show ∀s,rp=some s->vt s/\s.dead.length<=4000 from λs hs=>AX hs3 (hrp.trans hs));have HS3:=ae hs3;have HMEM:=ae hmem;clear hstep hrp hpk hs1 hs3 hmem hmk;cases rp with
      | none=>
       obtain rfl:none=T:=by rw[<-HTT2.o,ID HSTEP.o]
       go_wp2_with (first
   |((with_reducible refine pP ?_);refine BN (ar.cellAt S.x.1.1.1 au HCELL.o) ?_)
   |(go_at_call 196;refine(C5.o _ _ (ar.iC (S.x.1.2.1 (.slice ak pk.length ck,pk) HMEM.o).1 HS3.o) ⟨_,_,_,rfl,hck⟩).mono ?_;rintro e W ⟨B,rfl,⟨y,hB,hy,ho⟩,hb⟩;have HB:=ae hB;replace S:=S.below hb;clear hb hB hy ho)
   |refine ew λW S=>?_)
       go_ret3;exact⟨_,rfl,⟨[],HN.o _ _,rfl⟩,S.b⟩
      | some s=>
       simp only[mb] at C5
       go_wp2_with (first
   |((with_reducible refine pP ?_);refine BN (ar.cellAt S.x.1.1.1 au HCELL.o) ?_)
   |(go_at_call 196;refine(C5.o _ _ (ar.iC (S.x.1.2.1 (.slice ak pk.length ck,pk) HMEM.o).1 HS3.o) ⟨_,_,_,rfl,hck⟩).mono ?_;rintro e W ⟨B,rfl,⟨y,hB,hy,ho⟩,hb⟩;have HB:=ae hB;have HY:=ae hy;have HFy:=ae (show l5 w.heap.size y from λhn b hb=>kL S.fr.size ((mH.of ho).2 hn b hb));replace S:=S.uD hb ho;clear hb hB hy ho)
   |((with_reducible refine bN 63 60 62 ?_);refine lZ S 0 rfl 0 rfl rfl rfl rfl AE (cy _) JW BM λg9 c9 W S=>?_)
   |refine fN ?_
   |refine ew λW S=>?_)
       go_roundw
       case rel=>
        refine⟨k+1,m++[y],g9,c9,au,by go_num,by rw[kh,HMK.o];rfl,by rw[kh];rfl,ae ⟨?_,λx hx=>?_,λx hx=>?_,L,?_⟩⟩
        . rw[HSTEP.o,show bA (m++[y])=bA m++[y.tocu] by unfold bA;rw[pt];rfl,HY.o];rfl
        . rcases jn.1 hx with h | h
          . exact HFM.o x h
          . rw[gz.1 h];exact HFy.o
        . rw[show bA (m++[y])=bA m++[y.tocu] by unfold bA;rw[pt];rfl,HY.o] at hx;rcases jn.1 hx with h | h
          . exact HPM.o x h
          . rw[gz.1 h];exact HPARTS.o s rfl
        . rw[kh,qq,Nv];have S:=S.pop.pop;refine S.vP (λB w h=>⟨h.1.1,λx hx=>?_⟩) (HST.o.and (dF _)).fs;rcases jn.1 hx with h2 | h2
          . exact h.1.2 x h2
          . rw[gz.1 h2];exact h.2
       case measure=>exact uO
    . obtain rfl:k=qs.length:=au;have hpa:=HPA.o;rw[tX (by rw[pr];exact eO _)] at hpa;obtain⟨nb,no,rfl⟩: ∃nb no,na=s_ nb no:=by
       obtain⟨_,_,e1,_,h⟩:=aR S.x.1.2.2.1
       grind
      obtain⟨eb,heb⟩:=cM (eZ n0 (bA m));have hT3: (eb.bind λb=>if b=bs then some (n0,bA m) else none)=T:=by rw[<-HTT2.o,hpa,<-heb];simp only;cases eZ n0 (bA m) <;> rfl
      have C6:=ae λv W R=>xn n0 hn0 m v au (λs hs=>kL (HPM.o s hs).2 au) (λs hs=>(HPM.o s hs).1) W R;rw[heb] at C6;have HT3:=ae hT3;have HEB:=ae (show ∀b,eb=some b->∀y∈b,y<256 from λb hb=>yS (heb.trans hb));clear hpa heb hT3 hmk;cases eb with
      | none=>
       obtain rfl:none=T:=HT3.o
       go_wp2_with (first
   |((with_reducible refine pP ?_);refine BN (ar.cellAt S.x.1.2.2.1 (j:=0) au rfl) ?_)
   |(go_at_call 197;refine(C6.o _ _ ⟨S.q0,λx hx=>(S.x.2 x hx).1⟩).mono ?_;rintro e W ⟨r,rfl,ho,hb⟩;replace S:=S.below hb;clear hb ho))
       go_ret3;exact⟨_,rfl,⟨[],HN.o _ _,rfl⟩,S.b⟩
      | some b=>
       have C7:=ae λv W R1 R2=>r5 v (.slice ua bs.length uc) b bs 5 5 b.length bs.length (HEB.o b rfl) hby W R1 R2;obtain⟨eq,heq⟩:=cM (decide (b=bs));rw[heq] at C7;have HEQ:=ae heq;clear heq;cases eq with
       | false=>
        obtain rfl:none=T:=by rw[<-HT3.o];simp only[EX];rw[bX (wx HEQ.o)]
        go_wp2_with (first
   |((with_reducible refine pP ?_);refine BN (ar.cellAt S.x.1.2.2.1 (j:=0) au rfl) ?_)
   |(go_at_call 197;refine(C6.o _ _ ⟨S.q0,λx hx=>(S.x.2 x hx).1⟩).mono ?_;rintro e W ⟨r,rfl,ho,hb⟩;replace S:=S.cU hb ho rfl rfl;clear hb ho)
   |(go_at_call 32;refine qJ (C7.o _ _ S.q0 (HR.o.below S.b)) ?_))
        go_ret3;exact⟨_,rfl,⟨[],HN.o _ _,rfl⟩,S.b⟩
       | true=>
        obtain rfl:some (n0,bA m)=T:=by rw[<-HT3.o];simp only[EX];rw[bC (lK HEQ.o)]
        go_wp2_with (first
   |((with_reducible refine pP ?_);refine BN (ar.cellAt S.x.1.2.2.1 (j:=0) au rfl) ?_)
   |(go_at_call 197;refine(C6.o _ _ ⟨S.q0,λx hx=>(S.x.2 x hx).1⟩).mono ?_;rintro e W ⟨r,rfl,ho,hb⟩;replace S:=S.cU hb ho rfl rfl;clear hb ho)
   |(go_at_call 32;refine qJ (C7.o _ _ S.q0 (HR.o.below S.b)) ?_))
        go_ret3;exact⟨_,rfl,⟨m,⟨S.o1,λx hx=>⟨(S.x.2 x hx).1,HFM.o x hx⟩⟩,rfl⟩,S.b⟩
theorem TW (n:Nat)(hn:n<=1000000000)(w:aD):Calls prog 239 #[.int .i64 n,.int .i64 128] w λe w'=>e=.returned (.int .i64 ((n+127) / 128:Nat))/\w=w':=by
 have h1:IntKind.i64.wrap ((n:Int)+128)=(n:Int)+128:=mT _ au;have h2:IntKind.i64.wrap ((n:Int)+128 - 1)=(n:Int)+127:=by rw[mT _ au];omega
 have h3:IntKind.i64.wrap (((n:Int)+127) / 128)=(((n+127) / 128:Nat):Int):=by rw[mT _ au];omega
 have h4: (((n:Int)+127) / 128)=(((n+127) / 128:Nat):Int):=au;go_enter func239,ntmps239;go_wp2;go_ret;exact⟨rfl,rfl⟩
theorem YJ (n:Nat)(hn:n<=1000000000)(w:aD):Calls prog 239 #[.int .i64 n,.int .i64 8] w λe w'=>e=.returned (.int .i64 ((n+7) / 8:Nat))/\w=w':=by
 have h1:IntKind.i64.wrap ((n:Int)+8)=(n:Int)+8:=mT _ au;have h2:IntKind.i64.wrap ((n:Int)+8 - 1)=(n:Int)+7:=by rw[mT _ au];omega
 have h3:IntKind.i64.wrap (((n:Int)+7) / 8)=(((n+7) / 8:Nat):Int):=by rw[mT _ au];omega
 have h4: (((n:Int)+7) / 8)=(((n+7) / 8:Nat):Int):=au;go_enter func239,ntmps239;go_wp2;go_ret;exact⟨rfl,rfl⟩
def jF:Nat->Nat->aK
 | 0,s=> [s]
 | f+1,s=>if 1<s then s::jF f ((s+7) / 8) else [s]
def levels (n:Int):aK:=if n<1∨65535<n then [] else jF 10 ((n.toNat+127) / 128)
def mD (n:Int):Nat:=(levels n).sum
theorem Z9:qj prog 81 3 1 8:=⟨um,_,lH,rfl,au⟩
def nD (l:aK):List bh:=l.map λ(n:Nat)=>Value.int .i64 (n:Int)
def abe (w:aD) (base:Nat) (v:bh) (l:aK):Prop:=w.ownsRow base 3 1 v l.length (nD l)
theorem F7 (n:Int)(w:aD):Calls prog 192 #[.int .i64 n] w λe w'=>∃r,e=.returned r/\abe w' w.heap.size r (levels n)/\dp w w':=by
 have S:=ug w;obtain⟨T,hT⟩:=cM (levels n);rw[hT];by_cases h0:n<1∨65535<n
 . obtain rfl: []=T:=by rw[<-hT];unfold levels;rw[bC h0]
   clear hT;go_enter func192,ntmps192;go_wp2
   all_goals (go_ret;exact⟨_,rfl,ju _ _ _ _,S.b⟩)
 have h1: ¬n<1:=au;have h2: ¬65535<n:=au;obtain⟨k,rfl⟩: ∃k:Nat,n=k:=⟨n.toNat,au⟩;obtain⟨s0,hs0⟩:=cM ((k+127) / 128);have hsl:s0<=512:=au;have hlv:jF 10 s0=T:=by rw[<-hT];unfold levels;rw[bX h0,<-hs0];rfl
 have C1:=ae (TW k au);rw[hs0] at C1;have HLV:=ae hlv;clear hT hs0 hlv h0;go_enter func192,ntmps192
 go_upto_region 5 with(first|(go_at_call 239;refine qJ (C1.o _) ?_)|((with_reducible refine j6 14 81 1 ?_);refine eY S .i64 (aW [s0]) um lH au au rfl rfl rfl λW S=>?_;replace S:=S.JU rfl))
 have S:=ae S
 go_loopw [3,4] (λsv lv wr=>∃(f s:Nat) (pre:aK) (a:Option Addr) (c:Nat),s<=8 ^ f/\s<=512/\pre.length+f=10/\sv=.int .i64 s/\lv=.slice a (pre.length+1) c/\Hid (pre++jF f s=T/\∃L,St w none [] L [⟨3,1,.slice a (pre.length+1) c,pre.length+1,nD (pre++[s])⟩] (λ_ _=>True) wr)) (λsv _ _=>(intOf sv).toNat)
 case atStart=>exact⟨10,s0,[],_,1,au,hsl,rfl,rfl,rfl,ae ⟨HLV.o,_,S.o⟩⟩
 case round=>
  clear S;obtain⟨f,s,pre,a,c,hf,hs5,hpf,rfl,rfl,hS⟩:=hrel;obtain⟨hgo,L,S⟩:=hS.o;clear hS;by_cases hs:1<s
  . obtain⟨f,rfl⟩: ∃g,f=g+1:=by
     rcases f with _ | f
     . rw[Nat.pow_zero] at hf;omega
     . exact⟨f,rfl⟩
    have hs1: (1:Int)< (s:Int):=au;unfold jF at hgo;rw[bC hs] at hgo;obtain⟨s2,hs2⟩:=cM ((s+7) / 8);have C2:=ae (YJ s au);rw[hs2] at hgo C2;have HGO:=ae hgo;have hle:s2<=8 ^ f:=by rw[Nat.pow_succ] at hf;omega
    have hlt:s2<s:=au;clear hgo hs2
    go_wp2_with (first
   |(go_at_call 239;refine qJ (C2.o _) ?_)
   |((with_reducible refine j6 21 81 1 ?_);refine eY S .i64 (aW [s2]) um lH au au rfl rfl rfl λW S=>?_)
   |((with_reducible refine bN 22 19 21 ?_);refine lZ S 0 rfl 0 rfl rfl rfl rfl Z9 (NA _ _) JW BM λg9 c9 W S=>?_))
    go_roundw
    case rel=>exact⟨f,s2,pre++[s],s_ g9 0,c9,hle,au,by simp;omega,rfl,by simp,ae ⟨by rw[Hh];exact HGO.o,L,by have S:=S.pop;unfold nD at S ⊢;rw[pt,kh];exact S⟩⟩
    case measure=>exact uO
  . have hs1: ¬(1:Int)< (s:Int):=au;have hle:jF f s=[s]:=by
     cases f with
     | zero=>rfl
     | succ f=>unfold jF;rw[bX hs]
    rw[hle] at hgo;subst hgo;clear hle;go_wp2;go_ret;exact⟨_,rfl,by have h9:=S.o0;unfold abe;rw[kh];exact h9,S.b⟩
theorem TX (f s:Nat): (jF f s).length<=f+1:=by
 induction f generalizing s with
 | zero=>simp[jF]
 | succ f ih=>
  grind[jF]
theorem r7 (n:Int): (levels n).length<=11:=by
 grind[levels,TX]
theorem uF (n:Int): ∀x∈levels n,x<=512:=by
 unfold levels
 grind[jF]
theorem Wx {m:Nat}(h: ∀x∈l,x<=m):l.sum<=l.length*m:=by
 induction l<;>grind[succ_mul,mem_cons_self]
theorem AY (n:Int)(w:aD):yr 256 #[.int .i64 n] w (.int .i64 (mD n:Nat)):=by
 have S:=ug w;obtain⟨l,hl⟩:=cM (levels n);have hlen:l.length<=11:=by rw[<-hl];exact r7 n
 have hle: ∀x∈l,x<=512:=by rw[<-hl];exact uF n
 have HT:Hid (mD n=l.sum):=ae (by unfold mD;rw[hl]);have C1:=ae (F7 n);rw[hl] at C1;have HLE:=ae hle;clear hl hle;go_enter func256,ntmps256
 go_upto_region 3 with(go_at_call 192;refine(C1.o _).mono ?_;rintro e W ⟨r,rfl,ho,hb⟩;obtain⟨ra,rc,rfl⟩:=aH ho;replace S:=S.cU hb ho rfl rfl;clear hb)
 have S:=ae S
 go_loopw [3,9] (λsv kv wr=>∃k:Nat,k<=l.length/\kv=.int .i64 k/\sv=.int .i64 ((l.take k).sum:Nat)/\Hid (St w none [] [] [⟨3,1,.slice ra l.length rc,l.length,nD l⟩] (λ_ _=>True) wr)) (λ_ kv _=>l.length - (intOf kv).toNat)
 case atStart=>exact⟨0,au,rfl,rfl,S⟩
 case round=>
  clear S;obtain⟨k,hk,rfl,rfl,hS⟩:=hrel;have S:=hS.o;clear hS;by_cases hlt:k<l.length
  . obtain⟨g,c,e1⟩:=xb S.o0 (by show 0<l.length;omega);simp only[mA] at e1;obtain⟨rfl,-,rfl⟩:=e1;obtain⟨x,hx⟩:=cM (l[k]);have hb1: (l.take k).length<=11:=by rw[pM];omega
    have hb: (l.take k).sum<=5632:=kL (Wx λy hy=>HLE.o y (rD hy)) au;have hx5:x<=512:=HLE.o x (hx ▸ tW hlt);have hs: (l.take (k+1)).sum=(l.take k).sum+x:=by rw[EW hlt,sum_append,hx];simp
    have HC:Hid ((nD l)[k]? =some (.int .i64 x)):=ae (by unfold nD;rw[tY,j4 hlt,hx];rfl);obtain⟨q,HQ⟩:=qI ((l.take k).sum);rw[HQ.o] at hb hs;have HS:=ae hs;have hw:IntKind.i64.wrap ((q:Int)+ (x:Int))=((q+x:Nat):Int):=by rw[mT _ au];omega
    rw[HQ.o];clear hx hs
    go_wp2_with (with_reducible refine jo 12 3 11 (rZ S.o0 HC.o) ?_)
    go_roundw
    case rel=>exact⟨k+1,au,by go_num,by rw[HS.o];first | rfl,ae S⟩
    case measure=>exact uO
  . obtain rfl:k=l.length:=au;rw[wh];go_wp2;go_ret;exact⟨by rw[HT.o];rfl,S.b⟩
def dP (t:Int):Nat:=if t<64∨1024<t then 0 else 2+5* ((t.toNat+1) / 2)
theorem uQ (t:Int):dP t<=2567:=by grind[dP]
theorem fX (t:Int)(w:aD):Calls prog 202 #[.int .i64 t] w λe w'=>e=.returned (.int .i64 (dP t:Nat))/\w=w':=by
 by_cases h0:t<64∨1024<t
 . have hs:Hid (dP t=0):=ae (by unfold dP;rw[bC h0]);go_enter func202,ntmps202;go_wp2
   all_goals (go_ret;exact⟨by rw[hs.o];rfl,rfl⟩)
 . obtain⟨n,rfl⟩: ∃n:Nat,t=n:=⟨t.toNat,au⟩;have hs:Hid (dP (n:Int)=2+5* ((n+1) / 2)):=ae (by unfold dP;rw[bX h0];rfl);have h1: ¬(n:Int)<64:=au;have h2: ¬(1024:Int)< (n:Int):=au;have w1:IntKind.i64.wrap ((n:Int)+1)=(n:Int)+1:=mT _ au;have w2:IntKind.i64.wrap (((n:Int)+1) / 2)=((n:Int)+1) / 2:=mT _ au;have w3:IntKind.i64.wrap (5* (((n:Int)+1) / 2))=5* (((n:Int)+1) / 2):=mT _ au;have w4:IntKind.i64.wrap (2+5* (((n:Int)+1) / 2))=((2+5* ((n+1) / 2):Nat):Int):=by rw[mT _ au];omega
   go_enter func202,ntmps202;go_wp2;go_ret;exact⟨by rw[hs.o];rfl,rfl⟩
theorem zr (n:Int):mD n<=5632:=by
 unfold mD;have h1:=Wx (uF n)
 grind[r7]
def vQ (n:Nat) (total:Int):Nat:=1+mD n+mD (dP total:Nat)
theorem NM (a:Option Addr)(n c:Nat)(total:Int)(w:aD):yr 222 #[.slice a n c,.int .i64 total] w (.int .i64 (vQ n total:Nat)):=by
 have S:=ug w;have C1:=ae (AY (n:Int));have C2:=ae (fX total);have C3:=ae (AY ((dP total:Nat):Int));have hc:Hid (vQ n total=1+mD n+mD (dP total:Nat)):=ae rfl;have b1:=zr (n:Int);have b2:=zr ((dP total:Nat):Int);obtain⟨x,hx⟩:=cM (mD (n:Int));obtain⟨s,hs⟩:=cM (dP total);rw[hs] at C2 C3 hc b2;obtain⟨y,hy⟩:=cM (mD (s:Int));rw[hx] at C1 hc b1;rw[hy] at C3 hc b2;have w1:IntKind.i64.wrap (1+ (x:Int))=((1+x:Nat):Int):=by rw[mT _ au];omega
 have w2:IntKind.i64.wrap (((1+x:Nat):Int)+ (y:Int))=((1+x+y:Nat):Int):=by rw[mT _ au];omega
 obtain⟨z,hz⟩:=cM (1+x);rw[hz] at w1 w2 hc;obtain⟨u,hu⟩:=cM (z+y);rw[hu] at w2 hc;clear hx hs hy hz hu;go_enter func222,ntmps222
 go_wp2_with (first|(go_at_call_has 256 (Value.int .i64 n);refine je S (C1.o _) λW S=>?_)|(go_at_call 202;refine qJ (C2.o _) ?_)|(go_at_call_has 256 (Value.int .i64 s);refine je S (C3.o _) λW S=>?_))
 go_ret;exact⟨by rw[hc.o];rfl,S.b⟩
def AZ (c:Int):Int:=if c=42 then c else 91
theorem Cn (c:Int)(w:aD):Calls prog 148 #[.int .i64 c] w λe w'=>e=.returned (.int .i64 (AZ c))/\w=w':=by
 by_cases h:c=42
 . subst h;go_enter func148,ntmps148;go_wp2;go_ret;exact⟨rfl,rfl⟩
 . have ht:Hid (AZ c=91):=ae (by unfold AZ;rw[bX h]);have h1: (c==42)=false:=by rw[k'];exact h
   clear h;go_enter func148,ntmps148;go_wp2;go_ret;exact⟨by rw[ht.o];rfl,rfl⟩
def jO (b:cL):Option aK:=
 match eZ b.next b.bO with
 | none=>none
 | some t=>if 65535<t.length then none else some t
structure ct (b:cL):Prop where
 next:b.next<18446744073709551616
 fit:rY b
 parts: ∀s∈b.bO,vt s
theorem Dy (b:bx)(A:iw)(hA:A=ah 2 (bg b))(hf:ct b.t)(w:aD)(R:dN w b):
 Calls prog 221 #[.agg A] w λe w'=>∃r,e=.returned (.tuple #[r,.int .i64 (codeF 151 (jO b.t))])/\gI w' w.heap.size r ((jO b.t).getD [])/\dp w w':=by
 have HA:=ae hA;have HR:=ae R;have C1:=ae λW (hb:dp w W)=>xn b.next hf.next b.l b.sv hf.fit.len (λs hs=>(hf.fit.2 s hs).1) hf.parts W (HR.o.below hb);have S:=ug w;obtain⟨T,hT⟩:=cM (jO b.t);rw[hT];obtain⟨eb,heb⟩:=cM (eZ b.next (bA b.l));rw[heb] at C1;have hT2: (eb.bind λt=>if 65535<t.length then none else some t)=T:=by
  rw[<-hT,<-heb];unfold jO;rw[show b.t.next=b.next from rfl,show b.t.bO=bA b.l from rfl];cases eZ b.next (bA b.l) <;> rfl
 have HT2:=ae hT2;clear hA hf hT heb hT2;go_enter func221,ntmps221;cases eb with
 | none=>
  obtain rfl:none=T:=HT2.o
  go_wp2_with (first|(go_at_call 197;refine(C1.o _ S.b).mono ?_;rintro e W ⟨r,rfl,ho,hb⟩;replace S:=S.below hb;clear hb)|refine fN ?_|refine ew λW S=>?_)
  go_ret2;exact⟨_,rfl,ju _ _ _ _,S.b⟩
 | some t=>
  simp only[mb] at C1;by_cases h1:65535<t.length
  . obtain rfl:none=T:=by rw[<-HT2.o];simp only[EX];rw[bC h1]
    have i1: (65535:Int)< (t.length:Int):=au
    go_wp2_with (first
   |(go_at_call 197;refine(C1.o _ S.b).mono ?_;rintro e W ⟨r,rfl,ho,hb⟩;obtain⟨ra,rc,rfl⟩:=aH ho;replace S:=S.below hb;clear hb)
   |refine fN ?_
   |refine ew λW S=>?_)
    go_ret2;exact⟨_,rfl,ju _ _ _ _,S.b⟩
  . obtain rfl:some t=T:=by rw[<-HT2.o];simp only[EX];rw[bX h1]
    have i1: ¬(65535:Int)< (t.length:Int):=au
    go_wp2_with (first
   |(go_at_call 197;refine(C1.o _ S.b).mono ?_;rintro e W ⟨r,rfl,ho,hb⟩;obtain⟨ra,rc,rfl⟩:=aH ho;replace S:=S.cU hb ho rfl rfl;clear hb)
   |refine fN ?_
   |refine ew λW S=>?_)
    go_ret2;exact⟨_,rfl,S.o0,S.b⟩
def r8 (b:cL) (total:Int):Nat:=
 match jO b with
 | none=>0
 | some t=>if dP total=0 then 0 else vQ t.length total
theorem K7 (b:bx)(A:iw)(hA:A=ah 2 (bg b))(hf:ct b.t)(total:Int)(w:aD)(R:dN w b):
 yr 168 #[.agg A,.int .i64 total] w (.int .i64 (r8 b.t total:Nat)):=by
 have HA:=ae hA;have HR:=ae R;have C1:=ae λW (hb:dp w W)=>Dy b A hA hf W (HR.o.below hb);have C2:=ae (fX total);have S:=ug w;obtain⟨T,hT⟩:=cM (r8 b.t total);rw[hT];obtain⟨rb,hrb⟩:=cM (jO b.t);rw[hrb] at C1;obtain⟨s,hs⟩:=cM (dP total);rw[hs] at C2;have hT2: (rb.elim 0 λt=>if s=0 then 0 else vQ t.length total)=T:=by
  rw[<-hT,<-hrb,<-hs];unfold r8;cases jO b.t <;> rfl
 have HT2:=ae hT2;clear hA hf hT hrb hT2 hs;go_enter func168,ntmps168;cases rb with
 | none=>
  obtain rfl:0=T:=HT2.o
  go_wp2_with (first|(go_at_call 221;refine(C1.o _ S.b).mono ?_;rintro e W ⟨r,rfl,ho,hb⟩;replace S:=S.below hb;clear hb)|refine fN ?_|refine ew λW S=>?_)
  go_ret;exact⟨rfl,S.b⟩
 | some t=>
  simp only[mb] at C1;by_cases h0:s=0;obtain rfl:0=T:=by rw[<-HT2.o,E',bC h0]
  subst h0
  rotate_left
  obtain rfl:vQ t.length total=T:=by rw[<-HT2.o,E',bX h0]
  have h1: ((s:Int)==0)=false:=by rw[k'];omega
  all_goals
   go_wp2_with (first|(go_at_call 221;refine(C1.o _ S.b).mono ?_;rintro e W ⟨r,rfl,ho,hb⟩;obtain⟨ra,rc,rfl⟩:=aH ho;replace S:=S.below hb;clear hb)|(go_at_call 202;refine qJ (C2.o _) ?_)|(go_at_call 222;refine je S (NM _ _ _ _ _) λW S=>?_)|refine fN ?_|refine ew λW S=>?_)
   go_ret;exact⟨rfl,S.b⟩
theorem tL (b:bx)(A:iw)(hA:A=ah 2 (bg b))(hf:rY b.t)(w:aD)(R:dN w b):Calls prog 102 #[.agg A] w λe w'=>∃B,e=.returned (.agg B)/\gF w' w.heap.size B b.t/\dp w w':=by
 have hl:=hf.len;have hd:lS b.l:=hf.2;obtain⟨bn,l,ao,cap⟩:=b;change cQ w (.slice ao l.length cap) l at R;simp only at hl hd;obtain⟨n,hn⟩:=cM l.length;have hao:=(aR R.1);have R:=ae R;have HA:=ae hA;have hbk:bg ⟨bn,l,ao,cap⟩ 1=.slice ao n cap:=by rw[<-hn];rfl
 have HB1:=ae hbk;have HN:=ae hn;rw[hn] at R hl;have S:=ug w;obtain⟨ao',cap',he,hcap,hao⟩:=hao;simp only[mA] at he;obtain⟨rfl,-,rfl⟩:=he;rw[hn] at hcap hao;have hao:=ae hao;clear hA hbk hn hf;go_enter func102,ntmps102
 go_upto_region 3 with(first|((with_reducible refine gT 1 99 0 ?_);refine rQ S rfl HA.o rfl λW1 S=>?_)|((with_reducible refine pP ?_);refine O9 S 1 rfl 1 (v:=.slice ao n cap) HB1.o ?_)|((with_reducible refine qm 8 97 ?_);refine Wo S (n:=n) AE rfl rfl au BM rfl rfl (RT n) λg W S=>?_;replace S:=S.vP (X':=jU []) (λ_ _ _ x hx=>by cases hx) (dF []).fs)|refine ew λW S=>?_)
 have S:=ae S
 go_loopw [12] (λi wr=>∃(k:Nat) (m:List aZ),k<=n/\i=.int .i64 k/\Hid (m.length=n/\bA (m.take k)=bA (l.take k)/\(∀x∈m.take k,l5 w.heap.size x)/\St w none [] [⟨W1.heap.size,99,2,bg qO⟩,⟨w.heap.size,99,2,bg ⟨bn,l,ao,cap⟩⟩] [⟨109,11,.slice (s_ g 0) n n,n,dR m⟩] (jU (m.take k)) wr)) (λi _=>n - (intOf i).toNat)
 case atStart=>exact⟨0,replicate n iA,au,rfl,ae ⟨by simp,rfl,by simp,S.o⟩⟩
 case round=>
  clear S;obtain⟨k,m,hk,rfl,hS⟩:=hrel;obtain⟨hml,hsv,hfr,S⟩:=hS.o;clear hS;by_cases hlt:k<n
  . obtain⟨b,o,rfl⟩:=hao.o au;have hlt2:k<l.length:=by rw[HN.o];exact hlt
    obtain⟨x,hx⟩:=cM (l[k]);obtain⟨D,hD⟩:=gq (ah 11 (dy x));have hsub:=ae (iN l hlt2 (A:=D) (by rw[hx];exact hD));have HD:=ae hD;have hm:=tW hlt2;rw[hx] at hm;have C9:=ae λW (hb:dp w W)=>kR x D HD.o (hd.at hm).1 W ((R.o.below hb).2 x hm);have HX:=ae hx;have HS:=ae (And.intro hml (And.intro hsv hfr));have hmk:k<m.length:=au;have R1:Hid (ar w 109 11 (.slice (s_ b o) n cap) n (dR l)):=ae (by have:=R.o.1;rwa [HN.o] at this);clear hD hm hx hml hsv hfr
    go_wp2_with (first
   |((with_reducible refine pP ?_);first | refine O9 S 1 rfl 1 (v:=.slice (s_ b o) n cap) HB1.o ?_ | refine Md (R1.o.below S.b) hlt (DW HD) hsub.o ?_)
   |(go_at_call 115;refine(C9.o _ S.b).mono ?_;rintro e W ⟨B,y,rfl,hB,hY,hb⟩;have HB:=ae hB;have HF:=ae (show l5 w.heap.size y from λhn b hb=>kL S.fr.size ((mH.of hY.2).2 hn b hb));replace S:=S.uD hb hY.2;have HY:=ae hY.1;clear hb hB hY)
   |((with_reducible refine aS 109 23 22 ?_);refine Wn S 0 rfl rfl k (by show k*11+11<=n*11;omega) rfl rfl HB.o fQ (cy _) λW S=>?_))
    go_roundw
    case rel=>
     obtain⟨hml,hsv,hfr⟩:=HS.o;refine⟨k+1,m.set k y,au,by go_num,ae ⟨by rw[En];exact hml,?_,?_,?_⟩⟩
     . rw[lC m hmk,yO l hlt2,<-hsv,HX.o,<-HY.o];unfold bA;rw[pt];rfl
     . rw[lC m hmk];intro z hz;rcases jn.1 hz with h | h
       . exact hfr z h
       . rw[gz.1 h];exact HF.o
     . rw[lC m hmk,<-NC hmk y];refine S.vP (λB w h z hz=>?_) (dF _).fs;rcases jn.1 hz with h2 | h2
       . exact h.1 z h2
       . rw[gz.1 h2];exact h.2
    case measure=>exact uO
  . obtain rfl:k=n:=au;rw[tX au] at hsv hfr S;rw[tX (by rw[HN.o];exact eO _)] at hsv;have HS:=ae (And.intro hml (And.intro hsv hfr));obtain⟨D,hD⟩: ∃D:iw,D=#[.int .u64 bn,.slice (s_ g 0) k k]:=⟨_,rfl⟩;have hD2:D=ah 2 (bg ⟨bn,m,s_ g 0,k⟩):=by rw[hD,<-hml];rfl
    have HD:=ae hD;have HD2:=ae hD2;clear hD hD2 hml hsv hfr
    go_wp2_with (first|((with_reducible refine aY 28 99 ?_);refine eW (cells:=D) rfl (by rw[HD.o];exact KZ _ _ _ _) ?_)|(refine o7 ?_;exact⟨_,rfl,⟨⟨bn,m,s_ g 0,k⟩,rfl,by unfold bx.t;rw[HS.o.2.1],FZ HS.o.1 S.o0 S.x HS.o.2.2⟩,S.b⟩)|refine fN ?_|refine ew λW S=>?_)
section
theorem bl0 (S:St w0 d l L O X w){by':Nat}(ht:qj P t e z by')(h1:df e=false)(h2:fk e=false)(h: ∀g W,St w0 d l L (⟨e,z,.slice (some ⟨g,0,none⟩) 0 0,0,[]⟩::O) X W->wpList P ops Q rest (a.put (some dst) (.slice (some ⟨g,0,none⟩) 0 0)) W):
 wpList P ops Q (⟨some dst,.buildSlice t 0 #[],t2,p,af,none⟩::rest) a w:=by
 obtain⟨hu,zv,hi,hz,h0⟩:=ht;obtain⟨it,hi1,hz0,hz1,hz2⟩:=sC hi;have hrun: (Instr.buildSlice t 0 #[]).run P w=.ok (.slice (s_ w.heap.size 0) 0 0) (w.alloc (.cells #[] e)):=by
  simp[Instr.buildSlice,D7 hu,sizeOf,typeInfo,hi1,Instr.fill,newRow]
  grind
 refine sD rfl λK hK=>?_;unfold Oper.wp execOp;simp only[py,map_toArray,map_nil,hrun,rj];exact hK _ _ (h _ _ (S.made (cap:=0) fh (kf _) h1 h2))
end
theorem Wy (dst:Nat)(t:dD)(h:wpList P ops Q (⟨some dst,.buildSlice t 0 #[],t2,p,af,none⟩::rest) a w):wpList P ops Q (⟨some dst,.buildSlice t 0 #[],t2,p,af,none⟩::rest) a w:=h
section
theorem aaL (dst:Nat)(t:dD)(x:Nat)(h:wpList P ops Q (⟨some dst,.binOp .eql t (.tmp x) (.const (.slice none 0 0)) u,t2,p,af,none⟩::rest) a w):wpList P ops Q (⟨some dst,.binOp .eql t (.tmp x) (.const (.slice none 0 0)) u,t2,p,af,none⟩::rest) a w:=h
theorem abV (hu:P.underlying t=some (.slice e))(hx:a.eval (.tmp x)=.slice ao n c)(h:wpList P ops Q rest (a.put (some dst) (.bool ao.isNone)) w):wpList P ops Q (⟨some dst,.binOp .eql t (.tmp x) (.const (.slice none 0 0)) u,t2,p,af,none⟩::rest) a w:=by
 refine sD rfl λK hK=>?_;unfold Oper.wp execOp;have hc:a.eval (.const (.slice none 0 0))=.slice none 0 0:=rfl;have hg:eqGuard .eql t (.tmp x) (.const (.slice none 0 0)) (.slice ao n c) (.slice none 0 0)=pure ():=rfl;simp only[py,hx,hc,hg,run_eql_slice_nil w t e ao n c 0 0 hu,wB,rj];exact hK _ _ h
end
theorem IF (l:List aq)(v:bh)(hl:l.length<=1000000)(w:aD)(R:fM w v l):Calls prog 120 #[v] w λe w'=>∃r,e=.returned r/\dh w' w.heap.size r l/\dp w w':=by
 obtain⟨ao,cap,rfl,hcap,hao⟩:=aR R;have R:=ae R;have S:=ug w;rcases ao with _ | u;have h0:l.length=0:=by
  grind
 obtain rfl:=Jp h0;clear hao h0 hcap
 rotate_left
 clear hao hcap
 all_goals
  go_enter func120,ntmps120
  go_wp2_with (first|((with_reducible refine aaL 4 107 3 ?_);refine abV (e:=106) underlying107 rfl ?_)|((with_reducible refine Wy 5 107 ?_);refine bl0 S cN rfl rfl λg W S=>?_)|((with_reducible refine bN 7 5 6 ?_);refine apQ S 0 rfl rfl rfl (R.o.below S.b) cN (jY _) JW BM λao c W S=>?_;rw[show(0+l.length)=l.length from rC _] at S ⊢;rw[show([]++eo l)=eo l from rfl] at S))
  go_ret
  first | exact⟨_,rfl,ju _ _ _ _,S.b⟩ | exact⟨_,rfl,S.o0,S.b⟩
structure dK where
 P:Nat
 b:bx
 held:List aq
 ho:Option Addr
 hc:Nat
 ub:nu
def dK.hv (g:dK):bh:=.slice g.ho g.held.length g.hc
def p5 (g:dK):Nat->bh:=λi=>if i=0 then .pointer (some ⟨g.P,0,none⟩) else if i<3 then bg g.b (i - 1) else if i=3 then g.hv else gg g.ub (i - 4)
theorem Zq (g:dK): ∀i,(p5 g i).oneCell'=true:=by
 intro i;unfold p5;split
 . rfl
 . split
   . exact aT _ _
   . split
     . rfl
     grind[jK]
instance in0c723 (g:dK):OF (p5 g):=⟨Zq g⟩
structure bw (w:aD) (G:Nat) (g:dK) (D M:Nat) (s:Pl):Prop where
 row:ag w G 145 11 (p5 g)
 ft:bH w g.P D M s
 book:dN w g.b
 held:fM w g.hv g.held
theorem bw.c0 {g:dK}(h:bw w G g D M s):w.cell? ⟨G,0,none⟩=some (.pointer (some ⟨g.P,0,none⟩)):=ag.cell h.row (i:=0) au
theorem bw.c1 {g:dK}(h:bw w G g D M s):w.cell? ⟨G,1,none⟩=some (.int .u64 g.b.next):=ag.cell h.row (i:=1) au
theorem bw.c3 {g:dK}(h:bw w G g D M s):w.cell? ⟨G,3,none⟩=some g.hv:=ag.cell h.row (i:=3) au
theorem bw.c4 {g:dK}(h:bw w G g D M s):w.cell? ⟨G,4,none⟩=some (.int .u64 g.ub.lJ):=ag.cell h.row (i:=4) au
section
theorem ack (R:ag w b e n f){m:Nat}(hx:a.eval (.tmp x)=.pointer (some ⟨b,o,none⟩))(g:Nat->bh)(hm:o+m<=n)(hg: ∀i,i<m->f (o+i)=g i)(hA:A=ah m g)(ht:fu P ty m)(h:wpList P ops Q rest (a.put (some dst) (.agg A)) w):wpList P ops Q (⟨some dst,.load ty (.tmp x),t2,p,af,none⟩::rest) a w:=by
 obtain⟨⟨dd,hu,hd⟩,hi⟩:=ht;have:=wpList_load_mid (op:=⟨some dst,.load ty (.tmp x),t2,p,af,none⟩) (ops:=ops) (rest:=rest) (Q:=Q) rfl ty (.tmp x) rfl b o hx A.toList dd (s8 R hm hg hA) hu hd (by grind[aj]);rw[CK] at this;exact this h
end
theorem j8 (G D M:Nat)(g:dK)(s:Pl)(w:aD)(h:bw w G g D M s):Calls prog 24 #[.pointer (some ⟨G,0,none⟩)] w λe w'=>e=.returned (.pointer (some ⟨g.P,0,none⟩))/\w=w':=by
 have c0:=h.c0;clear h;go_enter func24,ntmps24;go_wp2;go_ret;exact⟨rfl,rfl⟩
theorem NN (G D M:Nat)(g:dK)(s:Pl)(w:aD)(h:bw w G g D M s):Calls prog 167 #[.pointer (some ⟨G,0,none⟩)] w λe w'=>e=.returned (.int .i64 g.held.length)/\w=w':=by
 have c0:=h.c3;unfold dK.hv at c0;clear h;go_enter func167,ntmps167;go_wp2;go_ret;exact⟨rfl,rfl⟩
theorem gh (G D M:Nat)(g:dK)(s:Pl)(hf:rY g.b.t)(w:aD)(h:bw w G g D M s):Calls prog 43 #[.pointer (some ⟨G,0,none⟩)] w λe w'=>∃B,e=.returned (.agg B)/\gF w' w.heap.size B g.b.t/\dp w w':=by
 obtain⟨A,hA⟩:=gq (ah 2 (bg g.b));have HA:=ae hA;have HR:=ae h.row;have C1:=ae λW (hb:dp w W)=>tL g.b A hA hf W (show cQ W g.b.sv g.b.l from(show cQ w g.b.sv g.b.l from h.book).below hb);have S:=ug w;clear h hA hf;go_enter func43,ntmps43
 go_wp2_with (first|((with_reducible refine aG 6 99 5 ?_);refine ack (HR.o.below S.b) (o:=1) (m:=2) rfl (bg g.b) au (λi hi=>by rcases i with(_|_|i) <;> first | rfl | omega) HA.o fe ?_)|(go_at_call 102;refine JZ S (C1.o _ S.b) λW B c HB HC HF S=>?_)|(refine o7 ?_;exact⟨_,rfl,⟨c,rfl,HC.o,S.dO HF.o⟩,S.b⟩)|refine ew λW S=>?_)
theorem Wz (hR: ∀w,SS w->ag w b t n f){m:Nat}(hx:a.eval (.tmp x)=.pointer (some ⟨b,o,none⟩))(g:Nat->bh)(hm:o+m<=n)(hg: ∀i,i<m->f (o+i)=g i)(hA:A=ah m g)(ht:fu P ty m)(hw:Region.wanted ⟨some dst,.load ty (.tmp x),t2,p,af,gd⟩ (yielded ops a.tmps)=true:=by kernel_rfl):YieldsIf P ops SS ⟨some dst,.load ty (.tmp x),t2,p,af,gd⟩ (.agg A) a:=by
 obtain⟨⟨dd,hu,hd⟩,hi⟩:=ht;have h:=yieldsIf_load_mid (P:=P) (S:=SS) (op:=⟨some dst,.load ty (.tmp x),t2,p,af,gd⟩) (ops:=ops) hw ty (.tmp x) rfl b o hx A.toList dd (λw h=>s8 (hR w h) hm hg hA) hu hd (by grind[aj]);omega
theorem sF:fZ prog 68:=⟨⟨_,underlying68,rfl⟩,cm⟩
instance in570ca :qD 68:=⟨sF⟩
theorem bw.below {g:dK}(h:bw w G g D M s)(b:dp w w'):bw w' G g D M s:=
 ⟨ag.below h.row b,h.ft.below b,(show cQ w g.b.sv g.b.l from h.book).below b,(show ar w 106 3 g.hv g.held.length (eo g.held) from h.held).below b⟩
theorem Dz (G D M:Nat)(g:dK)(s:Pl)(hf:ct g.b.t)(w:aD)(h:bw w G g D M s):
 yr 121 #[.pointer (some ⟨G,0,none⟩)] w (.int .i64 (r8 g.b.t s.dv.n:Nat)):=by
 obtain⟨A,hA⟩:=gq (ah 2 (bg g.b));have HA:=ae hA;have HG:=ae h;have C1:=ae λW (hb:dp w W)=>iJ g.P D M s.ay s.base W ((h.below hb).ft.row);have C2:=ae λW (hb:dp w W)=>uw D s.dv W ((h.below hb).ft.dev);have C3:=ae λW (hb:dp w W)=>K7 g.b A hA hf (s.dv.n:Nat) W ((h.below hb).book);have S:=ug w;obtain⟨T,hT⟩:=cM (r8 g.b.t s.dv.n);rw[hT] at C3 ⊢;clear h hA hf hT;go_enter func121,ntmps121
 go_upto_region 1 with(fail)
 refine bL S cm λW S=>?_;refine bp 0 3 _ ?_;refine bp 1 4 (bZ G 0) ?_;refine bp 2 5 (bZ G 1) ?_;refine gY 3 6 (.agg A) rfl (Wz (λw h=>by obtain⟨_,S⟩:=h;exact(HG.o.below S.b).row) (o:=1) (m:=2) rfl (bg g.b) au (λi hi=>by rcases i with(_|_|i) <;> first | rfl | omega) HA.o fe) ?_;refine bp 4 7 _ ?_;refine bp 5 8 (bZ G 0) ?_;refine bp 6 9 (bZ G 0) ?_;refine gY 7 10 (bZ g.P 0) rfl (bP (λw h=>by obtain⟨_,S⟩:=h;exact(HG.o.below S.b).c0) rfl sF) ?_;refine mO 8 λK hK=>?_
 go_wp2_with fail
 refine qJ (C1.o _ S.b) ?_;refine gM hK ?_;refine mO 9 λK hK=>?_
 go_wp2_with fail
 refine qJ (C2.o _ S.b) ?_;refine gM hK ?_;refine mO 10 λK hK=>?_
 go_wp2_with fail
 refine je S (C3.o _ S.b) λW S=>?_;refine gM hK ?_;refine bp 11 2 _ ?_;refine uy ?_;go_wp2;go_ret;exact⟨rfl,S.b⟩
theorem WD (b:cL)(total:Int)(hn: ∀t,jO b=some t->t.length<=65535):r8 b total<=1000000:=by
 grind[r8,zr,vQ]
theorem A6 {b:cL}{t:aK}(h:jO b=some t):t.length<=65535:=by
 grind[jO]
def vR (mD free held:Nat):Bool:=decide (0<mD)&&decide (mD<=free)&&decide (2*mD<=free+held)
theorem NO (G D M:Nat)(g:dK)(s:Pl)(hf:ct g.b.t)(w:aD)(h:bw w G g D M s)(hl:g.held.length<=1000000):
 yr 117 #[.pointer (some ⟨G,0,none⟩)] w (.bool (vR (r8 g.b.t s.dv.n) (cZ s.mp) g.held.length)):=by
 have HG:=ae h;have C1:=ae λW (hb:dp w W)=>Dz G D M g s hf W (h.below hb);have C2:=ae λW (hb:dp w W)=>jJ g.P D M s.ay s.base W ((h.below hb).ft.row);have C3:=ae λW (hb:dp w W)=>count_map M s.mp W ((h.below hb).ft.map);have C4:=ae λW (hb:dp w W)=>NN G D M g s W (h.below hb);have S:=ug w;have b1:=WD g.b.t s.dv.n (λt h=>A6 h);obtain⟨T,hT⟩:=cM (r8 g.b.t s.dv.n);rw[hT] at C1 b1 ⊢;have b2:cZ s.mp<=1024:=by unfold cZ;have:=MM s.mp 16;omega
 obtain⟨F,hF⟩:=cM (cZ s.mp);rw[hF] at C3 b2 ⊢;obtain⟨H,hH⟩:=cM g.held.length;rw[hH] at C4 hl ⊢;clear h hf hT hF hH;by_cases h1:0<T;by_cases h2:T<=F
 . by_cases h3:2*T<=F+H
   . have hr:Hid (vR T F H=true):=ae (by unfold vR;simp[h1,h2,h3]);have i1: (0:Int)< (T:Int):=au;have i2: (T:Int)<=(F:Int):=au;have i3: (2:Int)* (T:Int)<=(F:Int)+ (H:Int):=au;go_enter func117,ntmps117
     go_upto_region 1 with(fail)
     refine bL S cm λW S=>?_;refine bp 0 5 _ ?_;refine bp 2 7 _ ?_;refine bp 3 8 (bZ G 0) ?_;refine bp 4 9 (bZ G 0) ?_;refine gY 5 10 (bZ g.P 0) rfl (bP (λw h=>by obtain⟨_,S⟩:=h;exact(HG.o.below S.b).c0) rfl sF) ?_;refine mO 1 λK hK=>?_
     go_wp2_with fail
     refine je S (C1.o _ S.b) λW S=>?_;refine gM hK ?_;refine mO 6 λK hK=>?_
     go_wp2_with fail
     refine qJ (C2.o _ S.b) ?_;refine gM hK ?_;refine mO 7 λK hK=>?_
     go_wp2_with fail
     refine qJ (C3.o _ S.b) ?_;refine gM hK ?_;refine bp 8 3 _ ?_;refine bp 9 4 _ ?_;refine uy ?_
     all_goals (
     go_wp2_with (go_at_call 167;refine qJ (C4.o _ S.b) ?_)
     go_ret;exact⟨by rw[hr.o];first | rfl,S.b⟩
     )
   . have hr:Hid (vR T F H=false):=ae (by unfold vR;simp[h1,h2,h3]);have i1: (0:Int)< (T:Int):=au;have i2: (T:Int)<=(F:Int):=au;have i3: ¬(2:Int)* (T:Int)<=(F:Int)+ (H:Int):=au;go_enter func117,ntmps117
     go_upto_region 1 with(fail)
     refine bL S cm λW S=>?_;refine bp 0 5 _ ?_;refine bp 2 7 _ ?_;refine bp 3 8 (bZ G 0) ?_;refine bp 4 9 (bZ G 0) ?_;refine gY 5 10 (bZ g.P 0) rfl (bP (λw h=>by obtain⟨_,S⟩:=h;exact(HG.o.below S.b).c0) rfl sF) ?_;refine mO 1 λK hK=>?_
     go_wp2_with fail
     refine je S (C1.o _ S.b) λW S=>?_;refine gM hK ?_;refine mO 6 λK hK=>?_
     go_wp2_with fail
     refine qJ (C2.o _ S.b) ?_;refine gM hK ?_;refine mO 7 λK hK=>?_
     go_wp2_with fail
     refine qJ (C3.o _ S.b) ?_;refine gM hK ?_;refine bp 8 3 _ ?_;refine bp 9 4 _ ?_;refine uy ?_
     all_goals (
     go_wp2_with (go_at_call 167;refine qJ (C4.o _ S.b) ?_)
     go_ret;exact⟨by rw[hr.o];first |(show Ending.returned (Value.bool (decide ((2:Int)* (T:Int)<=(F:Int)+ (H:Int))))=_;rw[iE au]),S.b⟩
     )
 have hr:Hid (vR T F H=false):=ae (by unfold vR;simp[h1,h2]);have i1: (0:Int)< (T:Int):=au;have i2: ¬(T:Int)<=(F:Int):=au
 rotate_left
 have hr:Hid (vR T F H=false):=ae (by unfold vR;simp[h1]);have i1: ¬(0:Int)< (T:Int):=au
 all_goals
  go_enter func117,ntmps117
  go_upto_region 1 with(fail)
  refine bL S cm λW S=>?_;refine bp 0 5 _ ?_;refine bp 2 7 _ ?_;refine bp 3 8 (bZ G 0) ?_;refine bp 4 9 (bZ G 0) ?_;refine gY 5 10 (bZ g.P 0) rfl (bP (λw h=>by obtain⟨_,S⟩:=h;exact(HG.o.below S.b).c0) rfl sF) ?_;refine mO 1 λK hK=>?_
  go_wp2_with fail
  refine je S (C1.o _ S.b) λW S=>?_;refine gM hK ?_;refine mO 6 λK hK=>?_
  go_wp2_with fail
  refine qJ (C2.o _ S.b) ?_;refine gM hK ?_;refine mO 7 λK hK=>?_
  go_wp2_with fail
  refine qJ (C3.o _ S.b) ?_;refine gM hK ?_;refine bp 8 3 _ ?_;refine bp 9 4 _ ?_;refine uy ?_
  all_goals (
  go_wp2;go_ret;exact⟨by rw[hr.o];first | rfl,S.b⟩
  )
structure nR (w:aD) (K G:Nat) (g:dK) (D M:Nat) (s:Pl):Prop where
 row:ag w K 101 1 (λ_=>.pointer (some ⟨G,0,none⟩))
 A7:bw w G g D M s
theorem nR.c0 {K:Nat}{g:dK}(h:nR w K G g D M s):w.cell? ⟨K,0,none⟩=some (.pointer (some ⟨G,0,none⟩)):=ag.cell h.row (i:=0) au
theorem nR.below {K:Nat}{g:dK}(h:nR w K G g D M s)(b:dp w w'):nR w' K G g D M s:=
 ⟨ag.below h.row b,h.A7.below b⟩
theorem vu (U G D M:Nat)(g:dK)(s:Pl)(w:aD)(h:nR w U G g D M s):Calls prog 46 #[.pointer (some ⟨U,0,none⟩)] w λe w'=>e=.returned (.bool s.dv.dead)/\w=w':=by
 have c0:=h.c0;have C1:=ae (j8 G D M g s w h.A7);have C2:=ae (iJ g.P D M s.ay s.base w h.A7.ft.row);have C3:=ae (KC D s.dv w h.A7.ft.dev);obtain⟨T,hT⟩:=cM s.dv.dead;rw[hT] at C3 ⊢;clear h hT;go_enter func46,ntmps46
 go_wp2_with (first|(go_at_call 24;refine qJ C1.o ?_)|(go_at_call 106;refine qJ C2.o ?_)|(go_at_call 82;refine qJ C3.o ?_))
 go_ret;exact⟨rfl,rfl⟩
theorem K8 (U G D M:Nat)(g:dK)(s:Pl)(w:aD)(h:nR w U G g D M s):Calls prog 18 #[.pointer (some ⟨U,0,none⟩)] w λe w'=>e=.returned (.int .i64 (cZ s.mp:Nat))/\w=w':=by
 have c0:=h.c0;have C1:=ae (j8 G D M g s w h.A7);have C2:=ae (jJ g.P D M s.ay s.base w h.A7.ft.row);have C3:=ae (count_map M s.mp w h.A7.ft.map);obtain⟨T,hT⟩:=cM (cZ s.mp);rw[hT] at C3 ⊢;clear h hT;go_enter func18,ntmps18
 go_wp2_with (first|(go_at_call 24;refine qJ C1.o ?_)|(go_at_call 25;refine qJ C2.o ?_)|(go_at_call 61;refine qJ C3.o ?_))
 go_ret;exact⟨rfl,rfl⟩
def F8 (c:Int):Int:=if c=0∨c=42∨c=71 then c else 91
theorem mI (c:Int)(w:aD):Calls prog 49 #[.int .i64 c] w λe w'=>e=.returned (.int .i64 (F8 c))/\w=w':=by
 by_cases h0:c=0;subst h0
 rotate_left
 by_cases h1:c=42;subst h1
 rotate_left
 by_cases h2:c=71;subst h2
 rotate_left
 . have ht:Hid (F8 c=91):=ae (by unfold F8;rw[bX au]);have i0: (c==0)=false:=by rw[k'];exact h0
   have i1: (c==42)=false:=by rw[k'];exact h1
   have i2: (c==71)=false:=by rw[k'];exact h2
   clear h0 h1 h2;go_enter func49,ntmps49;go_wp2;go_ret;exact⟨by rw[ht.o];rfl,rfl⟩
 all_goals
  go_enter func49,ntmps49;go_wp2;go_ret;exact⟨rfl,rfl⟩
theorem TY (q:Nat)(v:bh)(W:aD):Sem.run prog (Instr.field 99 (.agg #[.int .u64 (q:Int),v]) 0) W=.ok (.int .u64 (q:Int)) W:=by
 rfl
theorem vS:fZ prog 69:=⟨⟨_,underlying69,rfl⟩,cm⟩
instance in805a8 :td 118 1:=⟨⟨⟨_,underlying118,rfl⟩,cm⟩⟩
instance in90860 :qD 69:=⟨vS⟩
theorem tj (G D M:Nat)(g:dK)(s:Pl)(A:iw)(hA:A=ah 1 (λ_=>.pointer (some ⟨G,0,none⟩)))(hf:ct g.b.t)(w:aD)(h:bw w G g D M s)(hl:g.held.length<=1000000):
 yr 57 #[.agg A] w (.int .i64 (if vR (r8 g.b.t s.dv.n) (cZ s.mp) g.held.length=true then 0 else 71)):=by
 have HA:=ae hA;have C1:=ae λW (hb:dp w W)=>NO G D M g s hf W (h.below hb) hl;have S:=ug w;obtain⟨T,hT⟩:=cM (vR (r8 g.b.t s.dv.n) (cZ s.mp) g.held.length);rw[hT] at C1 ⊢;clear hA hf h hl hT;cases T
 all_goals (
 go_enter func57,ntmps57
 go_wp2_with (first|(go_at_call 117;refine je S (C1.o _ S.b) λW S=>?_)|refine fN ?_|refine ew λW S=>?_)
 go_ret;exact⟨rfl,S.b⟩
 )
theorem tM (G D M:Nat)(g:dK)(s:Pl)(A:iw)(hA:A=ah 1 (λ_=>.pointer (some ⟨G,0,none⟩)))(hf:rY g.b.t)(w:aD)(h:bw w G g D M s):
 yr 53 #[.agg A] w (.bool (decide (281474976710651<g.b.next))):=by
 have HA:=ae hA;have C1:=ae λW (hb:dp w W)=>gh G D M g s hf W (h.below hb);have S:=ug w;obtain⟨T,hT⟩:=cM (decide (281474976710651<g.b.next));rw[hT];obtain⟨q,HQ⟩:=qI g.b.next;have hT2:decide ((281474976710651:Int)< (q:Int))=T:=by
  rw[<-hT,HQ.o];grind
 have HT:=ae hT2;clear hA hf h hT hT2;go_enter func53,ntmps53
 go_wp2_with (first|(go_at_call 43;refine(C1.o _ S.b).mono ?_;rintro e W ⟨B,rfl,⟨c,rfl,hc,ho⟩,hb⟩;have hcn:c.next=q:=(iS cL.next hc).trans HQ.o;replace S:=S.below hb;clear hb hc;rw[show ah 2 (bg c)=#[.int .u64 c.next,c.sv] from rfl,hcn];clear hcn;have hfld:=λW=>TY q c.sv W)|refine fN ?_|refine ew λW S=>?_)
 go_ret;exact⟨by rw[<-HT.o];rfl,S.b⟩
def qQ (b:cL) (full:lf) (i:Int):cu×Int:=
 let r:=kZ b.bO full
 let s:=L' b.bO r.1
 if r.2=141 then(jN,141) else if r.2≠0 then(jN,172) else if i<0∨(s.blocks:Int)<=i then(jN,176) else(s,0)
theorem A8 (b:bx)(A:iw)(hA:A=ah 2 (bg b))(hf:rY b.t)(full:lf)(hfu:full.size<=1000000)(i:Int)(w:aD)(R:dN w b):
 Calls prog 47 #[.agg A,.string full,.int .i64 i] w λe w'=>∃B,e=.returned (.tuple #[.agg B,.int .i64 (qQ b.t full i).2])/\rX w' w.heap.size B (qQ b.t full i).1/\dp w w':=by
 have hl:b.l.length<=1000000:=hf.len;have HA:=ae hA;have C1:=ae λW (hb:dp w W)=>AP b.l b.sv full hfu hl hf.2 W (show cQ W b.sv b.l from(show cQ w b.sv b.l from R).below hb);have S:=ug w;obtain⟨T,hT⟩:=cM (qQ b.t full i);rw[hT];obtain⟨n,hn⟩:=cM (kZ (bA b.l) full);rw[hn] at C1;obtain⟨k,c⟩:=n;simp only at C1;obtain⟨s,hs⟩:=cM (L' (bA b.l) k);rw[hs] at C1;have hT2: (if c=141 then(jN,141) else if c≠0 then(jN,172) else if i<0∨(s.blocks:Int)<=i then(jN,176) else(s,0))=T:=by
  rw[<-hT,<-hs];unfold qQ;rw[show b.t.bO=bA b.l from rfl,hn]
 have HT:=ae hT2;clear hA hf hl R hT hn hs hT2;by_cases h1:c=141;subst h1;obtain rfl: (jN,141)=T:=HT.o
 rotate_left
 have g1: (c==141)=false:=by rw[k'];exact h1
 by_cases h2:c=0
 . subst h2;obtain⟨n,hn⟩:=cM s.blocks;have HN:=ae hn;have hT3: (if i<0∨(n:Int)<=i then(jN,176) else(s,0))=T:=by rw[<-HT.o,bX (by decide: ¬(0:Int)=141),bX (by decide: ¬(0:Int)≠0),hn]
   have HT3:=ae hT3;clear hn hT3 h1 HT;by_cases h3:i<0;obtain rfl: (jN,176)=T:=by rw[<-HT3.o,bC (.inl h3)]
   rotate_left
   have g3:decide (i<0)=false:=iE h3;by_cases h4: (n:Int)<=i;obtain rfl: (jN,176)=T:=by rw[<-HT3.o,bC (.inr h4)]
   rotate_left
   obtain rfl: (s,0)=T:=by rw[<-HT3.o,bX au]
   all_goals
    go_enter func47,ntmps47
    go_wp2_with (first|((with_reducible refine dH 6 109 ?_);refine gD S Er cO rfl λW2 S=>?_)|(go_at_call 107;refine(C1.o _ S.b).mono ?_;rintro e W ⟨B,rfl,⟨y,hB,hy,ho⟩,hb⟩;have HB:=ae hB;have HY:=ae hy;have hyb: (y.blocks:Int)=(n:Int):=(by rw[<-HN.o,<-hy]);replace S:=S.cU hb ho rfl rfl;clear hb hB hy)|((with_reducible refine cP 29 3 28 ?_);refine cV cm ?_;refine dY S 0 rfl 6 (v:=.int .i64 y.blocks) rfl qv rfl kX ?_;rw[hyb])|refine fN ?_|refine ew λW S=>?_|(refine o7 ?_;exact⟨_,rfl,kB _ _,S.b⟩)|(refine o7 ?_;exact⟨_,rfl,⟨y,rfl,HY.o,S.o0⟩,S.b⟩))
 have g2: (c != 0)=true:=lh.2 h2;obtain rfl: (jN,172)=T:=by rw[<-HT.o,bX h1,bC h2]
 clear h1 h2
 all_goals
  go_enter func47,ntmps47
  go_wp2_with (first|((with_reducible refine dH 6 109 ?_);refine gD S Er cO rfl λW2 S=>?_)|(go_at_call 107;refine(C1.o _ S.b).mono ?_;rintro e W ⟨B,rfl,⟨y,hB,hy,ho⟩,hb⟩;have HB:=ae hB;replace S:=S.below hb;clear hb hB hy)|(refine o7 ?_;exact⟨_,rfl,kB _ _,S.b⟩)|refine fN ?_|refine ew λW S=>?_)
def uG (b:cL) (full:lf) (i:Int):cu×Int:=
 (dQ full).elim (jN,141) λp=>if p.2=ov then qQ b full i else(jN,141)
theorem xo (G D M:Nat)(g:dK)(s:Pl)(A:iw)(hA:A=ah 1 (λ_=>.pointer (some ⟨G,0,none⟩)))(hf:rY g.b.t)(full:lf)(hfu:full.size<=1000000)(i:Int)(w:aD)(h:bw w G g D M s):
 Calls prog 79 #[.agg A,.string full,.int .i64 i] w λe w'=>∃B,e=.returned (.tuple #[.agg B,.int .i64 (uG g.b.t full i).2])/\rX w' w.heap.size B (uG g.b.t full i).1/\dp w w':=by
 have HA:=ae hA;have C0:=ae (nA full hfu);have C1:=ae λW (hb:dp w W)=>gh G D M g s hf W (h.below hb);have C2:=ae λ(c:bx) (B:iw) (hB:B=ah 2 (bg c)) (hc:c.t=g.b.t) W (R:dN W c)=>A8 c B hB (by rw[hc];exact hf) full hfu i W R;have S:=ug w;obtain⟨T,hT⟩:=cM (uG g.b.t full i);rw[hT];unfold uG at hT;obtain⟨ns,hns⟩:=cM (dQ full);rw[hns] at C0 hT;have HT:=ae hT;clear hA hf h hT hns;rcases ns with _ | p;obtain rfl: (jN,141)=T:=HT.o
 rotate_left
 obtain⟨vn,sn⟩:=p;simp only[mb] at C0;rw[show codeF 141 (some (vn,sn))=0 from rfl] at C0;by_cases h1:sn=ov;have g1:sn.toList.isEmpty=true:=by rw[h1,Iv];rfl
 obtain rfl:qQ g.b.t full i=T:=by rw[<-HT.o];simp only[E',bC h1]
 obtain⟨T,hT⟩:=cM (qQ g.b.t full i);have HF:=ae hT;rw[hT];clear h1 hT HT
 rotate_left
 have g1:sn.toList.isEmpty=false:=qp h1;obtain rfl: (jN,141)=T:=by rw[<-HT.o];simp only[E',bX h1]
 clear h1
 all_goals
  go_enter func79,ntmps79
  go_wp2_with (first|((with_reducible refine dH 6 109 ?_);refine gD S Er cO rfl λW2 S=>?_)|(go_at_call 63;refine je S (C0.o _) λW S=>?_)|(go_at_call 43;refine JZ S (C1.o _ S.b) λW B c HB HC HF2 S=>?_)|(go_at_call 47;refine(C2.o c B HB.o HC.o _ (S.dO HF2.o).sl).mono ?_;rintro e W ⟨B2,rfl,⟨y,hB,hy,ho⟩,hb⟩;have HB2:=ae hB;rw[HC.o,HF.o] at hy ⊢;have HY:=ae hy;replace S:=S.cU hb ho rfl rfl;clear hb hB hy)|refine fN ?_|refine ew λW S=>?_|(refine o7 ?_;exact⟨_,rfl,kB _ _,S.b⟩)|(refine o7 ?_;exact⟨_,rfl,⟨y,rfl,HY.o,S.o0⟩,S.b⟩))
attribute [local go_sem] Oper.semAt_some
def mn (l:List aZ) (id k:Nat):List (Fin l.length):=((finRange l.length).take k).filter λi=>decide ((l.get i).prev=id)
theorem Qz (l:List aZ)(id:Nat)(hk:k<l.length):mn l id (k+1)=if(l.get ⟨k,hk⟩).prev=id then mn l id k++[⟨k,hk⟩] else mn l id k:=by
 unfold mn;rw[take_add_one,j4 rE,filter_append]
 grind
theorem TZ (l:List aZ)(id k:Nat): (mn l id k).length<=k:=by
 grind[mn]
theorem T3 (l:List aZ)(id:Nat): (mn l id l.length).map (λi=>(l.get i))=l.filter λs=>decide (s.prev=id):=by
 unfold mn;rw[tX fh];have h: (finRange l.length).map l.get=l:=by
  apply ext_getElem fh
  grind
 conv=>rhs;rw[<-h]
 rw[filter_map];rfl
theorem T4 (l:List aZ)(id:Nat)(hk:k<=l.length):mn l id k<+:mn l id l.length:=by
 grind[mn]
theorem RV {J:β->aD->Prop}{B:Nat}(hJ:AbidesFrom B J){s:β}(h:J s W)(hb:dp W W'):J s W':=
 hJ s W W' none h ⟨hb.os,hb.tape,hb.output,hb.size,λk hk _=>hb.block k hk⟩ (λr e=>by cases e)
theorem Co (h:w'.heap[b]? =w.heap[b]?):w'.cell? ⟨b,i,none⟩=w.cell? ⟨b,i,none⟩:=z6 h
theorem WJ (n:Nat)(lp Bl Bi:Nat)(v:bh)(l:List aZ)(id:Nat)(hll:l.length<=1000000)(J Jx:List (Fin l.length)->aD->Prop)(W:aD)(hv:cQ W v l)(hJ:AbidesFrom W.heap.size J)(hY: ∀pre x W1,J pre W1->pre.length<l.length->YieldAt Fence.wide (n - 1) prog lp #[.int .i64 ((x:Fin l.length).val:Int)] W1 λe W'=>
  (e=.returned (.bool true)/\J (pre++[x]) W'/\iB ([Bl,Bi]++v.ownBlock.toList) W1 W')∨(e=.returned (.bool false)/\Jx (pre++[x]) W'))(hBl:W.cell? ⟨Bl,0,none⟩=some v)(hBi:W.cell? ⟨Bi,0,none⟩=some (.int .u64 id))(h0:J [] W):
 CallsIn Fence.wide n prog 232 #[.func (.yield lp) #[] #[],.pointer (some ⟨Bl,0,none⟩),.pointer (some ⟨Bi,0,none⟩)] W λe W'=>(∃u,e=.returned u)/\
  ((∃ys,ys=mn l id l.length/\J ys W')∨(∃pre,pre<+:mn l id l.length/\Jx pre W')):=by
 have HV:=ae hv;obtain⟨ao,cap,rfl,hcap,hao⟩:=aR hv.1;have hao:=ae hao;clear hv;have HY:=ae hY;clear hY;have HJ:=ae hJ;clear hJ;refine callsIn_of_wp func232 rfl kO ?_ rfl;simp only[ntmps232,Ji,o8,we,reduceAdd,reduceSub,Jj,Jk,Jl,Jm,wv,Aj]
 gi_wp2
 gi_loopw [7] (λi wr=>∃k:Nat,k<=l.length/\i=.int .i64 k/\J (mn l id k) wr/\Hid (iB ([Bl,Bi]++(Value.slice ao l.length cap).ownBlock.toList) W wr)/\wr.cell? ⟨Bl,0,none⟩=some (.slice ao l.length cap)/\wr.cell? ⟨Bi,0,none⟩=some (.int .u64 id))
  (λi _=>l.length - (intOf i).toNat)
 case atStart=>exact⟨0,kf _,rfl,h0,ae (iB.refl _ _),hBl,hBi⟩
 case round=>
  obtain⟨k,hk,rfl,hJs,hnx,hcl,hci⟩:=hrel;by_cases hlt:k<l.length
  . obtain⟨b,o,rfl⟩:=hao.o au;have hHS:=ae (Qz l id hlt);obtain⟨x,hx⟩:=cM (l.get ⟨k,hlt⟩);rw[hx] at hHS;have hx2:l[k]? =some x:=by rw[j4 hlt,<-hx];rfl
    have hAt:wr.cell? ⟨b,o+k*11+4,none⟩=some (.int .u64 x.prev):=by
     rw[Co (hnx.o.same b (by simp[Value.ownBlock]))];exact(HV.o.at hx2).c4
    clear hx hx2;have hmx:prog.follows .mixedOrders=true:=cm;rcases Kl (x.prev=id) with he | he
    . have HE:=ae (hHS.o.trans (bC he));have he1: (((x.prev:Nat):Int)==((id:Nat):Int))=true:=by rw[Em];omega
      obtain⟨fn,tmps,assign,body,hy,hRd⟩:=HY.o _ ⟨k,hlt⟩ _ (RV HJ.o hJs (iU _ _).drew) (X0 (TZ l id k) hlt);clear hHS he;have hRd2:RoundIn Fence.wide (n - 1) prog lp fn tmps assign body wr.drew λe W'=>∃ok:Bool,e=.returned (.bool ok)/\Hid ((ok=true/\J (mn l id (k+1)) W'/\iB ([Bl,Bi]++(Value.slice (s_ b o) l.length cap).ownBlock.toList) wr.drew W')∨(ok=false/\Jx (mn l id (k+1)) W')):=
       RoundIn.mono hRd λe W' h=>by
        rw[HE.o];rcases h with⟨rfl,h1,h2⟩ | ⟨rfl,h1⟩
        . exact⟨true,rfl,ae (.inl ⟨rfl,h1,h2⟩)⟩
        . exact⟨false,rfl,ae (.inr ⟨rfl,h1⟩)⟩
      have HRD:=ae hRd2;clear hRd hRd2
      gi_wp2
      gi_region_with (refine⟨xJ,RoundIn.mono HRD.o ?_⟩;rintro e W3 ⟨ok,rfl,h3⟩)
      all_goals (
      rcases h3.o with⟨rfl,hJ3,hk3⟩ | ⟨rfl,hJx3⟩
      . have hcl3:=(Co (hk3.same Bl fh)).trans hcl;have hci3:=(Co (hk3.same Bi fh)).trans hci;have hk4:=ae (hnx.o.trans ((iB.mk ((iU 0 wr).drew) λ_ _=>rfl).trans hk3));clear hk3
        gi_wp2
        go_roundw
        case rel=>exact⟨k+1,au,by go_num,hJ3,hk4,hcl3,hci3⟩
        case measure=>simp[intOf];omega
      . gi_wp2
        refine kg (Jv rfl _ _ _) rfl ?_;exact⟨⟨_,rfl⟩,.inr ⟨_,T4 l id au,hJx3⟩⟩
      )
    . have HE:=ae (hHS.o.trans (bX he));have he1: (((x.prev:Nat):Int)==((id:Nat):Int))=false:=by rw[k'];omega
      clear hHS he
      gi_wp2
      have S:=St.start wr none [] dz kO;refine tH ym S cm cm BO λW S=>?_;refine gY 0 10 (.slice (s_ b o) l.length cap) rfl (bP (λw h=>by obtain⟨_,S⟩:=h;exact(S.b.cell (p:=⟨Bl,0,none⟩) (vG hcl)).trans hcl) rfl fB) ?_;refine bp 1 11 _ ?_;refine bp 2 12 (bZ b (o+k*11)) ?_;refine bp 3 13 (bZ b (o+k*11+4)) ?_;refine gY 4 14 (.int .u64 x.prev) rfl (bP (λw h=>by obtain⟨_,S⟩:=h;exact(S.b.cell (p:=⟨b,o+k*11+4,none⟩) (vG hAt)).trans hAt) rfl bF) ?_;refine gY 5 15 (.int .u64 id) rfl (bP (λw h=>by obtain⟨_,S⟩:=h;exact(S.b.cell (p:=⟨Bi,0,none⟩) (vG hci)).trans hci) rfl bF) ?_;refine bp 6 16 (.bool false) ?_;refine bp 7 17 _ ?_;refine vX 8 18 ?_;refine vX 9 19 ?_;refine vX 10 20 ?_;refine vX 11 21 ?_;refine bp 12 22 (.bool false) ?_;refine uy ?_;have hJ4:=RV HJ.o hJs S.b;have hcl4:=(S.b.cell (p:=⟨Bl,0,none⟩) (vG hcl)).trans hcl;have hci4:=(S.b.cell (p:=⟨Bi,0,none⟩) (vG hci)).trans hci;have hk4:=ae (hnx.o.trans (iB.mk (AM S.b) λk hk=>S.b.block k (by
       simp only[Value.ownBlock,Vg,Aj,wv,iI,kz,tZ] at hk;rcases hk with rfl | rfl | rfl
       . exact vG hcl
       . exact vG hci
       . exact vG hAt)))
      gi_wp2
      go_roundw
      case rel=>exact⟨k+1,au,by go_num,by rw[HE.o];exact hJ4,hk4,hcl4,hci4⟩
      case measure=>simp[intOf];omega
  . obtain rfl:k=l.length:=au
    gi_wp2
    refine Pf (Jv rfl _ _ _) rfl ?_;exact⟨⟨_,rfl⟩,.inl ⟨_,rfl,hJs⟩⟩
theorem zQ (n Bl Bi:Nat)(v:bh)(l:List aZ)(id:Nat)(hll:l.length<=1000000)(w:aD)(hv:cQ w v l)(hBl:w.cell? ⟨Bl,0,none⟩=some v)(hBi:w.cell? ⟨Bi,0,none⟩=some (.int .u64 id)):
 SeqStopsK Fence.wide n prog 232 #[.pointer (some ⟨Bl,0,none⟩),.pointer (some ⟨Bi,0,none⟩)] (λx:Fin l.length=>#[Value.int .i64 (x.val:Int)]) (iB ([Bl,Bi]++v.ownBlock.toList)) (λys=>ys=mn l id l.length) (λpre=>pre<+:mn l id l.length) l.length w:=by
 intro lp J Jx W hW hJ _ hY h0;exact WJ n lp Bl Bi v l id hll J Jx W (hv.below hW) hJ hY ((hW.cell (p:=⟨Bl,0,none⟩) (vG hBl)).trans hBl) ((hW.cell (p:=⟨Bi,0,none⟩) (vG hBi)).trans hBi) h0
theorem xp (a:Option Addr)(len cap id:Nat)(w:aD):
 Calls prog 175 #[.slice a len cap,.int .u64 id] w λe w'=>e=.returned (.func (.func 232) #[] #[.pointer (some ⟨w.heap.size,0,none⟩),.pointer (some ⟨w.heap.size+1,0,none⟩)])/\w'=(w.alloc (.cells #[.slice a len cap] 97)).alloc (.cells #[.int .u64 id] 82):=by
 go_enter func175,ntmps175;go_wp2;go_ret;exact⟨rfl,rfl⟩
theorem xq {u:bh}{t1:dD}(h:W=(w.alloc (.cells #[u] t1)).alloc (.cells #[v] t2)):
 dp w W/\W.cell? ⟨w.heap.size,0,none⟩=some u/\W.cell? ⟨w.heap.size+1,0,none⟩=some v/\du W w.heap.size=some t1/\du W (w.heap.size+1)=some t2/\W.heap.size=w.heap.size+2:=by
 have h1: (w.alloc (.cells #[u] t1)).heap.size=w.heap.size+1:=World.size_alloc ..;have r1:ag (w.alloc (.cells #[u] t1)) w.heap.size t1 1 (λ_=>u):=ag.alloc w t1 1 (λ_=>u);have r2:ag W (w.heap.size+1) t2 1 (λ_=>v):=by rw[h,<-h1];exact ag.alloc _ t2 1 (λ_=>v)
 have r3:ag W w.heap.size t1 1 (λ_=>u):=by rw[h];exact r1.alloc_old _
 exact⟨by rw[h];exact((iU _ _).alloc (eO _) _).alloc au _,ag.cell r3 (i:=0) au,ag.cell r2 (i:=0) au,ag.ty r3,ag.ty r2,by simp_all⟩
attribute [local go_sem] Oper.semAt_some
theorem RW:zM prog 22 1:=⟨cm,λW=>by rfl⟩
theorem RX {J:β->aD->Prop}{B:Nat}(hJ:AbidesFrom B J){s:β}(h:J s W)(hb:dp W W'):J s W':=
 hJ s W W' none h ⟨hb.os,hb.tape,hb.output,hb.size,λk hk _=>hb.block k hk⟩ (λr e=>by cases e)
theorem vw (h:w'.heap[b]? =w.heap[b]?):w'.cell? ⟨b,i,none⟩=w.cell? ⟨b,i,none⟩:=z6 h
def cw (m n:Nat):Nat:=(m+n - 1) / n
theorem mJ {m n k:Nat} (hn:0<n):k<cw m n↔k*n<m:=by
 grind[cw,le_div_iff_mul_le]
def oe (b o z m n k:Nat):bh:=.slice (some ⟨b,o+k*n*z,none⟩) (min n (m - k*n)) (min n (m - k*n))
theorem NP (h:zM P t z)(b o n c l y:Nat)(h1:l<y)(h2:y<=c)(W:aD): (Instr.sliceAt t (.slice (some ⟨b,o,none⟩) n c) (some (.int .i64 l)) (some (.int .i64 y)) (some (.int .i64 y))).run P W=.ok (.slice (some ⟨b,o+l*z,none⟩) (y - l) (y - l)) W:=by
 rw[rU h,run_slice_lhm W t _ n c h.1 .i64 .i64 .i64 (l:Nat) (y:Nat) (y:Nat) au au au au,h.2];simp only[Result.andThen,sliced,BQ];rw[bX au];simp[Addr.add]
theorem T5 (n:Nat)(lp Bs Bn m cap:Nat)(ao:Option Addr)(b o:Nat)(hao:0<m->ao=some ⟨b,o,none⟩)(hmc:m<=cap)(hm:m<=1000000)(J Jx:List (Fin (cw m 128))->aD->Prop)(W:aD)(hJ:AbidesFrom W.heap.size J)(hY: ∀pre x W1,J pre W1->pre.length<cw m 128->YieldAt Fence.wide (n - 1) prog lp #[oe b o 1 m 128 (x:Fin (cw m 128)).val] W1 λe W'=>
  (e=.returned (.bool true)/\J (pre++[x]) W'/\iB [Bs,Bn] W1 W')∨(e=.returned (.bool false)/\Jx (pre++[x]) W'))(hBs:W.cell? ⟨Bs,0,none⟩=some (.slice ao m cap))(hBn:W.cell? ⟨Bn,0,none⟩=some (.int .i64 128))(h0:J [] W):
 CallsIn Fence.wide n prog 292 #[.func (.yield lp) #[] #[],.pointer (some ⟨Bs,0,none⟩),.pointer (some ⟨Bn,0,none⟩)] W λe W'=>(∃u,e=.returned u)/\
  ((∃ys,ys=finRange (cw m 128)/\J ys W')∨(∃pre,pre<+:finRange (cw m 128)/\Jx pre W')):=by
 have HY:=ae hY;clear hY;have HJ:=ae hJ;clear hJ;refine callsIn_of_wp func292 rfl kO ?_ rfl;simp only[ntmps292,Ji,o8,we,reduceAdd,reduceSub,Jj,Jk,Jl,Jm,wv,Aj]
 gi_wp2
 gi_loopw [4] (λi wr=>∃k:Nat,k<=cw m 128/\i=.int .i64 ((k*128:Nat):Int)/\J ((finRange (cw m 128)).take k) wr/\wr.cell? ⟨Bs,0,none⟩=some (.slice ao m cap)/\wr.cell? ⟨Bn,0,none⟩=some (.int .i64 128))
  (λi _=>(m+128) - (intOf i).toNat)
 case atStart=>grind
 case round=>
  obtain⟨k,hk,rfl,hJs,hcs,hcn⟩:=hrel;by_cases hlt:k<cw m 128
  . have hkm:k*128<m:=(mJ au).1 hlt;obtain rfl:=hao au;have hTk:Hid ((finRange (cw m 128)).take (k+1)=(finRange (cw m 128)).take k++[⟨k,hlt⟩]):=ae (by
     rw[take_add_one,j4 (by simpa using hlt)];simp)
    obtain⟨i,hi⟩:=cM (k*128);rw[hi] at hkm ⊢;obtain⟨y,hy⟩:=gq (min 128 (m - i));have hs1:=λW=>FR RW (s_ b o) m cap i au W;have hs2: ∀W,(Instr.sliceAt 22 (.slice (s_ b o) m cap) (some (.int .i64 i)) (some (.int .i64 ((i+y:Nat):Int))) (some (.int .i64 ((i+y:Nat):Int)))).run prog W=.ok (oe b o 1 m 128 k) W:=λW=>by
     rw[NP RW b o m cap i (i+y) au au];unfold oe;rw[hi,<-hy,show i+y - i=y by omega]
    clear hao hk;have hlen: ((m:Int) - (i:Int))=((m - i:Nat):Int):=au;have hmn:min (128:Int) ((m - i:Nat):Int)=(y:Int):=au;have hadd: ((i:Int)+ (y:Int))=((i+y:Nat):Int):=au;have hmx:prog.follows .mixedOrders=true:=cm;have hJ2:=RX HJ.o hJs (iU _ _).drew;obtain⟨fn,tmps,assign,body,hy,hRd⟩:=HY.o _ ⟨k,hlt⟩ _ hJ2 (by rw[pM];omega);have HRD:=ae hRd;clear hRd;rw[show oe b o 1 m 128 k=.slice (s_ b (o+i)) (min 128 (m - i)) (min 128 (m - i)) from by unfold oe;rw[hi];try simp] at hy
    gi_wp2
    gi_region
    gi_wp2
    refine⟨xJ,RoundIn.mono HRD.o ?_⟩;rintro e W3 (⟨rfl,hJ3,hk3⟩ | ⟨rfl,hJx3⟩)
    . have hcs3:=(vw (hk3.same Bs fh)).trans hcs;have hcn3:=(vw (hk3.same Bn fh)).trans hcn
      gi_wp2
      go_roundw
      case rel=>exact⟨k+1,au,by rw[show(k+1)*128=i+128 by omega];go_num,by rw[hTk.o];exact hJ3,hcs3,hcn3⟩
      case measure=>exact uO
    . gi_wp2
      refine kg (Jv rfl _ _ _) rfl ?_;exact⟨⟨_,rfl⟩,.inr ⟨_,by rw[<-hTk.o];exact take_prefix _ _,hJx3⟩⟩
  . have hmk:m<=k*128:=by have:=mt (mJ (m:=m) (k:=k) (n:=128) au).2 hlt;omega
    clear hao
    gi_wp2
    refine Pf (Jv rfl _ _ _) rfl ?_;exact⟨⟨_,rfl⟩,.inl ⟨_,rfl,by rw[tX sp_] at hJs;exact hJs⟩⟩
theorem La (n Bs Bn m cap:Nat)(ao:Option Addr)(b o:Nat)(hao:0<m->ao=some ⟨b,o,none⟩)(hmc:m<=cap)(hm:m<=1000000)(w:aD)(hBs:w.cell? ⟨Bs,0,none⟩=some (.slice ao m cap))(hBn:w.cell? ⟨Bn,0,none⟩=some (.int .i64 128)):
 SeqStopsK Fence.wide n prog 292 #[.pointer (some ⟨Bs,0,none⟩),.pointer (some ⟨Bn,0,none⟩)] (λx:Fin (cw m 128)=>#[oe b o 1 m 128 x.val]) (iB [Bs,Bn]) (λys=>ys=finRange (cw m 128)) (λpre=>pre<+:finRange (cw m 128)) (cw m 128) w:=by
 intro lp J Jx W hW hJ _ hY h0;exact T5 n lp Bs Bn m cap ao b o hao hmc hm J Jx W hJ hY ((hW.cell (p:=⟨Bs,0,none⟩) (vG hBs)).trans hBs) ((hW.cell (p:=⟨Bn,0,none⟩) (vG hBn)).trans hBn) h0
theorem QA (a:Option Addr)(len cap:Nat)(w:aD):
 Calls prog 288 #[.slice a len cap,.int .i64 128] w λe w'=>e=.returned (.func (.func 292) #[] #[.pointer (some ⟨w.heap.size,0,none⟩),.pointer (some ⟨w.heap.size+1,0,none⟩)])/\w'=(w.alloc (.cells #[.slice a len cap] 22)).alloc (.cells #[.int .i64 128] 3):=by
 go_enter func288,ntmps288;go_wp2;go_ret;exact⟨rfl,rfl⟩
theorem T6 (n:Nat)(lp Bs Bn m cap:Nat)(ao:Option Addr)(b o:Nat)(hao:0<m->ao=some ⟨b,o,none⟩)(hmc:m<=cap)(hm:m<=1000000)(J Jx:List (Fin (cw m 8))->aD->Prop)(W:aD)(hJ:AbidesFrom W.heap.size J)(hY: ∀pre x W1,J pre W1->pre.length<cw m 8->YieldAt Fence.wide (n - 1) prog lp #[oe b o 3 m 8 (x:Fin (cw m 8)).val] W1 λe W'=>
  (e=.returned (.bool true)/\J (pre++[x]) W'/\iB [Bs,Bn] W1 W')∨(e=.returned (.bool false)/\Jx (pre++[x]) W'))(hBs:W.cell? ⟨Bs,0,none⟩=some (.slice ao m cap))(hBn:W.cell? ⟨Bn,0,none⟩=some (.int .i64 8))(h0:J [] W):
 CallsIn Fence.wide n prog 293 #[.func (.yield lp) #[] #[],.pointer (some ⟨Bs,0,none⟩),.pointer (some ⟨Bn,0,none⟩)] W λe W'=>(∃u,e=.returned u)/\
  ((∃ys,ys=finRange (cw m 8)/\J ys W')∨(∃pre,pre<+:finRange (cw m 8)/\Jx pre W')):=by
 have HY:=ae hY;clear hY;have HJ:=ae hJ;clear hJ;refine callsIn_of_wp func293 rfl kO ?_ rfl;simp only[ntmps293,Ji,o8,we,reduceAdd,reduceSub,Jj,Jk,Jl,Jm,wv,Aj]
 gi_wp2
 gi_loopw [4] (λi wr=>∃k:Nat,k<=cw m 8/\i=.int .i64 ((k*8:Nat):Int)/\J ((finRange (cw m 8)).take k) wr/\wr.cell? ⟨Bs,0,none⟩=some (.slice ao m cap)/\wr.cell? ⟨Bn,0,none⟩=some (.int .i64 8))
  (λi _=>(m+8) - (intOf i).toNat)
 case atStart=>grind
 case round=>
  obtain⟨k,hk,rfl,hJs,hcs,hcn⟩:=hrel;by_cases hlt:k<cw m 8
  . have hkm:k*8<m:=(mJ au).1 hlt;obtain rfl:=hao au;have hTk:Hid ((finRange (cw m 8)).take (k+1)=(finRange (cw m 8)).take k++[⟨k,hlt⟩]):=ae (by
     rw[take_add_one,j4 (by simpa using hlt)];simp)
    obtain⟨i,hi⟩:=cM (k*8);rw[hi] at hkm ⊢;obtain⟨y,hy⟩:=gq (min 8 (m - i));have hs1:=λW=>FR x7 (s_ b o) m cap i au W;have hs2: ∀W,(Instr.sliceAt 107 (.slice (s_ b o) m cap) (some (.int .i64 i)) (some (.int .i64 ((i+y:Nat):Int))) (some (.int .i64 ((i+y:Nat):Int)))).run prog W=.ok (oe b o 3 m 8 k) W:=λW=>by
     rw[NP x7 b o m cap i (i+y) au au];unfold oe;rw[hi,<-hy,show i+y - i=y by omega]
    clear hao hk;have hlen: ((m:Int) - (i:Int))=((m - i:Nat):Int):=au;have hmn:min (8:Int) ((m - i:Nat):Int)=(y:Int):=au;have hadd: ((i:Int)+ (y:Int))=((i+y:Nat):Int):=au;have hmx:prog.follows .mixedOrders=true:=cm;have hJ2:=RX HJ.o hJs (iU _ _).drew;obtain⟨fn,tmps,assign,body,hy,hRd⟩:=HY.o _ ⟨k,hlt⟩ _ hJ2 (by rw[pM];omega);have HRD:=ae hRd;clear hRd;rw[show oe b o 3 m 8 k=.slice (s_ b (o+i*3)) (min 8 (m - i)) (min 8 (m - i)) from by unfold oe;rw[hi];skip] at hy
    gi_wp2
    gi_region
    gi_wp2
    refine⟨xJ,RoundIn.mono HRD.o ?_⟩;rintro e W3 (⟨rfl,hJ3,hk3⟩ | ⟨rfl,hJx3⟩)
    . have hcs3:=(vw (hk3.same Bs fh)).trans hcs;have hcn3:=(vw (hk3.same Bn fh)).trans hcn
      gi_wp2
      go_roundw
      case rel=>exact⟨k+1,au,by rw[show(k+1)*8=i+8 by omega];go_num,by rw[hTk.o];exact hJ3,hcs3,hcn3⟩
      case measure=>exact uO
    . gi_wp2
      refine kg (Jv rfl _ _ _) rfl ?_;exact⟨⟨_,rfl⟩,.inr ⟨_,by rw[<-hTk.o];exact take_prefix _ _,hJx3⟩⟩
  . have hmk:m<=k*8:=by have:=mt (mJ (m:=m) (k:=k) (n:=8) au).2 hlt;omega
    clear hao
    gi_wp2
    refine Pf (Jv rfl _ _ _) rfl ?_;exact⟨⟨_,rfl⟩,.inl ⟨_,rfl,by rw[tX sp_] at hJs;exact hJs⟩⟩
theorem Lb (n Bs Bn m cap:Nat)(ao:Option Addr)(b o:Nat)(hao:0<m->ao=some ⟨b,o,none⟩)(hmc:m<=cap)(hm:m<=1000000)(w:aD)(hBs:w.cell? ⟨Bs,0,none⟩=some (.slice ao m cap))(hBn:w.cell? ⟨Bn,0,none⟩=some (.int .i64 8)):
 SeqStopsK Fence.wide n prog 293 #[.pointer (some ⟨Bs,0,none⟩),.pointer (some ⟨Bn,0,none⟩)] (λx:Fin (cw m 8)=>#[oe b o 3 m 8 x.val]) (iB [Bs,Bn]) (λys=>ys=finRange (cw m 8)) (λpre=>pre<+:finRange (cw m 8)) (cw m 8) w:=by
 intro lp J Jx W hW hJ _ hY h0;exact T6 n lp Bs Bn m cap ao b o hao hmc hm J Jx W hJ hY ((hW.cell (p:=⟨Bs,0,none⟩) (vG hBs)).trans hBs) ((hW.cell (p:=⟨Bn,0,none⟩) (vG hBn)).trans hBn) h0
theorem QB (a:Option Addr)(len cap:Nat)(w:aD):
 Calls prog 289 #[.slice a len cap,.int .i64 8] w λe w'=>e=.returned (.func (.func 293) #[] #[.pointer (some ⟨w.heap.size,0,none⟩),.pointer (some ⟨w.heap.size+1,0,none⟩)])/\w'=(w.alloc (.cells #[.slice a len cap] 107)).alloc (.cells #[.int .i64 8] 3):=by
 go_enter func289,ntmps289;go_wp2;go_ret;exact⟨rfl,rfl⟩
attribute [local go_sem] Oper.semAt_some
def qu (l:List cu) (id:Nat):Nat:=
 match cR l id with
 | none=>0
 | some i=>if(di l i).snap=true then((l.filter λs=>decide (s.prev=id)).find? λs=>decide (s.owner=(di l i).owner)).elim 0 cu.id else 0
theorem xr {F:Fence}(S:St w0 d l L O X W)(hX:lW X)(hD:w0.heap.size<=D)(hK:W.heap[D]? =some (.deferred (some [])))(h: ∀W',St w0 d l L O X W'->∃v,(results fn tmps).run P W'=.ok v W'/\R (.returned v) W'):LeavesInM F n P fn tmps R [{target:=.collected D,args:=#[]}] .returning W:=
 ⟨by simp,.inl ⟨_,_,rfl,run_takeDeferred hK,h _ (S.obj (vm (grownBy_putObj' W D _)) (AK hK rfl) hD hX)⟩⟩
theorem NQ {l:List aZ}{x:aZ}(hp:cR (bA l) id=some i)(hx:l[i]? =some x):qu (bA l) id=if x.snap=true then(((bA l).filter λs=>decide (s.prev=id)).find? λs=>decide (s.owner=x.owner)).elim 0 cu.id else 0:=by
 grind[qu,fW]
theorem yd (l:List aZ) (id:Nat): ((bA l).filter λs=>decide (s.prev=id))=(mn l id l.length).map λi=>(l.get i).tocu:=by
 have h:=iS (map aZ.tocu) (T3 l id);rw[EV] at h;unfold bA;rw[filter_map];exact h.symm
theorem T7 {l:List aZ}(h: ∀z∈mn l id l.length,(l.get z).owner≠own): (((bA l).filter λs=>decide (s.prev=id)).find? λs=>decide (s.owner=own))=none:=by
 rw[yd,find?_eq_none]
 grind
theorem T8 {l:List aZ}{p:List (Fin l.length)}{z:Fin l.length}(hpre:p++[z]<+:mn l id l.length)(h: ∀z∈p,(l.get z).owner≠own)(hz: (l.get z).owner=own): (((bA l).filter λs=>decide (s.prev=id)).find? λs=>decide (s.owner=own))=some (l.get z).tocu:=by
 grind[yd]
theorem QC (l:List aZ)(v:bh)(id:Nat)(hl:l.length<=1000000)(w:aD)(R:cQ w v l):
 CallsIn Fence.wide 5 prog 132 #[v,.int .u64 id] w λe w'=>e=.returned (.int .u64 (qu (bA l) id:Nat))/\dp w w':=by
 obtain⟨ao,cap,rfl,hcap,hao⟩:=aR R.1;have HR:=ae R;have hao:=ae hao;have C1:=ae λW (hb:dp w W)=>nZ l _ id hl W (R.below hb);have S:=ug w;obtain⟨T,hT⟩:=cM (qu (bA l) id);rw[hT];clear R;refine callsIn_of_wp_marks func132 rfl kO ?_ rfl;simp only[ntmps132,Ji,o8,we,reduceAdd,reduceSub,Jj,Jk,Jl,Jm,wv,Aj];rcases hp:cR (bA l) id with _ | i;rw[hp] at C1;obtain rfl:0=T:=by rw[<-hT];unfold qu;rw[hp]
 simp only[fV] at C1;clear hT hp
 rotate_left
 obtain⟨hil,x,hx,-⟩:=fy hp;have hti:=NQ hp hx;rw[hT] at hti;rw[hp] at C1;simp only[fV] at C1;clear hT hp;obtain⟨b,o,rfl⟩:=hao.o au;have HX:=ae (HR.o.at hx);have hi0: (i:Int)< (l.length:Int):=au;rcases hs:x.snap with _ | _;obtain rfl:T=0:=by rw[hti,hs];rfl
 clear hti
 rotate_left
 . rw[bC hs] at hti;have HT:=ae hti;clear hti
   gi_upto_region 0 with fail
   refine eh ym cm BO ?_
   go_wp2_with (first|((with_reducible refine gT 2 97 0 ?_);refine kN S (v:=.slice (s_ b o) l.length cap) rfl rfl rfl λWA S=>?_)|refine ew λW S=>?_)
   gi_upto_region 1 with fail
   refine eh ym cm BO ?_
   go_wp2_with (first|(go_at_call 103;refine(C1.o _ S.b).mono ?_;rintro e WC ⟨rfl,hb⟩;replace S:=S.below hb;clear hb)|refine fN ?_|refine ew λW S=>?_)
   gi_upto_region 2 with fail
   refine eh ym cm BO ?_
   go_wp2_with (first|(with_reducible first|refine jm 13 97 2 S 2 0 (.slice (s_ b o) l.length cap) ?_|refine jm 14 3 5 S 0 0 (.int .i64 i) ?_)|((with_reducible refine cP 17 4 16 ?_);refine cV cm ?_;refine bM (v:=.bool true) (by rw[<-hs];exact(HX.o.below S.b).c2) rfl gU ?_)|refine fN ?_)
   gi_upto_region 4 with fail
   refine eh ym cm BO ?_
   go_wp2_with (first|(go_at_call 175;refine(xp (s_ b o) l.length cap id _).mono ?_;rintro e W2 ⟨rfl,hW⟩;have HB:=ae (xq hW);clear hW)|refine fN ?_)
   gi_wp2
   replace S:St w none [] [⟨WC.heap.size,3,1,λ_=>.int .i64 i⟩,⟨WA.heap.size,82,1,λ_=>.int .u64 0⟩,⟨w.heap.size,97,1,λ_=>.slice (s_ b o) l.length cap⟩] [] (λ_ _=>True) W:=S;obtain⟨hb,hbl,hbi,htl,hti,hsz⟩:=HB.o;have hbt:du w b=some 109:=ar.ty HR.o.1 rfl au;have hbs: ∀k∈ [W.heap.size,W.heap.size+1]++(Value.slice (s_ b o) l.length cap).ownBlock.toList,(W.heap.size<=k∨k<w.heap.size)/\∃t,du W2 k=some t/\fk t=false/\df t=false:=by
    intro k hk;simp only[Value.ownBlock,Vg,Aj,wv,iI,kz,tZ] at hk;rcases hk with rfl | rfl | rfl
    . exact⟨.inl (eO _),_,htl,rfl,rfl⟩
    . exact⟨.inl (le_succ _),_,hti,rfl,rfl⟩
    . exact⟨.inr (c7 hbt),_,pF (pF hbt S.b) hb,rfl,rfl⟩
   replace S:=S.Nz hb hbs;have hav:=S.x.2;have hw2:w.heap.size<=W2.heap.size:=S.fr.size;refine wpIn_rangeFunc_ownF rfl au (gf:=232) (lb:=#[bZ W.heap.size 0,bZ (W.heap.size+1) 0]) rfl kO (enters_of func232 cm rfl)
    (zQ 4 W.heap.size (W.heap.size+1) _ l id hl W2 (HR.o.below S.b) hbl hbi) iB.trans (iB.book λk hk=>let⟨_,h1,_⟩:=(hav k hk).2;c7 h1) (iU _ _) (λ_=>rfl)
    (λpre W'=>∃y:Unit,Hid (∀z∈pre,(l.get z).owner≠x.owner)/\St w none [] [⟨WC.heap.size,3,1,λ_=>.int .i64 i⟩,⟨WA.heap.size,82,1,λ_=>.int .u64 0⟩,⟨w.heap.size,97,1,λ_=>.slice (s_ b o) l.length cap⟩] [] (λB w=>True/\Mh ([W.heap.size,W.heap.size+1]++(Value.slice (s_ b o) l.length cap).ownBlock.toList) B w) W')
    (λc pre W'=>∃y:Fin l.length,Hid (c=.ret/\∃p,pre=p++[y]/\(∀z∈p,(l.get z).owner≠x.owner)/\(l.get y).owner=x.owner)/\St w none [] [⟨WC.heap.size,3,1,λ_=>.int .i64 i⟩,⟨WA.heap.size,82,1,λ_=>.int .u64 ((l.get y).id:Nat)⟩,⟨w.heap.size,97,1,λ_=>.slice (s_ b o) l.length cap⟩] [] (λB w=>True/\Mh ([W.heap.size,W.heap.size+1]++(Value.slice (s_ b o) l.length cap).ownBlock.toList) B w) W')
    (mj S.fr.size _ _ _ _ λ_ _=>lW.t.and (lW.av _)) (λc=>mj S.fr.size _ _ _ _ λ_ _=>lW.t.and (lW.av _))
    ⟨(),ae (λ_ h=>by cases h),S⟩ ?a1 ?assign ?body ?done ?stop
   case assign=>
    intro lp z W' K hK
    gi_wp2
    exact hK
   case body=>
    clear S;rintro lp pre z W0 ⟨-,hp,S⟩ -;replace S:=S.bS;obtain⟨y,hy⟩:=cM (l.get z);have hy2:l[z.val]? =some y:=by rw[j4 z.isLt,<-hy];rfl
    have HY:=ae (HR.o.at hy2);have hzl:=z.isLt;have hz: (z.val:Int)< (l.length:Int):=au;clear hy2;rcases Kl (y.owner=x.owner) with he | he
    . have he1: (((y.owner:Nat):Int)==((x.owner:Nat):Int))=true:=by rw[Em];omega
      gi_wp2
      refine tH ym S cm cm BO λW S=>?_;refine bp 0 24 (.slice (s_ b o) l.length cap) ?_;refine bp 1 25 _ ?_;refine bp 2 26 (bZ b (o+z.val*11)) ?_;refine bp 3 27 (bZ b (o+z.val*11+3)) ?_;refine gY 4 28 (.int .u64 y.owner) rfl (bP (λw h=>by obtain⟨_,S⟩:=h;exact(HY.o.below S.b).c3) rfl bF) ?_;refine bp 5 29 (.slice (s_ b o) l.length cap) ?_;refine bp 6 30 (.int .i64 i) ?_;refine bp 7 31 (bZ b (o+i*11)) ?_;refine bp 8 32 (bZ b (o+i*11+3)) ?_;refine gY 9 33 (.int .u64 x.owner) rfl (bP (λw h=>by obtain⟨_,S⟩:=h;exact(HX.o.below S.b).c3) rfl bF) ?_;refine bp 10 34 (.bool true) ?_;refine uy ?_
      gi_upto_region 7 with fail
      refine eh ym cm BO ?_
      go_wp2_with (first
   |(with_reducible first|refine jo 39 82 38 (v:=.int .u64 y.id) ((HY.o.below S.b).c0) ?_)
   |refine fN ?_
   |refine ew λW S=>?_)
      gi_wp2
      have hk:=S.kept (dz.still (fm _));refine⟨hk.1,z,ae ⟨rfl,pre,rfl,hp.o,by rw[hy];exact he⟩,?_⟩;rw[hy];exact(hk.2.2.ld (k:=1) rfl (g:=λ_=>.int .u64 y.id) λi hi=>by have hi:i<1:=hi;obtain rfl:i=0:=au;rfl)
    . have he1: (((y.owner:Nat):Int)==((x.owner:Nat):Int))=false:=by rw[k'];omega
      gi_wp2
      refine tH ym S cm cm BO λW S=>?_;refine bp 0 24 (.slice (s_ b o) l.length cap) ?_;refine bp 1 25 _ ?_;refine bp 2 26 (bZ b (o+z.val*11)) ?_;refine bp 3 27 (bZ b (o+z.val*11+3)) ?_;refine gY 4 28 (.int .u64 y.owner) rfl (bP (λw h=>by obtain⟨_,S⟩:=h;exact(HY.o.below S.b).c3) rfl bF) ?_;refine bp 5 29 (.slice (s_ b o) l.length cap) ?_;refine bp 6 30 (.int .i64 i) ?_;refine bp 7 31 (bZ b (o+i*11)) ?_;refine bp 8 32 (bZ b (o+i*11+3)) ?_;refine gY 9 33 (.int .u64 x.owner) rfl (bP (λw h=>by obtain⟨_,S⟩:=h;exact(HX.o.below S.b).c3) rfl bF) ?_;refine bp 10 34 (.bool false) ?_;refine uy ?_
      gi_wp2
      have hk:=S.kept (dz.still (fm _));refine⟨hk.1,hk.2.1,(),ae λq hq=>?_,hk.2.2⟩;rcases jn.1 hq with hq | hq
      . exact hp.o q hq
      . obtain rfl:=gz.1 hq;rw[hy];exact he
   case done=>
    clear S;rintro D ys W0 hD rfl ⟨-,hp,S⟩ hK;have hT0:T=0:=by rw[HT.o,T7 hp.o];rfl
    replace S:=S.bS
    gi_upto_region 8 with fail
    gi_upto_region 8 with fail
    refine eh ym cm BO ?_
    go_wp2_with (refine ew λW S=>?_)
    gi_wp2
    have hk:=S.kept (dz.still (fm _));refine xr hk.2.2 (lW.t.and (lW.av _)) au (hk.1.same D _ hK rfl) λW' S=>?_;have hc:=S.cell (k:=1) rfl (i:=0) Jr;exact⟨.int .u64 0,by simp[results,f132,go_sem,hc],by rw[hT0];rfl,S.b⟩
   case stop=>
    clear S;rintro D c pre W0 hD hpre ⟨z,hp,S⟩ hK;obtain⟨rfl,p,rfl,hlt,hge⟩:=hp.o;have hT1:T=(l.get z).id:=by rw[HT.o,T8 hpre hlt hge];rfl
    gi_wp2
    refine xr S (lW.t.and (lW.av _)) au hK λW' S=>?_;have hc:=S.cell (k:=1) rfl (i:=0) Jr;exact⟨.int .u64 ((l.get z).id:Nat),by simp[results,f132,go_sem,hc],by first | rfl,S.b⟩
 all_goals
  gi_upto_region 0 with fail
  refine eh ym cm BO ?_
  go_wp2_with (refine ew λW S=>?_)
  gi_upto_region 1 with fail
  refine eh ym cm BO ?_
  go_wp2_with (first|(go_at_call 103;refine je S (C1.o _ S.b) λW S=>?_)|refine fN ?_|refine ew λW S=>?_)
  gi_upto_region 2 with fail
  refine eh ym cm BO ?_
  go_wp2_with (first|(with_reducible first|refine jm 13 97 2 S 2 0 (.slice (s_ b o) l.length cap) ?_|refine jm 14 3 5 S 0 0 (.int .i64 i) ?_)|((with_reducible refine cP 17 4 16 ?_);refine cV cm ?_;refine bM (v:=.bool false) (by rw[<-hs];exact(HX.o.below S.b).c2) rfl gU ?_)|refine fN ?_)
  gi_upto_region 3 with fail
  refine eh ym cm BO ?_
  go_wp2_with (refine ew λW S=>?_)
  gi_wp2
  have hc:=S.cell (k:=1) rfl (i:=0) (Jr);exact⟨_,by simp[results,f132,go_sem,hc],rfl,S.b⟩
attribute [local go_sem] Oper.semAt_some
theorem Ma:fZ prog 78:=⟨⟨_,Fi,rfl⟩,cm⟩
instance indde69 :qD 78:=⟨Ma⟩
def tk (l:List cu) (id:Nat):aK:=
 match cR l id with
 | none=> []
 | some i=>if(di l i).snap=true then((l.filter λs=>decide (s.prev=id)).filter λs=>!decide (s.owner=(di l i).owner)).map cu.id else []
theorem QD {l:List aZ}{x:aZ}(hp:cR (bA l) id=some i)(hx:l[i]? =some x):tk (bA l) id=if x.snap=true then(((bA l).filter λs=>decide (s.prev=id)).filter λs=>!decide (s.owner=x.owner)).map cu.id else []:=by
 grind[tk,fW]
section
theorem WL (hc:w.cell? ⟨b,o,none⟩=some v)(hx:a.eval (.tmp x)=.pointer (some ⟨b,o,none⟩))(ht:fZ P ty)(h:K (a.put (some dst) v) w):Oper.wp P ⟨some dst,.load ty (.tmp x),t2,p,af,none⟩ a w K Q:=by
 obtain⟨⟨dd,hu,hd⟩,hi⟩:=ht;have hagg: (isAgg ty).run P w=.ok false w:=by
  unfold isAgg;rw[py,D7 hu w];cases dd <;> simp_all [TypeDesc.isRow]
 unfold Oper.wp execOp;simp only[hx,Instr.loadAt,Instr.sureAddr,py,wB,rj,loadVar,hagg,bX XZ,run_load,hc];exact h
theorem Z' {F:Fence}(hF:Open F){ops:List Oper}(S:St w0 d l L O X w)(hm:P.follows .mixedOrders=true)(hd:AF ops=true)(hL: ¬LetsOut Q)(rs:List R4)(hr: ∀r∈rs,r∈L)(h: ∀W,St w0 d l L O X W->wpAnyH P .any ops.toArray Q (SE1 w0 d l rs) ops.toArray.size (Array.replicate ops.toArray.size false) a W): (Code.region id ops.toArray true).wpIn F n P Q a w:=
 wpIn_region_any hm (Nk hF hL (λ_ ho=>vg hd au) _ _ _ _ (wpAny_of_held _ _ _ _ (h _ S.drew)))
end
def mo (l:List aZ) (own:Nat) (pre:List (Fin l.length)):aK:=(pre.filter λz=>!decide ((l.get z).owner=own)).map λz=>(l.get z).id
theorem Lc (l:List aZ)(own:Nat)(pre:List (Fin l.length)): (mo l own pre).length<=pre.length:=by
 grind[mo]
theorem IG (l:List aZ)(own:Nat)(pre:List (Fin l.length))(z:Fin l.length):mo l own (pre++[z])=mo l own pre++if(l.get z).owner=own then [] else [(l.get z).id]:=by
 unfold mo
 grind
theorem Ld (l:List aZ)(id own:Nat): (((bA l).filter λs=>decide (s.prev=id)).filter λs=>!decide (s.owner=own)).map cu.id=mo l own (mn l id l.length):=by
 rw[yd,filter_map,EV];rfl
theorem Le (l:List aZ)(v:bh)(id:Nat)(hl:l.length<=1000000)(w:aD)(R:cQ w v l):
 CallsIn Fence.wide 5 prog 130 #[v,.int .u64 id] w λe w'=>∃r,e=.returned r/\D3 w' w.heap.size r (tk (bA l) id)/\dp w w':=by
 obtain⟨ao,cap,rfl,hcap,hao⟩:=aR R.1;have HR:=ae R;have hao:=ae hao;have C1:=ae λW (hb:dp w W)=>nZ l _ id hl W (R.below hb);have S:=ug w;obtain⟨T,hT⟩:=cM (tk (bA l) id);rw[hT];clear R;refine callsIn_of_wp_marks func130 rfl kO ?_ rfl;simp only[ntmps130,Ji,o8,we,reduceAdd,reduceSub,Jj,Jk,Jl,Jm,wv,Aj];rcases hp:cR (bA l) id with _ | i;rw[hp] at C1;obtain rfl: []=T:=by rw[<-hT];unfold tk;rw[hp]
 simp only[fV] at C1;clear hT hp
 rotate_left
 obtain⟨hil,x,hx,-⟩:=fy hp;have hti:=QD hp hx;rw[hT] at hti;rw[hp] at C1;simp only[fV] at C1;clear hT hp;obtain⟨b,o,rfl⟩:=hao.o au;have HX:=ae (HR.o.at hx);have hi0: (i:Int)< (l.length:Int):=au;rcases hs:x.snap with _ | _;obtain rfl:T=[]:=by rw[hti,hs];rfl
 clear hti
 rotate_left
 . rw[bC hs,Ld] at hti;have HT:=ae hti;clear hti
   gi_upto_region 0 with fail
   refine eh ym cm BO ?_
   go_wp2_with (refine ew λW S=>?_)
   gi_upto_region 1 with fail
   refine eh ym cm BO ?_
   go_wp2_with (first|(go_at_call 103;refine(C1.o _ S.b).mono ?_;rintro e WC ⟨rfl,hb⟩;replace S:=S.below hb;clear hb)|((with_reducible refine aS 3 5 10 ?_);refine gu S 0 rfl 0 (λ_=>.int .i64 i) (λj hj=>by have hj:j<1:=hj;obtain rfl:j=0:=au;rfl) qv rfl rfl rfl kX λWE S=>?_)|refine fN ?_|refine ew λW S=>?_)
   gi_upto_region 2 with fail
   refine eh ym cm BO ?_
   go_wp2_with (first|(with_reducible first|refine jm 14 97 2 S 1 0 (.slice (s_ b o) l.length cap) ?_|refine jm 15 3 5 S 0 0 (.int .i64 i) ?_)|((with_reducible refine cP 18 4 17 ?_);refine cV cm ?_;refine bM (v:=.bool true) (by rw[<-hs];exact(HX.o.below S.b).c2) rfl gU ?_)|refine fN ?_)
   gi_upto_region 4 with fail
   refine eh ym cm BO ?_
   go_wp2_with (refine ew λW S=>?_)
   gi_upto_region 5 with fail
   refine eh ym cm BO ?_
   go_wp2_with (first|(go_at_call 175;refine(xp (s_ b o) l.length cap id _).mono ?_;rintro e W2 ⟨rfl,hW⟩;have HB:=ae (xq hW);clear hW)|refine fN ?_)
   gi_wp2
   replace S:St w none [] [⟨WE.heap.size,78,1,λ_=>.slice none 0 0⟩,⟨WC.heap.size,3,1,λ_=>.int .i64 i⟩,⟨w.heap.size,97,1,λ_=>.slice (s_ b o) l.length cap⟩] [] (λ_ _=>True) W:=S;obtain⟨hb,hbl,hbi,htl,hti,hsz⟩:=HB.o;have hbt:du w b=some 109:=ar.ty HR.o.1 rfl au;have hbs: ∀k∈ [W.heap.size,W.heap.size+1]++(Value.slice (s_ b o) l.length cap).ownBlock.toList,(W.heap.size<=k∨k<w.heap.size)/\∃t,du W2 k=some t/\fk t=false/\df t=false:=by
    intro k hk;simp only[Value.ownBlock,Vg,Aj,wv,iI,kz,tZ] at hk;rcases hk with rfl | rfl | rfl
    . exact⟨.inl (eO _),_,htl,rfl,rfl⟩
    . exact⟨.inl (le_succ _),_,hti,rfl,rfl⟩
    . exact⟨.inr (c7 hbt),_,pF (pF hbt S.b) hb,rfl,rfl⟩
   replace S:=(S.yK 82 1 rfl rfl).Nz hb hbs;have hav:=S.x.2;have hw2:w.heap.size<=W2.heap.size:=S.fr.size;refine wpIn_rangeFunc_ownF rfl au (gf:=232) (lb:=#[bZ W.heap.size 0,bZ (W.heap.size+1) 0]) rfl kO (enters_of func232 cm rfl)
    (zQ 4 W.heap.size (W.heap.size+1) _ l id hl W2 (HR.o.below S.b) hbl hbi) iB.trans (iB.book λk hk=>let⟨_,h1,_⟩:=(hav k hk).2;c7 h1) (iU _ _) (λ_=>rfl)
    (λpre W'=>∃y:Option Addr×Nat,True/\St w none [] [⟨WE.heap.size,78,1,λ_=>.slice y.1 (mo l x.owner pre).length y.2⟩,⟨WC.heap.size,3,1,λ_=>.int .i64 i⟩,⟨w.heap.size,97,1,λ_=>.slice (s_ b o) l.length cap⟩] [⟨82,1,.slice y.1 (mo l x.owner pre).length y.2,(mo l x.owner pre).length,Eb (mo l x.owner pre)⟩] (λB w=>True/\Mh ([W.heap.size,W.heap.size+1]++(Value.slice (s_ b o) l.length cap).ownBlock.toList) B w) W')
    (λ_ _ _=>False)
    (mj S.fr.size _ _ _ _ λ_ _=>lW.t.and (lW.av _)) (λ_ _ _ _ _ hs _ _=>hs)
    ⟨(none,0),kO,S⟩ ?a1 ?assign ?body ?done ?stop
   case assign=>
    intro lp z W' K hK
    gi_wp2
    exact hK
   case body=>
    clear S;rintro lp pre z W0 ⟨⟨ya,yc⟩,-,S⟩ hpre;replace S:=S.bS;have hids:=Lc l x.owner pre;have hsn:=ae (IG l x.owner pre z);obtain⟨ids,hid⟩:=cM (mo l x.owner pre);rw[hid] at S hids hsn;obtain⟨y,hy⟩:=cM (l.get z);rw[hy] at hsn;have hy2:l[z.val]? =some y:=by rw[j4 z.isLt,<-hy];rfl
    have HY:=ae (HR.o.at hy2);have hzl:=z.isLt;have hz: (z.val:Int)< (l.length:Int):=au;clear hy2 hid hy;rcases Kl (y.owner=x.owner) with he | he
    . have he1: (((y.owner:Nat):Int) !=((x.owner:Nat):Int))=false:=by rw[DY];omega
      gi_wp2
      refine tH ym S cm cm BO λW S=>?_;refine bp 0 25 (.slice (s_ b o) l.length cap) ?_;refine bp 1 26 _ ?_;refine bp 2 27 (bZ b (o+z.val*11)) ?_;refine bp 3 28 (bZ b (o+z.val*11+3)) ?_;refine gY 4 29 (.int .u64 y.owner) rfl (bP (λw h=>by obtain⟨_,S⟩:=h;exact(HY.o.below S.b).c3) rfl bF) ?_;refine bp 5 30 (.slice (s_ b o) l.length cap) ?_;refine bp 6 31 (.int .i64 i) ?_;refine bp 7 32 (bZ b (o+i*11)) ?_;refine bp 8 33 (bZ b (o+i*11+3)) ?_;refine gY 9 34 (.int .u64 x.owner) rfl (bP (λw h=>by obtain⟨_,S⟩:=h;exact(HX.o.below S.b).c3) rfl bF) ?_;refine bp 10 35 (.bool false) ?_;refine uy ?_
      gi_wp2
      have hk:=S.kept (dz.still (fm _));rw[bC he,ET] at hsn;exact⟨hk.1,hk.2.1,(ya,yc),kO,by rw[hsn.o];exact hk.2.2⟩
    . have he1: (((y.owner:Nat):Int) !=((x.owner:Nat):Int))=true:=by rw[lh];omega
      gi_wp2
      refine tH ym S cm cm BO λW S=>?_;refine bp 0 25 (.slice (s_ b o) l.length cap) ?_;refine bp 1 26 _ ?_;refine bp 2 27 (bZ b (o+z.val*11)) ?_;refine bp 3 28 (bZ b (o+z.val*11+3)) ?_;refine gY 4 29 (.int .u64 y.owner) rfl (bP (λw h=>by obtain⟨_,S⟩:=h;exact(HY.o.below S.b).c3) rfl bF) ?_;refine bp 5 30 (.slice (s_ b o) l.length cap) ?_;refine bp 6 31 (.int .i64 i) ?_;refine bp 7 32 (bZ b (o+i*11)) ?_;refine bp 8 33 (bZ b (o+i*11+3)) ?_;refine gY 9 34 (.int .u64 x.owner) rfl (bP (λw h=>by obtain⟨_,S⟩:=h;exact(HX.o.below S.b).c3) rfl bF) ?_;refine bp 10 35 (.bool true) ?_;refine uy ?_
      gi_upto_region 8 with fail
      refine Z' ym S cm cm BO [⟨w.heap.size,97,1,λ_=>.slice (s_ b o) l.length cap⟩] L9 λW S=>?_;refine bp 1 37 (.slice (s_ b o) l.length cap) ?_;refine bp 2 38 _ ?_;refine bp 3 39 (bZ b (o+z.val*11)) ?_;refine bp 4 40 (bZ b (o+z.val*11)) ?_;refine gY 5 41 (.int .u64 y.id) rfl (bP (λw h=>by obtain⟨_,_,_,S,_⟩:=h;exact(HY.o.below S.b).c0) rfl bF) ?_
      repeat' first|refine Zf ?_|refine JV 0 6 (λK hK=>?_) λK hK=>?_|refine tF 0 λK hK=>?_|refine tF 7 λK hK=>?_|refine tF 8 λK hK=>?_|refine tF 6 λK hK=>?_|(refine J3 S [.int .u64 y.id] Fi oJ au au rfl rfl (by intro v hv;obtain rfl:=gz.1 hv;rfl) rfl λW S=>?_;replace S:=S.ld (k:=0) rfl (g:=λ_=>Value.int .u64 y.id) (λi hi=>by have hi:i<1:=hi;obtain rfl:i=0:=au;rfl);refine gM hK ?_)|(first | refine WL (S.cell (k:=1) rfl (i:=0) Jr) rfl Ma ?_;refine gM hK ?_)|(refine Zl S 0 rfl 0 rfl rfl rfl rfl TO (λ_=>rfl) JW BM λg9 c9 W S=>?_;refine gM hK ?_)|(refine Hq S 1 rfl 0 qv rfl rfl rfl Ma λW S=>?_;refine gM hK ?_)|(first | refine WL (S.cell (k:=0) rfl (i:=0) Jr) rfl Ma ?_;refine gM hK ?_)
      all_goals (
      refine ae ?_
      gi_wp2
      have hk:=S.kept (dz.still (fm _));rw[bX he] at hsn;refine⟨hk.1,hk.2.1,s_ g9 0,c9,?_⟩;rw[hsn.o];have S9:=hk.2.2.pop;unfold Eb;rw[pt,kh];exact(S9.ld (k:=0) rfl (g:=λ_=>.slice (s_ g9 0) (ids.length+1) c9) λi hi=>by have hi:i<1:=hi;obtain rfl:i=0:=au;rfl).vP (λ_ _ h=>h.2) (fm _).fs
      )
   case done=>
    clear S;rintro D ys W0 hD rfl ⟨⟨ya,yc⟩,-,S⟩ hK;rw[<-HT.o] at S
    gi_upto_region 9 with fail
    gi_upto_region 9 with fail
    refine eh ym cm BO ?_
    go_wp2_with (refine fN ?_)
    gi_wp2
    refine xr S (lW.t.and (lW.av _)) au hK λW' S=>?_;exact⟨_,results_tmp rfl _ _ _,.slice ya T.length yc,rfl,S.o0,S.b⟩
   case stop=>
    rintro _ _ _ _ _ _ h _;exact h.elim
 all_goals
  gi_upto_region 0 with fail
  refine eh ym cm BO ?_
  go_wp2_with (refine ew λW S=>?_)
  gi_upto_region 1 with fail
  refine eh ym cm BO ?_
  go_wp2_with (first|(go_at_call 103;refine je S (C1.o _ S.b) λW S=>?_)|refine fN ?_|refine ew λW S=>?_)
  gi_upto_region 2 with fail
  refine eh ym cm BO ?_
  go_wp2_with (first|(with_reducible first|refine jm 14 97 2 S 1 0 (.slice (s_ b o) l.length cap) ?_|refine jm 15 3 5 S 0 0 (.int .i64 i) ?_)|((with_reducible refine cP 18 4 17 ?_);refine cV cm ?_;refine bM (v:=.bool false) (by rw[<-hs];exact(HX.o.below S.b).c2) rfl gU ?_)|refine fN ?_)
  gi_wp2
  exact⟨_,results_tmp rfl _ _ _,.slice none 0 0,rfl,ju _ _ _ _,S.b⟩
theorem IH (l:List aZ)(v:bh)(id:Nat)(hl:l.length<=1000000)(w:aD)(R:cQ w v l):
 Calls prog 130 #[v,.int .u64 id] w λe w'=>∃r,e=.returned r/\D3 w' w.heap.size r (tk (bA l) id)/\dp w w':=z7.1 (Le l v id hl w R)
theorem NR (l:List aZ)(v:bh)(id:Nat)(hl:l.length<=1000000)(w:aD)(R:cQ w v l):
 yr 132 #[v,.int .u64 id] w (.int .u64 (qu (bA l) id:Nat)):=z7.1 (QC l v id hl w R)
theorem St.WM {r q:R4}(S:St w0 d l (r::q::L) O X w):St w0 d l (q::r::L) O X w:=by
 have hp: (bE (q::r::L) O).Perm (bE (r::q::L) O):=by
  grind[bE]
 refine⟨S.fr,λx hx=>S.row x ?_,S.own,λb hb=>S.lo b (hp.mem_iff.1 hb),hp.nodup_iff.2 S.nd,S.fs.mono S.x λk hk=>hp.mem_iff.1 hk,S.fs⟩
 grind
theorem St.nm (_:St w0 d l (⟨b,t,n,f⟩::L) O X w): ∃ob,b=ob:=⟨_,rfl⟩
theorem mi:prog.built 106 []=some #[.int .i64 0,.int .u64 0,.int .u32 0]:=cm
section
theorem tl (dst:Nat)(ty:dD)(h:wpList P ops Q (⟨some dst,.build ty parts,t2,p,af,some g⟩::rest) a w):wpList P ops Q (⟨some dst,.build ty parts,t2,p,af,some g⟩::rest) a w:=h
end
def Mi (n D:Nat) (X:aK->aD->Prop):aK->aD->Prop:=λB w=>X B w/\∀k∈ki w D,n<=k/\k∉B
section
variable {l2:aK}{X':aK->aD->Prop}
theorem sK (h:gX (some D) X):gX none (Mi n D X):=by
 refine⟨fun {B w w'} g b=>?_,fun {B w b} g hb=>?_,λg hm=>⟨h.mono g.1 hm,λk hk=>⟨(g.2 k hk).1,λhb=>(g.2 k hk).2 (hm k hb)⟩⟩,fun {B w w' b t} g hb hbut ht ho _=>?_,(by intros;contradiction)⟩
 . have hD:=c7 (h.dev g.1 rfl).1;exact⟨h.below g.1 b,by rw[lO (b.block D hD)];exact g.2⟩
 . refine⟨h.add g.1 hb,λk hk=>⟨(g.2 k hk).1,λhm=>?_⟩⟩;rcases iI.1 hm with rfl | hm
   . exact Al _ (uj ((h.dev g.1 rfl).2 _ hk) hb)
   . exact(g.2 k hk).2 hm
 . have hD:=(h.dev g.1 rfl).1;have hb2:b∉ki w D:=λhm=>(g.2 b hm).2 hb;have hne:D≠b:=by rintro rfl;grind[JS]
   exact⟨h.but g.1 hb hbut ht ho (.inr λD' e=>by grind),by rw[lO (hbut.block D (c7 hD) hne)];exact g.2⟩
end
theorem T9 (l:Nat->aq)(k:Nat)(p:aq)(i:Nat):bJ (gr l k p) i=if k*3<=i/\i<k*3+3 then aN p (i - k*3) else bJ l i:=by
 unfold bJ gr
 grind
theorem A' {l:Nat->aq}(h:ag w b 191 24 (bJ l))(k:Nat)(p:aq)(e:w'=w.setCells b (k*3) (ah 3 (aN p)).toList):ag w' b 191 24 (bJ (gr l k p)):=by
 rw[e];refine ag.congr (ag.setCells _ _ h) λj hj=>?_;unfold D6;rw[p9,aj,T9];by_cases hk:k*3<=j/\j<k*3+3
 . rw[bC hk,bC hk]
   grind[wV]
 grind
theorem Hs:fu prog 193 51:=⟨⟨_,underlying193,rfl⟩,Yq⟩
instance ine6c60 :td 193 51:=⟨Hs⟩
theorem zR (y:Way): ∀i,i<3->iL y (48+i)=aN y.block i:=λi hi=>by unfold iL;grind
theorem F9 (y:Way): ∀i,i<24->iL y (0+i)=bJ y.first i:=by simp_all[iL]
theorem DC (y:Way): ∀i,i<24->iL y (24+i)=bJ y.second i:=λi hi=>by unfold iL;grind
theorem F':prog.built 106 []=some #[.int .i64 0,.int .u64 0,.int .u32 0]:=cm
section
theorem Ga (dst ty x i:Nat)(h:wpList prog ops Q (⟨some dst,.indexAddr ty (.tmp x) (.tmp i),t2,p,af,none⟩::rest) a w):wpList prog ops Q (⟨some dst,.indexAddr ty (.tmp x) (.tmp i),t2,p,af,none⟩::rest) a w:=h
theorem ixN {E:Nat}(hk:k<8)(hx:a.eval (.tmp x)=.pointer (some ⟨E,0,none⟩))(hi:a.eval (.tmp i)=.int .i64 k)(h:wpList prog ops Q rest (a.put (some dst) (.pointer (some ⟨E,k*3,none⟩))) w):
 wpList prog ops Q (⟨some dst,.indexAddr 191 (.tmp x) (.tmp i),t2,p,af,none⟩::rest) a w:=
 pE (o:=⟨some dst,.indexAddr 191 (.tmp x) (.tmp i),t2,p,af,none⟩) rfl 191 (.tmp x) (.tmp i) rfl (bZ E (k*3)) (by grind[rK]) h
end
theorem abg:prog.built 193 []=some (ah 51 (iL L8)):=cm
theorem abh:prog.built 36 []=some (ah 128 (aw aX)):=cm
theorem acm {E:Nat}(hk:k<8)(hx:a.eval (.tmp x)=.pointer (some ⟨E,o,none⟩))(hi:a.eval (.tmp i)=.int .i64 k)(h:wpList prog ops Q rest (a.put (some dst) (.pointer (some ⟨E,o+k*3,none⟩))) w):wpList prog ops Q (⟨some dst,.indexAddr 191 (.tmp x) (.tmp i),t2,p,af,none⟩::rest) a w:=
 pE (o:=⟨some dst,.indexAddr 191 (.tmp x) (.tmp i),t2,p,af,none⟩) rfl 191 (.tmp x) (.tmp i) rfl (bZ E (o+k*3)) (by grind[KO]) h
theorem aaa (y:Way)(hk:k<8): ∀i,i<3->iL y (k*3+i)=aN (y.first k) i:=λi hi=>by
 unfold iL bJ;grind
theorem aab (y:Way)(hk:k<8): ∀i,i<3->iL y (24+k*3+i)=aN (y.second k) i:=λi hi=>by
 unfold iL bJ;grind
theorem abi:prog.built 191 []=some (ah 24 (bJ ph)):=cm
theorem abj:fZ prog 45:=⟨⟨_,underlying45,rfl⟩,cm⟩
theorem abk:fZ prog 104:=⟨⟨_,underlying104,rfl⟩,cm⟩
theorem bH.pc {P:Nat}(h:bH w P D M s)(f:Fr (some D) l w w')(hP:P∉l):il w' P D M s.ay s.base:=ag.fr h.row f (.inr rfl) (.inr hP)
theorem bH.dv' {P:Nat}{d:Dv}(h:bH w P D M s)(hd:eU w' D d)(f:Fr (some D) l w w')(hP:P∉l)(hM:M∉l):bH w' P D M {s with dv:=d}:=⟨h.pc f hP,hd,h.map.fr f hM,h.ok⟩
theorem abl:fZ prog 67:=⟨⟨_,underlying67,rfl⟩,cm⟩
theorem lT {a:Nat}(ha:du w a=some t)(hb:du w b=some u)(h:t≠u):a≠b:=by grind
theorem bH.Zr {P:Nat}(h:bH w P D M s)(hb:ek M w w')(hm:bU w' M m):bH w' P D M {s with mp:=m}/\Fr none [M] w w':=by
 have hf:Fr none [M] w w':=Fr.me hb (ag.ty h.map) rfl (gz.2 rfl);have hP:P∉ [M]:=λhm=>lT (ag.ty h.row) (ag.ty h.map) nh (gz.1 hm);exact⟨⟨ag.fr h.row hf (.inl rfl) (.inr hP),h.dev.fr hf,hm,h.ok⟩,hf⟩
theorem bH.aac {P:Nat}(h:Mi 0 D (Ae P D M s) B w)(hb:ek M w w')(hm:bU w' M m):Mi 0 D (Ae P D M {s with mp:=m}) B w'/\Fr none [M] w w':=by
 have h1:=bH.Zr h.1 hb hm;have hD:=bH.dlt h.1 D rfl;refine⟨⟨h1.1,?_⟩,h1.2⟩;rw[lO (hb.block D (c7 hD) (by rintro rfl;have:=bH.Ze h.1;grind))];exact h.2
theorem YK:zeroCells36=ah 128 (aw []):=KE
theorem Ba (a:Way)(q:aq)(i:Nat)(hi:i<64)(N:iw)(hN:N=ah 51 (iL a))(w:aD):
 Calls prog 143 #[.agg N,iy q,.int .i64 i] w λe w'=>∃v,e=.returned v/\dh w' w.heap.size v (jh a q i)/\dp w w':=by
 obtain⟨A,hA⟩:=gq (ah 3 (aN q));rw[az hA];obtain⟨i1,hi1⟩:=cM (i / 8);have hl1:i1<8:=au;have hd1: (i:Int) / 8=(i1:Int):=au;obtain⟨B1,HB1⟩:=BU (ah 3 (aN a.block));obtain⟨B2,HB2⟩:=BU (ah 3 (aN (a.first i1)));obtain⟨L,hL⟩:=gq ([a.block,a.first i1,q]);have hLl:L.length=3:=by rw[hL];rfl
 obtain⟨X,HX⟩:=BU (ah 9 (bJ λi=>L.getD i hole));have HBX:=ae (show prog.built 278 [(0,.agg B1),(1,.agg B2),(2,.agg A)]=some X by rw[HB1.o,HB2.o,hA,HX.o,hL];exact V4 _ _ _);have HRL:=ae (show jh a q i=L.filter λp=>decide (p≠hole) by unfold jh;rw[hL,hi1]);have HD1:=ae hd1;have HA:=ae hA;have HN:=ae hN;have HLL:=ae hLl;have S:=ug w;clear hA hN hL hLl hd1 hi1;go_enter func143,ntmps143
 go_upto_region 2 with(first|((with_reducible refine gT 3 193 0 ?_);refine rQ S rfl HN.o rfl λW1 S=>?_)|refine ew λW S=>?_)
 have hR:=S.k1;refine bL S cm λW S=>?_;refine bp 0 10 (bZ w.heap.size 48) ?_;refine gY 1 11 (.agg B1) rfl (pS cm 106 (.tmp 10) pB w.heap.size 48 pB B1 _ (λw hw=>KP (by obtain⟨_,S⟩:=hw;exact S.k1) HB1.o) Ic rfl (by rw[HB1.o,aj];exact eT)) ?_;refine bp 2 12 _ ?_;refine gY 3 13 (.int .i64 i1) rfl (Or.inl ⟨cm,λw hw=>by have h1:=HD1.o;go_simp;exact mT _ au⟩) ?_;refine bp 4 14 (bZ w.heap.size 0) ?_;refine gY 5 15 (bZ w.heap.size (i1*3)) rfl (FJ cm 191 (.tmp 14) (.tmp 13) pB _ (λww=>rK w.heap.size i1 hl1 ww)) ?_;refine gY 6 16 (.agg B2) rfl (pS cm 106 (.tmp 15) pB w.heap.size (i1*3) pB B2 _ (λw hw=>KN (by obtain⟨_,S⟩:=hw;exact S.k1) hl1 HB2.o) Ic rfl (by rw[HB2.o,aj];exact eT)) ?_;refine bp 7 17 (.agg A) ?_;refine gY 8 18 (.agg X) rfl (pf rfl HBX.o) ?_;refine bp 9 19 _ ?_;refine uy ?_;replace S:=((S.pop).pop).yK 106 3 rfl rfl;have S:=ae S
 go_wp2_with fail
 go_loopw [7,19] (λv c wr=>∃(k:Nat) (ga:Option Addr) (gc:Nat) (m:List aq) (Ls:List R4),k<=3/\c=.int .i64 k/\m.length<=k/\v=.slice ga m.length gc/\Hid ((L.take k).filter (λp=>decide (p≠hole))=m/\St w none [] Ls [⟨106,3,.slice ga m.length gc,m.length,eo m⟩] (λ_ _=>True) wr)) (λ_ c _=>3 - (intOf c).toNat)
 case atStart=>exact⟨0,none,0,[],_,kf _,rfl,eO _,rfl,rfl,S.o⟩
 case round=>
  clear S;obtain⟨k,ga,gc,m,Ls,hk,rfl,hml,rfl,hrel⟩:=hrel;obtain⟨hm,S⟩:=hrel.o;have HM:=ae hm;clear hrel hm;by_cases hlt:k<3
  . have hkl:k<L.length:=by rw[HLL.o];exact hlt
    have hsn:=sZ (λp=>decide (p≠hole)) L hkl;obtain⟨p,hp⟩:=cM (L[k]);have hgd:L.getD k hole=p:=by grind
    rw[hp,HM.o] at hsn;obtain⟨C,hC⟩:=gq (ah 3 (aN p));have hix:=λW=>M8 (λi=>L.getD i hole) k hlt W;rw[<-HX.o] at hix;simp only[hgd,<-hC] at hix;have HIX:=ae hix;obtain⟨b,hb⟩:=cM (decide (p=hole));have hneq:=λW=>BZ p hole b hb W;rw[az hC,show iy hole=.agg #[Value.int .i64 0,.int .u64 0,.int .u32 0] from rfl] at hneq;have HC:=ae hC;have HSN:=ae hsn;have HQ:=ae hneq;have HPB:=ae hb;have hlen:m.length<=3:=au;clear hsn hix hgd hp hC hneq hb;cases b with
    | true=>
     have hsn:=HSN.o;rw[bX (by simp[lK HPB.o]),ET] at hsn;have HS2:=ae hsn;clear hsn;have HQ2:=HQ.o
     go_wp2_with (first
   |((with_reducible refine s7 21 278 18 19 ?_);refine Dl rfl rfl HIX.o ?_)
   |refine fN ?_
   |refine ew λW S=>?_)
     go_roundw
     case rel=>grind
     case measure=>exact uO
    | false=>
     have hsn:=HSN.o;rw[bC (by simp[wx HPB.o])] at hsn;have HS2:=ae hsn;clear hsn;have HQ2:=HQ.o
     go_wp2_with (first
   |((with_reducible refine s7 21 278 18 19 ?_);refine Dl rfl rfl HIX.o ?_)
   |((with_reducible refine bN 28 25 27 ?_);refine lZ S 0 rfl 0 rfl rfl rfl rfl cN (aE _) JW BM λg9 c9 W S=>?_)
   |refine fN ?_
   |refine ew λW S=>?_)
     go_roundw
     case rel=>exact⟨k+1,s_ g9 0,c9,m++[p],_,au,by go_num,by simp;omega,by simp,HS2.o,by rw[kh,dU,kG];exact S⟩
     case measure=>exact uO
  . obtain rfl:k=3:=au;go_wp2;go_ret;refine⟨_,rfl,?_,S.b⟩;rw[HRL.o];have h9:=HM.o;rw[tX (by rw[HLL.o];exact eO _)] at h9;rw[h9];exact S.o0
theorem tm (P D M:Nat)(s:Pl)(q:aq)(hq:bt q)(w:aD)(h:bH w P D M s):
 Calls prog 110 #[.pointer (some ⟨P,0,none⟩),iy q] w λe w'=>∃B,e=.returned (.tuple #[.agg B,.int .i64 (dW s q).2.2])/\B=ah 128 (aw (dW s q).2.1)/\bH w' P D M (dW s q).1/\Fr (some D) [] w w':=by
 obtain⟨A,hA⟩:=gq (ah 3 (aN q));have hvq:=az hA;have S:=St.start w (some D) [] (bu P D M s) h;have H0:=ae h;obtain⟨T,hT⟩:=cM (dW s q);have HT:=ae hT;unfold dW at HT;rw[hT,hvq];have HA:=ae hA;obtain⟨ZS,hZS⟩:=gq (ah 128 (aw aX));have HZS:=ae hZS;have HBS:=ae (show prog.built 36 []=some ZS by rw[hZS];exact abh);obtain⟨zb,hzb⟩:=cM (decide (q=hole));have hez:=zz q hole zb hzb;obtain⟨ZH,hZH⟩:=gq (ah 3 (aN hole));rw[hvq,az hZH] at hez;have HBH:=ae (show prog.built 106 []=some ZH by rw[hZH,<-bz];exact F');have HZB:=ae hzb;have C1:=ae λW (X:eU W D s.dv)=>Zk D s.dv (q.1:Int) (by have:=hq.1;unfold bT;omega) W X;have hsk:=B7 h.dev.ok (q.1:Int);obtain⟨r,hr⟩:=cM (eL s.dv (q.1:Int));rw[hr] at C1 HT hsk;obtain⟨d1,bs,c1⟩:=r;simp only at C1 HT hsk;have HSK:=ae hsk;clear hA h hT hZS hzb hZH hvq hr hsk;go_enter func110,ntmps110;cases zb with
 | true=>
  rw[bC (lK HZB.o)] at HT;obtain rfl:=HT.o
  go_wp2_with (first|((with_reducible refine aY 9 106 ?_);refine eW (cells:=ZH) rfl HBH.o ?_)|((with_reducible refine aY 11 36 ?_);refine eW (cells:=ZS) rfl HBS.o ?_)|(refine o7 ?_;exact⟨_,rfl,rfl,S.x,S.fr⟩)|refine fN ?_|refine ew λW S=>?_)
 | false=>
  rw[bX (wx HZB.o)] at HT;obtain⟨B,hB⟩:=gq (ah 128 (aw bs));have HB:=ae hB;have C2:=ae λu W hu=>Pz u bs W hu;obtain⟨cr,hcr⟩:=cM (vH bs);rw[hcr] at C2 HT;obtain⟨zc,hzc⟩:=cM (((cr:Int) !=((q.2.2:Nat):Int)));have HZC:=ae hzc;clear hB hcr hzc
  go_upto_region 3 with(first|((with_reducible refine aY 9 106 ?_);refine eW (cells:=ZH) rfl HBH.o ?_)|refine fN ?_|refine ew λW S=>?_)
  refine bf S cm [⟨w.heap.size,106,3,aN q⟩] L9 λW S=>?_;refine bp 0 13 _ ?_;refine bp 1 14 (bZ P 0) ?_;refine bp 2 15 (bZ P 0) ?_;refine gY 3 16 (bZ D 0) rfl (bP (λw h=>(H0.o.pc h.fr fh).cells.1) rfl abj) ?_;refine bp 4 17 (bZ w.heap.size 0) ?_;refine bp 5 18 (.int .i64 q.1) ?_
  repeat' first|refine Zf ?_|refine qK 7 12 _ ?_|refine qK 8 20 (.agg B) ?_|refine qK 9 21 (.int .i64 c1) ?_|refine qK 12 7 _ ?_|refine JV 6 10 (λK hK=>?_) λK hK=>?_|refine tF 10 λK hK=>?_|refine tF 6 λK hK=>?_|refine tF 11 λK hK=>?_|(go_wp2_with fail;refine(C1.o _ S.x.dev).mono ?_;rintro e W ⟨B1,rfl,hB1,hd,hf⟩;obtain rfl:B=B1:=HB.o.trans hB1.symm;replace S:=S.call hf (λD e=>e) fh (bu P D M {s with dv:=d1}) (λB h=>bH.dv' h hd hf fh fh);clear hB1 hd hf;refine gM hK ?_;clear hK K)|(refine bG (dst:=6) S zeroValue36 ij rfl λE6 W S=>?_;refine gM hK ?_;clear hK K)|(refine dL S 0 rfl rfl rfl HB.o qk (bV _) λW S=>?_;refine gM hK ?_;clear hK K)
  all_goals (
   refine ae ?_;by_cases g1:c1=41
   case pos=>
    subst g1;rw[bC rfl] at HT;obtain rfl:=HT.o
    go_wp2_with (first|((with_reducible refine aY 25 36 ?_);refine eW (cells:=ZS) rfl HBS.o ?_)|(refine o7 ?_;exact⟨_,rfl,rfl,S.x,S.fr⟩)|refine ew λW S=>?_)
   have g2: (c1==41)=false:=by rw[k'];exact g1
   rw[bX g1] at HT;by_cases g3:c1=0
   case neg=>
    have g4: (c1 != 0)=true:=lh.2 g3;rw[bC g3] at HT;obtain rfl:=HT.o;clear g1 g3
    go_wp2_with (first|((with_reducible refine aY 29 36 ?_);refine eW (cells:=ZS) rfl HBS.o ?_)|(refine o7 ?_;exact⟨_,rfl,rfl,S.x,S.fr⟩)|refine ew λW S=>?_)
   subst g3;rw[bX (λh=>h rfl)] at HT;clear g1 g2
   go_upto_region 8 with(fail)
   refine bf S cm [⟨w.heap.size,106,3,aN q⟩] L9 λW S=>?_;refine bp 0 32 (.slice (s_ E6 0) 128 128) ?_;refine bp 2 34 (bZ w.heap.size 2) ?_;refine gY 3 35 (.int .u32 q.2.2) rfl (bP (λw h=>ag.cell (h.row 0 rfl) (i:=2) qv) rfl abk) ?_;refine mO 1 λK hK=>?_
   go_wp2_with fail
   have hR:=S.k0;have hR:=eX.ints (eX.sec hR HSK.o);refine qJ (C2.o _ _ hR) ?_;clear hR;refine gM hK ?_;clear hK K;refine gY 4 36 (.bool zc) rfl (Or.inl ⟨cm,λw hw=>by have h9:=HZC.o;go_simp⟩) ?_;refine bp 5 31 _ ?_;refine uy ?_;cases zc with
   | true=>
    rw[bC (by have h9:=HZC.o;rw[lh] at h9;omega)] at HT;obtain rfl:=HT.o
    go_wp2_with (first
   |((with_reducible refine aY 37 36 ?_);refine eW (cells:=ZS) rfl HBS.o ?_)
   |(refine o7 ?_;exact⟨_,rfl,rfl,S.x,S.fr⟩)
   |refine ew λW S=>?_)
   | false=>
    rw[bX (by have h9:=HZC.o;rw[DY] at h9;omega)] at HT;obtain rfl:=HT.o
    go_wp2_with (first|(refine o7 ?_;exact⟨_,rfl,rfl,S.x,S.fr⟩)|refine fN ?_|refine ew λW S=>?_)
  )
theorem yT (P D M:Nat)(s:Pl)(ho:s.dv.ops<=1000000000)(i:Int)(hi:bT i)(T:dD)(v:bh)(b:aK)(hb:b.length<=128)(w:aD)(h:bH w P D M s)(hv:eX w T v b):
 Calls prog 184 #[.pointer (some ⟨P,0,none⟩),.int .i64 i,v] w λe w'=>e=.returned (.tuple #[iy (jG s i b).2.1,.int .i64 (jG s i b).2.2])/\bH w' P D M (jG s i b).1/\Fr (some D) [] w w':=by
 have S:=St.start w (some D) [] ((bu P D M s).sl T 1 v b.length (aQ b)) ⟨h,hv.1,λ_ _ _=>by simp⟩;have H0:=ae h;have HV:=ae hv.2;obtain⟨U,hU⟩:=cM (jG s i b);have HT:=ae hU;unfold jG at HT;rw[hU];have hok:=ED hb hv.2;obtain⟨A,hA⟩:=gq (ah 128 (aw b));have C1:=ae λW (X:eU W D s.dv)=>Wg D s.dv ho i (sY b) hok A (hA.trans AB) W X;have hz:=KK (d:=s.dv) (i:=i) (s:=sY b);obtain⟨r,hr⟩:=cM (eN s.dv i (sY b));rw[hr] at C1 HT hz;obtain⟨d1,c1⟩:=r;simp only at C1 HT hz;have C2:=ae λu W hu=>Pz u (sY b) W hu;obtain⟨cr,hcr⟩:=cM (vH (sY b));rw[hcr] at C2 HT;have HOK:=ae hok;have HA:=ae hA;have hbl:=hb;obtain⟨ZH,hZH⟩:=gq (ah 3 (aN hole));have HZH:=ae hZH;have HBH:=ae (show prog.built 106 []=some ZH by rw[hZH,<-bz];exact F');have HB:=ae hb;clear h hU hr hok hcr hA hZH hb hbl hv;go_enter func184,ntmps184
 go_upto_region 3 with(first|with_reducible refine jb 8 36 S zeroValue36 YK λW S=>?_|((with_reducible refine dH 6 106 ?_);refine gD S D8 bz rfl λWA S=>?_)|((with_reducible refine vd 10 11 ?_);refine Nf S 0 (s:=[]) (bs:=b) rfl (q:=0) rfl ⟨S.x.2.1,HV.o⟩ (by show 0+b.length<=128;have:=HB.o;omega) HB.o oC ue rfl rfl λW S=>?_))
 replace S:=S.vP (X':=Ae P D M s) (λB w h=>h.1) (bu P D M s);rw[wv] at S;refine bf S cm [⟨WA.heap.size,36,128,aw b⟩] L9 λW S=>?_;refine bp 0 13 _ ?_;refine bp 1 14 (bZ P 0) ?_;refine bp 2 15 (bZ P 0) ?_;refine gY 3 16 (bZ D 0) rfl (bP (λw h=>(H0.o.pc h.fr fh).cells.1) rfl abj) ?_;refine bp 4 17 _ ?_;refine gY 5 18 (.agg A) rfl (lq (b:=WA.heap.size) (t:=36) (n:=128) (f:=aw b) (λw h=>h.row 0 rfl) rfl HA.o qk) ?_;refine mO 6 λK hK=>?_
 go_wp2_with fail
 refine(C1.o _ S.x.dev).mono ?_;rintro e W ⟨rfl,hd,hf⟩;replace S:=S.call hf (λD e=>e) fh (bu P D M {s with dv:=d1}) (λB h=>bH.dv' h hd hf fh fh);clear hd hf;refine gM hK ?_;clear hK K;refine bp 7 9 _ ?_;refine uy ?_;by_cases g1:c1=0
 case neg=>
  have g2: (c1 != 0)=true:=lh.2 g1;rw[bX g1] at HT;obtain rfl:=HT.o;clear g1
  go_wp2_with (first|with_reducible refine js 106 6 22 S 1 HZH.o (aE _) λW S=>?_|((with_reducible refine aY 22 106 ?_);refine eW (cells:=ZH) rfl HBH.o ?_)|((with_reducible refine aJ ?_);go_must (refine bj S 1 rfl rfl rfl bd rfl ?_;exact⟨by rw[az (q:=hole) rfl];rfl,S.x,S.fr⟩)))
 subst g1;rw[bC rfl] at HT;obtain⟨k,rfl⟩: ∃k:Nat,i=(k:Int):=⟨i.toNat,by have:=(hz rfl).1;omega⟩;rw[BQ] at HT;obtain rfl:=HT.o;obtain⟨PA,hPA⟩:=gq (ah 3 (aN (k,s.ay,cr)));have HPA:=ae hPA;have HBP:=ae (show prog.built 106 [(0,.int .i64 k),(1,.int .u64 s.ay),(2,.int .u32 cr)]=some PA by rw[hPA];kernel_rfl);clear hPA hz
 go_upto_region 6 with(fail)
 refine bf S cm [] (by intro r hr;cases hr) λW S=>?_;refine bp 0 24 _ ?_;refine bp 1 25 _ ?_;refine bp 2 26 (bZ P 0) ?_;refine bp 3 27 (bZ P 2) ?_;refine gY 4 28 (.int .u64 s.ay) rfl (bP (λw h=>(H0.o.pc h.fr fh).cells.2.2.1) rfl bF) ?_;refine bp 5 29 (.slice (s_ WA.heap.size 0) 128 128) ?_;refine mO 6 λK hK=>?_
 go_wp2_with fail
 have hR:=S.k0;have hR:=eX.ints (eX.sec (s:=sY b) (E:=WA.heap.size) (by unfold ag;rw[<-AB];exact hR) HOK.o);refine(C2.o _ _ hR).mono ?_;rintro e W ⟨rfl,rfl⟩;clear hR;refine gM hK ?_;clear hK K;refine gY 7 31 (.agg PA) rfl (pf rfl HBP.o) ?_;refine mO 8 λK hK=>?_;refine dL S 1 rfl rfl rfl HPA.o bd (aE _) λW S=>?_;refine gM hK ?_;clear hK K;refine bp 9 7 _ ?_;refine uy ?_
 go_wp2_with (first|((with_reducible refine aJ ?_);go_must (refine bj S 1 rfl rfl rfl bd rfl ?_;exact⟨by rw[az (q:=(k,s.ay,cr)) rfl];rfl,S.x,S.fr⟩)))
theorem DD (P D M:Nat)(s:Pl)(ho:s.dv.ops<=1000000000)(T:dD)(hT:T≠206)(v:bh)(b:aK)(w:aD)(h:bH w P D M s)(hv:eX w T v b):
 Calls prog 141 #[.pointer (some ⟨P,0,none⟩),v] w λe w'=>e=.returned (.tuple #[iy (pN s b).2.1,.int .i64 (pN s b).2.2])/\bH w' P D M (pN s b).1/\Fr (some D) [M] w w':=by
 obtain⟨bo,bcap,rfl,hbc,hbm⟩:=hv.form;obtain⟨V,hV⟩:=gq (Value.slice bo b.length bcap);have S:=St.start w (some D) [M] ((bu P D M s).sl T 1 V b.length (aQ b)) ⟨h,by rw[hV];exact hv.1,λ_ _ _=>by simp⟩;have H0:=ae h;have HB:=ae hv.2;have HT2:=ae hT;obtain⟨U,hU⟩:=cM (pN s b);have HT:=ae hU;unfold pN at HT;rw[hU];obtain⟨ZH,hZH⟩:=gq (ah 3 (aN hole));have HZH:=ae hZH;have HBH:=ae (show prog.built 106 []=some ZH by rw[hZH,<-bz];exact F');have CA:=ae λW (X:bU W M s.mp)=>JP M s.mp W X;have HV:=ae hV;clear h hv hU hZH hV hT;by_cases hl:b.length > 128
 . rw[bC hl] at HT;obtain rfl:=HT.o;have hd:decide ((b.length:Int) > 128)=true:=ly au;go_enter func141,ntmps141
   go_wp2_with (first|(with_reducible first|refine jb 4 106 S D8 bz λW S=>?_|refine js 106 4 12 S 0 HZH.o (aE _) λW S=>?_)|((with_reducible refine aY 12 106 ?_);refine eW (cells:=ZH) rfl HBH.o ?_)|((with_reducible refine aJ ?_);go_must (refine bj S 0 rfl rfl rfl bd rfl ?_;exact⟨by rw[az (q:=hole) rfl];rfl,S.x.1,S.fr⟩)))
 rw[bX hl] at HT;have HL:=ae (Nat.le_of_not_lt hl);have hd:decide ((b.length:Int) > 128)=false:=iE au;clear hl;go_enter func141,ntmps141
 go_upto_region 3 with(first|((with_reducible refine dH 4 106 ?_);refine gD S D8 bz rfl λWA S=>?_))
 cases ha:iF s.mp with
 | none=>
  obtain⟨a1,a2,a3⟩:=FC ha;rw[ha] at HT;obtain rfl:=HT.o;have CA2:=ae CA.o;rw[a1,a2,a3] at CA2;clear a1 a2 a3 ha;have c1:=S.x.1.row.cells.2.1
  go_wp2_with (first|with_reducible refine js 106 4 23 S 0 HZH.o (aE _) λW S=>?_|(go_at_call 183;refine(CA2.o _ S.x.1.map).mono ?_;rintro e W ⟨rfl,hm,hb⟩;clear c1;replace S:=S.call (S.x.1.rL hm hb).2 (by intros;contradiction) (λk hk=>.inl hk) (bu P D M s) (λB X=>(X.1.rL hm hb).1);clear hm hb)|((with_reducible refine aY 23 106 ?_);refine eW (cells:=ZH) rfl HBH.o ?_)|((with_reducible refine aJ ?_);go_must (refine bj S 0 rfl rfl rfl bd rfl ?_;exact⟨by rw[az (q:=hole) rfl];rfl,S.x,S.fr⟩)))
 | some i=>
  obtain⟨hi1,hst,-,-⟩:=nW ha;have hmm:sX (ig s.mp i 2) (i:Nat) 2 1=s.mp:=by
   unfold sX isB;rw[bC (ly ⟨au,au,by rw[BQ,Ab]⟩),BQ];exact Tu hst
  have CF:=ae λW (X:bU W M (ig s.mp i 2))=>MX M (ig s.mp i 2) (i:Nat) (by unfold bT;omega) W X;rw[hmm] at CF;clear hmm hst;obtain⟨a1,a2,a3⟩:=zF ha;rw[ha] at HT;have CA2:=ae CA.o;rw[a1,a2,a3] at CA2;have CW:=ae λW (X:bH W P D M {s with mp:=ig s.mp i 2}) (Y:eX W T V b)=>yT P D M {s with mp:=ig s.mp i 2} ho (i:Nat) (by unfold bT;omega) T V b HL.o W X Y;clear a1 a2 a3 ha hi1;have hw:jG {s with mp:=ig s.mp i 2} (i:Nat) b=({(jG s (i:Nat) b).1 with mp:=ig s.mp i 2},(jG s (i:Nat) b).2):=rfl;have hsm: (jG s (i:Nat) b).1.mp=s.mp:=rfl;rw[hw] at CW;obtain⟨r,hr⟩:=cM (jG s (i:Nat) b);simp only[hr] at CW HT hsm;clear hw hr;obtain⟨s',q,er⟩:=r;simp only at CW HT hsm;obtain⟨A,hA⟩:=gq (ah 3 (aN q));rw[az hA] at CW;have HA:=ae hA;have HSM:=ae hsm;clear hA hsm;have c1:=S.x.1.row.cells.2.1
  go_upto_region 4 with(first|(go_at_call 183;refine(CA2.o _ S.x.1.map).mono ?_;rintro e W ⟨rfl,hm,hb⟩;clear c1;replace S:=S.call (S.x.1.rL hm hb).2 (by intros;contradiction) (λk hk=>.inl hk) ((bu P D M {s with mp:=ig s.mp i 2}).sl T 1 V b.length (aQ b)) (λB X=>⟨(X.1.rL hm hb).1,X.2.1.but hb X.1.Ze (yl HT2.o),X.2.2⟩);clear hm hb))
  have CW2:=ae CW;clear CW;by_cases g1:er=0
  . rw[bC g1] at HT;obtain rfl:=HT.o;subst g1
    go_wp2_with (first|(with_reducible refine jr 42 106 8 S 0 HA.o ?_)|with_reducible refine js 106 4 42 S 1 HA.o (aE _) λW S=>?_|(go_at_call 184;rw[<-HV.o];refine(CW2.o _ S.x.1 ⟨S.x.2.1,HB.o⟩).mono ?_;rintro e W ⟨rfl,hp,hf⟩;replace S:=S.call hf (λ_ e=>e) (by intros;contradiction) (bu P D M {s' with mp:=ig s.mp i 2}) (λB _=>hp);clear hp hf)|((with_reducible refine aS 106 8 30 ?_);refine kP S rfl rfl HA.o bd rfl (by rfl) (aE _) λW S=>?_)|((with_reducible refine aJ ?_);go_must (refine bj S 1 rfl rfl rfl bd rfl ?_;exact⟨by rw[HA.o];rfl,S.x,S.fr⟩)))
  . have g2: (er != 0)=true:=lh.2 g1;rw[bX g1] at HT;obtain rfl:=HT.o;clear g1
    go_wp2_with (first|with_reducible refine js 106 4 40 S 1 HZH.o (aE _) λW S=>?_|(go_at_call 184;rw[<-HV.o];refine(CW2.o _ S.x.1 ⟨S.x.2.1,HB.o⟩).mono ?_;rintro e W ⟨rfl,hp,hf⟩;replace S:=S.call hf (λ_ e=>e) (by intros;contradiction) (bu P D M {s' with mp:=ig s.mp i 2}) (λB _=>hp);clear hp hf)|((with_reducible refine aS 106 8 30 ?_);refine kP S rfl rfl HA.o bd rfl (by rfl) (aE _) λW S=>?_;have c1:=S.x.row.cells.2.1)|(go_at_call 179;refine(CF.o _ S.x.map).mono ?_;rintro e W ⟨rfl,hm,hb⟩;clear c1;replace S:=S.call (S.x.rL hm hb).2 (by intros;contradiction) (λk hk=>.inl hk) (bu P D M s') (λB X=>by have h9:=(X.rL hm hb).1;rw[<-HSM.o] at h9;exact h9);clear hm hb)|((with_reducible refine aY 40 106 ?_);refine eW (cells:=ZH) rfl HBH.o ?_)|((with_reducible refine aJ ?_);go_must (refine bj S 1 rfl rfl rfl bd rfl ?_;exact⟨by rw[az (q:=hole) rfl];rfl,S.x,S.fr⟩)))
theorem tN (P D M:Nat)(s:Pl)(ho:s.dv.ops<=1000000000)(i:Int)(hi:bT i)(T:dD)(v:bh)(b:aK)(w:aD)(h:bH w P D M s)(hv:eX w T v b):
 Calls prog 259 #[.pointer (some ⟨P,0,none⟩),.int .i64 i,v] w λe w'=>e=.returned (.tuple #[iy (dq s i b).2.1,.int .i64 (dq s i b).2.2])/\bH w' P D M (dq s i b).1/\Fr (some D) [] w w':=by
 obtain⟨bo,bcap,rfl,hbc,hbm⟩:=hv.form;obtain⟨V,hV⟩:=gq (Value.slice bo b.length bcap);have S:=St.start w (some D) [] ((bu P D M s).sl T 1 V b.length (aQ b)) ⟨h,by rw[hV];exact hv.1,λ_ _ _=>by simp⟩;have HB:=ae hv.2;have HI:=ae hi;obtain⟨U,hU⟩:=cM (dq s i b);have HT:=ae hU;unfold dq at HT;rw[hU];obtain⟨ZH,hZH⟩:=gq (ah 3 (aN hole));have HZH:=ae hZH;have HBH:=ae (show prog.built 106 []=some ZH by rw[hZH,<-bz];exact F');have CT:=ae λW (X:bU W M s.mp)=>Cd M s.mp W X;have HV:=ae hV;clear h hv hU hZH hV;by_cases hl:b.length > 128;rw[bC hl] at HT;obtain rfl:=HT.o;have hd:decide ((b.length:Int) > 128)=true:=ly au;go_enter func259,ntmps259
 rotate_left
 rw[bX hl] at HT;have HL:=ae (Nat.le_of_not_lt hl);have CW:=ae λW (X:bH W P D M s) (Y:eX W T V b)=>yT P D M s ho i HI.o T V b HL.o W X Y;obtain⟨z,hz⟩:=cM (Hf (uP s.mp 2) i);have hz2:=hz;rw[Tv] at hz2;have HH:=ae λa r W (hr:kr W a r (uP s.mp 2))=>hz ▸ UW r _ i W (FD hr);have hd:decide ((b.length:Int) > 128)=false:=iE au;clear hl hz;go_enter func259,ntmps259
 go_upto_region 3 with(refine ew λW S=>?_)
 have c1:=S.x.1.row.cells.2.1;rcases z with _ | _;rw[bX (wx hz2.symm.symm)] at HT;obtain rfl:=HT.o
 rotate_left
 rw[bC (lK hz2)] at HT;obtain⟨s',q,er⟩:=U;rw[HT.o] at CW;obtain⟨A,hA⟩:=gq (ah 3 (aN q));simp only at CW;rw[az hA] at CW;have HA:=ae hA;clear hA
 all_goals
  go_wp2_with (first|((with_reducible refine aY 11 106 ?_);refine eW (cells:=ZH) rfl HBH.o ?_)|(go_at_call 26;refine(CT.o _ S.x.1.map).mono ?_;rintro e W ⟨r1,rfl,hs1,hb⟩;have HS:=ae (HH.o _ _ _ hs1);clear c1 hs1;replace S:=S.below hb;clear hb)|(go_at_call 281;refine HS.o.mono ?_;rintro e W ⟨rfl,hb⟩;clear HS;replace S:=S.below hb;clear hb)|((with_reducible refine aY 20 106 ?_);refine eW (cells:=ZH) rfl HBH.o ?_)|(go_at_call 184;rw[<-HV.o];refine(CW.o _ S.x.1 ⟨S.x.2.1,HB.o⟩).mono ?_;rintro e W ⟨rfl,hp,hf⟩;replace S:=S.call hf (λ_ e=>e) (by intros;contradiction) (bu P D M s') (λB _=>hp);clear hp hf)|refine ew λW S=>?_|(refine o7 ?_;exact⟨by rw[az (q:=hole) rfl];rfl,S.x.1,S.fr⟩)|(refine o7 ?_;exact⟨by rw[HA.o];rfl,S.x,S.fr⟩))
theorem Bb (P D M:Nat)(s:Pl)(q:aq)(hq:bt q)(w:aD)(h:bH w P D M s):
 Calls prog 135 #[.pointer (some ⟨P,0,none⟩),iy q] w λe w'=>e=.returned (.int .i64 (wQ s q).2)/\bH w' P D M (wQ s q).1/\Fr none [M] w w':=by
 obtain⟨A,hA⟩:=gq (ah 3 (aN q));have hvq:=az hA;have S:=St.start w none [M] (sK (n:=0) (bu P D M s)) ⟨h,λk hk=>⟨kf _,by simp⟩⟩;have HP:Hid (∀W,Fr none [M] w W->il W P D M s.ay s.base):=ae λW f=>ag.fr h.row f (.inl rfl) (.inr (by rw[gz];exact h.ne));have CF:=ae λW (X:bU W M s.mp)=>MX M s.mp (q.1:Int) (by have:=hq.1;unfold bT;omega) W X;have CL:=ae λW (X:bU W M s.mp)=>To M s.mp (q.1:Int) (by have:=hq.1;unfold bT;omega) W X;obtain⟨T,hT⟩:=cM (wQ s q);have HT:=ae hT;unfold wQ at HT;rw[hT,hvq];have HA:=ae hA;obtain⟨zb,hzb⟩:=cM (decide (q=hole));have hez:=zz q hole zb hzb;obtain⟨ZH,hZH⟩:=gq (ah 3 (aN hole));rw[hvq,az hZH] at hez;have HBH:=ae (show prog.built 106 []=some ZH by rw[hZH,<-bz];exact F');have HZB:=ae hzb;clear hA h hT hzb hZH hvq;go_enter func135,ntmps135;cases zb with
 | true=>
  rw[bC (lK HZB.o)] at HT;obtain rfl:=HT.o
  go_wp2_with (first|((with_reducible refine aY 7 106 ?_);refine eW (cells:=ZH) rfl HBH.o ?_)|refine fN ?_|refine ew λW S=>?_)
  go_ret;exact⟨rfl,S.x.1,S.fr⟩
 | false=>
  rw[bX (wx HZB.o)] at HT
  go_upto_region 3 with(first|((with_reducible refine aY 7 106 ?_);refine eW (cells:=ZH) rfl HBH.o ?_)|refine fN ?_|refine ew λW S=>?_)
  obtain⟨zg,hzg⟩:=cM (decide (s.base<q.2.1));have HZG:=ae hzg;clear hzg;refine bf S cm [⟨w.heap.size,106,3,aN q⟩] L9 λW S=>?_;refine bp 0 10 (bZ w.heap.size 1) ?_;refine bp 1 11 (.int .u64 q.2.1) ?_;refine bp 2 12 _ ?_;refine bp 3 13 (bZ P 0) ?_;refine bp 4 14 (bZ P 3) ?_;refine gY 5 15 (.int .u64 s.base) rfl (bP (λw h=>(HP.o _ h.fr).cells.2.2.2) rfl bF) ?_;refine gY 6 16 (.bool zg) rfl (Or.inl ⟨cm,λw hw=>by have h9:=HZG.o;go_simp⟩) ?_;refine bp 7 9 _ ?_;refine uy ?_;rcases zg with _ | _;rw[bX (by have h9:=wx HZG.o;omega)] at HT;obtain rfl:=HT.o
  go_upto_region 5 with(fail)
  rotate_left
  rw[bC (by have h9:=lK HZG.o;omega)] at HT;obtain rfl:=HT.o
  go_upto_region 4 with(fail)
  all_goals
   refine bf S cm [⟨w.heap.size,106,3,aN q⟩] L9 λW S=>?_
   first | refine bp 0 24 _ ?_ | refine bp 0 17 _ ?_
   first | refine bp 1 25 (bZ P 0) ?_ | refine bp 1 18 (bZ P 0) ?_
   first | refine bp 2 26 (bZ P 1) ?_ | refine bp 2 19 (bZ P 1) ?_
   first | refine gY 3 27 (bZ M 0) rfl (bP (λw h=>(HP.o _ h.fr).cells.2.1) rfl abl) ?_ | refine gY 3 20 (bZ M 0) rfl (bP (λw h=>(HP.o _ h.fr).cells.2.1) rfl abl) ?_
   first | refine bp 4 28 (bZ w.heap.size 0) ?_ | refine bp 4 21 (bZ w.heap.size 0) ?_
   first | refine bp 5 29 (.int .i64 q.1) ?_ | refine bp 5 22 (.int .i64 q.1) ?_
   refine mO 6 λK hK=>?_
   go_wp2_with fail
   first | refine(CL.o _ S.x.1.map).mono ?_ | refine(CF.o _ S.x.1.map).mono ?_
   rintro e W ⟨rfl,hm,hb⟩;have hf:=(bH.aac S.x hb hm).2;replace S:=S.call hf (by intros;contradiction) (λk hk=>.inl hk) (sK (bu P D M {s with mp:=_})) (λB X=>(bH.aac X hb hm).1);clear hm hb hf;refine gM hK ?_;clear hK K;refine bp 7 4 _ ?_;refine uy ?_;go_wp2;go_ret;exact⟨rfl,S.x.1,S.fr⟩
end Go.Proofs.YtklligbjoplbgaaGreat
