/- Part 5 of 15 of the proof of WholeBytes; no conditions. -/
import Derived.Test.YtklligbjoplbgaaGreatNad
import Derived.WalkMore
import Derived.Lib.BufferWrite
import Derived.Deep.DeepMust
import Derived.Shelf.SlSortCmp.SmallK
import Derived.Shelf.Small.Bits
import Derived.Laws.MakeOwn
namespace Go.Proofs.YtklligbjoplbgaaGreat
set_option linter.all false
set_option maxRecDepth 100000
set_option maxHeartbeats 64000000
open Go.RowKit Lib List Nat _root_.Go.Proofs.Tryz Go.Shelf
variable {Z cells cur:iw}{a:Act}{K:Act->aD->Prop}{parts:Array (Nat×Operand)}{listed:Array Bool}{af:Array Edge}{ops:Array Oper}{ts:Array dD}{A args:Array bh}{str:lf}{R:Ending->World->Prop}{Q:Exit->Act->aD->Prop}{fn:Func}{B bs l l2:aK}{X X':aK->aD->Prop}{vs:List (Nat×bh)}{rest:List Oper}{xs xs':List bh}{D E base by' c cap dst fuel i ix j k m n size st ay sz x y z:Nat}{f g:Nat->bh}{o o' oi op:Oper}{q r:Operand}{gd:Option (Nat×Bool)}{d d2:Option Nat}{s s1:Pl}{P Q':Prop}{root:aq}{p pp:String}{T dT e sT t t2 ty:dD}{q2:Tmp}{α β:Type}{v v' zv:bh}{w w' w0 wS:aD}{S:aD->Prop}{SS:World->Prop}
structure Way where
 first:Nat->aq
 second:Nat->aq
 block:aq
def L8:Way:=⟨ph,ph,hole⟩
def iL (a:Way):Nat->bh:=λi=>if i<24 then bJ a.first i else if i<48 then bJ a.second (i - 24) else aN a.block (i - 48)
theorem Di (a:Way): ∀i,(iL a i).oneCell'=true:=by
 grind[iL,fi,aE]
theorem Yq: (prog.info? 193).map (·.size)=some 51:=cm
theorem KM: (#[Value.int .i64 0,.int .u64 0,.int .u32 0,Value.int .i64 0,.int .u64 0,.int .u32 0,Value.int .i64 0,.int .u64 0,.int .u32 0,Value.int .i64 0,.int .u64 0,.int .u32 0,Value.int .i64 0,.int .u64 0,.int .u32 0,Value.int .i64 0,.int .u64 0,.int .u32 0,Value.int .i64 0,.int .u64 0,.int .u32 0,Value.int .i64 0,.int .u64 0,.int .u32 0,Value.int .i64 0,.int .u64 0,.int .u32 0,Value.int .i64 0,.int .u64 0,.int .u32 0,Value.int .i64 0,.int .u64 0,.int .u32 0,Value.int .i64 0,.int .u64 0,.int .u32 0,Value.int .i64 0,.int .u64 0,.int .u32 0,Value.int .i64 0,.int .u64 0,.int .u32 0,Value.int .i64 0,.int .u64 0,.int .u32 0,Value.int .i64 0,.int .u64 0,.int .u32 0,Value.int .i64 0,.int .u64 0,.int .u32 0]:iw)=ah 51 (iL L8):=rfl
theorem iz {w:aD} {b:Nat} {t:dD} {m:Nat} {f:Nat->bh} (h:ag w b t m f) {o n:Nat} (hn:o+n<=m):w.there b o n:=λj hj=>
 ⟨by grind[ag.cell],ag.frozen h _⟩
theorem wV (n:Nat) (g:Nat->bh) (j o:Nat) (h:o<=j/\j<o+n): (λi=>(ah n g).toList.getD i (.int .u8 0)) (j - o)=g (j - o):=by
 show(ah n g).toList.getD (j - o) (.int .u8 0)=_;rw[DZ,qx (xs:=ah n g),aF,bC au];rfl
theorem Tw {a:Way}(h:ag w E 193 51 (iL a))(l:Nat->aq):ag (w.setCells E 0 (ah 24 (bJ l)).toList) E 193 51 (iL {a with first:=l}):=by
 refine ag.congr (ag.setCells _ 0 h) λj hj=>?_;unfold D6;rw[p9,aj];by_cases hk:0<=j/\j<0+24
 . rw[bC hk,wV 24 _ j 0 hk]
   simp_all[iL]
 simp_all[bX,iL]
theorem P6 {a:Way}(h:ag w E 193 51 (iL a))(l:Nat->aq):ag (w.setCells E 24 (ah 24 (bJ l)).toList) E 193 51 (iL {a with second:=l}):=by
 refine ag.congr (ag.setCells _ 24 h) λj hj=>?_;unfold D6;rw[p9,aj];by_cases hk:24<=j/\j<24+24
 . rw[bC hk,wV 24 _ j 24 hk]
   simp_all[iL,bX]
 . rw[bX hk];unfold iL
   grind
theorem Tx {a:Way}(h:ag w E 193 51 (iL a))(q:aq):ag (w.setCells E 48 (ah 3 (aN q)).toList) E 193 51 (iL {a with block:=q}):=by
 refine ag.congr (ag.setCells _ 48 h) λj hj=>?_;unfold D6;rw[p9,aj];by_cases hk:48<=j/\j<48+3
 . rw[bC hk,wV 3 _ j 48 hk];unfold iL
   grind
 simp_all[bX,iL]
theorem KN {a:Way}(h:ag w E 193 51 (iL a))(hk:k<8){A:iw}(hA:A=ah 3 (aN (a.first k))):w.rangeAt E (k*3) A.toList:=by
 intro j v hv;rw[hA,qx (xs:=ah 3 _),aF] at hv;split at hv
 . next hj=>
   cases hv;rw[ag.cell h (i:=k*3+j) au];unfold iL bJ
   grind
 . cases hv
theorem KO (E o k:Nat) (hk:k<8) (W:aD): (Instr.indexAt 191 (.pointer (some ⟨E,o,none⟩)) (.int .i64 k)).run prog W=.ok (.pointer (some ⟨E,o+k*3,none⟩)) W:=by
 obtain⟨it,hi,hs⟩:=oE eT;have hk2: (k:Int)<8:=au;simp[Instr.indexAt,asIntOf,D7 Hn,Instr.sureAddr,sizeOf,typeInfo,hi,hs,Addr.add]
 grind
theorem wW {s:aK}(hs:fa s){l:Nat->aq}(h:sE s=some l): ∀i,bt (l i):=by
 intro i;unfold sE at h;split at h
 . cases h;unfold Az;split
   . exact zB λx hx=>hs.2 x (vF (rD hx))
   grind[bt,hole]
 . cases h
theorem bD:bt hole:=⟨by decide,by decide,by decide⟩
theorem oF {s:Pl} (h:nO s.dv) (q:aq): ∀i,bt ((aO s q).2.1 i):=by
 intro i;unfold aO;split
 . exact bD
 . cases hn:sE (dW s q).2.1 with
   | none=>exact bD
   | some l=>exact wW (wU h q) hn i
def cg (s:Pl) (root:aq) (i:Nat):Pl×(Way×Int):=
 if(aO s root).2.2≠0 then((aO s root).1,(L8,(aO s root).2.2)) else
 if(aO (aO s root).1 ((aO s root).2.1 (i / 8))).2.2≠0 then((aO (aO s root).1 ((aO s root).2.1 (i / 8))).1,(L8,(aO (aO s root).1 ((aO s root).2.1 (i / 8))).2.2)) else
 ((aO (aO s root).1 ((aO s root).2.1 (i / 8))).1,
   (⟨(aO s root).2.1,(aO (aO s root).1 ((aO s root).2.1 (i / 8))).2.1,(aO (aO s root).1 ((aO s root).2.1 (i / 8))).2.1 (i % 8)⟩,0))
theorem KP {a:Way}(h:ag w E 193 51 (iL a)){A:iw}(hA:A=ah 3 (aN a.block)):w.rangeAt E 48 A.toList:=by
 intro j v hv;rw[hA,qx (xs:=ah 3 _),aF] at hv;split at hv
 . next hj=>
   cases hv;rw[ag.cell h (i:=48+j) au];unfold iL
   grind
 . cases hv
theorem RH {s:Pl} (h:nO s.dv) (q:aq):nO (dW s q).1.dv:=by
 unfold dW;split
 . exact h
 . exact xV h
theorem wX {s:Pl} (h:nO s.dv) (q:aq):nO (aO s q).1.dv:=by
 grind[aO,RH]
theorem mf {s:Pl} (h:nO s.dv) (q:aq) (i:Nat): (∀k,bt ((cg s q i).2.1.first k))/\(∀k,bt ((cg s q i).2.1.second k))/\bt (cg s q i).2.1.block:=by
 unfold cg;split
 . exact⟨λ_=>bD,λ_=>bD,bD⟩
 . split
   . exact⟨λ_=>bD,λ_=>bD,bD⟩
   grind[oF,wX]
def j5 (i:Int):Bool:=decide (0<=i/\i<64)
theorem zH (i:Int)(w:aD):Calls prog 108 #[.int .i64 i] w λe w'=>e=.returned (.bool (j5 i))/\w=w':=by
 by_cases h0:0<=i;have hr:j5 i=decide (i<64):=by
  unfold j5
  grind
 rw[hr];have g0:decide (0<=i)=true:=ly h0;clear hr;obtain⟨r,hr⟩:=cM (decide (i<64));rw[hr]
 rotate_left
 have hr:j5 i=false:=iE (λx=>h0 x.1);rw[hr];have g0:decide (0<=i)=false:=iE h0;clear hr
 all_goals
  go_enter func108,ntmps108;go_wp2;go_ret;exact⟨rfl,rfl⟩
def pW (s:Pl) (root:aq) (i:Int):Pl×(aK×Int):=
 if j5 i=false then(s,(aX,111)) else
 if(cg s root i.toNat).2.2≠0 then((cg s root i.toNat).1,(aX,(cg s root i.toNat).2.2)) else
 dW (cg s root i.toNat).1 (cg s root i.toNat).2.1.block
theorem RI: (prog.info? 106).map (λi=>(i.zero,i.size,i.bytes))=some (some (.agg #[.int .i64 0,.int .u64 0,.int .u32 0]),3,24):=cm
def eo (l:List aq):List bh:=l.flatMap λp=>(ah 3 (aN p)).toList
theorem rO (l:List aq): (eo l).length=l.length*3:=by
 unfold eo
 induction l<;>grind[aj]
theorem dU (l m:List aq):eo (l++m)=eo l++eo m:=by grind[eo]
theorem kG (p:aq):eo [p]=(ah 3 (aN p)).toList:=by rfl
theorem jY (l:List aq): ∀u∈eo l,u.oneCell'=true:=by
 intro u hu;unfold eo at hu;obtain⟨p,_,h⟩:=List.mem_flatMap.1 hu;rw[sR] at h;simp at h;rcases h with rfl | rfl | rfl <;> rfl
def dh (w:aD) (base:Nat) (v:bh) (l:List aq):Prop:=w.ownsRow base 106 3 v l.length (eo l)
theorem dh.nil (w:aD)(base:Nat):dh w base (.slice none 0 0) []:=ju _ _ _ _
def fM (w:aD) (v:bh) (l:List aq):Prop:=ar w 106 3 v l.length (eo l)
theorem dh.sl {l:List aq}(h:dh w base v l):fM w v l:=ar.aV h
theorem P7 {P:pw}(hw:Region.wanted op (yielded ops a.tmps)=true)(t:dD)(parts:Array (Nat×Operand))(ho:op.op=.build t parts)(cells:iw)(hf:P.built t (parts.map λ(i,x)=>(i,a.eval x)).toList=some cells):YieldsIf P ops S op (.agg cells) a:=by
 refine .inl ⟨hw,λw _=>?_⟩
 simp_all[execOp,run_build]
theorem Yr: (prog.info? 278).map (λi=>(i.zero,i.size,i.bytes))=some (some (.agg #[.int .i64 0,.int .u64 0,.int .u32 0,.int .i64 0,.int .u64 0,.int .u32 0,.int .i64 0,.int .u64 0,.int .u32 0]),9,72):=cm
theorem V4 (p q r:aq):prog.built 278 [(0,.agg (ah 3 (aN p))),(1,.agg (ah 3 (aN q))),(2,.agg (ah 3 (aN r)))]=some (ah 9 (bJ λi=> [p,q,r].getD i hole)):=by
 obtain⟨it,h1,h2,h3,h4⟩:=sC Yr;obtain⟨ie,i1,i2,i3,i4⟩:=sC RI;have hu:prog.underlying 278=some (.array 3 106):=underlying278;unfold Program.built;rw[h1,hu];simp only[h2,i1,i3];have hw:=Great.fill_whole (s:=3) au [Value.agg (ah 3 (aN p)),.agg (ah 3 (aN q)),.agg (ah 3 (aN r))]
  (Value.agg #[.int .i64 0,.int .u64 0,.int .u32 0,.int .i64 0,.int .u64 0,.int .u32 0,.int .i64 0,.int .u64 0,.int .u32 0]).cells
  (by intro v hv;simp at hv;rcases hv with rfl | rfl | rfl <;> exact aj _ _) rfl
 refine(show _=_ from hw).trans ?_;congr 1
theorem M8 (l:Nat->aq)(k:Nat)(hk:k<3)(W:aD): (Instr.index 278 (.agg (ah 9 (bJ l))) (.int .i64 k)).run prog W=.ok (.agg (ah 3 (aN (l k)))) W:=by
 have hu:prog.underlying 278=some (.array 3 106):=underlying278;obtain⟨it,hi,hs⟩:=oE eT;have h1: (part 106 (ah 9 (bJ l)) (k*3)).run prog W=.ok (.agg (ah 3 (aN (l k)))) W:=by
  simp[part,isAgg106,sizeOf,typeInfo,hi,hs,Fy 9 l k au]
 simp_all[Instr.index,asIntOf]
theorem FJ {P:pw}(hw:Region.wanted op (yielded ops a.tmps)=true)(t:dD)(x i:Operand)(ho:op.op=.indexAddr t x i)(v:bh)(hv: ∀w,(Instr.indexAt t (a.eval x) (a.eval i)).run P w=.ok v w):YieldsIf P ops S op v a:=by
 refine .inl ⟨hw,λw _=>?_⟩
 simp_all[execOp]
def jh (a:Way) (q:aq) (i:Nat):List aq:=[a.block,a.first (i / 8),q].filter λp=>decide (p≠hole)
theorem sZ (f:α->Bool)(l:List α)(hk:k<l.length): (l.take (k+1)).filter f=(l.take k).filter f++if f l[k]=true then [l[k]] else []:=by
 grind[take_succ_eq_append_getElem]
theorem Ad (s:Pl) (q:aq): (dW s q).1.dv.ops<=s.dv.ops+1:=by
 unfold dW;split
 . grind
 . show(cS s.dv).ops<=_;unfold cS;grind
theorem pX (s:Pl) (q:aq): (aO s q).1.dv.ops<=s.dv.ops+1:=by
 grind[aO,Ad]
theorem oG (s:Pl)(q:aq)(i:Nat): (cg s q i).1.dv.ops<=s.dv.ops+2:=by
 grind[cg,pX]
theorem s6 (d:Dv) (i:Int) (b:aK): (eN d i b).1.ops<=d.ops+1:=by
 have h: (cS d).ops<=d.ops+1:=by unfold cS;grind
 grind[eN,fK]
theorem Ce (s:Pl)(b:aK): (pN s b).1.dv.ops<=s.dv.ops+1:=by
 unfold pN;split
 . grind
 . cases iF s.mp with
   | none=>grind
   | some i=>
    simp only;split <;> exact s6 _ _ _
theorem iW (s:Pl) (l:Nat->aq): (dg s l).1.dv.ops<=s.dv.ops+1:=by
 unfold dg;cases ot l with
 | none=>grind
 | some b=>exact Ce s b
theorem M9 (b:aK)(h: ∀x∈b,x<256):vH b<4294967296:=Fm 0 b nh h
theorem Dj (h:ll s.ay)(b:aK)(hb: ∀x∈b,x<256):bt (pN s b).2.1:=by
 unfold pN;split
 . exact bD
 . next hl=>
   cases ha:iF s.mp with
   | none=>exact bD
   | some i=>
    have hi:=(nW ha).1;simp only;split
    . unfold jG;simp only;split
      . exact⟨by grind,h,M9 _ (ED au hb).2⟩
      . exact bD
    . exact bD
theorem jy {s:Pl} (h:ll s.ay) (l:Nat->aq):bt (dg s l).2.1:=by
 unfold dg;cases hn:ot l with
 | none=>exact bD
 | some b=>exact Dj h b (zG hn).2
def gr (l:Nat->aq) (k:Nat) (p:aq):Nat->aq:=λi=>if i=k then p else l i
theorem pG {l:Nat->aq}{p:aq}(hl: ∀i,bt (l i))(hp:bt p): ∀i,bt (gr l k p i):=by grind[gr]
def kW (s:Pl) (root:aq) (i:Int) (b:aK):Pl×(aq×List aq×Int):=
 if j5 i=false then(s,(root,[],111)) else
 if 128<b.length then(s,(root,[],92)) else
 let w:=cg s root i.toNat
 if w.2.2≠0 then(w.1,(root,[],w.2.2)) else
 if cZ w.1.mp<3 then(w.1,(root,[],71)) else
 let p:=pN w.1 b
 if p.2.2≠0 then(p.1,(root,[],p.2.2)) else
 let u:=dg p.1 (gr w.2.1.second (i.toNat % 8) p.2.1)
 if u.2.2≠0 then(u.1,(root,[],u.2.2)) else
 let t:=dg u.1 (gr w.2.1.first (i.toNat / 8) u.2.1)
 if t.2.2≠0 then(t.1,(root,[],t.2.2)) else
 (t.1,(t.2.1,jh w.2.1 root i.toNat,0))
theorem wY (s:Pl) (q:aq): (aO s q).1.ay=s.ay:=by
 grind[aO,dW]
theorem oH (s:Pl) (q:aq) (i:Nat): (cg s q i).1.ay=s.ay:=by
 grind[cg,wY]
theorem wZ (s:Pl) (b:aK): (pN s b).1.ay=s.ay:=by
 unfold pN;split
 . rfl
 . cases iF s.mp with
   | none=>rfl
   | some i=>simp only;split <;> rfl
theorem jA (s:Pl) (l:Nat->aq): (dg s l).1.ay=s.ay:=by
 grind[dg,wZ]
def oI (l:Nat->aq):Bool:=RG l ph
theorem yI (l:Nat->aq)(N:iw)(hN:N=ah 24 (bJ l))(w:aD):
 yr 159 #[.agg N] w (.bool (oI l)):=by
 obtain⟨b,hb⟩:=cM (oI l);have hq0:=ZQ l ph b hb;rw[<-hN] at hq0;have hq: ∀W,(binOp .eql 191 (.agg N) (.agg (#[Value.int .i64 0,.int .u64 0,.int .u32 0,Value.int .i64 0,.int .u64 0,.int .u32 0,Value.int .i64 0,.int .u64 0,.int .u32 0,Value.int .i64 0,.int .u64 0,.int .u32 0,Value.int .i64 0,.int .u64 0,.int .u32 0,Value.int .i64 0,.int .u64 0,.int .u32 0,Value.int .i64 0,.int .u64 0,.int .u32 0,Value.int .i64 0,.int .u64 0,.int .u32 0]:iw))).run prog W=.ok (.bool b) W:=hq0;clear hq0;rw[hb];clear hb;have HN:=ae hN;clear hN;have FR_0:=ae (Fr.refl none [] w (by intros;contradiction));obtain⟨W1,HW1⟩:=BU (w.alloc (.cells N 191));have hbW1:dp w W1:=by rw[HW1.o];exact(iU _ _).alloc (eO _) _
 have hrW1:ag W1 w.heap.size 191 24 (bJ l):=by rw[HW1.o,HN.o];exact ag.alloc _ _ _ _
 have FR_1:=ae (Fr.Rw FR_0.o hbW1);have hlt1:=ae ((show w.heap.size<=w.heap.size from FR_0.o.size));have R1_1:=ae (hrW1);clear hrW1 hbW1;go_enter func159,ntmps159
 go_upto_region 1 with(fail)
 rw[<-HW1.o]
 go_wp2_with (first |((with_reducible refine gO ⟨some 3,Op.load 191 (Operand.tmp 1),191,_,_,none⟩ ?_);refine wpList_load_mid (op:=⟨some 3,Op.load 191 (Operand.tmp 1),191,_,_,none⟩) rfl 191 (.tmp 1) rfl w.heap.size 0 rfl N.toList _ (u9 (R1_1.o) HN.o) PV rfl (by rw[p9,HN.o,aj];exact sW) ?_;rw[CK]))
 clear FR_0
 try go_ret
 exact⟨rfl,(FR_1.o).below⟩
theorem M' {P:pw}(hw:Region.wanted o (yielded ops a.tmps)=true)(ho:o'= {o with guard:=none})(h:wpList P ops Q (o'::rest) a w):wpList P ops Q (o::rest) a w:=by
 subst ho;unfold wpList at h ⊢;rw[bC hw];rw[bC pB] at h;exact h
def nP (s:Pl) (y:Way) (root:aq) (i:Nat):Pl×(aq×List aq×Int):=
 let n2:=gr y.second (i % 8) hole
 let n1:=gr y.first (i / 8) hole
 let mD:=if oI n2=true then(if oI n1=true then 0 else 1) else 2
 if cZ s.mp<mD then(s,(root,[],71)) else
 let u:=if mD=2 then dg s n2 else(s,(hole,0))
 if u.2.2≠0 then(u.1,(root,[],u.2.2)) else
 let t:=if 0<mD then dg u.1 (gr n1 (i / 8) u.2.1) else(u.1,(hole,0))
 if t.2.2≠0 then(t.1,(root,[],t.2.2)) else(t.1,(t.2.1,jh y root i,0))
def iM (s:Pl) (root:aq) (i:Int):Pl×(aq×List aq×Int):=
 if j5 i=false then(s,(root,[],111)) else
 let w:=cg s root i.toNat
 if w.2.2≠0 then(w.1,(root,[],w.2.2)) else
 if w.2.1.block=hole then(w.1,(root,[],0)) else
 nP w.1 w.2.1 root i.toNat
theorem Ty (l:Nat->aq) (k:Nat) (p q:aq):gr (gr l k p) k q=gr l k q:=by
 grind[gr]
theorem V5 {y:Way}(h2:oI (gr y.second (i % 8) hole)=true)(h1:oI (gr y.first (i / 8) hole)=true):nP s y root i=(s,(hole,jh y root i,0)):=by
 grind[nP]
theorem V6 {y:Way}(h2:oI (gr y.second (i % 8) hole)=true)(h1:oI (gr y.first (i / 8) hole)=false):
 nP s y root i=if cZ s.mp<1 then(s,(root,[],71)) else
  if(dg s (gr y.first (i / 8) hole)).2.2≠0 then((dg s (gr y.first (i / 8) hole)).1,(root,[],(dg s (gr y.first (i / 8) hole)).2.2)) else
  ((dg s (gr y.first (i / 8) hole)).1,((dg s (gr y.first (i / 8) hole)).2.1,jh y root i,0)):=by
 grind[nP,Ty]
theorem V7 {y:Way}(h2:oI (gr y.second (i % 8) hole)=false):
 nP s y root i=if cZ s.mp<2 then(s,(root,[],71)) else
  let u:=dg s (gr y.second (i % 8) hole)
  if u.2.2≠0 then(u.1,(root,[],u.2.2)) else
  let t:=dg u.1 (gr (gr y.first (i / 8) hole) (i / 8) u.2.1)
  if t.2.2≠0 then(t.1,(root,[],t.2.2)) else
  (t.1,(t.2.1,jh y root i,0)):=by
 grind[nP]
theorem zI {b:Nat}(hg:w.grownBy w' (some b)):ek b w w':=⟨hg.os,hg.tape,hg.output,hg.size,λk hk hn=>hg.block k hk rE⟩
theorem zJ (hg:w.grownBy w' none):dp w w':=⟨hg.os,hg.tape,hg.output,hg.size,λk hk=>hg.block k hk fh⟩
section
theorem bH.grown {P D M:Nat} {s:Pl} (h:bH w P D M s) (hg:w.grownBy w' v.ownBlock) (ho:w.ownsRow base e size v n xs) (h1:fk e=false) (h2:df e=false):bH w' P D M s:=by
 cases hv:v.ownBlock with
 | none=>rw[hv] at hg;exact h.below (zJ hg)
 | some b=>rw[hv] at hg;exact h.but (zI hg) (lP ho hv) h1 h2
theorem eX.grown {t:dD} {u:bh} {b:aK} (h:eX w t u b) (hg:w.grownBy w' v.ownBlock) (ho:w.ownsRow base e size v n xs) (h1:e≠t):eX w' t u b:=by
 cases hv:v.ownBlock with
 | none=>rw[hv] at hg;exact h.below (zJ hg)
 | some c=>rw[hv] at hg;exact h.but (zI hg) (lP ho hv) h1
theorem Fr.own (h:Fr d l w0 w)(hg:w.grownBy w' v.ownBlock)(ho:w.ownsRow base e size v n xs)(hb:w0.heap.size<=base):Fr d l w0 w':=
 h.grown hg λk hk=>kL hb (ho.lt k hk).1
end
theorem jS: (∀(a b:α) (l:List α),(a∈b::l)=(a=b∨a∈l))/\(∀a:α,(a∈([]:List α))=False)/\
 (∀(p q:α->Prop) (a:α),(∀x,x=a∨q x->p x)=(p a/\∀x,q x->p x))/\(∀(p:α->Prop) (a:α),(∀x,x=a->p x)=p a)/\
 (∀(x y:α) (l:List α),(x::l).set 0 y=y::l)/\(∀(x y:α) (l:List α) (n:Nat),(x::l).set (n+1) y=x::l.set n y):=
 by grind
theorem jT: (∀p:Prop,(p∨False)=p)/\(∀p:Prop,(False∨p)=p)/\(∀p:Prop,(True∨p)=True)/\(∀p:Prop,(p∨True)=True)/\(∀p:Prop,(p/\p)=p)/\(∀p:Prop,(p/\True)=p):=
 by grind
structure R4 where
 b:Nat
 t:dD
 n:Nat
 f:Nat->bh
structure O4 where
 e:dD
 z:Nat
 v:bh
 n:Nat
 xs:List bh
def O4.ob (o:O4):Option Nat:=o.v.ownBlock
def bE (L:List R4) (O:List O4):aK:=L.map R4.b++O.filterMap O4.ob
structure gX (d:Option Nat) (X:aK->aD->Prop):Prop where
 below: ∀{B w w'},X B w->dp w w'->X B w'
 add: ∀{B w b},X B w->w.heap.size<=b->X (b::B) w
 mono: ∀{B B' w},X B w->(∀k∈B',k∈B)->X B' w
 but: ∀{B w w' b t},X B w->b∈B->ek b w w'->du w b=some t->df t=false->(fk t=false∨∀D,d=some D->b∉ki w D)->X B w'
 dev: ∀{B w D},X B w->d=some D->du w D=some 127/\∀k∈ki w D,k<w.heap.size
structure St (w0:aD) (d:Option Nat) (l:aK) (L:List R4) (O:List O4) (X:aK->aD->Prop) (w:aD):Prop where
 fr:Fr d l w0 w
 row: ∀r∈L,ag w r.b r.t r.n r.f/\df r.t=false/\(fk r.t=false∨∀D,d=some D->r.b∉ki w D)
 own: ∀o∈O,w.ownsRow w0.heap.size o.e o.z o.v o.n o.xs/\df o.e=false/\fk o.e=false
 lo: ∀b∈bE L O,w0.heap.size<=b
 nd: (bE L O).Nodup
 x:X (bE L O) w
 fs:gX d X
section
variable {L:List R4}{O:List O4}
theorem JS {w:aD} {D:Nat} (h:du w D=some 127):D∈ki w D:=by
 grind[ki,du]
theorem dx {k:Nat}:k∈bE L O↔(∃r∈L,r.b=k)∨∃o∈O,o.v.ownBlock=some k:=by
 grind[bE,O4.ob]
theorem St.lt (h:St w0 d l L O X w): ∀k∈bE L O,k<w.heap.size:=by
 intro k hk;rcases dx.1 hk with⟨r,hr,rfl⟩ | ⟨o,ho,e⟩
 . exact ag.lt (h.row r hr).1
 . exact((h.own o ho).1.lt k e).2
theorem St.start (w:aD)(d:Option Nat)(l:aK)(hs:gX d X)(hx:X [] w):St w d l [] [] X w:=
 ⟨Fr.refl d l w λD e=>(hs.dev hx e).1,by simp,by simp,by simp[bE],by simp[bE],hx,hs⟩
theorem St.O2 (h:St w0 d l L O X w): ∀D,d=some D->du w D=some 127:=λD e=>(h.fs.dev h.x e).1
theorem St.below (h:St w0 d l L O X w)(hb:dp w w'):St w0 d l L O X w':=
 ⟨h.fr.Rw hb,λr hr=>⟨ag.below (h.row r hr).1 hb,(h.row r hr).2.1,(h.row r hr).2.2.imp id λf D e=>KL (f D e) hb (h.O2 D e)⟩,
  λo ho=>⟨fR (h.own o ho).1 hb,(h.own o ho).2⟩,h.lo,h.nd,h.fs.below h.x hb,h.fs⟩
theorem St.drew (h:St w0 d l L O X w):St w0 d l L O X w.drew:=h.below ((iU _ _).drew)
theorem St.alloc (h:St w0 d l L O X w) {A:iw} {n:Nat} {f:Nat->bh} (t:dD) (hA:A=ah n f) (ho:df t=false):
 St w0 d l (⟨w.heap.size,t,n,f⟩::L) O X (w.alloc (.cells A t)):=by
 have hb:dp w (w.alloc (.cells A t)):=(iU _ _).alloc (eO _) _;have h':=h.below hb;have hn:w.heap.size∉bE L O:=λhm=>Al _ (h.lt _ hm);refine⟨h'.fr,λr hr=>?_,h'.own,λb hb'=>?_,?_,h.fs.below (h.fs.add h.x (eO _)) hb,h.fs⟩
 . rcases iI.1 hr with rfl | hr
   . refine⟨by grind[ag.alloc],ho,.inr λD e hm=>?_⟩;rw[lO (hb.block D (c7 (h.O2 D e)))] at hm;exact Al _ ((h.fs.dev h.x e).2 _ hm)
   . exact h'.row r hr
 . rcases iI.1 (show b∈w.heap.size::bE L O from hb') with rfl | hb'
   . exact h.fr.size
   . exact h.lo b hb'
 . exact List.nodup_cons.2 ⟨hn,h.nd⟩
theorem yJ {L:List R4}{r r':R4}(hk:L[k]? =some r)(hb:r'.b=r.b): (L.set k r').map R4.b=L.map R4.b:=by
 apply EU
 grind
theorem St.modify (h:St w0 d l L O X w){r:R4}(hk:L[k]? =some r)(f':Nat->bh)(hb:ek r.b w w')(hr:ag w' r.b r.t r.n f'):St w0 d l (L.set k ⟨r.b,r.t,r.n,f'⟩) O X w':=by
 have hm:r∈L:=nf hk;have hR:=h.row r hm;have hty:=ag.ty hR.1;have hbm:r.b∈bE L O:=dx.2 (.inl ⟨r,hm,rfl⟩);have hbl:bE (L.set k ⟨r.b,r.t,r.n,f'⟩) O=bE L O:=iS (· ++O.filterMap O4.ob) (yJ (r':=⟨r.b,r.t,r.n,f'⟩) hk rfl);have hDk: ∀D,d=some D->w'.heap[D]? =w.heap[D]?:=λD e=>hb.block D (c7 (h.O2 D e)) (by
  rintro rfl;have:=h.O2 _ e;rcases hR.2.2 with h1 | h1
  . rw[El (hty.symm.trans this)] at h1;exact absurd h1 nh
  grind[JS])
 refine⟨?_,λq hq=>?_,λo ho=>?_,by rw[hbl];exact h.lo,by rw[hbl];exact h.nd,by rw[hbl];exact h.fs.but h.x hbm hb hty hR.2.1 hR.2.2,h.fs⟩
 . exact h.fr.At (h.lo _ hbm) hb
 . rcases List.mem_iff_getElem?.1 hq with⟨i,hi⟩;rw[Pa] at hi;by_cases hki:k=i
   . subst hki;rw[bC rfl] at hi
     grind[lO]
   . rw[bX hki] at hi;have hqm:q∈L:=nf hi;have hQ:=h.row q hqm;have hne:q.b≠r.b:=by
      have hnd: (L.map R4.b).Nodup:=(List.nodup_append.1 h.nd).1;intro e;have h1: (L.map R4.b)[k]? =some r.b:=by grind
      have h2: (L.map R4.b)[i]? =some r.b:=by grind
      grind[getElem?_inj]
     grind[ag.but,lO]
 . have hO:=h.own o ho;refine⟨jX hO.1 (λe=>?_) hb,hO.2⟩;have hnd:=(List.nodup_append.1 h.nd).2.2;exact hnd r.b (lY.2 ⟨r,hm,rfl⟩) r.b (Sz.2 ⟨o,ho,e⟩) rfl
theorem St.ee (h:St w0 d l L O X w){r:R4}(hk:L[k]? =some r):ag w r.b r.t r.n r.f:=(h.row r (nf hk)).1
theorem St.bR (h:St w0 d l L O X w){o:O4}(hk:O[k]? =some o):w.ownsRow w0.heap.size o.e o.z o.v o.n o.xs:=(h.own o (nf hk)).1
theorem St.cell (h:St w0 d l L O X w) {k:Nat} {r:R4} (hk:L[k]? =some r) {i:Nat} (hi:i<r.n):w.cell? ⟨r.b,i,none⟩=some (r.f i):=ag.cell (h.ee hk) hi
theorem St.set (h:St w0 d l L O X w){r:R4}(hk:L[k]? =some r)(f':Nat->bh):St w0 d l (L.set k ⟨r.b,r.t,r.n,f'⟩) O X (w.setRow r.b (ah r.n f')):=
 h.modify hk f' (RF _ _ _) (ag.setRow (h.ee hk) f')
theorem St.put (h:St w0 d l L O X w){r:R4}(hk:L[k]? =some r)(i:Nat)(v:bh):St w0 d l (L.set k ⟨r.b,r.t,r.n,λj=>if j=i then v else r.f j⟩) O X (w.setCell ⟨r.b,i,none⟩ v):=
 h.modify hk _ (kA _ _ _ _) (ag.set (h.ee hk) i v)
theorem St.call (h:St w0 d l L O X w)(f:Fr d2 l2 w w')(hd: ∀D,d2=some D->d=some D)(hl: ∀k∈l2,k∈l∨w0.heap.size<=k)(hs:gX d X')(hx: ∀B,X B w->X' B w'):St w0 d l L O X' w':=by
 refine⟨h.fr.step f hd hl,λr hr=>?_,λo ho=>?_,h.lo,h.nd,hx _ h.x,hs⟩
 . have hR:=h.row r hr;cases e2:d2 with
   | none=>
    subst e2;exact⟨ag.fr hR.1 f (.inl rfl) (.inl hR.2.1),hR.2.1,hR.2.2.imp id λg D e=>FI (g D e) f (h.O2 D e)⟩
   | some D=>
    subst e2;rcases hR.2.2 with h1 | h1
    . grind[ag.fr]
    . exact⟨ag.frX hR.1 f (h1 D (hd D rfl)) (.inl hR.2.1),hR.2.1,.inr λD' e=>by
       rcases El (e.symm.trans (hd D rfl)) with rfl
       grind[Fr.VI,ag.lt]⟩
 . have hO:=h.own o ho
   grind[rI]
theorem St.take (h:St w0 d l L O X w)(h':St w0 d l L O X' w')(ho:w'.ownsRow w.heap.size e z v n xs)(h1:df e=false)(h2:fk e=false)(hx: ∀B,X B w->X' B w'):St w0 d l L (⟨e,z,v,n,xs⟩::O) X' w':=by
 have hw:w0.heap.size<=w.heap.size:=h.fr.size;have hblk: ∀k,v.ownBlock=some k->bE L (⟨e,z,v,n,xs⟩::O)=L.map R4.b++k::O.filterMap O4.ob:=by
  grind[bE,O4.ob]
 cases hv:v.ownBlock with
 | none=>
  have:bE L (⟨e,z,v,n,xs⟩::O)=bE L O:=by grind[bE,O4.ob]
  refine⟨h'.fr,h'.row,λo hm=>?_,by rw[this];exact h'.lo,by rw[this];exact h'.nd,by rw[this];exact h'.x,h'.fs⟩;rcases iI.1 hm with rfl | hm
  . grind[oD]
  . exact h'.own o hm
 | some g=>
  have hg:=ho.lt g hv;have hn:g∉bE L O:=λhm=>by have:=h.lt g hm;omega
  refine⟨h'.fr,h'.row,λo hm=>?_,λb hb=>?_,?_,?_,h'.fs⟩
  . rcases iI.1 hm with rfl | hm
    . grind[oD]
    . exact h'.own o hm
  . rw[hblk g hv] at hb;simp only[jn,iI] at hb;rcases hb with hb | rfl | hb
    . exact h'.lo b (jn.2 (.inl hb))
    . omega
    . exact h'.lo b (jn.2 (.inr hb))
  . rw[hblk g hv];have:=h'.nd;unfold bE at this hn
    grind
  . refine h'.fs.mono (hx _ (h.fs.add h.x hg.1)) λk hk=>?_;rw[hblk g hv] at hk;simp only[jn,iI] at hk;rcases hk with hk | rfl | hk
    . grind[bE]
    . grind
    grind[bE]
theorem St.grow (h:St w0 d l L O X w){o:O4}(hk:O[k]? =some o){g n':Nat}(hg:w.grownBy w' o.v.ownBlock)(hn:w'.ownsRow w0.heap.size o.e o.z v' n' xs')(hv:v'.ownBlock=some g)(hat:o.v.ownBlock=some g∨g=w.heap.size):St w0 d l L (O.set k ⟨o.e,o.z,v',n',xs'⟩) X w':=by
 have hm:o∈O:=nf hk;have hO:=h.own o hm;have hkl:k<O.length:=(sy.1 hk).1
 -- the new blocks:g,and the old ones but o's
 have hsub: ∀b∈bE L (O.set k ⟨o.e,o.z,v',n',xs'⟩),b∈g::bE L O:=by
  intro b hb;rcases dx.1 hb with⟨r,hr,e⟩ | ⟨q,hq,e⟩
  . grind[dx]
  . rcases Hi hq with h1 | rfl
    . grind[dx]
    grind
 have hglo:w0.heap.size<=g:=(hn.lt g hv).1;have hlo: ∀b∈bE L (O.set k ⟨o.e,o.z,v',n',xs'⟩),w0.heap.size<=b:=λb hb=>by
  rcases iI.1 (hsub b hb) with rfl | h1
  . exact hglo
  . exact h.lo b h1
 have hrl: ∀r∈L,some r.b≠o.v.ownBlock:=λr hr e=>
  (List.nodup_append.1 h.nd).2.2 r.b (lY.2 ⟨r,hr,rfl⟩) r.b (Sz.2 ⟨o,hm,e.symm⟩) rfl
 have hol: ∀i q,O[i]? =some q->i≠k->∀b,q.v.ownBlock=some b->o.v.ownBlock≠some b:=by
  intro i q hi hne b hb hb2;have hnd: (O.filterMap O4.ob).Nodup:=(List.nodup_append.1 h.nd).2.1;have: ∀(O:List O4) (i k:Nat) (q o:O4),(O.filterMap O4.ob).Nodup->O[i]? =some q->O[k]? =some o->i<k->q.v.ownBlock=some b->o.v.ownBlock=some b->False:=by
   intro O
   induction O with
   | nil=>grind
   | cons a O ih=>
    intro i k q o hnd hi hk hlt hb hb2;cases k with
    | zero=>omega
    | succ k=>
     cases i with
     | zero=>
      simp only[getElem?_cons_zero,EZ] at hi;subst hi;rw[filterMap_cons_some (f:=O4.ob) hb,nodup_cons] at hnd;exact hnd.1 (Sz.2 ⟨o,nf (by simpa using hk),hb2⟩)
     | succ i=>
      refine ih i k q o ?_ rE rE au hb hb2;cases ha:a.v.ownBlock with
      | none=>grind[filterMap_cons_none,O4.ob]
      | some c=>simp_all[O4.ob]
  grind
 have hDk: ∀D,d=some D->w'.heap[D]? =w.heap[D]?:=λD e=>hg.block D (c7 (h.O2 D e)) (λe2=>by
  have h1:=lP hO.1 e2.symm;have h2:=hO.2.2;rw[<-El ((h.O2 D e).symm.trans h1)] at h2;exact absurd h2 nh)
 refine⟨h.fr.grown hg λb e=>(hO.1.lt b e).1,λr hr=>?_,λq hq=>?_,hlo,?_,?_,h.fs⟩
 . have hR:=h.row r hr
   grind[ag.grown,lO]
 . rcases List.mem_iff_getElem?.1 hq with⟨i,hi⟩;rw[Pa] at hi;by_cases hki:k=i
   . grind
   . rw[bX hki] at hi;have hQ:=h.own q (nf hi);refine⟨hQ.1.kept hg ?_,hQ.2⟩;cases hqb:q.v.ownBlock<;>grind
 . -- no block twice
   have hnd:=h.nd;unfold bE at hnd ⊢;have hset: ∀(O:List O4) (k:Nat),O[k]? =some o->(O.filterMap O4.ob).Nodup->(∀q∈O,q.v.ownBlock=some g->o.v.ownBlock=some g)->
    ((O.set k ⟨o.e,o.z,v',n',xs'⟩).filterMap O4.ob).Nodup:=by
    intro O
    induction O with
    | nil=>grind
    | cons a O ih=>
     intro k hk hnd hq;cases k with
     | zero=>
      simp only[getElem?_cons_zero,EZ] at hk;subst hk;rw[E0,filterMap_cons_some (f:=O4.ob) (a:=⟨a.e,a.z,v',n',xs'⟩) hv,nodup_cons]
      grind[O4.ob]
     | succ k=>
      have hk':O[k]? =some o:=by grind
      rw[Pb];cases ha:a.v.ownBlock with
      | none=>
       grind[O4.ob]
      | some c=>
       rw[filterMap_cons_some (f:=O4.ob) ha,nodup_cons] at hnd ⊢;refine⟨λhmm=>?_,ih k hk' hnd.2 λq h1=>hq q (yz _ h1)⟩;obtain⟨q,h1,h2⟩:=Sz.1 hmm;rcases Hi h1 with h3 | rfl
       . grind
       . rw[show(Value.ownBlock v')=some c from h2] at hv;cases hv;have:=hq a (D0 ..) ha;exact hnd.1 (Sz.2 ⟨o,nf hk',this⟩)
   rw[nodup_append] at hnd ⊢;have hgq: ∀q∈O,q.v.ownBlock=some g->o.v.ownBlock=some g:=λq hq e=>by
    rcases hat with h1 | h1
    . exact h1
    . have:=h.lt g (dx.2 (.inr ⟨q,hq,e⟩));omega
   refine⟨hnd.1,hset O k hk hnd.2.1 hgq,λa ha b hb=>?_⟩;obtain⟨q,h1,h2⟩:=Sz.1 hb;rcases Hi h1 with h3 | rfl
   . grind
   . have hgb:g=b:=El (hv.symm.trans h2);rcases hat with h4 | h4
     . grind
     . have:=h.lt a (jn.2 (.inl ha));omega
 . -- what else is known
   refine h.fs.mono (B:=g::bE L O) ?_ hsub;cases hb:o.v.ownBlock with
   | none=>
    rw[hb] at hg;refine h.fs.below ?_ (zJ hg);rcases hat with h1 | h1
    . grind
    . exact h.fs.add h.x au
   | some b=>
    rw[hb] at hg;have hbm:b∈bE L O:=dx.2 (.inr ⟨o,hm,hb⟩);have hx:X (g::bE L O) w:=by
     rcases hat with h1 | h1
     . rw[hb] at h1;cases h1;exact h.fs.mono h.x λk hk=>by
        grind
     . exact h.fs.add h.x au
    exact h.fs.but hx (yz _ hbm) (zI hg) (lP hO.1 hb) hO.2.1 (.inl hO.2.2)
end
/-! ### What else is known -/
theorem dz:gX none (λ_ _=>True):=⟨λ_ _=>kO,λ_ _=>kO,λ_ _=>kO,λ_ _ _ _ _ _=>kO,λ_ e=>by cases e⟩
theorem V8 {w:aD} {D:Nat} {v:Dv} (h:eU w D v):du w D=some 127/\∀k∈ki w D,k<w.heap.size:=by
 refine⟨h.O2,λk hk=>?_⟩;obtain⟨l,hl⟩:=h.open;rw[hl.ki] at hk;exact hl.lt k hk
theorem bH.ZU {P M b:Nat}(h:bH w P D M s)(hb:ek b w w')(ht:du w b=some t)(ho:df t=false)(hd:fk t=false∨b∉ki w D):bH w' P D M s:=by
 rcases hd with h1 | h1
 . grind[bH.but]
 . obtain⟨l,hl⟩:=h.dev.open;rw[hl.ki] at h1;refine h.XO hb hl h1 (λe=>?_) (λe=>?_)
   . rw[e,h.tyP] at ht;cases ht;cases ho
   . rw[e,h.Ze] at ht;cases ht;cases ho
def Ae (P D M:Nat) (s:Pl):aK->aD->Prop:=λ_ w=>bH w P D M s
theorem bu (P D M:Nat)(s:Pl):gX (some D) (Ae P D M s):=
 ⟨λh hb=>bH.below h hb,λh _=>h,λh _=>h,λh _ hb ht ho hd=>bH.ZU h hb ht ho (hd.imp id λf=>f D rfl),fun {B w D'} (h:bH w P D M s) e=>by cases e;exact V8 h.dev⟩
def qC (e:dD) (z:Nat) (v:bh) (n:Nat) (xs:List bh):aK->aD->Prop:=λB w=>ar w e z v n xs/\(0<n->∀b,v.ownBlock=some b->b∉B)
theorem JT (h:qC e z v n xs B w)(hb:dp w w'):qC e z v n xs B w':=⟨h.1.below hb,h.2⟩
theorem ar.aci (h:ar w T sz v n xs)(s:ek c w w')(hc:0<n->∀b,v.ownBlock=some b->b≠c):ar w' T sz v n xs:=by
 obtain⟨h1,ao,cap,rfl,h2,h3,h4⟩:=h;refine⟨h1,ao,cap,rfl,h2,h3,λhn=>?_⟩;obtain⟨b,o,cs,fl,rfl,hh,hx⟩:=h4 hn;exact⟨b,o,cs,fl,rfl,by rw[s.block b (zY.1 hh).1 (hc hn b rfl)];exact hh,hx⟩
theorem RJ {b:Nat}(h:qC e z v n xs B w)(hm:b∈B)(hb:ek b w w'):qC e z v n xs B w':=
 ⟨h.1.aci hb λhn c hc e=>h.2 hn c hc (e ▸ hm),h.2⟩
theorem RK {b:Nat}(h:qC e z v n xs B w)(hb:w.heap.size<=b):qC e z v n xs (b::B) w:=
 ⟨h.1,λhn c hc hm=>by
  rcases iI.1 hm with rfl | hm
  . have:=c7 (h.1.ty hc hn);omega
  . exact h.2 hn c hc hm⟩
theorem Na {B':aK}(h:qC e z v n xs B w)(hs: ∀k∈B',k∈B):qC e z v n xs B' w:=⟨h.1,λhn c hc hm=>h.2 hn c hc (hs c hm)⟩
theorem V9 (h:qC e z v n xs B w)(f:Fr d l w w')(h1:fk e=false)(h2:df e=false):qC e z v n xs B w':=⟨h.1.fr f (.inr h1) h2,h.2⟩
theorem gX.sl (h:gX d X)(e:dD)(z:Nat)(v:bh)(n:Nat)(xs:List bh):gX d (λB w=>X B w/\qC e z v n xs B w):=
 ⟨λa b=>⟨h.below a.1 b,JT a.2 b⟩,λa b=>⟨h.add a.1 b,RK a.2 b⟩,λa b=>⟨h.mono a.1 b,Na a.2 b⟩,λa b c t u v=>⟨h.but a.1 b c t u v,RJ a.2 b c⟩,λa e=>h.dev a.1 e⟩
/-! ### Types of rows -/
def fu (P:pw) (ty:dD) (n:Nat):Prop:=(∃d,P.underlying ty=some d/\d.isRow=true)/\(P.info? ty).map (·.size)=some n
def fZ (P:pw) (ty:dD):Prop:=(∃d,P.underlying ty=some d/\d.isRow=false)/\(P.info? ty).map (·.size)=some 1
section
variable {P:pw}
theorem aG (dst:Nat)(ty:dD)(x:Nat)(h:wpList P ops Q (⟨some dst,.load ty (.tmp x),t2,p,af,none⟩::rest) a w):wpList P ops Q (⟨some dst,.load ty (.tmp x),t2,p,af,none⟩::rest) a w:=h
theorem aS (ty:dD)(x y:Nat)(h:wpList P ops Q (⟨none,.store ty (.tmp x) (.tmp y),t2,p,af,none⟩::rest) a w):wpList P ops Q (⟨none,.store ty (.tmp x) (.tmp y),t2,p,af,none⟩::rest) a w:=h
theorem fE (ty:dD)(x:Nat){c:bh}(h:wpList P ops Q (⟨none,.store ty (.tmp x) (.const c),t2,p,af,none⟩::rest) a w):wpList P ops Q (⟨none,.store ty (.tmp x) (.const c),t2,p,af,none⟩::rest) a w:=h
theorem gT (dst:Nat)(ty:dD)(x:Nat)(h:wpList P ops Q (⟨some dst,.box ty (.tmp x),t2,p,af,none⟩::rest) a w):wpList P ops Q (⟨some dst,.box ty (.tmp x),t2,p,af,none⟩::rest) a w:=h
theorem dH (dst:Nat)(ty:dD)(h:wpList P ops Q (⟨some dst,.alloc ty,t2,p,af,none⟩::rest) a w):wpList P ops Q (⟨some dst,.alloc ty,t2,p,af,none⟩::rest) a w:=h
theorem s7 (dst:Nat)(ty:dD)(x i:Nat)(h:wpList P ops Q (⟨some dst,.index ty (.tmp x) (.tmp i),t2,p,af,none⟩::rest) a w):wpList P ops Q (⟨some dst,.index ty (.tmp x) (.tmp i),t2,p,af,none⟩::rest) a w:=h
theorem jZ (dst:Nat)(ty:dD)(x:Nat)(h:wpList P ops Q (⟨some dst,.buildSlice ty 1 #[(0,.tmp x)],t2,p,af,none⟩::rest) a w):wpList P ops Q (⟨some dst,.buildSlice ty 1 #[(0,.tmp x)],t2,p,af,none⟩::rest) a w:=h
theorem bN (dst:Nat)(x y:Nat)(h:wpList P ops Q (⟨some dst,.call {callee:=.builtin .append,args:=#[.tmp x,.tmp y],argTypes:=ts},t2,p,af,none⟩::rest) a w):wpList P ops Q (⟨some dst,.call {callee:=.builtin .append,args:=#[.tmp x,.tmp y],argTypes:=ts},t2,p,af,none⟩::rest) a w:=h
variable {L:List R4}{O:List O4}
theorem O8 (S:St w0 d l L O X w)(k:Nat){r:R4}(hk:L[k]? =some r)(hx:a.eval (.tmp x)=.pointer (some ⟨r.b,0,none⟩)){A:iw}(hA:A=ah r.n r.f)(ht:fu P ty r.n)(h:wpList P ops Q rest (a.put (some dst) (.agg A)) w):wpList P ops Q (⟨some dst,.load ty (.tmp x),t2,p,af,none⟩::rest) a w:=by
 obtain⟨⟨dd,hu,hd⟩,hi⟩:=ht;have:=wpList_load_mid (op:=⟨some dst,.load ty (.tmp x),t2,p,af,none⟩) (ops:=ops) (rest:=rest) (Q:=Q) rfl ty (.tmp x) rfl r.b 0 hx A.toList dd (u9 (S.ee hk) hA) hu hd (by grind[aj]);rw[CK] at this;exact this h
theorem s8 {b:Nat}(h:ag w b t n f){o:Nat}(hm:o+m<=n)(hg: ∀i,i<m->f (o+i)=g i){A:iw}(hA:A=ah m g):w.rangeAt b o A.toList:=by
 subst hA;intro j v hv
 grind[aF,ag.cell]
theorem nK (S:St w0 d l L O X w)(k:Nat){r:R4}(hk:L[k]? =some r){o:Nat}(hx:a.eval (.tmp x)=.pointer (some ⟨r.b,o,none⟩))(g:Nat->bh)(hm:o+m<=r.n)(hg: ∀i,i<m->r.f (o+i)=g i){A:iw}(hA:A=ah m g)(ht:fu P ty m)(h:wpList P ops Q rest (a.put (some dst) (.agg A)) w):wpList P ops Q (⟨some dst,.load ty (.tmp x),t2,p,af,none⟩::rest) a w:=by
 obtain⟨⟨dd,hu,hd⟩,hi⟩:=ht;have:=wpList_load_mid (op:=⟨some dst,.load ty (.tmp x),t2,p,af,none⟩) (ops:=ops) (rest:=rest) (Q:=Q) rfl ty (.tmp x) rfl r.b o hx A.toList dd (s8 (S.ee hk) hm hg hA) hu hd (by grind[aj]);rw[CK] at this;exact this h
theorem rP {b o:Nat}(R:ar w e z (.slice (some ⟨b,o,none⟩) n cap) n xs)(hj:j<n)(hx:a.eval (.tmp x)=.pointer (some ⟨b,o+j*z,none⟩)){A:iw}(hA:A.size=z)(hg: ∀i,i<z->xs[j*z+i]? =A[i]?)(ht:fu P ty z)(h:wpList P ops Q rest (a.put (some dst) (.agg A)) w):wpList P ops Q (⟨some dst,.load ty (.tmp x),t2,p,af,none⟩::rest) a w:=by
 obtain⟨⟨dd,hu,hd⟩,hi⟩:=ht;have hr:w.rangeAt b (o+j*z) A.toList:=by
  obtain⟨h1,ao,cap',h2,h3,h4,h5⟩:=R;obtain⟨b',o',cs,fl,rfl,hh,hc⟩:=h5 au;cases h2;intro i v hv
  grind[cell_of_row]
 have:=wpList_load_mid (op:=⟨some dst,.load ty (.tmp x),t2,p,af,none⟩) (ops:=ops) (rest:=rest) (Q:=Q) rfl ty (.tmp x) rfl b _ hx A.toList dd hr hu hd rE;rw[CK] at this;exact this h
theorem bM {b o:Nat}(hc:w.cell? ⟨b,o,none⟩=some v)(hx:a.eval (.tmp x)=.pointer (some ⟨b,o,none⟩))(ht:fZ P ty)(h:wpList P ops Q rest (a.put (some dst) v) w):wpList P ops Q (⟨some dst,.load ty (.tmp x),t2,p,af,none⟩::rest) a w:=by
 obtain⟨⟨dd,hu,hd⟩,hi⟩:=ht;refine sD rfl λ_ hK=>?_;have hagg: (isAgg ty).run P w=.ok false w:=by
  unfold isAgg;rw[py,D7 hu w];cases dd <;> simp_all [TypeDesc.isRow]
 unfold Oper.wp execOp;simp only[hx,Instr.loadAt,Instr.sureAddr,py,wB,rj,loadVar,hagg,bX XZ,run_load,hc];exact hK _ _ h
theorem dY (S:St w0 d l L O X w)(k:Nat){r:R4}(hk:L[k]? =some r)(i:Nat)(hv:r.f i=v)(hi:i<r.n)(hx:a.eval (.tmp x)=.pointer (some ⟨r.b,i,none⟩))(ht:fZ P ty)(h:wpList P ops Q rest (a.put (some dst) v) w):wpList P ops Q (⟨some dst,.load ty (.tmp x),t2,p,af,none⟩::rest) a w:=
 bM (by rw[S.cell hk hi,hv]) hx ht h
theorem kP (S:St w0 d l L O X w){A:iw}(hx:a.eval (.tmp x)=.pointer (some ⟨w.heap.size,0,none⟩))(hy:a.eval (.tmp y)=.agg A)(hA:A=ah n f)(ht:fu P ty n)(ho:df ty=false)(hZ:Z.size=n)(h1: ∀i,(f i).oneCell'=true)(h: ∀W,St w0 d l (⟨w.heap.size,ty,n,f⟩::L) O X W->wpList P ops Q rest (a.put none undef) W):wpList P ops Q (⟨none,.store ty (.tmp x) (.tmp y),t2,p,af,none⟩::rest) a (w.alloc (.cells Z ty)):=
 u0 (o:=⟨none,.store ty (.tmp x) (.tmp y),t2,p,af,none⟩) rfl ty (.tmp x) (.tmp y) rfl Z A n hx hy ht.2 hZ (by rw[hA,aj]) (by grind[iv]) (h _ (S.alloc ty hA ho))
theorem Nb (S:St w0 d l L O X w)(k:Nat){r:R4}(hk:L[k]? =some r){A:iw}(hx:a.eval (.tmp x)=.pointer (some ⟨r.b,0,none⟩))(hy:a.eval (.tmp y)=.agg A)(hA:A=ah r.n f)(ht:fu P ty r.n)(h1: ∀i,(f i).oneCell'=true)(h: ∀W,St w0 d l (L.set k ⟨r.b,r.t,r.n,f⟩) O X W->wpList P ops Q rest (a.put none undef) W):wpList P ops Q (⟨none,.store ty (.tmp x) (.tmp y),t2,p,af,none⟩::rest) a w:=
 wpList_store_row (o:=⟨none,.store ty (.tmp x) (.tmp y),t2,p,af,none⟩) rfl ty (.tmp x) (.tmp y) rfl r.b hx r.n f A hy hA r.t r.f (S.ee hk) ht.2 h1 (h _ (S.set hk f))
theorem u' {b o:Nat}(ht:w.there b o 1)(hx:a.eval (.tmp x)=.pointer (some ⟨b,o,none⟩))(hy:a.eval q=v)(hv:v.oneCell'=true)(hi:fZ P ty)(h:wpList P ops Q rest (a.put none undef) (w.setCell ⟨b,o,none⟩ v)):wpList P ops Q (⟨none,.store ty (.tmp x) q,t2,p,af,none⟩::rest) a w:=by
 refine sD rfl λ_ hK=>?_;have h1:=Tz (P:=P) b o [v] 0 w (λj hj=>by simpa using(ht j au).1) (λj hj=>by simpa using(ht j au).2) (λu hu=>by grind);have hc:v.cells=#[v]:=by cases v <;> first | rfl | cases hv
 have h2: (storeVar ty ⟨b,o,none⟩ v).run P w=.ok () (w.setCell ⟨b,o,none⟩ v):=by
  cases hq:P.info? ty with
  | none=>have:=hi.2;grind
  | some i=>
   have hs:i.size=1:=by have:=hi.2;grind
   simp only[CI] at h1;simp[storeVar,sizeOf,typeInfo,hq,hc,hs,h1];rfl
 unfold Oper.wp execOp;simp only[hx,hy,Instr.storeAt,Instr.sureAddr,py,wB,rj,h2];exact hK _ _ h
theorem nt (S:St w0 d l L O X w)(k:Nat){r:R4}(hk:L[k]? =some r)(i:Nat)(hi:i<r.n)(hx:a.eval (.tmp x)=.pointer (some ⟨r.b,i,none⟩))(hy:a.eval q=v)(hv:v.oneCell'=true)(ht:fZ P ty)(h: ∀W,St w0 d l (L.set k ⟨r.b,r.t,r.n,λj=>if j=i then v else r.f j⟩) O X W->wpList P ops Q rest (a.put none undef) W):wpList P ops Q (⟨none,.store ty (.tmp x) q,t2,p,af,none⟩::rest) a w:=
 u' (iz (S.ee hk) au) hx hy hv ht (h _ (S.put hk i v))
theorem Dk (S:St w0 d l L O X w)(k:Nat){r:R4}(hk:L[k]? =some r){o:Nat}{A:iw}{f':Nat->bh}(hm:o+m<=r.n)(hx:a.eval (.tmp x)=.pointer (some ⟨r.b,o,none⟩))(hy:a.eval (.tmp y)=.agg A)(hA:A=ah m g)(ht:fu P ty m)(h1: ∀i,(g i).oneCell'=true)(hf: ∀w',ag w r.b r.t r.n r.f->w'=w.setCells r.b o (ah m g).toList->ag w' r.b r.t r.n f')(h: ∀W,St w0 d l (L.set k ⟨r.b,r.t,r.n,f'⟩) O X W->wpList P ops Q rest (a.put none undef) W):wpList P ops Q (⟨none,.store ty (.tmp x) (.tmp y),t2,p,af,none⟩::rest) a w:=by
 subst hA;exact wpList_store_mid (op:=⟨none,.store ty (.tmp x) (.tmp y),t2,p,af,none⟩) rfl ty (.tmp x) (.tmp y) rfl r.b o (ah m g) hx hy (by rw[aj];exact iz (S.ee hk) hm) (by rw[aj];exact ht.2) (iv g h1)
  (h _ (S.modify hk f' (ek.setCells _ _ _ _) (hf _ (S.ee hk) rfl)))
theorem rQ (S:St w0 d l L O X w){A:iw}(hx:a.eval (.tmp x)=.agg A)(hA:A=ah n f)(ho:df ty=false)(h: ∀W,St w0 d l (⟨w.heap.size,ty,n,f⟩::L) O X W->wpList P ops Q rest (a.put (some dst) (.pointer (some ⟨w.heap.size,0,none⟩))) W):wpList P ops Q (⟨some dst,.box ty (.tmp x),t2,p,af,none⟩::rest) a w:=by
 refine sD rfl λK hK=>?_;unfold Oper.wp execOp;simp only[py,Instr.box,newVar,newRow,P8,wB,rj];rw[hx];exact hK _ _ (h _ (S.alloc ty hA ho))
end
def qj (P:pw) (t e:dD) (z by':Nat):Prop:=P.underlying t=some (.slice e)/\∃zv,(P.info? e).map (λi=>(i.zero,i.size,i.bytes))=some (some zv,z,by')/\zv.cells.size=z/\0<z
section
variable {P:pw}
variable {L:List R4}{O:List O4}
theorem St.pop {r:R4}(h:St w0 d l (r::L) O X w):St w0 d l L O X w:=by
 have hs: ∀k∈bE L O,k∈bE (r::L) O:=λk hk=>yz _ hk;exact⟨h.fr,λq hq=>h.row q (yz _ hq),h.own,λb hb=>h.lo b (hs b hb),(List.nodup_cons.1 (show(r.b::bE L O).Nodup from h.nd)).2,h.fs.mono h.x hs,h.fs⟩
theorem St.P9 {o:O4}(h:St w0 d l L (o::O) X w):St w0 d l L O X w:=by
 have hs: ∀k∈bE L O,k∈bE L (o::O):=λk hk=>by
  grind[dx]
 refine⟨h.fr,h.row,λq hq=>h.own q (yz _ hq),λb hb=>h.lo b (hs b hb),?_,h.fs.mono h.x hs,h.fs⟩;have hnd:=h.nd
 grind[bE]
theorem St.yK (h:St w0 d l L O X w)(e:dD)(z:Nat)(h1:df e=false)(h2:fk e=false):St w0 d l L (⟨e,z,.slice none 0 0,0,[]⟩::O) X w:=by
 have hb:bE L (⟨e,z,.slice none 0 0,0,[]⟩::O)=bE L O:=by rfl
 refine⟨h.fr,h.row,λq hq=>?_,by rw[hb];exact h.lo,by rw[hb];exact h.nd,by rw[hb];exact h.x,h.fs⟩;rcases iI.1 hq with rfl | hq
 . grind[World.ownsRow_nil]
 . exact h.own q hq
theorem St.JU {b:Nat}(h:St w0 d l (⟨b,e,n,f⟩::L) O X w)(h2:fk e=false):
 St w0 d l L (⟨e,n,.slice (some ⟨b,0,none⟩) 1 1,1,(ah n f).toList⟩::O) X w:=by
 have hb:bE L (⟨e,n,.slice (s_ b 0) 1 1,1,(ah n f).toList⟩::O)=L.map R4.b++b::O.filterMap O4.ob:=by rfl
 have hp: (L.map R4.b++b::O.filterMap O4.ob).Perm (bE (⟨b,e,n,f⟩::L) O):=perm_middle;have hR:=h.row _ (D0 ..);refine⟨h.fr,λq hq=>h.row q (yz _ hq),λq hq=>?_,λk hk=>h.lo k (hp.mem_iff.1 (hb ▸ hk)),by rw[hb];exact hp.nodup_iff.2 h.nd,h.fs.mono h.x λk hk=>hp.mem_iff.1 (hb ▸ hk),h.fs⟩;rcases iI.1 hq with rfl | hq
 . refine⟨⟨by simp_all[aj],.inr ⟨b,1,ah n f,rfl,h.lo b (D0 ..),hR.1,eO _,by decide,by simp_all[aj],by grind[take_of_length_le,aj]⟩⟩,hR.2.1,h2⟩
 . exact h.own q hq
theorem rR (S:St w0 d l L O X w){A:iw}(hx:a.eval (.tmp x)=.agg A)(hA:A=ah n f)(ht:qj P t e n by')(hn:n<=16777216)(ho:df e=false)(h: ∀W,St w0 d l (⟨w.heap.size,e,n,f⟩::L) O X W->wpList P ops Q rest (a.put (some dst) (.slice (some ⟨w.heap.size,0,none⟩) 1 1)) W):
 wpList P ops Q (⟨some dst,.buildSlice t 1 #[(0,.tmp x)],t2,p,af,none⟩::rest) a w:=by
 obtain⟨hu,zv,hi,hz,h0⟩:=ht;exact Ig (o:=⟨some dst,.buildSlice t 1 #[(0,.tmp x)],t2,p,af,none⟩) rfl t e (.tmp x) rfl A n by' zv hx hu hi h0 hn (by rw[hA,aj]) (h _ (S.alloc e hA ho))
theorem lZ (S:St w0 d l L O X w)(k:Nat){r:R4}(hk:L[k]? =some r)(j:Nat){o:O4}(hj:O[j]? =some o)(hs:a.eval (.tmp x)=o.v)(hx:a.eval (.tmp y)=.slice (some ⟨r.b,0,none⟩) 1 1)(hr:r.n=o.z)(ht:qj P t o.e o.z by')(h1: ∀i,(r.f i).oneCell'=true)(hn: (o.n+1)*by'<=140737488355328)(hm:o.n+1<=maxLen)(h: ∀g cap W,St w0 d l L (O.set j ⟨o.e,o.z,.slice (some ⟨g,0,none⟩) (o.n+1) cap,o.n+1,o.xs++(ah r.n r.f).toList⟩) X W->wpList P ops Q rest (a.put (some dst) (.slice (some ⟨g,0,none⟩) (o.n+1) cap)) W):
 wpList P ops Q (⟨some dst,.call {callee:=.builtin .append,args:=#[.tmp x,.tmp y],argTypes:=#[t,t]},t2,p,af,none⟩::rest) a w:=by
 obtain⟨hu,zv,hi,hz,h0⟩:=ht;refine Fw (o:=⟨some dst,.call {callee:=.builtin .append,args:=#[.tmp x,.tmp y],argTypes:=#[t,t]},t2,p,af,none⟩) rfl (.tmp x) (.tmp y) t rfl w0.heap.size o.e zv o.z by' hu hi hz h0 o.v o.n o.xs hs (S.bR hj) r.b (ah r.n r.f) r.t (0,0) hx (S.ee hk) (by rw[aj,hr])
  (λu hu=>?_) hm hn S.fr.size λg cap w' hown hg hat _=>h g cap w' ?_
 . grind[iv,Array.all_eq_true_iff_forall_mem]
 . exact S.grow hj hg hown rfl hat
theorem Dl {A B:iw}(hx:a.eval (.tmp x)=.agg A)(hi:a.eval (.tmp ix)=.int .i64 k)(hv: ∀W,(Instr.index t (.agg A) (.int .i64 k)).run P W=.ok (.agg B) W)(h:wpList P ops Q rest (a.put (some dst) (.agg B)) w):wpList P ops Q (⟨some dst,.index t (.tmp x) (.tmp ix),t2,p,af,none⟩::rest) a w:=
 Au (o:=⟨some dst,.index t (.tmp x) (.tmp ix),t2,p,af,none⟩) rfl t (.tmp x) (.tmp ix) rfl (.agg B) rE h
end
theorem bd:fu prog 106 3:=⟨⟨_,Ic,rfl⟩,eT⟩
theorem rk:fu prog 191 24:=⟨⟨_,PV,rfl⟩,sW⟩
theorem qk:fu prog 36 128:=⟨⟨_,Ep,rfl⟩,gk⟩
theorem cN:qj prog 107 106 3 24:=⟨underlying107,_,RI,rfl,au⟩
theorem az {q:aq}{A:iw}(h:A=ah 3 (aN q)):iy q=.agg A:=by grind[Ap]
def iT (l:Nat->aq):List aq:=(range 8).map l
def iX (ay:Nat) (x:Pl×(List aq×Int)) (q:aq):Pl×(List aq×Int):=
 if x.2.2≠0 then x else
 if fv q ay=false then x else
 if(aO x.1 q).2.2≠0 then((aO x.1 q).1,([],(aO x.1 q).2.2)) else
 ((aO x.1 q).1,(x.2.1++q:: (iT (aO x.1 q).2.1).filter (fv · ay),0))
def yL (ay:Nat) (l:List aq) (x:Pl×(List aq×Int)):Pl×(List aq×Int):=l.foldl (iX ay) x
def iK (s:Pl) (root:aq) (ay:Nat):Pl×(List aq×Int):=
 if fv root ay=false then(s,([],0)) else
 if(aO s root).2.2≠0 then((aO s root).1,([],(aO s root).2.2)) else
 yL ay (iT (aO s root).2.1) ((aO s root).1,([root],0))
theorem TD {l:List aq}{x:Pl×(List aq×Int)}(h:x.2.2≠0):yL ay l x=x:=by
 unfold yL
 induction l with
 | nil=>rfl
 | cons q l ih=>simp_all[iX]
theorem kH (l:Nat->aq): (iT l).length=8:=by rfl
theorem Cf (l:Nat->aq) (k:Nat) (h:k< (iT l).length): (iT l)[k]=l k:=by simp[iT]
theorem P' (f:β->α->β)(b:β)(l:List α)(hk:k<l.length): (l.take (k+1)).foldl f b=f ((l.take k).foldl f b) l[k]:=by
 grind[take_succ_eq_append_getElem]
theorem Nc (f:β->α->β)(b:β)(l:List α)(k:Nat):l.foldl f b=(l.drop k).foldl f ((l.take k).foldl f b):=by
 grind[take_append_drop]
theorem Qa {q:aq}(h:fv q st=false):iK s q st=(s,([],0)):=by simp_all[iK]
theorem Nd {q:aq}{l:Nat->aq}{c:Int}(h:fv q st=true)(h1:aO s q=(s1,(l,c)))(hc:c≠0):iK s q st=(s1,([],c)):=by
 grind[iK]
theorem Qb {q:aq}{l:Nat->aq}(h:fv q st=true)(h1:aO s q=(s1,(l,0))):iK s q st=yL st (iT l) (s1,([q],0)):=by
 grind[iK]
structure nu where
 lJ:Nat
 ay:Nat
 table:aq
 len:Nat
 fH:Nat
def gg (u:nu):Nat->bh:=λi=>if i=0 then .int .u64 u.lJ else if i=1 then .int .u64 u.ay else if i<5 then aN u.table (i - 2) else if i=5 then .int .i64 u.len else .int .i64 u.fH
theorem FK (u:nu):ah 7 (gg u)=#[.int .u64 u.lJ,.int .u64 u.ay,.int .i64 u.table.1,.int .u64 u.table.2.1,.int .u32 u.table.2.2,.int .i64 u.len,.int .i64 u.fH]:=rfl
theorem jK (u:nu): ∀i,(gg u i).oneCell'=true:=by
 intro i;unfold gg;split
 . rfl
 split
 . rfl
 split
 . exact aE _ _
 split <;> rfl
def rr (u:nu):Bool:=decide (1<=u.lJ/\u.lJ<=281474976710655/\1<=u.ay/\u.ay<=281474976710655/\fP u.table=true/\u.table≠hole/\1<=u.len/\u.len<=65535/\64<=u.fH/\u.fH<=1024)
theorem FL {b:Nat}{u:nu}(h:ag w b 143 7 (gg u)):w.cell? ⟨b,0,none⟩=some (.int .u64 u.lJ)/\w.cell? ⟨b,1,none⟩=some (.int .u64 u.ay)/\w.cell? ⟨b,2,none⟩=some (.int .i64 u.table.1)/\w.cell? ⟨b,3,none⟩=some (.int .u64 u.table.2.1)/\w.cell? ⟨b,4,none⟩=some (.int .u32 u.table.2.2)/\w.cell? ⟨b,5,none⟩=some (.int .i64 u.len)/\w.cell? ⟨b,6,none⟩=some (.int .i64 u.fH):=
 ⟨ag.cell h (i:=0) au,ag.cell h (i:=1) au,ag.cell h (i:=2) au,ag.cell h (i:=3) au,ag.cell h (i:=4) au,ag.cell h (i:=5) au,ag.cell h (i:=6) au⟩
theorem Il (u:nu)(w:aD):yr 260 #[.agg (ah 7 (gg u))] w (.bool (rr u)):=by
 have C1:=ae (rG u.table);obtain⟨b,hb⟩:=cM (decide (u.table=hole));have hq:=BZ u.table hole b hb;obtain⟨A,HA⟩:=BU (ah 7 (gg u));rw[<-HA.o];have S:=St.start w none [] dz kO;obtain⟨r,hr⟩:=cM (fP u.table);rw[hr] at C1;have hu:rr u=decide (1<=u.lJ/\u.lJ<=281474976710655/\1<=u.ay/\u.ay<=281474976710655/\r=true/\b=false/\1<=u.len/\u.len<=65535/\64<=u.fH/\u.fH<=1024):=by
  unfold rr;rw[hr,<-hb];simp
 have HU:=ae hu;clear hu hr hb;obtain⟨t,s,⟨p1,p2,p3⟩,l,n⟩:=u;simp only[iy] at C1 hq HU ⊢;unfold hole at hq;simp only at hq;have he: ∀w,(binOp .neq 106 (.agg #[.int .i64 p1,.int .u64 p2,.int .u32 p3]) (.agg #[.int .i64 0,.int .u64 0,.int .u32 0])).run prog w=.ok (.bool !b) w:=hq;clear hq;go_enter func260,ntmps260
 go_wp2_with (first|((with_reducible refine gT 1 143 0 ?_);refine rQ S rfl HA.o rfl ?_;clear S;intro W S;obtain⟨k0,k1,k2,k3,k4,k5,k6⟩:=FL (S.ee (k:=0) rfl);simp only at k0 k1 k2 k3 k4 k5 k6)|(go_at_call 241;refine(C1.o _).mono ?_;rintro e W ⟨rfl,hb⟩;replace S:=S.below hb;clear hb k0 k1 k2 k3 k4 k5 k6;obtain⟨k0,k1,k2,k3,k4,k5,k6⟩:=FL (S.ee (k:=0) rfl);simp only at k0 k1 k2 k3 k4 k5 k6))
 all_goals go_ret
 all_goals (refine⟨?_,S.fr.below⟩;rw[HU.o];clear S HU C1 HA;first|(show Ending.returned (.bool false)=_;rw[iE (λhh=>by obtain⟨_,_,_,_,_,_,_,_,_,_⟩:=hh;first | omega | simp_all)])|(refine iS (λx=>Ending.returned (.bool x)) (decide_eq_decide.2 ⟨λ_=>⟨au,au,by omega,au,by assumption,by simp_all,au,by omega,au,au⟩,λhh=>by obtain⟨_,_,_,_,_,_,_,_,_,_⟩:=hh;omega⟩)))
def AD (k:IntKind) (l:List Int):Nat->bh:=λi=>.int k (l.getD i 0)
theorem V' (k:IntKind)(l:List Int)(h:l.length=n): (l.map (Value.int k)).toArray=ah n (AD k l):=by
 apply ER;intro j;rw[Vd,tY,aF];by_cases hj:j<n
 . simp_all[AD]
 grind
theorem br.row {b:Nat}{k:IntKind}{l:List Int}(h:ag w b t n (AD k l))(hn:l.length=n)(hs:n<=9223372036854775807)(hw: ∀x∈l,(Lit.int k x).wf=true):br k w (.slice (some ⟨b,0,none⟩) n n) l:=by
 refine⟨_,_,by rw[hn],au,hw,λ_=>⟨b,0,rfl,ag.lt h,λj hj=>?_⟩⟩;rw[rC,ag.cell h au]
 grind[AD]
theorem oJ: (prog.info? 82).map (λi=>(i.zero,i.size,i.bytes))=some (some (.int .u64 0),1,8):=cm
theorem lH: (prog.info? 3).map (λi=>(i.zero,i.size,i.bytes))=some (some (.int .i64 0),1,8):=cm
section
variable {P:pw}
variable {L:List R4}{O:List O4}
theorem St.cU (h:St w0 d l L O X w)(hb:dp w w')(ho:w'.ownsRow w.heap.size e z v n xs)(h1:df e=false)(h2:fk e=false):St w0 d l L (⟨e,z,v,n,xs⟩::O) X w':=
 h.take (h.below hb) ho h1 h2 λB hx=>h.fs.below (B:=B) hx hb
theorem St.pO (h:St w0 d l L O X w)(f:Fr d2 l2 w w')(hd: ∀D,d2=some D->d=some D)(hl: ∀k∈l2,k∈l∨w0.heap.size<=k)(hs:gX d X')(hx: ∀B,X B w->X' B w')(ho:w'.ownsRow w.heap.size e z v n xs)(h1:df e=false)(h2:fk e=false):St w0 d l L (⟨e,z,v,n,xs⟩::O) X' w':=
 h.take (h.call f hd hl hs hx) ho h1 h2 hx
theorem j6 (dst:Nat)(ty:dD)(n:Nat)(h:wpList P ops Q (⟨some dst,.buildSlice ty n parts,t2,p,af,none⟩::rest) a w):wpList P ops Q (⟨some dst,.buildSlice ty n parts,t2,p,af,none⟩::rest) a w:=h
theorem vd (x y:Nat){o:Option Nat}(h:wpList P ops Q (⟨o,.call {callee:=.builtin .copy,args:=#[.tmp x,.tmp y],argTypes:=ts},t2,p,af,none⟩::rest) a w):wpList P ops Q (⟨o,.call {callee:=.builtin .copy,args:=#[.tmp x,.tmp y],argTypes:=ts},t2,p,af,none⟩::rest) a w:=h
theorem aY (dst:Nat)(ty:dD)(h:wpList P ops Q (⟨some dst,.build ty parts,t2,p,af,none⟩::rest) a w):wpList P ops Q (⟨some dst,.build ty parts,t2,p,af,none⟩::rest) a w:=h
theorem eY (S:St w0 d l L O X w)(k:IntKind)(li:List Int)(hu:P.underlying t=some (.slice e))(hi: (P.info? e).map (λi=>(i.zero,i.size,i.bytes))=some (some zv,1,by'))(h0:0<n)(hn:n<=16777216)(ho:df e=false)(hl:li.length=n)(hp:parts.toList.map (λp=>(p.1,a.eval p.2))=((li.map (Value.int k)).zipIdx 0).map λx=>(x.2,x.1))(h: ∀W,St w0 d l (⟨w.heap.size,e,n,AD k li⟩::L) O X W->wpList P ops Q rest (a.put (some dst) (.slice (some ⟨w.heap.size,0,none⟩) n n)) W):
 wpList P ops Q (⟨some dst,.buildSlice t n parts,t2,p,af,none⟩::rest) a w:=by
 obtain⟨it,hi1,hz,hz1,hz2⟩:=sC hi;refine sD rfl λK hK=>wp_buildSlice t e n parts rfl (ah n (AD k li)) it zv hu hi1 hz rE rE (by rw[hz1];refine(iS (Instr.fill _ _) ((Array.toList_map).trans hp)).trans ?_;rw[<-V' k li hl];exact Great.fill_flat _ _ (λv hv=>by obtain⟨n,_,rfl⟩:=lY.1 hv;rfl) (by simp[hl])) (hK _ _ (h _ (S.alloc e rfl ho)))
theorem Nf (S:St w0 d l L O X w)(k:Nat){b:Nat}{s:aK}{o:Option Nat}(hk:L[k]? =some ⟨b,36,128,aw s⟩){q:Nat}(hq:s.length=q)(R:eX w T v bs)(hl:s.length+bs.length<=128)(hm:bs.length<=m)(hu:P.underlying dT=some (.slice 5))(hsz: (P.info? 5).map (·.size)=some 1)(hd:a.eval (.tmp x)=.slice (some ⟨b,q,none⟩) m cap)(hs:a.eval (.tmp y)=v)(h: ∀W,St w0 d l (L.set k ⟨b,36,128,aw (s++bs)⟩) O X W->wpList P ops Q rest (a.put o (goInt bs.length)) W):
 wpList P ops Q (⟨o,.call {callee:=.builtin .copy,args:=#[.tmp x,.tmp y],argTypes:=#[dT,sT]},t2,p,af,none⟩::rest) a w:=by
 subst hq;obtain⟨⟨h1,ao,c,rfl,h2,h3,h4⟩,h5⟩:=R;by_cases h0:bs.length=0
 . obtain rfl:bs=[]:=Jp h0;refine wpList_copy_nothing rfl (.tmp x) (.tmp y) dT sT rfl 5 hu hsz _ ao m cap _ c hd hs (Nat.zero_min _) (h _ ?_);have:=S.modify hk (aw (s++[])) (ek.refl _ _) (by rw[ET];exact S.ee hk);exact this
 . obtain⟨b',o',cs,fl,rfl,hh,hc⟩:=h4 au;have hmin:Nat.min bs.length m=bs.length:=Jn hm;refine wpList_copy_own rfl (.tmp x) (.tmp y) dT sT rfl 5 hu hsz b s.length m cap ⟨b',o',none⟩ _ c hd hs (ah 128 (aw s)) 36 (S.ee hk) (bs.map λ(x:Nat)=>Value.int .u8 (x:Int)) au
    (λj u hj=>?_) (by grind[aj]) (λu hu=>by obtain⟨_,_,rfl⟩:=lY.1 hu;rfl) ?_
   . have hadd: (⟨b',o',none⟩:Addr).add j=⟨b',o'+j,none⟩:=by grind[Addr.add]
     grind[cell_of_row]
   . rw[pr];have hw:=pT s bs hl;unfold splice at hw;rw[pr] at hw;rw[hw];exact h _ (S.set hk _)
theorem Im (w:aD)(dT sT ty elem:dD)(g o dLen dCap:Nat)(s:lf)(cur:iw)(t:dD)(hu:P.underlying dT=some (.slice elem))(hs: (P.info? elem).map (·.size)=some 1)(hg:w.heap[g]? =some (.cells cur t (0,0)))(hle:s.size<=dLen)(hfit:o+s.size<=cur.size):
 (Builtin.copy_ #[dT,sT] ty #[.slice (some ⟨g,o,none⟩) dLen dCap,.string s]).run P w=.ok (goInt s.size) (w.setRow g (cur.toList.take o++byteCells s.data.toList++cur.toList.drop (o+s.size)).toArray):=
 by grind[run_copy_row_string]
def lR (s:lf):aK:=s.data.toList.map UInt8.toNat
theorem TE (x:Nat){s:lf}{o:Option Nat}(h:wpList P ops Q (⟨o,.call {callee:=.builtin .copy,args:=#[.tmp x,.const (.string s)],argTypes:=ts},t2,p,af,none⟩::rest) a w):wpList P ops Q (⟨o,.call {callee:=.builtin .copy,args:=#[.tmp x,.const (.string s)],argTypes:=ts},t2,p,af,none⟩::rest) a w:=h
theorem aa9 (S:St w0 d l L O X w)(k:Nat){b:Nat}{s:aK}{o:Option Nat}(hk:L[k]? =some ⟨b,36,128,aw s⟩){q:Nat}(hq:s.length=q)(hl:s.length+ (lR str).length<=128)(hm: (lR str).length<=m)(hu:P.underlying dT=some (.slice 5))(hsz: (P.info? 5).map (·.size)=some 1)(hd:a.eval (.tmp x)=.slice (some ⟨b,q,none⟩) m cap)(h: ∀W,St w0 d l (L.set k ⟨b,36,128,aw (s++lR str)⟩) O X W->wpList P ops Q rest (a.put o (goInt str.size)) W):
 wpList P ops Q (⟨o,.call {callee:=.builtin .copy,args:=#[.tmp x,.const (.string str)],argTypes:=#[dT,sT]},t2,p,af,none⟩::rest) a w:=by
 subst hq;have hsl: (lR str).length=str.size:=by grind[lR,size_eq]
 refine sD rfl λK hK=>?_;have hrun:=Im (P:=P) w dT sT t2 5 b s.length m cap str (ah 128 (aw s)) 36 hu hsz (S.ee hk) au (by grind[aj]);have hw:=pT s (lR str) hl;have hb:byteCells str.data.toList=(lR str).map λ(x:Nat)=>Value.int .u8 (x:Int):=by unfold lR;rw[EV];rfl
 unfold splice at hw;rw[pr,<-hb,hsl,<-Hh] at hw;rw[hw] at hrun;unfold Oper.wp;simp[execOp,resolve,invoke,builtin,hd,show a.eval (.const (.string str))=.string str from rfl,hrun,Result.andThen];exact hK _ _ (h _ (S.set hk _))
theorem gD (S:St w0 d l L O X w)(hv: ∀w,(zeroValue ty).run P w=.ok (.agg Z) w)(hZ:Z=ah n f)(ho:df ty=false)(h: ∀W,St w0 d l (⟨w.heap.size,ty,n,f⟩::L) O X W->wpList P ops Q rest (a.put (some dst) (.pointer (some ⟨w.heap.size,0,none⟩))) W):wpList P ops Q (⟨some dst,.alloc ty,t2,p,af,none⟩::rest) a w:=by
 refine sD rfl λK hK=>?_;unfold Oper.wp execOp;simp only[py,Instr.alloc,hv,newVar,newRow,P8,wB,rj];exact hK _ _ (h _ (S.alloc ty hZ ho))
theorem ku (hb:P.built ty []=some Z)(h:wpList P ops Q rest (a.put (some dst) (.agg Z)) w):wpList P ops Q (⟨some dst,.build ty #[],t2,p,af,none⟩::rest) a w:=
 wpList_buildTo rfl ty #[] rfl (some dst) rfl Z (ZP hb _) h
theorem bj {R:Ending->aD->Prop}(S:St w0 d l L O X w)(k:Nat){r:R4}{p q:Tmp}(hk:L[k]? =some r)(h:fn.results=#[.cell p ty,.tmp q])(hp:a.tmps.getD p undef=.pointer (some ⟨r.b,0,none⟩))(ht:fu P ty r.n)(hd:a.defers=[])(hR:R (.returned (.tuple #[.agg (ah r.n r.f),a.tmps.getD q undef])) w):bodyPost P fn R .ret a w:=by
 obtain⟨⟨dd,h1,h2⟩,h3⟩:=ht;exact kg (ib h hp (S.ee hk) h1 rE h3) hd hR
theorem fU {R:Ending->aD->Prop}(S:St w0 d l L O X w)(k:Nat){r:R4}{p q:Tmp}(hk:L[k]? =some r)(h:fn.results=#[.cell p ty,.tmp q,.tmp q2])(hp:a.tmps.getD p undef=.pointer (some ⟨r.b,0,none⟩))(ht:fu P ty r.n)(hd:a.defers=[])(hR:R (.returned (.tuple #[.agg (ah r.n r.f),a.tmps.getD q undef,a.tmps.getD q2 undef])) w):bodyPost P fn R .ret a w:=by
 obtain⟨⟨dd,h1,h2⟩,h3⟩:=ht;exact kg (Ib h hp (S.ee hk) h1 rE h3) hd hR
theorem qW {R:Ending->aD->Prop}(S:St w0 d l L O X w)(k:Nat){r:R4}{p:Tmp}(hk:L[k]? =some r)(h:fn.results=#[.cell p ty])(hp:a.tmps.getD p undef=.pointer (some ⟨r.b,0,none⟩))(ht:fu P ty r.n)(hd:a.defers=[])(hR:R (.returned (.agg (ah r.n r.f))) w):bodyPost P fn R .ret a w:=by
 obtain⟨⟨dd,h1,h2⟩,h3⟩:=ht;exact kg (MI h hp (S.ee hk) h1 rE h3) hd hR
end
theorem eX.xY {s:aK}(h:ag w E 36 128 (aw s))(hs:fa s)(o n cap:Nat)(hn:o+n<=128)(hc:n<=cap)(hc2:cap<=128):eX w 36 (.slice (some ⟨E,o,none⟩) n cap) ((s.drop o).take n):=by
 have hl: ((s.drop o).take n).length=n:=by rw[pM,Ek,hs.1];omega
 refine⟨⟨by grind,_,_,by rw[hl],au,by grind[maxLen],λ_=>⟨E,o,_,_,rfl,h,λj u hu=>?_⟩⟩,λx hx=>hs.2 x (vF (rD hx))⟩;rw[tY] at hu;cases hj: ((s.drop o).take n)[j]? with
 | none=>grind
 | some x=>
  rw[hj] at hu;cases hu;have hjn:j<n:=by grind
  rw[getElem?_take,bC hjn,getElem?_drop] at hj;rw[aF,bC au]
  grind[aw]
theorem FM (s:aK)(n:Nat):aw (s++replicate n 0)=aw s:=by
 grind[aw]
def nL:nu:=⟨0,0,hole,0,0⟩
theorem yM: (#[Value.int .u64 0,.int .u64 0,.int .i64 0,.int .u64 0,.int .u32 0,.int .i64 0,.int .i64 0]:iw)=ah 7 (gg nL):=rfl
theorem s9:fu prog 143 7:=⟨⟨_,underlying143,rfl⟩,cm⟩
theorem bF:fZ prog 82:=⟨⟨_,underlying82,rfl⟩,cm⟩
theorem kX:fZ prog 3:=⟨⟨_,underlying3,rfl⟩,cm⟩
def Af (u:nu):aK:=[65,81,70,82]++ez [8,8] [u.lJ,u.ay]++gZ u.table++ez [4,4] [u.len,u.fH]
theorem oK (u:nu): (Af u).length=44:=by
 rfl
def oL (u:nu):aK:=Af u++replicate 80 0
def Hp (u:nu):aK:=oL u++tw 4 (vH (oL u))
def ji (u:nu):Option aK:=if rr u=true then some (Hp u) else none
theorem FN (u:nu): ∀x∈Af u,x<256:=by
 intro x hx;unfold Af at hx;simp only[jn] at hx;rcases hx with((hx | hx) | hx) | hx
 . grind
 . exact lj _ _ x hx
 . exact o5 _ x hx
 . exact lj _ _ x hx
theorem Ng (u:nu):fa (Hp u):=by
 grind[Hp,oL,oK,dV,FN,vW,fa]
def kp (u:nu):Prop:=u.lJ<18446744073709551616/\u.ay<18446744073709551616/\bt u.table/\u.len<4294967296/\u.fH<4294967296
theorem Dm {u:nu}: ∀i,i<3->gg u (2+i)=aN u.table i:=by
 intro i hi;unfold gg
 grind
theorem Nh (u:nu)(w:aD):yr 188 #[.agg (ah 7 (gg u))] w (.int .i64 (u.lJ % 4:Nat)):=by
 obtain⟨A,HA⟩:=BU (ah 7 (gg u));rw[<-HA.o];have S:=St.start w none [] dz kO;have hw:IntKind.i64.wrap ((u.lJ:Int) % 4)=((u.lJ % 4:Nat):Int):=by rw[mT _ au];omega
 go_enter func188,ntmps188
 go_wp2_with (first|((with_reducible refine gT 1 143 0 ?_);go_must (refine rQ S rfl HA.o rfl ?_;clear S;intro W S))|((with_reducible refine aG 4 82 3 ?_);go_must (refine dY S 0 rfl 0 (v:=.int .u64 u.lJ) rfl qv rfl bF ?_)))
 go_ret;exact⟨iS (λx=>Ending.returned (.int .i64 x)) au,S.fr.below⟩
theorem Ys {a b:Nat}(ha:a<18446744073709551616)(hb:b<18446744073709551616):mX [8,8] [a,b]=some (ez [8,8] [a,b]):=by
 unfold mX;rw[bC ⟨by decide,rfl,by grind[fitAll]⟩]
theorem Yt {a b:Nat}(ha:a<4294967296)(hb:b<4294967296):mX [4,4] [a,b]=some (ez [4,4] [a,b]):=by
 unfold mX;rw[bC ⟨by decide,rfl,by grind[fitAll]⟩]
theorem ZV {a:Nat}(ha:a<4294967296):mX [4] [a]=some (tw 4 a):=by
 unfold mX;rw[bC ⟨by decide,rfl,by simp[fitAll,ha]⟩];rfl
theorem wf_i64 {x:Nat} (h:x<=9223372036854775807): (Lit.int .i64 (x:Int)).wf=true:=by
 grind[Lit.wf,IntKind.min,IntKind.max,IntKind.bits]
theorem aba (u:nu):fa (Af u++replicate 84 0):=by
 grind[oK,FN,fa]
theorem ZX {u:nu}: (Af u++replicate 84 0).take 124=oL u:=by
 rfl
theorem yN (u:nu)(hp:kp u)(w:aD):Calls prog 225 #[.agg (ah 7 (gg u))] w λe w'=>∃B,e=.returned (.tuple #[.agg B,.int .i64 (codeF 61 (ji u))])/\B=ah 128 (aw ((ji u).getD aX))/\dp w w':=by
 obtain⟨A,hA⟩:=gq (ah 7 (gg u));have C1:=ae λw=>hA ▸ Il u w;rw[<-hA];have HA:=ae hA;clear hA;have S:=St.start w none [] dz kO;obtain⟨h1,h2,h3,h4,h5⟩:=hp;go_enter func225,ntmps225;cases hr:rr u with
 | false=>
  have hb:ji u=none:=by unfold ji;rw[hr];rfl
  rw[hb];rw[hr] at C1
  go_wp2_with (first|((with_reducible refine gT 1 143 0 ?_);go_must (refine rQ S rfl HA.o rfl ?_;clear S;intro W S))|((with_reducible refine dH 2 36 ?_);go_must (refine gD S zeroValue36 ij rfl ?_;clear S;intro W S))|((with_reducible refine aG 10 143 1 ?_);go_must (refine O8 S 1 rfl rfl HA.o s9 ?_))|(go_at_call 260;go_must (refine(C1.o _).mono ?_;rintro e W ⟨rfl,hb⟩;replace S:=S.below hb;clear hb))|((with_reducible refine aY 13 36 ?_);go_must (refine ku CG ?_))|((with_reducible refine aS 36 2 13 ?_);go_must (refine Nb S 0 rfl rfl rfl ij qk (bV _) ?_;clear S;intro W S))|((with_reducible refine aJ ?_);go_must (refine bj S 0 rfl rfl rfl qk rfl ?_;refine Hid.o ?_)))
  exact ae ⟨_,⟨rfl,rfl⟩,rfl,S.fr.below⟩
 | true=>
  have hb:ji u=some (Hp u):=by unfold ji;rw[hr];rfl
  rw[hb];rw[hr] at C1;have C2:=ae λv v' w hv hu=>Ys h1 h2 ▸ wi v v' [8,8] [u.lJ,u.ay] nh w hv hu;have C4:=ae λv v' w hv hu=>Yt h4 h5 ▸ wi v v' [4,4] [u.len,u.fH] nh w hv hu;have C3:=ae λw=>qU u.table h3 w;have hrt:fP u.table=true:=by
   unfold rr at hr;exact(lK hr).2.2.2.2.1
  rw[hrt] at C3;obtain⟨T,hT⟩:=gq (ah 3 (aN u.table));rw[az hT] at C3;have HT:=ae hT;clear hT hrt hr hb;have hw1: ∀x∈aW [8,8],(Lit.int .i64 x).wf=true:=by decide
  have hw2: ∀x∈aW [4,4],(Lit.int .i64 x).wf=true:=by decide
  have hw3: ∀x∈aW [u.lJ,u.ay],(Lit.int .u64 x).wf=true:=by
   intro x hx;simp[aW] at hx;rcases hx with rfl | rfl <;> exact wf_u64 (by assumption)
  have hw4: ∀x∈aW [u.len,u.fH],(Lit.int .u64 x).wf=true:=by
   intro x hx;simp[aW] at hx;rcases hx with rfl | rfl <;> exact wf_u64 au
  have wu1:IntKind.u64.wrap (u.len:Int)=(u.len:Int):=D4 _ au;have wu2:IntKind.u64.wrap (u.fH:Int)=(u.fH:Int):=D4 _ au;have hcr:vH (oL u)<4294967296:=Fm _ _ nh (λx hx=>by
   unfold oL at hx;rcases jn.1 hx with h | h
   . exact FN u x h
   . simp at h;omega)
  have hc4:=ZV hcr;have C5:=ae λv v' w hv hu=>hc4 ▸ wi v v' [4] [vH (oL u)] nh w hv hu;have wu3:IntKind.u64.wrap (vH (oL u):Int)=(vH (oL u):Int):=D4 _ au;obtain⟨c,hc⟩:=cM (vH (oL u));have HS:Hid (Hp u=oL u++tw 4 c):=ae (by unfold Hp;rw[hc]);have C6:=ae λv w (hv:br .u8 w v (aW (oL u)))=>hc ▸ Pz v (oL u) w hv;rw[hc] at C5 wu3 hcr;clear hc;obtain⟨b1,hb1⟩:=cM (ez [8,8] [u.lJ,u.ay]);obtain⟨b2,hb2⟩:=cM (gZ u.table);obtain⟨b3,hb3⟩:=cM (ez [4,4] [u.len,u.fH]);obtain⟨b4,hb4⟩:=cM (tw 4 c);have hB:Af u=[65,81,70,82]++b1++b2++b3:=by unfold Af;rw[hb1,hb2,hb3]
  have HB:=ae hB;clear hB;have l1:b1.length=16:=by rw[<-hb1];simp[ez,dV]
  have l2:b2.length=16:=by rw[<-hb2];exact ep _
  have l3:b3.length=8:=by rw[<-hb3];simp[ez,dV]
  have l4:b4.length=4:=by rw[<-hb4,dV]
  have t1:=ae (show ∀x∈b1,x<256 by rw[<-hb1];exact lj _ _);have t2:=ae (show ∀x∈b2,x<256 by rw[<-hb2];exact o5 _);have t3:=ae (show ∀x∈b3,x<256 by rw[<-hb3];exact lj _ _);have t4:=ae (show ∀x∈b4,x<256 by rw[<-hb4];exact vW _ _);rw[hb1] at C2;rw[hb3] at C4;rw[hb4] at C5 HS;simp only[wz,hb2] at C3;clear hb1 hb2 hb3 hb4;have L1:=ae l1;have L2:=ae l2;have L3:=ae l3;have L4:=ae l4;clear l1 l2 l3 l4;obtain⟨F,HF⟩:=BU (ah 128 (aw (oL u++b4)));have hw5: ∀x∈aW [c],(Lit.int .u64 x).wf=true:=by
   intro x hx;simp[aW] at hx;subst hx;exact wf_u64 au
  go_upto_region 17 with(first|((with_reducible refine gT 1 143 0 ?_);go_must (refine rQ S rfl HA.o rfl ?_;clear S;intro W S))|((with_reducible refine dH 2 36 ?_);go_must (refine gD S zeroValue36 ij rfl ?_;clear S;intro W S))|((with_reducible refine aG 10 143 1 ?_);go_must (refine O8 S 1 rfl rfl HA.o s9 ?_))|(go_at_call 260;go_must (refine(C1.o _).mono ?_;rintro e W ⟨rfl,hb⟩;replace S:=S.below hb;clear hb))|((with_reducible refine j6 15 81 2 ?_);go_must (refine eY S .i64 [8,8] um lH au au rfl rfl pB ?_;clear S;intro W S))|((with_reducible refine aG 17 82 16 ?_);go_must (refine dY S 2 rfl 0 (v:=.int .u64 u.lJ) rfl qv rfl bF ?_))|((with_reducible refine aG 19 82 18 ?_);go_must (refine dY S 2 rfl 1 (v:=.int .u64 u.ay) rfl qv rfl bF ?_))|((with_reducible refine j6 20 78 2 ?_);go_must (refine eY S .u64 [(u.lJ:Nat),(u.ay:Nat)] Fi oJ au au rfl rfl pB ?_;clear S;intro W S))|(go_at_call 73;refine(C2.o _ _ _ (br.row (S.ee (k:=1) rfl) rfl qv hw1) (br.row (S.ee (k:=0) rfl) rfl qv hw3)).mono ?_;rintro e W ⟨r,rfl,ho,hb⟩;replace S:=S.cU hb ho rfl rfl;clear hb)|((with_reducible refine aG 29 106 28 ?_);go_must (refine nK S 3 rfl (o:=2) (m:=3) rfl (aN u.table) qv Dm HT.o bd ?_))|(go_at_call 233;go_must (refine(C3.o _).mono ?_;rintro e W ⟨r,rfl,ho,hb⟩;replace S:=S.cU hb ho rfl rfl;clear hb))|((with_reducible refine j6 37 81 2 ?_);go_must (refine eY S .i64 [4,4] um lH au au rfl rfl pB ?_;clear S;intro W S))|((with_reducible refine aG 39 3 38 ?_);go_must (refine dY S 4 rfl 5 (v:=.int .i64 u.len) rfl qv rfl kX ?_))|((with_reducible refine aG 42 3 41 ?_);go_must (refine dY S 4 rfl 6 (v:=.int .i64 u.fH) rfl qv rfl kX ?_))|((with_reducible refine j6 44 78 2 ?_);go_must (refine eY S .u64 [(u.len:Nat),(u.fH:Nat)] Fi oJ au au rfl rfl pB ?_;clear S;intro W S))|(go_at_call 73;refine(C4.o _ _ _ (br.row (S.ee (k:=1) rfl) rfl qv hw2) (br.row (S.ee (k:=0) rfl) rfl qv hw4)).mono ?_;rintro e W ⟨r,rfl,ho,hb⟩;replace S:=S.cU hb ho rfl rfl;clear hb)|((with_reducible refine dH 8 36 ?_);go_must (refine gD S zeroValue36 KE rfl ?_;clear S;intro W S))|((with_reducible refine TE 51 ?_);go_must (refine aa9 S 0 (s:=[]) rfl (q:=0) rfl nh nh oC ue rfl ?_;clear S;intro W S))|((with_reducible refine vd 53 54 ?_);go_must (refine Nf S 0 (s:=[65,81,70,82]) (bs:=b1) rfl (q:=4) rfl (eX.own (S.bR (k:=2) rfl) t1.o) (by show 4+b1.length<=128;have:=L1.o;omega) (by have:=L1.o;omega) oC ue rfl rfl ?_;clear S;intro W S))|((with_reducible refine vd 56 57 ?_);go_must (refine Nf S 0 (s:=[65,81,70,82]++b1) (bs:=b2) rfl (q:=20) (by have:=L1.o;simp;omega) (eX.own (S.bR (k:=1) rfl) t2.o) (by have:=L1.o;have:=L2.o;simp;omega) (by have:=L2.o;omega) oC ue rfl rfl ?_;clear S;intro W S))|((with_reducible refine vd 59 60 ?_);go_must (refine Nf S 0 (s:=[65,81,70,82]++b1++b2) (bs:=b3) rfl (q:=36) (by have:=L1.o;have:=L2.o;simp;omega) (eX.own (S.bR (k:=0) rfl) t3.o) (by have:=L1.o;have:=L2.o;have:=L3.o;simp;omega) (by have:=L3.o;omega) oC ue rfl rfl ?_;clear S;intro W S)))
  go_wp2_with (first|((with_reducible refine j6 63 81 1 ?_);go_must (refine eY S .i64 [4] um lH au au rfl rfl pB ?_;clear S;intro W S))|(go_at_call 166;go_must (have hR:=S.ee (k:=1) rfl;have h:=eX.xY (s:=Af u++replicate 84 0) (by rw[FM,HB.o];exact hR) (aba u) 0 124 128 au au au;rw[drop_zero,ZX] at h;refine(C6.o _ _ (eX.ints h)).mono ?_;rintro e W ⟨rfl,rfl⟩;clear h hR))|((with_reducible refine j6 67 78 1 ?_);go_must (refine eY S .u64 [(c:Nat)] Fi oJ au au rfl rfl pB ?_;clear S;intro W S))|(go_at_call 73;go_must (refine(C5.o _ _ _ (br.row (S.ee (k:=1) rfl) rfl qv nh) (br.row (S.ee (k:=0) rfl) rfl qv hw5)).mono ?_;rintro e W ⟨r,rfl,ho,hb⟩;replace S:=S.cU hb ho rfl rfl;clear hb))|((with_reducible refine vd 74 75 ?_);go_must (refine Nf S 2 (s:=oL u) (bs:=b4) (by unfold oL;rw[FM,HB.o];rfl) (q:=124) (by simp[oL,oK]) (eX.own (S.bR (k:=0) rfl) t4.o) (by have:=L4.o;simp[oL,oK];omega) (by have:=L4.o;omega) oC ue rfl rfl ?_;clear S;intro W S))|((with_reducible refine aG 77 36 8 ?_);go_must (refine O8 S 2 rfl rfl HF.o qk ?_))|((with_reducible refine aS 36 2 77 ?_);go_must (refine Nb S 7 rfl rfl rfl HF.o qk (bV _) ?_;clear S;intro W S))|((with_reducible refine aJ ?_);go_must (refine bj S 7 rfl rfl rfl qk rfl ?_;refine Hid.o ?_)))
  exact ae ⟨_,⟨rfl,rfl⟩,by rw[HS.o],S.fr.below⟩
def SE (w0:aD) (d:Option Nat) (l:aK) (L:List R4) (O:List O4):aD->Prop:=λW=>∃X,St w0 d l L O X W
section
variable {P:pw}
variable {L:List R4}{O:List O4}
theorem bL (S:St w0 d l L O X w){id:Nat}(hm:P.follows .mixedOrders=true)(h: ∀W,St w0 d l L O X W->wpAnyH P .any ops Q (SE w0 d l L O) ops.size (Array.replicate ops.size false) a W): (Code.region id ops true).wp P Q a w:=
 wp_region_held_drew hm ⟨X,S.drew⟩ λ_=>h _ S.drew
def SE0 (w0:aD) (d:Option Nat) (l:aK):aD->Prop:=λW=>∃L O X,St w0 d l L O X W
theorem ve (S:St w0 d l L O X w){id:Nat}(hm:P.follows .mixedOrders=true)(h: ∀W,St w0 d l L O X W->wpAnyH P .any ops Q (SE0 w0 d l) ops.size (Array.replicate ops.size false) a W): (Code.region id ops true).wp P Q a w:=
 wp_region_held_drew hm ⟨L,O,X,S.drew⟩ λ_=>h _ S.drew
theorem yw (i:Nat)(dst:Option Nat)(v:bh){SS:aD->Prop}(hS:SS w)(hi:ops[i]? =some oi)(hd:oi.dst=dst)(hs:Region.noSelect ops=true)(hf:Region.free .any ops listed i=true)(hr: (Region.ready .any ops listed).contains i=true)(hQ: ∀c a w,Q (.panic c) (a.put dst v) w->Q (.panic c) a w)(hy:YieldsIf P ops SS oi v a)(h:wpAnyH P .any ops Q SS fuel (listed.setIfInBounds i true) (a.put dst v) w):wpAnyH P .any ops Q SS (fuel+1) listed a w:=by
 subst hd;exact wpAnyH_take hi hs hf hr hQ hy hS h
theorem fO {SS:aD->Prop}(hr:Region.ready .any ops listed=[i])(ho:ops[i]? =some o)(hw:Region.wanted o (yielded ops a.tmps)=true)(h: ∀K,Shut (∀a w,SS w->(SS w->wpAnyH P .any ops Q SS fuel (listed.setIfInBounds i true) a w)->K a w)->o.wp P a w K Q):wpAnyH P .any ops Q SS (fuel+1) listed a w:=
 wpAnyH_ready hr fh (AllReadyH.cons ho (λK hK=>by grind) .nil)
theorem BS {SS:aD->Prop}(hv:a.eval q=v)(hw:Region.wanted ⟨some dst,.move q,t2,p,af,gd⟩ (yielded ops a.tmps)=true:=by kernel_rfl):YieldsIf P ops SS ⟨some dst,.move q,t2,p,af,gd⟩ v a:=by
 subst hv;exact .inl ⟨hw,λw _=>by rfl⟩
theorem aaH {SS:aD->Prop}(hv:a.eval q=v)(hw:Region.wanted ⟨some dst,.assign q,t2,p,af,gd⟩ (yielded ops a.tmps)=true:=by kernel_rfl):YieldsIf P ops SS ⟨some dst,.assign q,t2,p,af,gd⟩ v a:=by
 subst hv;exact .inl ⟨hw,λw _=>by rfl⟩
theorem pf {SS:aD->Prop}(hp:parts.toList.map (λp=>(p.1,a.eval p.2))=vs)(hb:P.built ty vs=some cells)(hw:Region.wanted ⟨some dst,.build ty parts,t2,p,af,gd⟩ (yielded ops a.tmps)=true:=by kernel_rfl):YieldsIf P ops SS ⟨some dst,.build ty parts,t2,p,af,gd⟩ (.agg cells) a:=
 P7 hw ty parts rfl cells (by simp_all)
theorem ac7 {SS:aD->Prop}(hw:Region.wanted o (yielded ops a.tmps)=false):YieldsIf P ops SS o undef a:=.inr ⟨hw,rfl⟩
theorem xb (h:w.ownsRow base e z v n xs)(hn:0<n): ∃g cap,v=.slice (some ⟨g,0,none⟩) n cap:=by
 rcases h.2 with⟨_,h0⟩ | ⟨g,cap,cur,rfl,_⟩<;>grind
theorem eW (hp:parts.toList.map (λp=>(p.1,a.eval p.2))=vs)(hb:P.built ty vs=some cells)(h:wpList P ops Q rest (a.put (some dst) (.agg cells)) w):wpList P ops Q (⟨some dst,.build ty parts,t2,p,af,none⟩::rest) a w:=
 wpList_buildTo rfl ty parts rfl (some dst) rfl cells (by simp_all) h
theorem cP (dst:Nat)(ty:dD)(x:Nat){g:Nat×Bool}(h:wpList P ops Q (⟨some dst,.load ty (.tmp x),t2,p,af,some g⟩::rest) a w):wpList P ops Q (⟨some dst,.load ty (.tmp x),t2,p,af,some g⟩::rest) a w:=h
theorem cV {o:Op}{dst:Option Nat}{g:Nat×Bool}(hw:Region.wanted ⟨dst,o,t2,p,af,some g⟩ (yielded ops a.tmps)=true)(h:wpList P ops Q (⟨dst,o,t2,p,af,none⟩::rest) a w):wpList P ops Q (⟨dst,o,t2,p,af,some g⟩::rest) a w:=
 M' hw rfl h
theorem Io {SS:aD->Prop}(_:St w0 d l L O X wS)(k:Nat){r:R4}(hs: ∀w,SS w->SE w0 d l L O w)(hk:L[k]? =some r)(hx:a.eval (.tmp x)=.pointer (some ⟨r.b,0,none⟩)){A:iw}(hA:A=ah r.n r.f)(ht:fu P ty r.n)(hw:Region.wanted ⟨some dst,.load ty (.tmp x),t2,p,af,gd⟩ (yielded ops a.tmps)=true:=by kernel_rfl):YieldsIf P ops SS ⟨some dst,.load ty (.tmp x),t2,p,af,gd⟩ (.agg A) a:=by
 obtain⟨⟨dd,hu,hd⟩,hi⟩:=ht;have h:=yieldsIf_load_mid (P:=P) (S:=SS) (op:=⟨some dst,.load ty (.tmp x),t2,p,af,gd⟩) (ops:=ops) hw ty (.tmp x) rfl r.b 0 hx A.toList dd (λw h=>by obtain⟨_,S⟩:=hs w h;exact u9 (S.ee hk) hA) hu hd (by grind[aj]);omega
theorem bP {SS:aD->Prop}{b o:Nat}(hc: ∀w,SS w->w.cell? ⟨b,o,none⟩=some v)(hx:a.eval (.tmp x)=.pointer (some ⟨b,o,none⟩))(ht:fZ P ty)(hw:Region.wanted ⟨some dst,.load ty (.tmp x),t2,p,af,gd⟩ (yielded ops a.tmps)=true:=by kernel_rfl):YieldsIf P ops SS ⟨some dst,.load ty (.tmp x),t2,p,af,gd⟩ v a:=by
 obtain⟨⟨dd,hu,hd⟩,hi⟩:=ht;refine .inl ⟨hw,λw hw2=>?_⟩;have hagg: (isAgg ty).run P w=.ok false w:=by
  unfold isAgg;rw[py,D7 hu w];cases dd <;> simp_all [TypeDesc.isRow]
 simp_all[execOp,Instr.loadAt,Instr.sureAddr,loadVar]
theorem gE {SS:aD->Prop}(_:St w0 d l L O X wS)(k:Nat){r:R4}(hs: ∀w,SS w->SE w0 d l L O w)(hk:L[k]? =some r)(i:Nat)(hv:r.f i=v)(hi:i<r.n)(hx:a.eval (.tmp x)=.pointer (some ⟨r.b,i,none⟩))(ht:fZ P ty)(hw:Region.wanted ⟨some dst,.load ty (.tmp x),t2,p,af,gd⟩ (yielded ops a.tmps)=true:=by kernel_rfl):YieldsIf P ops SS ⟨some dst,.load ty (.tmp x),t2,p,af,gd⟩ v a:=
 bP (λw h=>by obtain⟨_,S⟩:=hs w h;rw[S.cell hk hi,hv]) hx ht hw
theorem Wb {w:aD} {base:Nat} {e:dD} {g n cap:Nat} {xs:List bh} (h:w.ownsRow base e 1 (.slice (some ⟨g,0,none⟩) n cap) n xs) {j:Nat} {v:bh} (hj:xs[j]? =some v):w.cell? ⟨g,j,none⟩=some v:=by
 have:=h.cells (g:=g) rfl j v hj
 grind[Addr.add]
theorem Yu {SS:aD->Prop}(_:St w0 d l L O X wS)(k:Nat){o:O4}(hs: ∀w,SS w->SE w0 d l L O w)(hk:O[k]? =some o)(hz:o.z=1){g:Nat}(hv:o.v=.slice (some ⟨g,0,none⟩) n cap)(hn:o.n=n)(j:Nat)(hj:o.xs[j]? =some v)(hx:a.eval (.tmp x)=.pointer (some ⟨g,j,none⟩))(ht:fZ P ty)(hw:Region.wanted ⟨some dst,.load ty (.tmp x),t2,p,af,gd⟩ (yielded ops a.tmps)=true:=by kernel_rfl):YieldsIf P ops SS ⟨some dst,.load ty (.tmp x),t2,p,af,gd⟩ v a:=
 bP (λw h=>by obtain⟨_,S⟩:=hs w h;have h1:=S.bR hk;grind[Wb]) hx ht hw
theorem wj (S:St w0 d l L O X w)(hv: ∀w,(zeroValue ty).run P w=.ok (.agg Z) w)(hZ:Z=ah n f)(ho:df ty=false)(h: ∀W,St w0 d l (⟨w.heap.size,ty,n,f⟩::L) O X W->K (a.put (some dst) (.pointer (some ⟨w.heap.size,0,none⟩))) W):Oper.wp P ⟨some dst,.alloc ty,t2,p,af,none⟩ a w K Q:=by
 unfold Oper.wp execOp;simp only[py,Instr.alloc,hv,newVar,newRow,P8,wB,rj];exact h _ (S.alloc ty hZ ho)
theorem dL (S:St w0 d l L O X w)(k:Nat){r:R4}(hk:L[k]? =some r){A:iw}(hx:a.eval (.tmp x)=.pointer (some ⟨r.b,0,none⟩))(hy:a.eval (.tmp y)=.agg A)(hA:A=ah r.n f)(ht:fu P ty r.n)(h1: ∀i,(f i).oneCell'=true)(h: ∀W,St w0 d l (L.set k ⟨r.b,r.t,r.n,f⟩) O X W->K (a.put none undef) W):Oper.wp P ⟨none,.store ty (.tmp x) (.tmp y),t2,p,af,none⟩ a w K Q:=by
 subst hA;unfold Oper.wp execOp;simp only[hx,hy,Instr.storeAt,Instr.sureAddr,py,wB,rj,run_storeVar_row w ty r.b r.t r.n r.f f (S.ee hk) ht.2 h1];exact h _ (S.set hk f)
theorem Hq (S:St w0 d l L O X w)(k:Nat){r:R4}(hk:L[k]? =some r)(i:Nat)(hi:i<r.n)(hx:a.eval (.tmp x)=.pointer (some ⟨r.b,i,none⟩))(hy:a.eval q=v)(hv:v.oneCell'=true)(ht:fZ P ty)(h: ∀W,St w0 d l (L.set k ⟨r.b,r.t,r.n,λj=>if j=i then v else r.f j⟩) O X W->K (a.put none undef) W):Oper.wp P ⟨none,.store ty (.tmp x) q,t2,p,af,none⟩ a w K Q:=by
 have hth:=iz (S.ee hk) (o:=i) (n:=1) au;have h1:=Tz (P:=P) r.b i [v] 0 w (λj hj=>by simpa using(hth j au).1) (λj hj=>by simpa using(hth j au).2) (λu hu=>by grind);have hc:v.cells=#[v]:=by cases v <;> first | rfl | cases hv
 have h2: (storeVar ty ⟨r.b,i,none⟩ v).run P w=.ok () (w.setCell ⟨r.b,i,none⟩ v):=by
  cases hq:P.info? ty with
  | none=>have:=ht.2;grind
  | some it=>
   have hs:it.size=1:=by have:=ht.2;grind
   simp only[CI] at h1;simp[storeVar,sizeOf,typeInfo,hq,hc,hs,h1];rfl
 unfold Oper.wp execOp;simp only[hx,hy,Instr.storeAt,Instr.sureAddr,py,wB,rj,h2];exact h _ (S.put hk i v)
end
class qD (ty:dD):Prop where
 h:fZ prog ty
class td (ty:dD) (n:outParam Nat):Prop where
 h:fu prog ty n
instance ina5898 :td 106 3:=⟨bd⟩
instance in030b1 :td 191 24:=⟨rk⟩
instance inf6ee7 :td 36 128:=⟨qk⟩
instance in7c776 :td 143 7:=⟨s9⟩
instance in547ec :qD 82:=⟨bF⟩
instance in65a1c :qD 3:=⟨kX⟩
section
variable {w:World}{Q:Exit->Act->World->Prop}
variable {w0:World}{l:List Nat}{L:List R4}{O:List O4}{X:List Nat->World->Prop}{g:Nat×Bool}
theorem jo (dst ty x:Nat)[h1:qD ty]{b o:Nat}(hc:w.cell? ⟨b,o,none⟩=some v)(h:wpList prog ops Q rest (a.put (some dst) v) w)(hx:a.eval (.tmp x)=.pointer (some ⟨b,o,none⟩):=by with_unfolding_all rfl):wpList prog ops Q (⟨some dst,.load ty (.tmp x),t2,p,af,none⟩::rest) a w:=bM hc hx h1.h h
theorem jg (dst ty x:Nat)[h1:qD ty]{b o:Nat}(hc:w.cell? ⟨b,o,none⟩=some v)(h:wpList prog ops Q rest (a.put (some dst) v) w)(hx:a.eval (.tmp x)=.pointer (some ⟨b,o,none⟩):=by with_unfolding_all rfl)(hw:Region.wanted ⟨some dst,.load ty (.tmp x),t2,p,af,some g⟩ (yielded ops a.tmps)=true:=by kernel_rfl):wpList prog ops Q (⟨some dst,.load ty (.tmp x),t2,p,af,some g⟩::rest) a w:=cV hw (bM hc hx h1.h h)
theorem jl (dst ty x:Nat)[h1:qD ty](S:St w0 d l L O X w)(k i:Nat)(v:bh){r:R4}(h:wpList prog ops Q rest (a.put (some dst) v) w)(hk:L[k]? =some r:=by with_unfolding_all rfl)(hv:r.f i=v:=by with_unfolding_all rfl)(hi:i<r.n:=by with_unfolding_all exact lK rfl)(hx:a.eval (.tmp x)=.pointer (some ⟨r.b,i,none⟩):=by with_unfolding_all rfl):wpList prog ops Q (⟨some dst,.load ty (.tmp x),t2,p,af,none⟩::rest) a w:=dY S k hk i hv hi hx h1.h h
theorem jm (dst ty x:Nat)[h1:qD ty](S:St w0 d l L O X w)(k i:Nat)(v:bh){r:R4}(h:wpList prog ops Q rest (a.put (some dst) v) w)(hk:L[k]? =some r:=by with_unfolding_all rfl)(hv:r.f i=v:=by with_unfolding_all rfl)(hi:i<r.n:=by with_unfolding_all exact lK rfl)(hx:a.eval (.tmp x)=.pointer (some ⟨r.b,i,none⟩):=by with_unfolding_all rfl)(hw:Region.wanted ⟨some dst,.load ty (.tmp x),t2,p,af,some g⟩ (yielded ops a.tmps)=true:=by kernel_rfl):wpList prog ops Q (⟨some dst,.load ty (.tmp x),t2,p,af,some g⟩::rest) a w:=cV hw (dY S k hk i hv hi hx h1.h h)
theorem jr (dst ty x:Nat)[h1:td ty n](S:St w0 d l L O X w)(k:Nat){b:Nat}(hA:A=ah n f)(h:wpList prog ops Q rest (a.put (some dst) (.agg A)) w)(hk:L[k]? =some ⟨b,t,n,f⟩:=by with_unfolding_all rfl)(hx:a.eval (.tmp x)=.pointer (some ⟨b,0,none⟩):=by with_unfolding_all rfl):wpList prog ops Q (⟨some dst,.load ty (.tmp x),t2,p,af,none⟩::rest) a w:=O8 S k hk hx hA h1.h h
theorem jj (dst ty x:Nat)[h1:td ty n](S:St w0 d l L O X w)(k:Nat){b:Nat}(hA:A=ah n f)(h:wpList prog ops Q rest (a.put (some dst) (.agg A)) w)(hk:L[k]? =some ⟨b,t,n,f⟩:=by with_unfolding_all rfl)(hx:a.eval (.tmp x)=.pointer (some ⟨b,0,none⟩):=by with_unfolding_all rfl)(hw:Region.wanted ⟨some dst,.load ty (.tmp x),t2,p,af,some g⟩ (yielded ops a.tmps)=true:=by kernel_rfl):wpList prog ops Q (⟨some dst,.load ty (.tmp x),t2,p,af,some g⟩::rest) a w:=cV hw (O8 S k hk hx hA h1.h h)
theorem js (ty x y:Nat)[h1:td ty n](S:St w0 d l L O X w)(k:Nat){g:Nat->bh}{b:Nat}(hA:A=ah n f)(h2: ∀i,(f i).oneCell'=true)(h: ∀W,St w0 d l (L.set k ⟨b,t,n,f⟩) O X W->wpList prog ops Q rest (a.put none undef) W)(hk:L[k]? =some ⟨b,t,n,g⟩:=by with_unfolding_all rfl)(hx:a.eval (.tmp x)=.pointer (some ⟨b,0,none⟩):=by with_unfolding_all rfl)(hy:a.eval (.tmp y)=.agg A:=by with_unfolding_all rfl):wpList prog ops Q (⟨none,.store ty (.tmp x) (.tmp y),t2,p,af,none⟩::rest) a w:=Nb S k hk hx hy hA h1.h h2 h
theorem jb (dst ty:Nat)(S:St w0 d l L O X w){Z:Array bh}(hv: ∀w,(zeroValue ty).run prog w=.ok (.agg Z) w)(hZ:Z=ah n f)(h: ∀W,St w0 d l (⟨w.heap.size,ty,n,f⟩::L) O X W->wpList prog ops Q rest (a.put (some dst) (.pointer (some ⟨w.heap.size,0,none⟩))) W)(ho:df ty=false:=by with_unfolding_all rfl):wpList prog ops Q (⟨some dst,.alloc ty,t2,p,af,none⟩::rest) a w:=gD S hv hZ ho h
theorem jx (dst ty x:Nat)(S:St w0 d l L O X w)(hA:A=ah n f)(h: ∀W,St w0 d l (⟨w.heap.size,ty,n,f⟩::L) O X W->wpList prog ops Q rest (a.put (some dst) (.pointer (some ⟨w.heap.size,0,none⟩))) W)(hx:a.eval (.tmp x)=.agg A:=by with_unfolding_all rfl)(ho:df ty=false:=by with_unfolding_all rfl):wpList prog ops Q (⟨some dst,.box ty (.tmp x),t2,p,af,none⟩::rest) a w:=rQ S hx hA ho h
theorem qJ {n:Rk}(C:Calls prog n args w λe w'=>e=.returned v/\w=w')(h:R (.returned v) w):Calls prog n args w R:=
 C.mono λe W ⟨he,hb⟩=>by subst he hb;exact h
theorem je {n:Rk}(S:St w0 d l L O X w)(C:Calls prog n args w λe w'=>e=.returned v/\Below w.heap.size w w')(h: ∀W,St w0 d l L O X W->R (.returned v) W):Calls prog n args w R:=
 C.mono λe W ⟨he,hb⟩=>by subst he;exact h W (S.below hb)
theorem jz (h:P:=by first | exact⟨_,S⟩ | exact⟨_,_,_,S⟩ | exact⟨_,_,S,λ_ hr=>absurd hr kz⟩ | exact⟨_,_,_,S,λ_ hr=>absurd hr kz⟩ | exact⟨_,_,_,S,λ_ hr=>absurd hr kz,S.x.1.1.2⟩ | exact⟨_,_,_,S,by simp only[jS,jT,implies_true],S.x.1.1.2⟩ | exact⟨_,_,S,by simp only[jS,jT,implies_true]⟩ | exact⟨_,_,_,S,by simp only[jS,jT,implies_true]⟩):P:=h
end
section
variable {P:pw}{w:World}{Q:Exit->Act->World->Prop}
variable {w0:World}{l:List Nat}{L:List R4}{O:List O4}{X:List Nat->World->Prop}
theorem TF (h: ∀i,i<n->f i=g i):ah n f=ah n g:=by
 apply ER
 intro i
 rw[aF,aF]
 split
 . next hi=>rw[h i hi]
 . rfl
theorem St.ld (S:St w0 d l L O X w){r:R4}(hk:L[k]? =some r)(hg: ∀i,i<r.n->g i=r.f i):St w0 d l (L.set k ⟨r.b,r.t,r.n,g⟩) O X w:=by
 have hbl:bE (L.set k ⟨r.b,r.t,r.n,g⟩) O=bE L O:=iS (· ++O.filterMap O4.ob) (yJ (r':=⟨r.b,r.t,r.n,g⟩) hk rfl)
 refine⟨S.fr,λq hq=>?_,S.own,by rw[hbl];exact S.lo,by rw[hbl];exact S.nd,by rw[hbl];exact S.x,S.fs⟩
 rcases Hi hq with h1 | rfl
 . exact S.row q h1
 . have hR:=S.row r (nf hk)
   refine⟨?_,hR.2⟩
   have h2:=hR.1
   unfold ag at h2 ⊢
   show w.heap[r.b]? =_
   rw[h2,TF (λi hi=>(hg i hi).symm)]
theorem gu (S:St w0 d l L O X w)(k:Nat){r:R4}(hk:L[k]? =some r)(i:Nat)(g:Nat->bh)(hg: ∀j,j<r.n->g j=if j=i then v else r.f j)(hi:i<r.n)(hx:a.eval (.tmp x)=.pointer (some ⟨r.b,i,none⟩))(hy:a.eval q=v)(hv:v.oneCell'=true)(ht:fZ P ty)(h: ∀W,St w0 d l (L.set k ⟨r.b,r.t,r.n,g⟩) O X W->wpList P ops Q rest (a.put none undef) W):wpList P ops Q (⟨none,.store ty (.tmp x) q,t2,p,af,none⟩::rest) a w:=by
 refine nt S k hk i hi hx hy hv ht λW hS=>h W ?_
 have hkl:k<L.length:=(sy.1 hk).1
 have h3:=hS.ld (k:=k) (r:=⟨r.b,r.t,r.n,λj=>if j=i then v else r.f j⟩) (by rw[Pa,bC rfl,bC hkl]) (g:=g) hg
 rw[set_set] at h3
 exact h3
theorem kN (S:St w0 d l L O X w)(hx:a.eval (.tmp x)=v)(hv:v.cells=#[v])(ho:df ty=false)(h: ∀W,St w0 d l (⟨w.heap.size,ty,1,λ_=>v⟩::L) O X W->wpList P ops Q rest (a.put (some dst) (.pointer (some ⟨w.heap.size,0,none⟩))) W):wpList P ops Q (⟨some dst,.box ty (.tmp x),t2,p,af,none⟩::rest) a w:=by
 refine sD rfl λK hK=>?_
 unfold Oper.wp execOp
 simp only[py,Instr.box,newVar,newRow,P8,wB,rj]
 rw[hx,hv]
 exact hK _ _ (h _ (S.alloc ty (show(#[v]:Array bh)=ah 1 (λ_=>v) from rfl) ho))
end
theorem kI {P:pw}{w:World}{Q:Exit->Act->World->Prop}{w0:World}{l:List Nat}{L:List R4}{O:List O4}{X:List Nat->World->Prop}(S:St w0 d l L O X w)(hv: ∀w,(zeroValue ty).run P w=.ok v w)(hc:v.cells=#[v])(ho:df ty=false)(h: ∀W,St w0 d l (⟨w.heap.size,ty,1,λ_=>v⟩::L) O X W->wpList P ops Q rest (a.put (some dst) (.pointer (some ⟨w.heap.size,0,none⟩))) W):wpList P ops Q (⟨some dst,.alloc ty,t2,p,af,none⟩::rest) a w:=by
 refine sD rfl λK hK=>?_
 unfold Oper.wp execOp
 simp only[py,Instr.alloc,hv,newVar,newRow,P8,wB,rj]
 rw[hc]
 exact hK _ _ (h _ (S.alloc ty (show(#[v]:Array bh)=ah 1 (λ_=>v) from rfl) ho))
theorem Hg {P:pw}{w:World}{Q:Exit->Act->World->Prop}(hr:Region.ready .any ops listed=[i,j])(ho:ops[i]? =some o)(ho':ops[j]? =some o')(hw:Region.wanted o (yielded ops a.tmps)=true)(hw':Region.wanted o' (yielded ops a.tmps)=true)(h: ∀K,Shut (∀a w,SS w->(SS w->wpAnyH P .any ops Q SS fuel (listed.setIfInBounds i true) a w)->K a w)->o.wp P a w K Q)(h': ∀K,Shut (∀a w,SS w->(SS w->wpAnyH P .any ops Q SS fuel (listed.setIfInBounds j true) a w)->K a w)->o'.wp P a w K Q):wpAnyH P .any ops Q SS (fuel+1) listed a w:=
 wpAnyH_ready hr (by simp) (AllReadyH.cons ho (λK hK=>by rw[bC hw];exact h K hK) (AllReadyH.cons ho' (λK hK=>by rw[bC hw'];exact h' K hK) .nil))
section
variable {w:World}{Q:Exit->Act->World->Prop}
variable {w0:World}{l:List Nat}{L:List R4}{O:List O4}{X:List Nat->World->Prop}{g:Nat×Bool}
theorem L9 (h:P:=by simp only[jS,jT,implies_true]):P:=h
theorem mO (i:Nat)(h: ∀K,Shut (∀a w,SS w->(SS w->wpAnyH prog .any ops Q SS fuel (listed.setIfInBounds i true) a w)->K a w)->o.wp prog a w K Q)(hr:Region.ready .any ops listed=[i]:=by kernel_rfl)(ho:ops[i]? =some o:=by rfl)(hw:Region.wanted o (yielded ops a.tmps)=true:=by kernel_rfl):wpAnyH prog .any ops Q SS (fuel+1) listed a w:=fO hr ho hw h
theorem tF (i:Nat)(h: ∀K,Shut (∀a w,SS w->(SS w->wpAnyH prog .any ops Q SS fuel (listed.setIfInBounds i true) a w)->K a w)->o.wp prog a w K Q)(hr:Region.ready .any ops listed=[i]:=by decide+kernel)(ho:ops[i]? =some o:=by rfl)(hw:Region.wanted o (yielded ops a.tmps)=true:=by kernel_rfl):wpAnyH prog .any ops Q SS (fuel+1) listed a w:=fO hr ho hw h
theorem r2_ (i j:Nat)(h: ∀K,Shut (∀a w,SS w->(SS w->wpAnyH prog .any ops Q SS fuel (listed.setIfInBounds i true) a w)->K a w)->o.wp prog a w K Q)(h': ∀K,Shut (∀a w,SS w->(SS w->wpAnyH prog .any ops Q SS fuel (listed.setIfInBounds j true) a w)->K a w)->o'.wp prog a w K Q)(hr:Region.ready .any ops listed=[i,j]:=by kernel_rfl)(ho:ops[i]? =some o:=by rfl)(ho':ops[j]? =some o':=by rfl)(hw:Region.wanted o (yielded ops a.tmps)=true:=by kernel_rfl)(hw':Region.wanted o' (yielded ops a.tmps)=true:=by kernel_rfl):wpAnyH prog .any ops Q SS (fuel+1) listed a w:=Hg hr ho ho' hw hw' h h'
theorem JV (i j:Nat)(h: ∀K,Shut (∀a w,SS w->(SS w->wpAnyH prog .any ops Q SS fuel (listed.setIfInBounds i true) a w)->K a w)->o.wp prog a w K Q)(h': ∀K,Shut (∀a w,SS w->(SS w->wpAnyH prog .any ops Q SS fuel (listed.setIfInBounds j true) a w)->K a w)->o'.wp prog a w K Q)(hr:Region.ready .any ops listed=[i,j]:=by decide+kernel)(ho:ops[i]? =some o:=by rfl)(ho':ops[j]? =some o':=by rfl)(hw:Region.wanted o (yielded ops a.tmps)=true:=by kernel_rfl)(hw':Region.wanted o' (yielded ops a.tmps)=true:=by kernel_rfl):wpAnyH prog .any ops Q SS (fuel+1) listed a w:=Hg hr ho ho' hw hw' h h'
theorem uy (h:Q .normal a w)(hr:Region.ready .any ops listed=[]:=by kernel_rfl):wpAnyH prog .any ops Q SS fuel listed a w:=wpAnyH_done hr h _
theorem Zf (h:Hid (Q .normal a w))(hr:Region.ready .any ops listed=[]:=by decide+kernel):wpAnyH prog .any ops Q SS fuel listed a w:=wpAnyH_done hr h.o _
theorem gM {K:Act->World->Prop}{Z:Act->World->Prop}(hK:Shut (∀a w,SS w->(SS w->Z a w)->K a w))(q:Q')(h:Q'->Z a w:=by intro q;(try simp only[ax]);exact q)(hS:SS w:=by exact jz):K a w:=hK.out _ _ hS λ_=>h q
theorem aM (h:YieldsIf prog ops SS ⟨some dst,.load ty (.tmp x),t2,p,af,gd⟩ v a):YieldsIf prog ops SS ⟨some dst,.load ty (.tmp x),t2,p,af,gd⟩ v a:=h
theorem yR {wS:World}(S:St w0 d l L O X wS)(k:Nat){b:Nat}(hs: ∀w,SS w->SE w0 d l L O w)(hk:L[k]? =some ⟨b,t,n,f⟩)(hx:a.eval (.tmp x)=.pointer (some ⟨b,0,none⟩))[h1:td ty n](hA:A=ah n f)(hw:Region.wanted ⟨some dst,.load ty (.tmp x),t2,p,af,gd⟩ (yielded ops a.tmps)=true:=by kernel_rfl):YieldsIf prog ops SS ⟨some dst,.load ty (.tmp x),t2,p,af,gd⟩ (.agg A) a:=Io S k hs hk hx hA h1.h hw
theorem hy_ (h:P:=by first | exact BS rfl | exact aaH rfl |(refine aM ?_;first | exact gE S 0 (λ_ h=>h) rfl _ rfl (lK rfl) rfl qD.h | exact gE S 1 (λ_ h=>h) rfl _ rfl (lK rfl) rfl qD.h | exact gE S 2 (λ_ h=>h) rfl _ rfl (lK rfl) rfl qD.h | exact gE S 3 (λ_ h=>h) rfl _ rfl (lK rfl) rfl qD.h | exact gE S 4 (λ_ h=>h) rfl _ rfl (lK rfl) rfl qD.h | exact gE S 5 (λ_ h=>h) rfl _ rfl (lK rfl) rfl qD.h | exact bP (λw h=>ag.cell (h.row 0 rfl) (lK rfl)) rfl qD.h | exact bP (λw h=>ag.cell (h.row 1 rfl) (lK rfl)) rfl qD.h | exact bP (λw h=>ag.cell (h.row 2 rfl) (lK rfl)) rfl qD.h | exact bP (λw h=>ag.cell (h.row 3 rfl) (lK rfl)) rfl qD.h | exact bP (λw h=>ag.cell (h.row 4 rfl) (lK rfl)) rfl qD.h | exact yR S 0 (λ_ h=>h) rfl rfl zz_ | exact yR S 1 (λ_ h=>h) rfl rfl zz_ | exact yR S 2 (λ_ h=>h) rfl rfl zz_ | exact yR S 3 (λ_ h=>h) rfl rfl zz_) | exact Or.inl ⟨by kernel_rfl,λw hw=>by(try simp only[bZ]);go_simp⟩):P:=h
theorem bp (i dst:Nat)(v:bh){ym:Oper}(q:Q')(hi:ops[i]? =some ym:=by rfl)(hy:YieldsIf prog ops SS ym v a:=by exact hy_)(h:Q'->wpAnyH prog .any ops Q SS fuel (listed.setIfInBounds i true) (a.put (some dst) v) w:=by intro q;simp only[ax,bZ];exact q)(hS:SS w:=by exact jz)(hd:ym.dst=some dst:=by rfl)(hs:Region.noSelect ops=true:=by kernel_rfl)(hf:Region.free .any ops listed i=true:=by kernel_rfl)(hr: (Region.ready .any ops listed).contains i=true:=by kernel_rfl)(hQ: ∀c a w,Q (.panic c) (a.put (some dst) v) w->Q (.panic c) a w:=by exact λ_ _ _ h=>h):wpAnyH prog .any ops Q SS (fuel+1) listed a w:=yw i (some dst) v hS hi hd hs hf hr hQ hy (h q)
theorem qK (i dst:Nat)(v:bh){ym:Oper}(q:Q')(hi:ops[i]? =some ym:=by rfl)(hr: (Region.ready .any ops listed).contains i=true:=by decide+kernel)(hy:YieldsIf prog ops SS ym v a:=by exact hy_)(h:Q'->wpAnyH prog .any ops Q SS fuel (listed.setIfInBounds i true) (a.put (some dst) v) w:=by intro q;simp only[ax,bZ];exact q)(hS:SS w:=by exact jz)(hd:ym.dst=some dst:=by rfl)(hs:Region.noSelect ops=true:=by kernel_rfl)(hf:Region.free .any ops listed i=true:=by kernel_rfl)(hQ: ∀c a w,Q (.panic c) (a.put (some dst) v) w->Q (.panic c) a w:=by exact λ_ _ _ h=>h):wpAnyH prog .any ops Q SS (fuel+1) listed a w:=yw i (some dst) v hS hi hd hs hf hr hQ hy (h q)
theorem gY (i dst:Nat)(v:bh){ym:Oper}(hi:ops[i]? =some ym)(hy:YieldsIf prog ops SS ym v a)(q:Q')(h:Q'->wpAnyH prog .any ops Q SS fuel (listed.setIfInBounds i true) (a.put (some dst) v) w:=by intro q;simp only[ax,bZ];exact q)(hS:SS w:=by exact jz)(hd:ym.dst=some dst:=by rfl)(hs:Region.noSelect ops=true:=by kernel_rfl)(hf:Region.free .any ops listed i=true:=by kernel_rfl)(hr: (Region.ready .any ops listed).contains i=true:=by kernel_rfl)(hQ: ∀c a w,Q (.panic c) (a.put (some dst) v) w->Q (.panic c) a w:=by exact λ_ _ _ h=>h):wpAnyH prog .any ops Q SS (fuel+1) listed a w:=yw i (some dst) v hS hi hd hs hf hr hQ hy (h q)
theorem nv_ (i dst:Nat)(v:bh){ym:Oper}(hi:ops[i]? =some ym)(hy:YieldsIf prog ops SS ym v a)(q:Q')(hr: (Region.ready .any ops listed).contains i=true:=by decide+kernel)(h:Q'->wpAnyH prog .any ops Q SS fuel (listed.setIfInBounds i true) (a.put (some dst) v) w:=by intro q;simp only[ax,bZ];exact q)(hS:SS w:=by exact jz)(hd:ym.dst=some dst:=by rfl)(hs:Region.noSelect ops=true:=by kernel_rfl)(hf:Region.free .any ops listed i=true:=by kernel_rfl)(hQ: ∀c a w,Q (.panic c) (a.put (some dst) v) w->Q (.panic c) a w:=by exact λ_ _ _ h=>h):wpAnyH prog .any ops Q SS (fuel+1) listed a w:=yw i (some dst) v hS hi hd hs hf hr hQ hy (h q)
theorem vX (i dst:Nat){ym:Oper}(q:Q')(hi:ops[i]? =some ym:=by rfl)(hw:Region.wanted ym (yielded ops a.tmps)=false:=by kernel_rfl)(h:Q'->wpAnyH prog .any ops Q SS fuel (listed.setIfInBounds i true) (a.put (some dst) undef) w:=by intro q;simp only[ax,bZ];exact q)(hS:SS w:=by exact jz)(hd:ym.dst=some dst:=by rfl)(hs:Region.noSelect ops=true:=by kernel_rfl)(hf:Region.free .any ops listed i=true:=by kernel_rfl)(hr: (Region.ready .any ops listed).contains i=true:=by kernel_rfl)(hQ: ∀c a w,Q (.panic c) (a.put (some dst) undef) w->Q (.panic c) a w:=by exact λ_ _ _ h=>h):wpAnyH prog .any ops Q SS (fuel+1) listed a w:=yw i (some dst) undef hS hi hd hs hf hr hQ (ac7 hw) (h q)
theorem ug (w:World):St w none [] [] [] (λ_ _=>True) w:=St.start w none [] dz kO
theorem St.k0 {r0:R4}(S:St w0 d l (r0::L) O X w):ag w r0.b r0.t r0.n r0.f:=S.ee (k:=0) rfl
theorem St.k1 {r0 mO:R4}(S:St w0 d l (r0::mO::L) O X w):ag w mO.b mO.t mO.n mO.f:=S.ee (k:=1) rfl
theorem St.k2 {r0 mO r2_:R4}(S:St w0 d l (r0::mO::r2_::L) O X w):ag w r2_.b r2_.t r2_.n r2_.f:=S.ee (k:=2) rfl
theorem St.o0 {r0:O4}(S:St w0 d l L (r0::O) X w):w.ownsRow w0.heap.size r0.e r0.z r0.v r0.n r0.xs:=S.bR (k:=0) rfl
theorem St.o1 {r0 mO:O4}(S:St w0 d l L (r0::mO::O) X w):w.ownsRow w0.heap.size mO.e mO.z mO.v mO.n mO.xs:=S.bR (k:=1) rfl
theorem St.o2 {r0 mO r2_:O4}(S:St w0 d l L (r0::mO::r2_::O) X w):w.ownsRow w0.heap.size r2_.e r2_.z r2_.v r2_.n r2_.xs:=S.bR (k:=2) rfl
theorem St.q0 {e:Nat}(S:St w0 d l L (⟨e,z,v,n,xs⟩::O) X w):ar w e z v n xs:=ar.aV S.o0
theorem St.q1 {r0:O4}{e:Nat}(S:St w0 d l L (r0:: ⟨e,z,v,n,xs⟩::O) X w):ar w e z v n xs:=ar.aV S.o1
theorem St.b (S:St w0 none [] L O X w):Below w0.heap.size w0 w:=S.fr.below
theorem BM (h:P:=by unfold maxLen;(try simp only);omega):P:=h
theorem JW (h:P:=by(try simp only);omega):P:=h
theorem sp_ (h:P:=by simp;omega):P:=h
theorem DW (h:Hid (A=ah n f)):A.size=n:=by rw[h.o,aj]
theorem ha_ (h:A=ah n f):A.size=n:=by rw[h,aj]
theorem Yv {o:Op}{dst:Option Nat}{g:Option (Nat×Bool)}(hw:Region.wanted ⟨dst,o,t2,p,af,g⟩ (yielded ops a.tmps)=true)(h:wpList prog ops Q (⟨dst,o,t2,p,af,none⟩::rest) a w):wpList prog ops Q (⟨dst,o,t2,p,af,g⟩::rest) a w:=by
 cases g with
 | none=>exact h
 | some g=>exact cV hw h
section
theorem pP (h:wpList prog ops Q (⟨some dst,.load ty (.tmp x),t2,p,af,gd⟩::rest) a w):wpList prog ops Q (⟨some dst,.load ty (.tmp x),t2,p,af,gd⟩::rest) a w:=h
theorem BN [h1:qD ty]{b o:Nat}(hc:w.cell? ⟨b,o,none⟩=some v)(h:wpList prog ops Q rest (a.put (some dst) v) w)(hx:a.eval (.tmp x)=.pointer (some ⟨b,o,none⟩):=by with_unfolding_all rfl)(hw:Region.wanted ⟨some dst,.load ty (.tmp x),t2,p,af,gd⟩ (yielded ops a.tmps)=true:=by kernel_rfl):
 wpList prog ops Q (⟨some dst,.load ty (.tmp x),t2,p,af,gd⟩::rest) a w:=Yv hw (bM hc hx h1.h h)
theorem Md {b o:Nat}(R:ar w e z (.slice (some ⟨b,o,none⟩) n cap) n xs)(hj:j<n)(hA:A.size=z)(hg: ∀i,i<z->xs[j*z+i]? =A[i]?)(h:wpList prog ops Q rest (a.put (some dst) (.agg A)) w)[h1:td ty z](hx:a.eval (.tmp x)=.pointer (some ⟨b,o+j*z,none⟩):=by with_unfolding_all rfl)(hw:Region.wanted ⟨some dst,.load ty (.tmp x),t2,p,af,gd⟩ (yielded ops a.tmps)=true:=by kernel_rfl):wpList prog ops Q (⟨some dst,.load ty (.tmp x),t2,p,af,gd⟩::rest) a w:=Yv hw (rP R hj hx hA hg h1.h h)
theorem O9 (S:St w0 d l L O X w)(k:Nat){r:R4}(hk:L[k]? =some r)(i:Nat)[h1:qD ty](hv:r.f i=v)(h:wpList prog ops Q rest (a.put (some dst) v) w)(hi:i<r.n:=by with_unfolding_all exact lK rfl)(hx:a.eval (.tmp x)=.pointer (some ⟨r.b,i,none⟩):=by with_unfolding_all rfl)(hw:Region.wanted ⟨some dst,.load ty (.tmp x),t2,p,af,gd⟩ (yielded ops a.tmps)=true:=by kernel_rfl):wpList prog ops Q (⟨some dst,.load ty (.tmp x),t2,p,af,gd⟩::rest) a w:=Yv hw (dY S k hk i hv hi hx h1.h h)
theorem oM_ (S:St w0 d l L O X w)(k:Nat){r:R4}(hk:L[k]? =some r){o:Nat}(g:Nat->bh)(hg: ∀i,i<m->r.f (o+i)=g i)(hA:A=ah m g)(h:wpList prog ops Q rest (a.put (some dst) (.agg A)) w)[h1:td ty m](hm:o+m<=r.n:=by with_unfolding_all exact lK rfl)(hx:a.eval (.tmp x)=.pointer (some ⟨r.b,o,none⟩):=by with_unfolding_all rfl)(hw:Region.wanted ⟨some dst,.load ty (.tmp x),t2,p,af,gd⟩ (yielded ops a.tmps)=true:=by kernel_rfl):wpList prog ops Q (⟨some dst,.load ty (.tmp x),t2,p,af,gd⟩::rest) a w:=Yv hw (nK S k hk hx g hm hg hA h1.h h)
end
end
class CV (f:Nat->bh) (i:Nat) (v:outParam bh):Prop where
 h:f i=v
class OF (f:Nat->bh):Prop where
 h: ∀i,(f i).oneCell'=true
class ZR (ty:dD) (n:outParam Nat) (f:outParam (Nat->bh)):Prop where
 h: ∃Z,(∀w,(zeroValue ty).run prog w=.ok (.agg Z) w)/\Z=ah n f
class Z1 (ty:dD) (v:outParam bh):Prop where
 h: (∀w,(zeroValue ty).run prog w=.ok v w)/\v.cells=#[v]
class AO (A:Array bh) (n:outParam Nat) (f:outParam (Nat->bh)):Prop where
 h:A=ah n f
class B0 (ty:dD) (A:outParam (Array bh)):Prop where
 h:prog.built ty []=some A
instance cvK (v:bh) (i:Nat):CV (λ_=>v) i v:=⟨rfl⟩
section
variable {w:World}{Q:Exit->Act->World->Prop}{P:pw}
variable {w0:World}{l:List Nat}{L:List R4}{O:List O4}{X:List Nat->World->Prop}
theorem aL (h:wpList P ops Q (⟨some dst,.load ty (.tmp x),t2,p,af,none⟩::rest) a w):wpList P ops Q (⟨some dst,.load ty (.tmp x),t2,p,af,none⟩::rest) a w:=h
theorem aA (h:wpList P ops Q (⟨some dst,.alloc ty,t2,p,af,none⟩::rest) a w):wpList P ops Q (⟨some dst,.alloc ty,t2,p,af,none⟩::rest) a w:=h
theorem aB (h:wpList P ops Q (⟨some dst,.box ty (.tmp x),t2,p,af,none⟩::rest) a w):wpList P ops Q (⟨some dst,.box ty (.tmp x),t2,p,af,none⟩::rest) a w:=h
theorem gL (S:St w0 d l L O X w){b:Nat}[h1:qD ty](hx:a.eval (.tmp x)=.pointer (some ⟨b,i,none⟩))(hk:L[k]? =some ⟨b,t,n,f⟩)[c:CV f i v](hi:i<n)(h:wpList prog ops Q rest (a.put (some dst) v) w):
 wpList prog ops Q (⟨some dst,.load ty (.tmp x),t2,p,af,none⟩::rest) a w:=dY S k hk i c.h hi hx h1.h h
theorem gR (S:St w0 d l L O X w)[h1:td ty n]{b:Nat}(hx:a.eval (.tmp x)=.pointer (some ⟨b,0,none⟩))(hk:L[k]? =some ⟨b,t,n,f⟩)(hA:A=ah n f)(h:wpList prog ops Q rest (a.put (some dst) (.agg A)) w):
 wpList prog ops Q (⟨some dst,.load ty (.tmp x),t2,p,af,none⟩::rest) a w:=O8 S k hk hx hA h1.h h
theorem gA (S:St w0 d l L O X w)[c:ZR ty n f](ho:df ty=false)(h: ∀W,St w0 d l (⟨w.heap.size,ty,n,f⟩::L) O X W->wpList prog ops Q rest (a.put (some dst) (.pointer (some ⟨w.heap.size,0,none⟩))) W):
 wpList prog ops Q (⟨some dst,.alloc ty,t2,p,af,none⟩::rest) a w:=by
 obtain⟨Z,h1,h2⟩:=c.h
 exact gD S h1 h2 ho h
theorem gA1 (S:St w0 d l L O X w)[c:Z1 ty v](ho:df ty=false)(h: ∀W,St w0 d l (⟨w.heap.size,ty,1,λ_=>v⟩::L) O X W->wpList prog ops Q rest (a.put (some dst) (.pointer (some ⟨w.heap.size,0,none⟩))) W):
 wpList prog ops Q (⟨some dst,.alloc ty,t2,p,af,none⟩::rest) a w:=kI S c.h.1 c.h.2 ho h
theorem gB (S:St w0 d l L O X w)[h1:td ty n](hx:a.eval (.tmp x)=.agg A)(hA:A=ah n f)(ho:df ty=false)(h: ∀W,St w0 d l (⟨w.heap.size,ty,n,f⟩::L) O X W->wpList prog ops Q rest (a.put (some dst) (.pointer (some ⟨w.heap.size,0,none⟩))) W):
 wpList prog ops Q (⟨some dst,.box ty (.tmp x),t2,p,af,none⟩::rest) a w:=rQ S hx hA ho h
theorem gS (S:St w0 d l L O X w)[h1:td ty n]{b:Nat}(hx:a.eval (.tmp x)=.pointer (some ⟨b,0,none⟩))(hk:L[k]? =some ⟨b,t,n,g⟩)(hy:a.eval (.tmp y)=.agg A)(hA:A=ah n f)[c:OF f]{M:List R4}(hM:L.set k ⟨b,t,n,f⟩=M)(h: ∀W,St w0 d l M O X W->wpList prog ops Q rest (a.put none undef) W):
 wpList prog ops Q (⟨none,.store ty (.tmp x) (.tmp y),t2,p,af,none⟩::rest) a w:=Nb S k hk hx hy hA h1.h c.h (hM ▸ h)
theorem gN (S:St w0 d l L O X w){Z:Array bh}[h1:td ty n](hx:a.eval (.tmp x)=.pointer (some ⟨w.heap.size,0,none⟩))(hy:a.eval (.tmp y)=.agg A)(hA:A=ah n f)[c:OF f](ho:df ty=false)(hZ:Z.size=n)(h: ∀W,St w0 d l (⟨w.heap.size,ty,n,f⟩::L) O X W->wpList prog ops Q rest (a.put none undef) W):
 wpList prog ops Q (⟨none,.store ty (.tmp x) (.tmp y),t2,p,af,none⟩::rest) a (w.alloc (.cells Z ty)):=kP S hx hy hA h1.h ho hZ c.h h
theorem aC (h:wpList P ops Q (⟨some dst,.buildSlice ty 1 #[(0,.tmp x)],t2,p,af,none⟩::rest) a w):wpList P ops Q (⟨some dst,.buildSlice ty 1 #[(0,.tmp x)],t2,p,af,none⟩::rest) a w:=h
theorem aP (h:wpList P ops Q (⟨none,.store ty (.tmp x) q,t2,p,af,none⟩::rest) a w):wpList P ops Q (⟨none,.store ty (.tmp x) q,t2,p,af,none⟩::rest) a w:=h
theorem aU (h:wpList P ops Q (⟨some dst,.build ty #[],t2,p,af,none⟩::rest) a w):wpList P ops Q (⟨some dst,.build ty #[],t2,p,af,none⟩::rest) a w:=h
theorem gP (S:St w0 d l L O X w)[h1:qD ty]{b:Nat}(hx:a.eval (.tmp x)=.pointer (some ⟨b,0,none⟩))(hk:L[k]? =some ⟨b,t,1,f⟩)(hy:a.eval q=v)(hv:v.oneCell'=true){M:List R4}(hM:L.set k ⟨b,t,1,λ_=>v⟩=M)(h: ∀W,St w0 d l M O X W->wpList prog ops Q rest (a.put none undef) W):
 wpList prog ops Q (⟨none,.store ty (.tmp x) q,t2,p,af,none⟩::rest) a w:=
 gu S k hk 0 (λ_=>v) (λj hj=>by have hj:j<1:=hj;obtain rfl:j=0:=(by omega);rfl) Nat.one_pos hx hy hv h1.h (hM ▸ h)
theorem gT2 (S:St w0 d l L O X w){b:Nat}{p q:Tmp}(h:fn.results=#[.cell p ty,.tmp q])(hp:a.tmps.getD p undef=.pointer (some ⟨b,0,none⟩))(hk:L[k]? =some ⟨b,t,n,f⟩)[h1:td ty n](hd:a.defers=[])(hR:R (.returned (.tuple #[.agg (ah n f),a.tmps.getD q undef])) w):bodyPost prog fn R .ret a w:=bj S k hk h hp h1.h hd hR
theorem gT3 (S:St w0 d l L O X w){b:Nat}{p q:Tmp}(h:fn.results=#[.cell p ty,.tmp q,.tmp q2])(hp:a.tmps.getD p undef=.pointer (some ⟨b,0,none⟩))(hk:L[k]? =some ⟨b,t,n,f⟩)[h1:td ty n](hd:a.defers=[])(hR:R (.returned (.tuple #[.agg (ah n f),a.tmps.getD q undef,a.tmps.getD q2 undef])) w):bodyPost prog fn R .ret a w:=fU S k hk h hp h1.h hd hR
theorem gT1 (S:St w0 d l L O X w){b:Nat}{p:Tmp}(h:fn.results=#[.cell p ty])(hp:a.tmps.getD p undef=.pointer (some ⟨b,0,none⟩))(hk:L[k]? =some ⟨b,t,n,f⟩)[h1:td ty n](hd:a.defers=[])(hR:R (.returned (.agg (ah n f))) w):bodyPost prog fn R .ret a w:=qW S k hk h hp h1.h hd hR
end
theorem wr_ (h:P:=by with_unfolding_all rfl):P:=h
theorem wd_ (h:P:=by with_unfolding_all exact lK rfl):P:=h
theorem ev_ (h:P:=by(try simp only[ax]);with_unfolding_all rfl):P:=h
theorem zz_ (h:P:=by with_reducible first | assumption |(refine Hid.o ?_;assumption) | exact cO | exact bz | exact dM | exact yM | exact mh | exact ij | exact vf | exact jM | exact tG | exact CH | rfl):P:=h
section
variable {a0 a1 a2 a3 a4 a5 a6 a7:R4}{L:List R4}
theorem e0: (a0::L)[0]? =some a0:=rfl
theorem e1: (a0::a1::L)[1]? =some a1:=rfl
theorem e2: (a0::a1::a2::L)[2]? =some a2:=rfl
theorem e3: (a0::a1::a2::a3::L)[3]? =some a3:=rfl
theorem e4: (a0::a1::a2::a3::a4::L)[4]? =some a4:=rfl
theorem e5: (a0::a1::a2::a3::a4::a5::L)[5]? =some a5:=rfl
theorem e6: (a0::a1::a2::a3::a4::a5::a6::L)[6]? =some a6:=rfl
theorem e7: (a0::a1::a2::a3::a4::a5::a6::a7::L)[7]? =some a7:=rfl
end
theorem rk_ (h:P:=by(try simp only[E0,Pb]);with_reducible first | exact Go.Proofs.YtklligbjoplbgaaGreat.e0 | exact Go.Proofs.YtklligbjoplbgaaGreat.e1 | exact Go.Proofs.YtklligbjoplbgaaGreat.e2 | exact Go.Proofs.YtklligbjoplbgaaGreat.e3 | exact Go.Proofs.YtklligbjoplbgaaGreat.e4 | exact Go.Proofs.YtklligbjoplbgaaGreat.e5 | exact Go.Proofs.YtklligbjoplbgaaGreat.e6 | exact Go.Proofs.YtklligbjoplbgaaGreat.e7):P:=h
theorem sl_ (h:P:=by(try simp only[E0,Pb]);rfl):P:=h
theorem fN {Q:Prop}(q:Q)(h:Q->P:=by
 intro q
 first|((with_reducible refine aL ?_);first | exact gL S wr_ rk_ wd_ q | exact gR S wr_ rk_ zz_ q)|((with_reducible refine aU ?_);first | exact ku mi q | exact ku ny q | exact ku uh q | exact ku KQ q | exact ku Dn q | exact ku CG q | exact ku U2 q | exact ku RM q | exact ku Wc q)):P:=h q
theorem ew {Q:Prop}(q:Q)(h:Q->P:=by
 intro q
 first|((with_reducible refine aA ?_);first | exact gA S rfl q | exact gA1 S rfl q)|((with_reducible refine aB ?_);first | exact gB S wr_ zz_ rfl q | exact kN S ev_ rfl rfl q)|((with_reducible refine aC ?_);first | exact rR S wr_ zz_ cN (by omega) rfl q | exact rR S wr_ zz_ AE (by omega) rfl q | exact rR S wr_ zz_ Ni (by omega) rfl q | exact rR S wr_ zz_ TG (by omega) rfl q | exact rR S wr_ zz_ Qc (by omega) rfl q | exact rR S wr_ zz_ RN (by omega) rfl q)|((with_reducible refine aP ?_);first | exact gP S wr_ rk_ ev_ rfl sl_ q | exact gS S wr_ rk_ wr_ zz_ sl_ q | exact gN S wr_ wr_ zz_ rfl (by rfl) q)):P:=h q
theorem o7 {Q:Prop}(q:Q)(h:Q->P:=by
 intro q
 with_reducible refine aJ ?_
 first | exact gT2 S rfl rfl rk_ rfl q | exact gT3 S rfl rfl rk_ rfl q | exact gT1 S rfl rfl rk_ rfl q):P:=h q
instance in1dcc1 (x:aq):OF (aN x):=⟨aE x⟩
instance incd7a9 (s:List Nat):OF (aw s):=⟨bV s⟩
instance inee145 (l:Nat->aq):OF (bJ l):=⟨fi l⟩
instance in5715c (u:nu):OF (gg u):=⟨jK u⟩
instance in11ec6 (a:Way):OF (iL a):=⟨Di a⟩
instance inf7a63 :ZR 106 3 (aN hole):=⟨_,D8,bz⟩
instance in8b829 :ZR 36 128 (aw aX):=⟨_,zeroValue36,ij⟩
instance in0396c :ZR 191 24 (bJ ph):=⟨_,zeroValue191,qz⟩
instance in8f1ca :ZR 193 51 (iL L8):=⟨_,zeroValue193,KM⟩
instance in5fc21 :ZR 143 7 (gg nL):=⟨_,zeroValue143,yM⟩
instance in68f14 :Z1 82 (.int .u64 0):=⟨zeroValue82,rfl⟩
instance in653bb :Z1 3 (.int .i64 0):=⟨zeroValue3,rfl⟩
instance infd7cf :Z1 27 (.int .i64 0):=⟨zeroValue27,rfl⟩
instance infa201 :Z1 107 (.slice none 0 0):=⟨zeroValue107,rfl⟩
instance in69130 :Z1 78 (.slice none 0 0):=⟨zeroValue78,rfl⟩
section
variable {F:Fence}{P:pw}
def Open (F:Fence):Prop:=F= {Fence.wide with round:=F.round}
theorem mE:Open Fence.wide:=rfl
theorem mF (l:Nat):Open (Fence.wide.inRound l):=rfl
theorem ym {P:Prop}(h:P:=by first | exact mE | exact mF _):P:=h
theorem BO {P:Prop}(h:P:=by rintro⟨_,_,h⟩;first | exact h | exact absurd h.1 fh |(obtain⟨_,h,_⟩:=h;cases h)):P:=h
theorem Nj (hF:Open F){row:String}{args:iw}{R:bh->aD->Prop}(h:Rows P row args w R):RowsIn F n P row args w R:=
 λc cs _=>let⟨v,w',r,s⟩:=h c cs;⟨v,w',r,by rw[hF];exact stepsIn_wide.2 s⟩
theorem abc (hF:Open F)(hd: ∀c,o.op≠.defer c)(h:o.wp P a w K Q):o.wpIn F n P a w K Q:=by
 refine⟨λf _=>by rw[hF];trivial,?_⟩;rw[Oper.semAt_eq _ _ _ hd];unfold Oper.wp at h;cases hr: (execOp a.eval o).run P w with
 | ok nx w'=>
  rw[hr] at h;cases nx with
  | value v=>exact h
  | skip=>exact h
  | defer d=>exact h
  | enter f args=>exact⟨λhd=>absurd hd (by rw[hF];simp[Fence.wide]),by rw[hF];exact(z7 (n:=n - 1)).2 (Calls.mono h λe w h=>by omega)⟩
  | row r args=>exact⟨λhd=>absurd hd (by rw[hF];simp[Fence.wide]),Nj hF h⟩
  | _=>exact h.elim
 | halt x w'=>
  rw[hr] at h;cases x with
  | panic v=>exact h
  | _=>exact h.elim
def AF (l:List Oper):Bool:=l.all λo=>match o.op with | .defer _=>false | _=>true
theorem vg {l:List Oper} (h:AF l=true) {o:Oper} (ho:o∈l): ∀c,o.op≠.defer c:=by
 intro c e;have:=(Ak.1 h) o ho
 grind
theorem Qd (hF:Open F) {ops:Array Oper} {Q:Exit->Act->aD->Prop} (hL: ¬LetsOut Q): ∀(l:List Oper),(∀o∈l,∀c,o.op≠.defer c)->∀a w,wpList P ops Q l a w->wpListIn F n P ops Q l a w
 | [],_,_,_,h=>h
 | o::l,hd,a,w,h=>by
  unfold wpListIn;unfold wpList at h;split
  . next hw=>
    rw[bC hw] at h;exact abc hF (hd o (D0 ..)) (Oper.wp_mono (λa w h=>Qd hF hL l (λo ho=>hd o (yz _ ho)) a w h) (h.resolve_right λh=>hL h.2))
  . next hw=>
    rw[bX hw] at h;exact⟨λf _=>by rw[hF];trivial,Qd hF hL l (λo ho=>hd o (yz _ ho)) _ _ h⟩
theorem Nk (hF:Open F) {ops:Array Oper} {Q:Exit->Act->aD->Prop} (hL: ¬LetsOut Q) (hd: ∀o∈ops.toList,∀c,o.op≠.defer c): ∀(fuel:Nat) (listed:Array Bool) (a:Act) (w:aD),wpAny P .any ops Q fuel listed a w->wpAnyIn F n P .any ops Q fuel listed a w
 | 0,_,_,_,h=>h
 | fuel+1,listed,a,w,h=>by
  refine⟨h.1,λi hi=>?_⟩;have h1:=h.2 i hi;unfold wpOp at h1;unfold wpOpIn;cases ho:ops[i]? with
  | none=>rw[ho] at h1;exact Nk hF hL hd fuel _ _ _ h1
  | some o=>
   rw[ho] at h1;have hm:o∈ops.toList:=by
    grind
   simp only at h1 ⊢;split
   . next hw=>
     rw[bC hw] at h1;exact abc hF (hd o hm) (Oper.wp_mono (λa w h=>Nk hF hL hd fuel _ a w h) (h1.resolve_right λh=>hL h.2))
   . next hw=>
     rw[bX hw] at h1;exact⟨λf _=>by rw[hF];trivial,Nk hF hL hd fuel _ _ _ h1⟩
theorem eh (hF:Open F){id:Nat}{l:List Oper}(hd:AF l=true)(hL: ¬LetsOut Q)(h:wpList P l.toArray Q l a w): (Code.region id l.toArray false).wpIn F n P Q a w:=
 by grind[wpIn_region_lit,Qd,vg]
theorem tH (hF:Open F){L:List R4}{O:List O4}{ops:List Oper}(S:St w0 d l L O X w){id:Nat}(hm:P.follows .mixedOrders=true)(hd:AF ops=true)(hL: ¬LetsOut Q)(h: ∀W,St w0 d l L O X W->wpAnyH P .any ops.toArray Q (SE w0 d l L O) ops.toArray.size (Array.replicate ops.toArray.size false) a W): (Code.region id ops.toArray true).wpIn F n P Q a w:=by
 exact wpIn_region_any hm (Nk hF hL (λ_ ho=>vg hd au) _ _ _ _ (wpAny_of_held _ _ _ _ (h _ S.drew)))
end
def Ip (s:aK) (q:aq):nu:=⟨et ((s.drop 4).take 8),et ((s.drop 12).take 8),q,et ((s.drop 36).take 4),et ((s.drop 40).take 4)⟩
def im (s:aK):Option nu:=match ks ((s.drop 20).take 16) with
 | none=>none
 | some q=>if ji (Ip s q)=some s then some (Ip s q) else none
theorem Yw (h:bs.length=16):kx [8,8] bs=some [et (bs.take 8),et ((bs.drop 8).take 8)]:=by
 unfold kx;simp_all[getAll,okW,nN]
theorem Yx (h:bs.length=8):kx [4,4] bs=some [et (bs.take 4),et ((bs.drop 4).take 4)]:=by
 unfold kx;simp_all[getAll,okW,nN]
theorem Qe {s:aK}(h: ∀x∈s,x<256)(o n:Nat): ∀x∈(s.drop o).take n,x<256:=by grind
theorem AG {s:aK}(h: ∀x∈s,x<256){q:aq}(hq:bt q):kp (Ip s q):=by
 have l8: ∀o,et ((s.drop o).take 8)<256 ^ 8:=λo=>wH (Qe h o 8) rE;have l4: ∀o,et ((s.drop o).take 4)<256 ^ 4:=λo=>wH (Qe h o 4) rE
 grind[kp,Ip]
theorem ql {bs:aK} (h: ∀x∈bs,x<256) {q:aq} (hq:ks bs=some q):bt q:=by
 grind[ks,zB]
theorem KR (s:aK)(hs:fa s)(w:aD):Calls prog 187 #[.agg (ah 128 (aw s))] w λe w'=>∃U,e=.returned (.tuple #[.agg U,.bool (im s).isSome])/\U=ah 7 (gg ((im s).getD nL))/\dp w w':=by
 obtain⟨A,hA⟩:=gq (ah 128 (aw s));rw[<-hA];have HA:=ae hA;clear hA;have S:=ug w;obtain⟨n1,h1⟩:=cM (et ((s.drop 4).take 8));obtain⟨n2,h2⟩:=cM (et ((s.drop 12).take 8));obtain⟨n3,h3⟩:=cM (et ((s.drop 36).take 4));obtain⟨n4,h4⟩:=cM (et ((s.drop 40).take 4));have g1:kx [8,8] ((s.drop 4).take 16)=some [n1,n2]:=by
  rw[Yw (by rw[pM,Ek,hs.1];rfl),<-h1,<-h2,take_take,drop_take,drop_drop,take_take];rfl
 have g2:kx [4,4] ((s.drop 36).take 8)=some [n3,n4]:=by
  rw[Yx (by rw[pM,Ek,hs.1];rfl),<-h3,<-h4,take_take,drop_take,drop_drop,take_take];rfl
 have C1:=ae λv u w hv hu hc=>g1 ▸ yC v u [8,8] ((s.drop 4).take 16) nh w hv hu hc;have C3:=ae λv u w hv hu hc=>g2 ▸ yC v u [4,4] ((s.drop 36).take 8) nh w hv hu hc;have C2:=ae λu w hu hc=>qg u ((s.drop 20).take 16) w hu hc;have hw1: ∀x∈aW [8,8],(Lit.int .i64 x).wf=true:=by decide
 have hw2: ∀x∈aW [4,4],(Lit.int .i64 x).wf=true:=by decide
 cases hq:ks ((s.drop 20).take 16) with
 | none=>
  have hn:im s=none:=by unfold im;rw[hq]
  rw[hn];obtain⟨T,hT⟩:=gq (ah 3 (aN hole));rw[hq,show(none:Option aq).getD hole=hole from rfl,az hT] at C2;have HT:=ae hT;clear h1 h2 h3 h4 g1 g2 hT;go_enter func187,ntmps187
  go_wp2_with (first|((with_reducible refine j6 11 81 2 ?_);refine eY S .i64 [8,8] um lH au au rfl rfl pB λW S=>?_)|(go_at_call 29;have hR:=S.k2;have h:=eX.xY hR hs 4 16 124 au au au;refine(C1.o _ _ _ (br.row S.k0 rfl qv hw1) h.ints h.cap).mono ?_;rintro e W ⟨r,rfl,ho,hb⟩;clear h hR;replace S:=S.cU hb ho rfl rfl;clear hb ho)|(go_at_call 195;have hR:=S.k2;have h:=eX.xY hR hs 20 16 108 au au au;refine(C2.o _ _ h.ints h.cap).mono ?_;rintro e W ⟨rfl,hb⟩;clear h hR;replace S:=S.below hb;clear hb)|(refine o7 ?_;exact⟨_,rfl,rfl,S.b⟩)|refine ew λW S=>?_)
 | some q=>
  have hqp:=ql (Qe hs.2 20 16) hq;have hup:=AG (s:=s) hs.2 hqp;obtain⟨T,hT⟩:=gq (ah 3 (aN q));rw[hq,show(some q:Option aq).getD hole=q from rfl,az hT] at C2;have HT:=ae hT;clear hT;obtain⟨u,hu⟩:=cM (Ip s q);have hue:u=⟨n1,n2,q,n3,n4⟩:=by rw[<-hu,<-h1,<-h2,<-h3,<-h4];rfl
  have hrd:im s=if ji u=some s then some u else none:=by unfold im;rw[hq];simp only[hu]
  obtain⟨U,hU⟩:=gq (ah 7 (gg u));have hup2:kp u:=by rw[<-hu];exact hup
  have C4:=ae λw=>yN u hup2 w;rw[<-hU] at C4;have hU2:=hU;rw[hue,FK] at hU2;have HU2:=ae hU2;have HU:=ae hU;have h93:n3<4294967296:=by have:=hup2.2.2.2.1;rw[hue] at this;exact this
  have w3:IntKind.i64.wrap (n3:Int)=(n3:Int):=mT _ au;have h94:n4<4294967296:=by have:=hup2.2.2.2.2;rw[hue] at this;exact this
  have w4:IntKind.i64.wrap (n4:Int)=(n4:Int):=mT _ au;have HRD:=ae hrd;clear h1 h2 h3 h4 g1 g2 hU hU2 hq hup hup2 hqp hu hue hrd;go_enter func187,ntmps187
  go_upto_region 7 with(first|((with_reducible refine j6 11 81 2 ?_);refine eY S .i64 [8,8] um lH au au rfl rfl pB λW S=>?_)|(go_at_call 29;(have hR:=S.k2;have h:=eX.xY hR hs 4 16 124 au au au;refine(C1.o _ _ _ (br.row S.k0 rfl qv hw1) h.ints h.cap).mono ?_;rintro e W ⟨r1,rfl,ho,hb⟩;clear h hR;replace S:=S.cU hb ho rfl rfl;clear hb ho))|(go_at_call 195;have hR:=S.k2;have h:=eX.xY hR hs 20 16 108 au au au;refine(C2.o _ _ h.ints h.cap).mono ?_;rintro e W ⟨rfl,hb⟩;clear h hR;replace S:=S.below hb;clear hb)|refine ew λW S=>?_)
  go_upto_region 10 with(first|((with_reducible refine j6 28 81 2 ?_);refine eY S .i64 [4,4] um lH au au rfl rfl pB λW S=>?_)|(go_at_call 29;have hR:=S.ee (k:=4) rfl;have h:=eX.xY hR hs 36 8 92 au au au;refine(C3.o _ _ _ (br.row S.k0 rfl qv hw2) h.ints h.cap).mono ?_;rintro e W ⟨r2,rfl,ho,hb⟩;clear h hR;replace S:=S.cU hb ho rfl rfl;clear hb ho))
  have e2: ∃g c,r2=.slice (s_ g 0) 2 c:=xb S.o0 (Nat.zero_lt_two);have e1: ∃g c,r1=.slice (s_ g 0) 2 c:=xb S.o1 (Nat.zero_lt_two);obtain⟨g2,c2,rfl⟩:=e2;obtain⟨g1,c1,rfl⟩:=e1;refine bL S cm λW S=>?_;refine bp 0 36 _ ?_;refine bp 1 37 (bZ g1 0) ?_;refine gY 2 38 (.int .u64 n1) rfl (Yu S 1 (λ_ h=>h) rfl rfl rfl rfl 0 rfl rfl bF) ?_;refine bp 3 39 _ ?_;refine bp 4 40 (bZ g1 1) ?_;refine gY 5 41 (.int .u64 n2) rfl (Yu S 1 (λ_ h=>h) rfl rfl rfl rfl 1 rfl rfl bF) ?_;refine gY 6 42 (.agg #[.int .i64 q.1,.int .u64 q.2.1,.int .u32 q.2.2]) rfl (Io S 1 (λ_ h=>h) rfl rfl (sR q).symm bd) ?_;refine bp 7 43 _ ?_;refine bp 8 44 (bZ g2 0) ?_;refine gY 9 45 (.int .u64 n3) rfl (Yu S 0 (λ_ h=>h) rfl rfl rfl rfl 0 rfl rfl bF) ?_;refine bp 10 46 (.int .i64 n3) ?_;refine bp 11 47 _ ?_;refine bp 12 48 (bZ g2 1) ?_;refine gY 13 49 (.int .u64 n4) rfl (Yu S 0 (λ_ h=>h) rfl rfl rfl rfl 1 rfl rfl bF) ?_;refine bp 14 50 (.int .i64 n4) ?_;refine gY 15 51 (.agg U) rfl (pf rfl (by rw[HU2.o];kernel_rfl)) ?_;refine mO 16 λK hK=>?_;refine wj S zeroValue143 yM rfl λW S=>?_;refine hK.out _ _ ⟨_,S.pop⟩ λ_=>?_
  try simp only[ax]
  clear hK K;refine mO 17 λK hK=>?_;refine dL S 0 rfl rfl rfl HU.o s9 (jK _) λW S=>?_;refine hK.out _ _ ⟨_,S.pop⟩ λ_=>?_
  try simp only[ax]
  clear hK K;refine uy ?_;cases hb:ji u with
  | none=>
   rw[hb,show codeF 61 (none:Option aK)=61 from rfl] at C4;rw[hb] at HRD;have hn:im s=none:=by rw[HRD.o];simp
   have HN:=ae hn;clear hn
   go_wp2_with (first|(go_at_call 225;refine(C4.o _).mono ?_;rintro e W ⟨B,rfl,hB,hb⟩;have HB:=ae hB;replace S:=S.below hb;clear hB hb)|(refine o7 ?_;exact⟨_,by rw[HN.o];rfl,by rw[HN.o];rfl,S.b⟩)|refine fN ?_|refine ew λW S=>?_)
  | some b=>
   rw[hb,show codeF 61 (some b)=0 from rfl] at C4;rw[hb] at HRD;have hbs:fa b:=by
    unfold ji at hb;split at hb;· cases hb;exact Ng u
    . cases hb
   obtain⟨r,hr⟩:=cM (Ho b s);have hq:=Zj b s r hr;rw[<-HA.o] at hq;have HQ:=ae hq;have hrd:im s=if r=true then some u else none:=by
    rw[HRD.o,<-hr,JR hbs hs];by_cases h:b=s <;> simp[h]
   clear hq hr
   go_upto_region 12 with(first|(go_at_call 225;refine(C4.o _).mono ?_;rintro e W ⟨B,rfl,hB,hb⟩;have HB:=ae hB;replace S:=S.below hb;clear hB hb)|refine fN ?_|refine ew λW S=>?_)
   have hq:=HQ.o;rw[show(some b).getD aX=b from rfl] at HB;rw[<-HB.o] at hq;cases r with
   | false=>
    have HN:=ae (show im s=none from hrd);clear hrd
    go_wp2_with (first
   |(with_reducible first|refine jj 60 36 9 S 0 HB.o ?_|refine jj 61 36 1 S 6 HA.o ?_)
   |(refine o7 ?_;exact⟨_,by rw[HN.o];rfl,by rw[HN.o];rfl,S.b⟩)
   |refine ew λW S=>?_)
   | true=>
    have HN:=ae (show im s=some u from hrd);clear hrd
    go_wp2_with (first|(with_reducible first|refine jj 60 36 9 S 0 HB.o ?_|refine jj 61 36 1 S 6 HA.o ?_)|(refine o7 ?_;exact⟨_,by rw[HN.o];rfl,by rw[HN.o];rfl,S.b⟩)|refine fN ?_|refine ew λW S=>?_)
def Qf:Ren:=⟨fun | 6=>189 | 15=>157 | 14=>237 | 28=>217 | 29=>218 | 20=>267 | 21=>268 | 22=>269 | 23=>270 | 24=>271 | 25=>272 | 26=>273 | 27=>274 | 46=>284 | 47=>251 | 48=>252 | 49=>285 | 50=>286 | 57=>290 | n=>n,fun | 22=>230 | 24=>143 | 25=>284 | 3=>3 | 39=>222 | 0=>0 | 53=>104 | 55=>82 | 4=>4 | 46=>304 | 45=>303 | 50=>156 | 5=>5 | 9=>9 | 66=>339 | 70=>342 | 76=>356 | 77=>357 | n=>n,fun | n=>n⟩
theorem ZY:SlLaysF0.n6 prog Qf:={
 mixed:=cm
 f6:=⟨f189.name,by decide,func189.trans (iS some cm)⟩
 f14:=⟨f237.name,by decide,func237.trans (iS some cm)⟩
 f15:=func157.trans (iS some cm)
 f20:=⟨f267.name,by decide,func267.trans (iS some cm)⟩
 f21:=⟨f268.name,by decide,func268.trans (iS some cm)⟩
 f22:=⟨f269.name,by decide,func269.trans (iS some cm)⟩
 f23:=⟨f270.name,by decide,func270.trans (iS some cm)⟩
 f24:=⟨f271.name,by decide,func271.trans (iS some cm)⟩
 f25:=⟨f272.name,by decide,func272.trans (iS some cm)⟩
 f26:=⟨f273.name,by decide,func273.trans (iS some cm)⟩
 f27:=⟨f274.name,by decide,func274.trans (iS some cm)⟩
 f28:=func217.trans (iS some cm)
 f29:=func218.trans (iS some cm)
 f46:=⟨f284.name,by decide,func284.trans (iS some cm)⟩
 f47:=func251.trans (iS some cm)
 f48:=func252.trans (iS some cm)
 f49:=⟨f285.name,by decide,func285.trans (iS some cm)⟩
 f50:=⟨f286.name,by decide,func286.trans (iS some cm)⟩
 f57:=⟨f290.name,by decide,func290.trans (iS some cm)⟩
 t0:=underlying0
 a0:=isAgg0
 z0:=sizeOf0
 v0:=zeroValue0
 t3:=underlying3
 a3:=isAgg3
 z3:=sizeOf3
 v3:=zeroValue3
 t4:=underlying4
 a4:=isAgg4
 z4:=sizeOf4
 v4:=zeroValue4
 t5:=FH
 a5:=isAgg5
 z5:=sizeOf5
 v5:=zeroValue5
 t9:=Hr
 a9:=isAgg9
 z9:=sizeOf9
 v9:=zeroValue9
 t22:=underlying230
 a22:=isAgg230
 z22:=sizeOf230
 v22:=zeroValue230
 t25:=underlying284
 a25:=isAgg284
 z25:=sizeOf284
 v25:=zeroValue284
 t39:=underlying222
 a39:=isAgg222
 z39:=sizeOf222
 v39:=zeroValue222
 t45:=underlying303
 a45:=isAgg303
 z45:=sizeOf303
 v45:=zeroValue303
 t46:=underlying304
 a46:=isAgg304
 z46:=sizeOf304
 v46:=zeroValue304
 t50:=underlying156
 a50:=isAgg156
 z50:=sizeOf156
 v50:=zeroValue156
 t53:=underlying104
 a53:=isAgg104
 z53:=sizeOf104
 v53:=zeroValue104
 t55:=underlying82
 a55:=isAgg82
 z55:=sizeOf82
 v55:=zeroValue82
 t66:=underlying339
 a66:=isAgg339
 z66:=sizeOf339
 v66:=zeroValue339
 t70:=underlying342
 a70:=isAgg342
 z70:=sizeOf342
 v70:=zeroValue342
 t76:=underlying356
 a76:=isAgg356
 z76:=sizeOf356
 v76:=zeroValue356
 t77:=underlying357
 a77:=isAgg357
 z77:=sizeOf357
 v77:=zeroValue357}
def Nl:Ren:=⟨fun | 125=>157 | 128=>217 | 129=>218 | n=>n,fun | 46=>222 | 3=>3 | 51=>104 | 53=>82 | 4=>4 | 5=>5 | 9=>9 | n=>n,fun | n=>n⟩
theorem bitsLen:Lays.n125 prog Nl:={
 mixed:=cm
 f125:=func157.trans (iS some cm)
 f128:=func217.trans (iS some cm)
 f129:=func218.trans (iS some cm)
 t3:=underlying3
 a3:=isAgg3
 z3:=sizeOf3
 v3:=zeroValue3
 t4:=underlying4
 a4:=isAgg4
 z4:=sizeOf4
 v4:=zeroValue4
 t5:=FH
 a5:=isAgg5
 z5:=sizeOf5
 v5:=zeroValue5
 t9:=Hr
 a9:=isAgg9
 z9:=sizeOf9
 v9:=zeroValue9
 t46:=underlying222
 a46:=isAgg222
 z46:=sizeOf222
 v46:=zeroValue222
 t51:=underlying104
 a51:=isAgg104
 z51:=sizeOf104
 v51:=zeroValue104
 t53:=underlying82
 a53:=isAgg82
 z53:=sizeOf82
 v53:=zeroValue82}
theorem tf {α β:Type} {f:α->List β} {k:Nat} (hk: ∀x,(f x).length=k) (l:List α): (l.flatMap f).length=l.length*k:=by
 induction l<;>grind
theorem flat_get {α β:Type} {f:α->List β} {k:Nat} (hk: ∀x,(f x).length=k) (l:List α) {i:Nat} (hi:i<l.length) {j:Nat} (hj:j<k): (l.flatMap f)[i*k+j]? =(f l[i])[j]?:=by
 induction l generalizing i with
 | nil=>simp at hi
 | cons a l ih=>
  rw[flatMap_cons];cases i<;>grind
def Me (u:nu):List bh:=(ah 7 (gg u)).toList
theorem xZ (u:nu): (Me u).length=7:=by rfl
def Mf (l:List nu):List bh:=l.flatMap Me
theorem Yy (u:nu): ∀v∈Me u,v.oneCell'=true:=by
 grind[iv,jK,Array.all_eq_true_iff_forall_mem,Me]
instance in5c214 :Inhabited nu:=⟨nL⟩
theorem FO {α:Type} [Inhabited α] {f:α->List bh} {k:Nat} (hk: ∀x,(f x).length=k) (h0:0<k) (d:Array α): (Sort.flatK f k d).toList=d.toList.flatMap f:=by
 apply EU;intro t;by_cases ht:t<d.size*k
 . grind[div_lt_iff_lt_mul,mod_lt,div_add_mod,Nat.mul_comm,flat_get,Sort.flatK]
 grind[Array.length_toList,Sort.size_flatK,tf]
section
open Go.Sort
theorem TH {g:Nat}(h:w.ownsRow base e z (.slice (some ⟨g,0,none⟩) n cap) n xs)(F:iw)(hF:F.toList=xs):Holds id w g 0 F:=by
 intro j hj;have hj':j<xs.length:=by grind
 have hc:=h.cells (g:=g) rfl j xs[j] (j4 hj');rw[show(⟨g,0,none⟩:Addr).add j=⟨g,j,none⟩ from by grind[Addr.add]] at hc;rw[rC,getElem!_pos F j hj];refine⟨by grind,?_⟩;rcases h.2 with⟨h1,_⟩ | ⟨g',cap',cur,h1,_,hg,_⟩<;>grind[World.frozen?]
theorem Qg {g:Nat}{ys:List bh}{os:Array Obj}(h:w.ownsRow base e z (.slice (some ⟨g,0,none⟩) n cap) n xs)(F:iw)(hF:F.toList=ys)(hl:ys.length=xs.length):
 (grow (putRow id (Sort.ahead w m) g 0 F) os).ownsRow base e z (.slice (some ⟨g,0,none⟩) n cap) n ys/\w.grownBy (grow (putRow id (Sort.ahead w m) g 0 F) os) (some g):=by
 have hsz:=h.1;rcases h.2 with⟨h1,_⟩ | ⟨g',cap',cur,h1,hb,hg,h2,h3,h4,h5⟩
 . cases h1
 . cases h1;have hgl:g<w.heap.size:=(zY.1 hg).1;have hFs:F.size=n*z:=by grind
   have hnc:n*z<=cap*z:=Sy z h2;refine⟨⟨by rw[hl,hsz],.inr ⟨g,cap,putCells id 0 F cur,rfl,hb,?_,h2,h3,by simp[putCells,h4],?_⟩⟩,⟨rfl,rfl,rfl,by simp,λk hk hne=>?_⟩⟩
   . grind[heap_grow_old,putRow,mapBlock,Sort.ahead,onCells]
   . rw[<-hF];apply EU
     grind[putCells]
   grind[heap_grow_old,putRow,mapBlock,Sort.ahead]
end
def Cg (a b:Nat):Int:=if a<b then -1 else if b<a then 1 else 0
theorem TI (a:Nat)(w:aD):Calls prog 238 #[.int .u64 a] w λe w'=>e=.returned (.bool false)/\w=w':=by
 go_enter func238,ntmps238;go_wp2;go_ret;exact⟨by simp,rfl⟩
theorem Wd (a b:Nat)(w:aD):Calls prog 191 #[.int .u64 a,.int .u64 b] w λe w'=>e=.returned (.int .i64 (Cg a b))/\w=w':=by
 go_enter func191,ntmps191
 go_wp2_with (go_at_call 238;refine(TI _ _).mono ?_;rintro e W ⟨rfl,rfl⟩)
 all_goals go_ret
 all_goals (refine⟨iS (λx=>Ending.returned (.int .i64 x)) ?_,rfl⟩;unfold Cg)
 . rw[bC au]
 . omega
 omega
theorem eU.ZU {b:Nat}{v:Dv}(h:eU w D v)(hb:ek b w w')(ht:du w b=some t)(_:df t=false)(hd:fk t=false∨b∉ki w D):eU w' D v:=by
 obtain⟨l,hl⟩:=h.open;have h1:b∉l:=by
  rcases hd with h1 | h1
  . intro hm;obtain⟨u,hu,hd⟩:=hl.ty b hm
    grind
  . rw[hl.ki] at h1;exact h1
 exact(hl.save (jv.me (l:=[b]) hb (eO _) (.inl fh)) (λk hk=>⟨hl.lt k hk,by grind⟩)).shut
theorem dB (D:Nat)(v:Dv):gX (some D) (λ_ w=>eU w D v):=
 ⟨λh hb=>eU.below h hb,λh _=>h,λh _=>h,fun {B w w' b t} h _ hb ht ho hd=>eU.ZU h hb ht ho (hd.imp id λf=>f D rfl),fun {B w D'} h e=>by grind[V8]⟩
theorem Wf (D:Nat)(d:Dv)(ho:d.ops<=1000000000)(w:aD)(a:eU w D d):Calls prog 226 #[.pointer (some ⟨D,0,none⟩)] w λe w'=>e=.returned (.int .i64 (fc d).2)/\eU w' D (fc d).1/\Fr (some D) [] w w':=by
 obtain⟨l,hl⟩:=a.open;exact(VP D d l ho w hl).mono λe w' h=>⟨h.1,h.2.shut,h.2.fr hl []⟩
theorem Wg (D:Nat)(d:Dv)(ho:d.ops<=1000000000)(i:Int)(s:aK)(hs:fa s)(A:iw)(hA:A=ah 128 (aw s))(w:aD)(a:eU w D d):Calls prog 227 #[.pointer (some ⟨D,0,none⟩),.int .i64 i,.agg A] w λe w'=>e=.returned (.int .i64 (eN d i s).2)/\eU w' D (eN d i s).1/\Fr (some D) [] w w':=by
 obtain⟨l,hl⟩:=a.open;exact(VM D d l ho i s hs A hA w hl).mono λe w' h=>⟨h.1,h.2.shut,h.2.fr hl []⟩
theorem Zk (D:Nat)(d:Dv)(i:Int)(hi:bT i)(w:aD)(a:eU w D d):Calls prog 165 #[.pointer (some ⟨D,0,none⟩),.int .i64 i] w λe w'=>∃A,e=.returned (.tuple #[.agg A,.int .i64 (eL d i).2.2])/\A=ah 128 (aw (eL d i).2.1)/\eU w' D (eL d i).1/\Fr (some D) [] w w':=by
 obtain⟨l,hl⟩:=a.open;exact(Yl D d l i hi w hl).mono λe w' h=>by obtain⟨A,h1,h2,h3⟩:=h;exact⟨A,h1,h2,h3.shut,h3.fr hl []⟩
theorem Ag (d:Dv): (fc d).1.ops<=d.ops+1:=by
 grind[fc,cS,nY]
def dr (d:Dv) (u:nu):Dv×Int:=match ji u with
 | none=>(d,61)
 | some b=>
  if(fc d).2≠0 then fc d else
  if(eN (fc d).1 ((u.lJ % 4:Nat):Int) b).2≠0 then eN (fc d).1 ((u.lJ % 4:Nat):Int) b else
  fc (eN (fc d).1 ((u.lJ % 4:Nat):Int) b).1
theorem FP (D:Nat)(d:Dv)(hd:d.ops<=999999000)(u:nu)(hu:kp u)(w:aD)(a:eU w D d):Calls prog 170 #[.pointer (some ⟨D,0,none⟩),.agg (ah 7 (gg u))] w λe w'=>e=.returned (.int .i64 (dr d u).2)/\eU w' D (dr d u).1/\Fr (some D) [] w w':=by
 obtain⟨U,HU⟩:=BU (ah 7 (gg u));have C1:=ae λw=>yN u hu w;have C3:=ae λw=>Nh u w;rw[<-HU.o] at C1 C3 ⊢;clear hu;have S:=St.start w (some D) [] (dB D d) a;clear a;have C2:=ae λw a=>Wf D d au w a;obtain⟨k,hk⟩:=gq (u.lJ % 4);rw[<-hk] at C3;cases hb:ji u with
 | none=>
  rw[hb,show codeF 61 (none:Option aK)=61 from rfl] at C1;have HC:Hid (dr d u=(d,61)):=ae (by unfold dr;rw[hb]);go_enter func170,ntmps170
  go_wp2_with (first|(go_at_call 225;refine(C1.o _).mono ?_;rintro e W ⟨B,rfl,hB,hb⟩;have HB:=ae hB;replace S:=S.below hb;clear hB hb)|refine fN ?_|refine ew λW S=>?_)
  go_ret;exact⟨by rw[HC.o];rfl,by rw[HC.o];exact S.x,S.fr⟩
 | some b=>
  have hbs:fa b:=by
   unfold ji at hb;split at hb
   . cases hb;exact Ng u
   . cases hb
  rw[hb,show codeF 61 (some b)=0 from rfl,show(some b).getD aX=b from rfl] at C1;have HC:Hid (dr d u=if(fc d).2≠0 then fc d else if(eN (fc d).1 (k:Int) b).2≠0 then eN (fc d).1 (k:Int) b else fc (eN (fc d).1 (k:Int) b).1):=ae (by unfold dr;rw[hb,hk]);have hf:=Ag d;rcases hfl:fc d with⟨d1,c1⟩;rw[hfl] at C2 HC hf;simp only at hf;have hf2:=s6 d1 (k:Int) b;rcases hwr:eN d1 (k:Int) b with⟨d2,c2⟩;rw[hwr] at hf2;simp only[hwr] at HC;simp only at hf2;have C4:=ae λB hB w a=>Wg D d1 au (k:Int) b hbs B hB w a;rw[hwr] at C4;have C5:=ae λw a=>Wf D d2 au w a;clear hk hb hfl hwr hf hf2 hd hbs;go_enter func170,ntmps170;by_cases hc1:c1=0
  case neg=>
   have g: (c1 != 0)=true:=by simpa using hc1
   have HC1:Hid (dr d u=(d1,c1)):=ae (by rw[HC.o];simp[hc1])
   go_wp2_with (first|(go_at_call 225;refine(C1.o _).mono ?_;rintro e W ⟨B,rfl,hB,hb⟩;have HB:=ae hB;replace S:=S.below hb;clear hB hb)|(go_at_call 226;refine(C2.o _ S.x).mono ?_;rintro e W ⟨rfl,ha,hf⟩;replace S:=S.call hf (λ_ e=>e) fh (dB D d1) (λ_ _=>ha);clear ha hf)|refine fN ?_|refine ew λW S=>?_)
   go_ret;exact⟨by rw[HC1.o];rfl,by rw[HC1.o];exact S.x,S.fr⟩
  subst hc1
  go_upto_region 7 with(first|(go_at_call 225;refine(C1.o _).mono ?_;rintro e W ⟨B,rfl,hB,hb⟩;have HB:=ae hB;replace S:=S.below hb;clear hB hb)|(go_at_call 226;refine(C2.o _ S.x).mono ?_;rintro e W ⟨rfl,ha,hf⟩;replace S:=S.call hf (λ_ e=>e) fh (dB D d1) (λ_ _=>ha);clear ha hf)|refine fN ?_|refine ew λW S=>?_)
  refine bL S cm λW S=>?_;refine bp 0 22 _ ?_;refine bp 1 23 (.agg U) ?_;refine bp 3 25 (.agg B) ?_;refine mO 2 λK hK=>?_
  go_wp2_with fail
  refine je S (C3.o _) λW S=>?_;refine gM hK ?_;refine mO 4 λK hK=>?_
  go_wp2_with fail
  refine(C4.o B HB.o _ S.x).mono ?_;rintro e W ⟨rfl,ha,hf⟩;replace S:=S.call hf (λ_ e=>e) fh (dB D d2) (λ_ _=>ha);clear ha hf;refine gM hK ?_;refine bp 5 8 _ ?_;refine uy ?_;by_cases hc2:c2=0
  case neg=>
   have g: (c2 != 0)=true:=by simpa using hc2
   have HC1:Hid (dr d u=(d2,c2)):=ae (by rw[HC.o];simp[hc2]);go_wp2;go_ret;exact⟨by rw[HC1.o];rfl,by rw[HC1.o];exact S.x,S.fr⟩
  subst hc2;have HC1:Hid (dr d u=fc d2):=ae (by rw[HC.o];simp)
  go_wp2_with (go_at_call 226;refine(C5.o _ S.x).mono ?_;rintro e W ⟨rfl,ha,hf⟩;replace S:=S.call hf (λ_ e=>e) fh (dB D (fc d2).1) (λ_ _=>ha);clear ha hf)
  go_ret;exact⟨by rw[HC1.o];rfl,by rw[HC1.o];exact S.x,S.fr⟩
theorem TJ (x y:nu)(W:aD):Calls prog 190 #[.agg (Me x).toArray,.agg (Me y).toArray] W λe w'=>e=.returned (.int .i64 (Cg x.lJ y.lJ))/\∃q os',w'=Sort.grow (W.drewN q) os':=by
 have e1: (Me x).toArray=ah 7 (gg x):=by simp[Me]
 have e2: (Me y).toArray=ah 7 (gg y):=by simp[Me]
 rw[e1,e2,FK,FK];have hcon:=ae λw=>Wd x.lJ y.lJ w;generalize Cg x.lJ y.lJ=r at hcon ⊢;go_enter func190,ntmps190
 go_wp2_with (go_at_call 191;refine(hcon.o _).mono ?_;rintro e w' ⟨rfl,rfl⟩)
 go_ret;exact⟨rfl,0,_,by rw[Sort.alloc_eq_grow,Sort.alloc_eq_grow,Sort.grow_grow];rfl⟩
def nH (l:List nu):List nu:=(Sort.insertionSort (ltOf λx y:nu=>Cg x.lJ y.lJ) l.toArray 0 l.toArray.size).toList
theorem ZZ:Sort.SWO (ltOf λx y:nu=>Cg x.lJ y.lJ):=by
 have h: ∀x y:nu,ltOf (λx y:nu=>Cg x.lJ y.lJ) x y=decide (x.lJ<y.lJ):=by
  grind[ltOf,Cg]
 refine⟨λx=>?_,λx y z=>?_,λx y z=>?_⟩ <;> simp only[h,yy,decide_eq_false_iff_not] <;> omega
theorem oM (l:List nu): (nH l).Perm l:=by
 have h:=(Sort.insertionSort_holds ZZ l.toArray 0 l.toArray.size (kf _) (eO _)).1;have h1:=h.1;have h3:=h.2.2;unfold nH;have e1: ∀d:Array nu,d.extract 0 d.size=d:=λd=>by simp
 grind
theorem RO (n:Nat)(W:aD)(h:n<=12):Calls prog 157 #[.int .u64 n] W λe w'=>(∃l:Int,e=.returned (.int .i64 l))/\w'=W:=
 (Any.bits_Len bitsLen n W au au).mono λ_ _ ⟨he,hw⟩=>⟨⟨_,he⟩,hw⟩
theorem Yz (f:bh)(w:aD):Calls prog 267 #[.slice none 0 0,.int .i64 0,.int .i64 0,f] w λe w'=>e=.returned (.tuple #[])/\w=w':=by
 go_enter func267,ntmps267
 go_wp2_with fail
 go_loopw [8] (λi wr=>i=.int .i64 1/\w=wr) (λ_ _=>0)
 case atStart=>exact⟨rfl,rfl⟩
 case round=>
  obtain⟨rfl,rfl⟩:=hrel;go_wp2
  go_end0
  exact⟨rfl,rfl⟩
theorem YA (f:bh)(n:Int)(w:aD):Calls prog 237 #[.slice none 0 0,.int .i64 0,.int .i64 0,.int .i64 n,f] w λe w'=>e=.returned (.tuple #[])/\w=w':=by
 go_enter func237,ntmps237
 go_wp2_with fail
 go_loopw [1,2] (λa b wr=>a=.int .i64 0/\b=.int .i64 0/\w=wr) (λ_ _ _=>0)
 case atStart=>exact⟨rfl,rfl,rfl⟩
 case round=>
  obtain⟨rfl,rfl,rfl⟩:=hrel
  go_wp2_with (go_at_call 267;refine(Yz _ _).mono ?_;rintro e w' ⟨rfl,rfl⟩)
  refine kg (Jv rfl _ _ _) rfl ⟨rfl,rfl⟩
theorem Wh (f:bh)(w:aD):Calls prog 189 #[.slice none 0 0,f] w λe w'=>e=.returned (.tuple #[])/\w=w':=by
 go_enter func189,ntmps189
 go_wp2_with (first|(go_at_call 157;refine(RO 0 _ au).mono ?_;rintro e w' ⟨⟨l,rfl⟩,rfl⟩)|(go_at_call 237;refine(YA _ _ _).mono ?_;rintro e w' ⟨rfl,rfl⟩))
 go_end0
 exact⟨rfl,rfl⟩
theorem Qh {L:List R4}{O:List O4}(S:St w0 d l L O X w)(k:Nat){us:List nu}(hk:O[k]? =some ⟨143,7,v,us.length,Mf us⟩)(h12:us.length<=12):
 Calls prog 189 #[v,.func (.func 190) #[] #[]] w λe w'=>e=.returned (.tuple #[])/\St w0 d l L (O.set k ⟨143,7,v,us.length,Mf (nH us)⟩) X w':=by
 have ho:=S.bR hk;have hlen:=(oM us).length_eq;rcases ho.2 with⟨h1,h2⟩ | ⟨g,cap,cur,h1,hb,hg,_⟩
 . have h1':v=.slice none 0 0:=h1;subst h1';have h0:us=[]:=Jp h2;subst h0;refine(Wh _ w).mono λe w' h=>?_;obtain⟨he,rfl⟩:=h;refine⟨he,?_⟩;have e1:O.set k ⟨143,7,.slice none 0 0,([]:List nu).length,Mf (nH [])⟩=O:=by
    rw[show nH []=[] from Perm.eq_nil (oM [])];apply EU
    grind
   grind
 . have h1':v=.slice (s_ g 0) us.length cap:=h1;subst h1';have hF: (Sort.flatK Me 7 us.toArray).toList=Mf us:=by grind[FO,xZ,Mf]
   have hF2: (Sort.flatK Me 7 (Sort.insertionSort (ltOf λx y:nu=>Cg x.lJ y.lJ) us.toArray 0 us.toArray.size)).toList=Mf (nH us):=by rw[FO xZ au];rfl
   have hH:Sort.HoldsK Me 7 w g 0 us.toArray:=TH ho _ hF;have eg: ∀args w,(callFunc 190 args).run prog w=.ok (.enter 190 args) w:=enters_of func190 cm rfl;have hcmp:CmpLays prog 190 #[] Me 7 (λx y=>Cg x.lJ y.lJ) g 0 us.toArray.size w:=λ_ _ _ _ x y=>TJ x y _;have hcon:=AnyQ.slices_SortFunc_small ZY 7 isAgg143 sizeOf143 Me xZ Yy (λx y=>Cg x.lJ y.lJ) 190 #[] g 0 cap us.toArray w eg hcmp hH (zY.1 hg).1 au RO;refine Calls.mono (show Calls prog 189 #[.slice (s_ g 0) us.length cap,.func (.func 190) #[] #[]] w _ from hcon) λe w' h=>?_;obtain⟨he,n,os,hw⟩:=h;have h2:=Qg (m:=n) (os:=os) ho _ hF2 (by rw[show(Mf (nH us)).length=_ from tf xZ _,show(Mf us).length=_ from tf xZ _,hlen]);have h3:w'=Sort.grow (Sort.putRow id (Sort.ahead w n) g 0 (Sort.flatK Me 7 (Sort.insertionSort (ltOf λx y:nu=>Cg x.lJ y.lJ) us.toArray 0 us.toArray.size))) os:=hw;rw[h3];exact⟨he,S.grow hk h2.2 h2.1 rfl (.inl rfl)⟩
def oN (x:Dv×List nu) (i:Nat):Dv×List nu:=
 if(eL x.1 (i:Int)).2.2≠0 then((eL x.1 (i:Int)).1,x.2) else
 match im (eL x.1 (i:Int)).2.1 with
 | none=>((eL x.1 (i:Int)).1,x.2)
 | some u=>if u.lJ % 4=i then((eL x.1 (i:Int)).1,x.2++[u]) else((eL x.1 (i:Int)).1,x.2)
def iH (d:Dv) (k:Nat):Dv×List nu:=(range k).foldl oN (d,[])
def rS (d:Dv):Dv×List nu:=((iH d 4).1,nH (iH d 4).2)
theorem xd (d:Dv) (k:Nat):iH d (k+1)=oN (iH d k) k:=by
 grind[iH,range_succ]
theorem KS (x:Dv×List nu) (i:Nat): (oN x i).2.length<=x.2.length+1:=by
 grind[oN]
theorem zK (d:Dv)(k:Nat): (iH d k).2.length<=k:=by
 induction k<;>grind[iH,xd,KS]
theorem YB: (prog.info? 143).map (λi=>(i.zero,i.size,i.bytes))=some (some (.agg #[.int .u64 0,.int .u64 0,.int .i64 0,.int .u64 0,.int .u32 0,.int .i64 0,.int .i64 0]),7,56):=cm
theorem RN:qj prog 230 143 7 56:=⟨underlying230,_,YB,rfl,au⟩
theorem Qi (l m:List nu):Mf (l++m)=Mf l++Mf m:=by grind[Mf]
theorem YC (u:nu):Mf [u]=(ah 7 (gg u)).toList:=by rfl
theorem KU (D:Nat)(d:Dv)(w:aD)(a:eU w D d):Calls prog 145 #[.pointer (some ⟨D,0,none⟩)] w λe w'=>∃v,e=.returned v/\w'.ownsRow w.heap.size 143 7 v (rS d).2.length (Mf (rS d).2)/\eU w' D (rS d).1/\Fr (some D) [] w w':=by
 have S:=(St.start w (some D) [] (dB D d) a).yK 143 7 rfl rfl;clear a;have S:=ae S;go_enter func145,ntmps145
 go_wp2_with fail
 go_loopw [3,9] (λv i wr=>∃k:Nat,k<=4/\i=.int .i64 k/\Hid (St w (some D) [] [] [⟨143,7,v,(iH d k).2.length,Mf (iH d k).2⟩] (λ_ w=>eU w D (iH d k).1) wr)) (λ_ i _=>4 - (intOf i).toNat)
 case atStart=>exact⟨0,au,rfl,S⟩
 case round=>
  clear S;obtain⟨k,hk,rfl,hS⟩:=hrel;by_cases hlt:k<4
  . have S:=hS.o;clear hS;have hlen:=zK d k;have hsucc:=ae (xd d k);generalize iH d k=x at S hsucc hlen;obtain⟨d0,us⟩:=x;simp only at S hlen;have C1:=ae λw a=>Zk D d0 (k:Int) ⟨au,au⟩ w a;have hst:oN (d0,us) k=if(eL d0 (k:Int)).2.2≠0 then((eL d0 (k:Int)).1,us) else match im (eL d0 (k:Int)).2.1 with
     | none=>((eL d0 (k:Int)).1,us)
     | some u=>if u.lJ % 4=k then((eL d0 (k:Int)).1,us++[u]) else((eL d0 (k:Int)).1,us):=rfl
    have hok:=B7 S.x.ok (k:Int);rcases hrd:eL d0 (k:Int) with⟨d1,s,c⟩;rw[hrd] at C1 hst hok;simp only at hst hok;have HST:=ae hst;clear hst hrd;by_cases hc:c=0
    case neg=>
     have g: (c != 0)=true:=by simpa using hc
     have hn:Hid (iH d (k+1)=(d1,us)):=ae (by rw[hsucc.o,HST.o,bC hc])
     go_wp2_with (first
   |(go_at_call 165;refine(C1.o _ S.x).mono ?_;rintro e W ⟨A,rfl,hA,ha,hf⟩;have HA:=ae hA;replace S:=S.call hf (λ_ e=>e) fh (dB D d1) (λ_ _=>ha);clear ha hA)
   |refine ew λW S=>?_)
     go_roundw
     case rel=>exact⟨k+1,au,by go_num,by rw[hn.o];exact ae S.pop⟩
     case measure=>exact uO
    subst hc;have C2:=ae λw=>KR s hok w;obtain⟨h2,h3⟩: (im s).isSome=(im s).isSome/\True:=⟨rfl,kO⟩;clear h2 h3;cases hu:im s with
    | none=>
     rw[hu,show(none:Option nu).isSome=false from rfl] at C2;have hn:Hid (iH d (k+1)=(d1,us)):=ae (by rw[hsucc.o,HST.o,bX fh,hu])
     go_wp2_with (first
   |(go_at_call 165;refine(C1.o _ S.x).mono ?_;rintro e W ⟨A,rfl,hA,ha,hf⟩;have HA:=ae hA;replace S:=S.call hf (λ_ e=>e) fh (dB D d1) (λ_ _=>ha);clear ha hA;rw[<-HA.o] at C2)
   |(go_at_call 187;refine(C2.o _).mono ?_;rintro e W ⟨U,rfl,hU,hb⟩;have HU:=ae hU;replace S:=S.below hb;clear hU)
   |refine fN ?_
   |refine ew λW S=>?_)
     go_roundw
     case rel=>exact⟨k+1,au,by go_num,by rw[hn.o];exact ae S.pop.pop⟩
     case measure=>exact uO
    | some u=>
     rw[hu,show(some u).isSome=true from rfl,show(some u).getD nL=u from rfl] at C2;obtain⟨U,hU⟩:=gq (ah 7 (gg u));have C3:=ae λw=>Nh u w;rw[<-hU] at C3;have HU:=ae hU;have C2':=ae λw=>(C2.o w).mono λe w' h=>show e=.returned (.tuple #[.agg U,.bool true])/\dp w w' by grind
     clear hU C2;by_cases hk2:u.lJ % 4=k
     . have hn:Hid (iH d (k+1)=(d1,us++[u])):=ae (by rw[hsucc.o,HST.o,bX fh,hu];simp only;rw[bC hk2]);rw[hk2] at C3;clear hk2
       go_wp2_with (first
   |(with_reducible first|refine jj 27 143 7 S 0 HU.o ?_)
   |(go_at_call 165;refine(C1.o _ S.x).mono ?_;rintro e W ⟨A,rfl,hA,ha,hf⟩;have HA:=ae hA;replace S:=S.call hf (λ_ e=>e) fh (dB D d1) (λ_ _=>ha);clear ha hA;rw[<-HA.o] at C2')
   |(go_at_call 187;refine je S (C2'.out _) λW S=>?_)
   |(go_at_call 188;refine je S (C3.o _) λW S=>?_)
   |((with_reducible refine bN 35 32 34 ?_);refine lZ S 0 rfl 0 rfl rfl rfl rfl RN (jK _) JW BM λg cap W S=>?_)
   |refine fN ?_
   |refine ew λW S=>?_)
       go_roundw
       case rel=>exact⟨k+1,au,by go_num,by rw[hn.o,kh,Qi,YC];exact ae S.pop.pop.pop⟩
       case measure=>exact uO
     . have hn:Hid (iH d (k+1)=(d1,us)):=ae (by rw[hsucc.o,HST.o,bX fh,hu];simp only;rw[bX hk2]);have g: (((u.lJ % 4:Nat):Int)==(k:Int))=false:=by rw[k'];omega
       generalize u.lJ % 4=m at C3 g hk2
       go_wp2_with (first
   |(with_reducible first|refine jj 27 143 7 S 0 HU.o ?_)
   |(go_at_call 165;refine(C1.o _ S.x).mono ?_;rintro e W ⟨A,rfl,hA,ha,hf⟩;have HA:=ae hA;replace S:=S.call hf (λ_ e=>e) fh (dB D d1) (λ_ _=>ha);clear ha hA;rw[<-HA.o] at C2')
   |(go_at_call 187;refine je S (C2'.out _) λW S=>?_)
   |(go_at_call 188;refine je S (C3.o _) λW S=>?_)
   |refine fN ?_
   |refine ew λW S=>?_)
       go_roundw
       case rel=>exact⟨k+1,au,by go_num,by rw[hn.o];exact ae S.pop.pop⟩
       case measure=>exact uO
  . obtain rfl:k=4:=au;have S:=hS.o;have hlen:=zK d 4;clear hS
    go_wp2_with (go_at_call 189;refine(Qh S 0 rfl (kL hlen au)).mono ?_;rintro e W ⟨rfl,hS⟩;clear S;have S:=hS;clear hS)
    go_ret;have hl:=(oM (iH d 4).2).length_eq;refine⟨_,rfl,?_,S.x,S.fr⟩;show World.ownsRow _ _ _ _ _ (nH (iH d 4).2).length (Mf (nH (iH d 4).2));rw[hl];exact S.o0
def eu (d:Dv):Dv×Option nu:=((rS d).1,(rS d).2.getLast?)
theorem YD (l:List nu)(hi:i<l.length){A:iw}(hA:A=ah 7 (gg l[i])): ∀j,j<7->(Mf l)[i*7+j]? =A[j]?:=by
 intro j hj;unfold Mf;rw[flat_get xZ l hi hj,hA];simp[Me]
theorem Wi (h:w.ownsRow base e z v 0 xs):v=.slice none 0 0∨∃g c,v=.slice (some ⟨g,0,none⟩) 0 c:=by
 rcases h.2 with⟨h1,_⟩ | ⟨g,cap,cur,h1,_⟩<;>grind
theorem KV (D:Nat)(d:Dv)(w:aD)(a:eU w D d):Calls prog 83 #[.pointer (some ⟨D,0,none⟩)] w λe w'=>∃U,e=.returned (.tuple #[.agg U,.bool (eu d).2.isSome])/\U=ah 7 (gg ((eu d).2.getD nL))/\eU w' D (eu d).1/\Fr (some D) [] w w':=by
 have S:=St.start w (some D) [] (dB D d) a;clear a;have C1:=ae λw a=>KU D d w a;rcases hl:rS d with⟨d1,us⟩;rw[hl] at C1;simp only at C1;have hlen:us.length<=4:=by
  have h1:=(oM (iH d 4).2).length_eq;have h2:=zK d 4;have h3: (rS d).2=nH (iH d 4).2:=rfl;rw[hl] at h3;simp only at h3;rw[h3];omega
 have HB:Hid (eu d=(d1,us.getLast?)):=ae (by unfold eu;rw[hl]);clear hl;go_enter func83,ntmps83;by_cases h0:us=[];subst h0
 rotate_left
 obtain⟨n,hn⟩: ∃n,us.length=n+1:=⟨us.length - 1,by have:=Hx.2 h0;omega⟩;obtain⟨u,hu⟩: ∃u,us[n]? =some u:=⟨us[n]'au,j4 au⟩;have hg:us.getLast? =some u:=by rw[getLast?_eq_getElem?,hn];exact hu
 rw[hg] at HB;obtain⟨U,hU⟩:=gq (ah 7 (gg u));have HU:=ae hU;have hsub:=ae (YD us (i:=n) au (A:=U) rE);rw[hn] at C1;clear hU hg hu h0;have hi1:IntKind.i64.wrap ((n:Int)+1 - 1)=(n:Int):=by rw[mT _ au];omega
 all_goals
  go_wp2_with (first|(go_at_call 145;refine(C1.o _ S.x).mono ?_;rintro e W ⟨v,rfl,ho,ha,hf⟩;have S1:=S.pO hf (λ_ e=>e) fh (dB D d1) (λ_ _=>ha) ho rfl rfl;clear S;have S:=S1;clear S1 ha hf ho;have hv:v=.slice none 0 0∨∃g c,v=.slice (s_ g 0) 0 c:=Wi S.o0;rcases hv with rfl | ⟨g,c,rfl⟩)|(go_at_call 145;refine(C1.o _ S.x).mono ?_;rintro e W ⟨v,rfl,ho,ha,hf⟩;have S1:=S.pO hf (λ_ e=>e) fh (dB D d1) (λ_ _=>ha) ho rfl rfl;clear S;have S:=S1;clear S1 ha hf ho;have hv: ∃g c,v=.slice (s_ g 0) (n+1) c:=xb S.o0 (succ_pos n);obtain⟨g,c,rfl⟩:=hv)|((with_reducible refine aG 16 143 15 ?_);refine rP (o:=0) S.q0 (j:=n) (lt_succ_self n) (by rw[rC];rfl) (DW HU) hsub.o s9 ?_)|refine ew λW S=>?_|(refine o7 ?_;exact⟨_,by rw[HB.o];rfl,by rw[HB.o];rfl,by rw[HB.o];exact S.x,S.fr⟩))
def vL (q:aq):Bool:=decide (q≠hole)&&fP q
theorem Nn (q:aq)(A:iw)(hA:A=ah 3 (aN q))(w:aD):yr 236 #[.agg A] w (.bool (vL q)):=by
 have C1:=ae λw=>rG q w;obtain⟨b,hb⟩:=cM (decide (q=hole));have hq:=BZ q hole b hb;rw[az hA] at hq C1;have he: ∀w,(binOp .neq 106 (.agg A) (.agg #[.int .i64 0,.int .u64 0,.int .u32 0])).run prog w=.ok (.bool !b) w:=hq;clear hq;have HA:=ae hA;clear hA;have S:=ug w;cases b with
 | true=>
  have HF:Hid (vL q=false):=ae (by unfold vL;simp[lK hb]);clear hb;go_enter func236,ntmps236
  go_wp2_with (first|refine fN ?_|refine ew λW S=>?_)
  go_ret;exact⟨by rw[HF.o];rfl,S.b⟩
 | false=>
  have HF:Hid (vL q=fP q):=ae (by unfold vL;simp[wx hb]);clear hb;go_enter func236,ntmps236
  go_wp2_with (first|(with_reducible first|refine jj 7 106 1 S 0 HA.o ?_)|(go_at_call 241;refine je S (C1.o _) λW S=>?_)|refine fN ?_|refine ew λW S=>?_)
  go_ret;exact⟨by rw[HF.o];rfl,S.b⟩
def Z0 (p:aq):List bh:=(ah 3 (aN p)).toList
theorem rT (p:aq): (Z0 p).length=3:=by rfl
theorem fF (l:List aq)(hi:i<l.length){A:iw}(hA:A=ah 3 (aN l[i])): ∀j,j<3->(eo l)[i*3+j]? =A[j]?:=by
 intro j hj;unfold eo;rw[flat_get (f:=λp=>(ah 3 (aN p)).toList) rT l hi hj,hA];simp
def oO (l:List aq) (i:Nat):Bool:=vL (l.getD i hole)&& (decide (i=0)||mQ (l.getD (i - 1) hole) (l.getD i hole))
def kY (l:List aq):Bool:=(range l.length).all (oO l)
theorem JX {l:List aq}(hk:k<l.length)(h:oO l k=false):kY l=false:=by
 unfold kY
 grind
theorem Qj {l:List aq}(h: ∀k,k<l.length->oO l k=true):kY l=true:=by
 grind[kY]
theorem EF {l:List α}(hk:k<l.length)(x:α):l.getD k x=l[k]:=by
 grind
theorem aR (h:ar w e z v n xs): ∃ao cap,v=.slice ao n cap/\n<=cap/\(0<n->∃b o,ao=some ⟨b,o,none⟩):=by
 obtain⟨_,ao,cap,h1,h2,_,h3⟩:=h
 grind
theorem UO {P:pw}{SS:aD->Prop}{b o:Nat}(R: ∀w,SS w->ar w e z (.slice (some ⟨b,o,none⟩) n cap) n xs)(hj:j<n)(hx:a.eval (.tmp x)=.pointer (some ⟨b,o+j*z,none⟩)){A:iw}(hA:A.size=z)(hg: ∀i,i<z->xs[j*z+i]? =A[i]?)(ht:fu P ty z)(hw:Region.wanted ⟨some dst,.load ty (.tmp x),t2,pp,af,gd⟩ (yielded ops a.tmps)=true:=by kernel_rfl):YieldsIf P ops SS ⟨some dst,.load ty (.tmp x),t2,pp,af,gd⟩ (.agg A) a:=by
 obtain⟨⟨dd,hu,hd⟩,hi⟩:=ht;have h:=yieldsIf_load_mid (P:=P) (S:=SS) (op:=⟨some dst,.load ty (.tmp x),t2,pp,af,gd⟩) (ops:=ops) hw ty (.tmp x) rfl b _ hx A.toList dd (λw h=>by
  obtain⟨h1,ao,cap',h2,h3,h4,h5⟩:=R w h;obtain⟨b',o',cs,fl,rfl,hh,hc⟩:=h5 au;cases h2;intro i v hv
  grind[cell_of_row]) hu hd rE
 omega
theorem tI (l:List aq)(v:bh)(w:aD)(hl:l.length<=1000000000)(R:fM w v l):yr 244 #[v] w (.bool (kY l)):=by
 obtain⟨ao,cap,rfl,hcap,hao⟩:=aR R;have R:=ae R;have hao:=ae hao;have S:=ae (ug w);go_enter func244,ntmps244
 go_wp2_with fail
 go_loopw [7] (λi wr=>∃k:Nat,k<=l.length/\i=.int .i64 k/\Hid ((∀j,j<k->oO l j=true)/\St w none [] [] [] (λ_ _=>True) wr)) (λi _=>l.length - (intOf i).toNat)
 case atStart=>exact⟨0,au,rfl,λj hj=>absurd hj (ES _),S.o⟩
 case round=>
  clear S;obtain⟨k,hk,rfl,hS⟩:=hrel;by_cases hlt:k<l.length
  . obtain⟨b,o,rfl⟩:=hao.o au;obtain⟨hS,S⟩:=hS.o;have hS:=ae hS;obtain⟨q,hq⟩:=cM (l[k]);obtain⟨A,hA⟩:=gq (ah 3 (aN q));have hsub:=ae (fF l hlt (A:=A) (by rw[hq];exact hA));have HA:=ae hA;have C1:=ae (Nn q A hA);have hra:oO l k=(vL q&& (decide (k=0)||mQ (l.getD (k - 1) hole) q)):=by unfold oO;rw[EF hlt,hq]
    have hra:=ae hra;clear hA hq;cases hf:vL q with
    | false=>
     rw[hf] at C1 hra
     go_upto_region 4 with(first
   |((with_reducible refine pP ?_);refine Md (R.o.below S.b) hlt (DW HA) hsub.o ?_)
   |refine ew λW S=>?_)
     refine bL S cm λW S=>?_;refine bp 0 12 (.agg A) ?_;refine mO 1 λK hK=>?_
     go_wp2_with fail
     refine je S (C1.o _) λW S=>?_;refine gM hK ?_;refine bp 2 14 (.bool true) ?_;refine bp 3 15 _ ?_;refine vX 4 16 ?_;refine vX 5 17 ?_;refine vX 6 18 ?_;refine vX 7 19 ?_;refine vX 8 20 ?_;refine vX 9 21 ?_;refine vX 10 22 ?_;refine vX 11 23 ?_;refine vX 12 24 ?_;refine vX 13 25 ?_;refine vX 14 26 ?_;refine vX 15 27 ?_;refine bp 16 28 (.bool true) ?_;refine uy ?_;go_wp2;go_ret;exact⟨by rw[JX hlt (by rw[hra.o];rfl)];rfl,S.b⟩
    | true=>
     rw[hf] at C1 hra;by_cases hk0:k=0;have hr1:Hid (oO l k=true):=ae (by rw[hra.o];simp[hk0]);have HK0:=ae hk0;clear hk0
     go_upto_region 4 with(first
   |((with_reducible refine pP ?_);refine Md (R.o.below S.b) hlt (DW HA) hsub.o ?_)
   |refine ew λW S=>?_)
     refine bL S cm λW S=>?_;refine bp 0 12 (.agg A) ?_;refine mO 1 λK hK=>?_
     go_wp2_with fail
     refine je S (C1.o _) λW S=>?_;refine gM hK ?_;refine bp 2 14 (.bool false) ?_;refine bp 3 15 _ ?_;refine bp 4 16 _ ?_;refine gY 5 17 (.bool false) rfl (Or.inl ⟨cm,λw hw=>by have h0:=HK0.o;go_simp⟩) ?_;refine bp 6 18 _ ?_;refine vX 7 19 ?_;refine vX 8 20 ?_;refine vX 9 21 ?_;refine vX 10 22 ?_;refine vX 11 23 ?_;refine vX 12 24 ?_;refine vX 13 25 ?_;refine vX 14 26 ?_;refine bp 15 27 (.bool false) ?_;refine bp 16 28 (.bool false) ?_;refine uy ?_;have hS2: ∀j,j<k+1->oO l j=true:=λj hj=>by
      rcases Ml.1 hj with h | rfl
      . exact hS.o j h
      . exact hr1.o
     rotate_left
     have g1: (k:Int) > 0:=au;obtain⟨k1,rfl⟩: ∃k1,k=k1+1:=⟨k - 1,au⟩;obtain⟨p,hp⟩:=cM (l[k1]);obtain⟨B,hB⟩:=gq (ah 3 (aN p));have hsub2:=ae (fF l (i:=k1) au (A:=B) (by rw[hp];exact hB));have HB:=ae hB;obtain⟨b2,hb2⟩:=cM (mQ p q);have C2:=ae λw=>JD p q w;rw[az HA.o,az hB,hb2] at C2;have hr1:Hid (oO l (k1+1)=b2):=ae rE;clear hB hp hb2 hk0
     go_upto_region 4 with(first
   |((with_reducible refine pP ?_);refine Md (R.o.below S.b) hlt (DW HA) hsub.o ?_)
   |refine ew λW S=>?_)
     refine bL S cm λW S=>?_;refine bp 0 12 (.agg A) ?_;refine mO 1 λK hK=>?_
     go_wp2_with fail
     refine je S (C1.o _) λW S=>?_;refine gM hK ?_;refine bp 2 14 (.bool false) ?_;refine bp 3 15 _ ?_;refine bp 4 16 _ ?_;refine bp 5 17 (.bool true) ?_;refine bp 6 18 _ ?_;refine bp 7 19 _ ?_;refine bp 8 20 _ ?_;refine gY 9 21 (.int .i64 k1) rfl (Or.inl ⟨cm,λw hw=>by have h0:IntKind.i64.wrap (k1:Int)=(k1:Int):=mT _ au;go_simp⟩) ?_;refine gY 10 22 (bZ b (o+k1*3)) rfl (Or.inl ⟨cm,λw hw=>by have h0:k1<l.length:=au;go_simp⟩) ?_;refine gY 11 23 (.agg B) rfl (UO (λw h=>by obtain⟨_,S⟩:=h;exact R.o.below S.b) (show k1<l.length by omega) rfl (DW HB) hsub2.o bd) ?_;refine bp 12 24 (.agg A) ?_;refine mO 13 λK hK=>?_
     go_wp2_with fail
     refine je S (C2.o _) λW S=>?_;refine gM hK ?_;refine bp 14 26 (.bool !b2) ?_;refine bp 15 27 (.bool !b2) ?_;refine bp 16 28 (.bool !b2) ?_;refine uy ?_;rcases b2 with _ | _
     . go_wp2;go_ret;exact⟨by rw[JX hlt hr1.o];rfl,S.b⟩
     have hS2: ∀j,j<k1+1+1->oO l j=true:=λj hj=>by
      rcases Ml.1 hj with h | rfl
      . exact hS.o j h
      . exact hr1.o
     all_goals
      have hS2:=ae (And.intro hS2 S.pop);go_wp2;go_roundw
      case rel=>first | exact⟨k+1,au,by go_num,hS2⟩ | exact⟨k1+1+1,au,by go_num,hS2⟩
      case measure=>exact uO
  . obtain rfl:k=l.length:=au;obtain⟨hS,S⟩:=hS.o;have hr:=ae (Qj hS);clear hS;go_wp2;go_ret;exact⟨by rw[hr.o];rfl,S.b⟩
theorem Wj (p:aq)(s:Nat)(A:iw)(hA:A=ah 3 (aN p))(w:aD):yr 154 #[.agg A,.int .u64 s] w (.bool (fv p s)):=by
 rw[<-az hA];exact uX p s w
def ln (l:List aq) (st:Nat):List aq:=l.filter λq=>!fv q st
def jB (l:List aq) (st:Nat):List aq:=l.filter (fv · st)
theorem Iq (l:List aq)(v:bh)(st:Nat)(w:aD)(hl:l.length<=1000000000)(R:fM w v l):
 Calls prog 133 #[v,.int .u64 st] w λe w'=>∃a b,e=.returned (.tuple #[a,b])/\dh w' w.heap.size a (ln l st)/\dh w' w.heap.size b (jB l st)/\dp w w':=by
 obtain⟨ao,cap,rfl,hcap,hao⟩:=aR R;have R:=ae R;have hao:=ae hao;have S:=ae (((ug w).yK 106 3 rfl rfl).yK 106 3 rfl rfl);go_enter func133,ntmps133
 go_wp2_with fail
 go_loopw [6,7,12] (λa b i wr=>∃k:Nat,k<=l.length/\i=.int .i64 k/\Hid (St w none [] [] [⟨106,3,a,(ln (l.take k) st).length,eo (ln (l.take k) st)⟩,⟨106,3,b,(jB (l.take k) st).length,eo (jB (l.take k) st)⟩] (λ_ _=>True) wr)) (λ_ _ i _=>l.length - (intOf i).toNat)
 case atStart=>exact⟨0,au,rfl,S⟩
 case round=>
  clear S;obtain⟨k,hk,rfl,hS⟩:=hrel;by_cases hlt:k<l.length
  . obtain⟨b,o,rfl⟩:=hao.o au;have S:=hS.o;clear hS;have h1:=sZ (λq=>!fv q st) l hlt;have h2:=sZ (fv · st) l hlt;have n1: (ln (l.take k) st).length<=k:=kL (SA _ _) (by rw[pM];omega);have n2: (jB (l.take k) st).length<=k:=kL (SA _ _) (by rw[pM];omega);obtain⟨q,hq⟩:=cM (l[k]);obtain⟨A,hA⟩:=gq (ah 3 (aN q));have hsub:=ae (fF l hlt (A:=A) (by rw[hq];exact hA));have HA:=ae hA;have C1:=ae (Wj q st A hA);rw[hq] at h1 h2;have H1:Hid (ln (l.take (k+1)) st=ln (l.take k) st++if(!fv q st)=true then [q] else []):=ae h1;have H2:Hid (jB (l.take (k+1)) st=jB (l.take k) st++if fv q st=true then [q] else []):=ae h2;clear h1 h2 hA hq;generalize ln (l.take k) st=M at S H1 n1;generalize jB (l.take k) st=N at S H2 n2;cases hf:fv q st with
    | false=>
     rw[hf] at C1 H1 H2
     go_wp2_with (first
   |((with_reducible refine pP ?_);refine Md (R.o.below S.b) hlt (DW HA) hsub.o ?_)
   |(go_at_call 154;refine je S (C1.o _) λW S=>?_)
   |((with_reducible refine bN 26 23 25 ?_);refine lZ S 0 rfl 0 rfl rfl rfl rfl cN (aE _) JW BM λg cap W S=>?_)
   |refine fN ?_
   |refine ew λW S=>?_)
     go_roundw
     case rel=>exact⟨k+1,au,by go_num,by rw[H1.o,H2.o];simp only[Bool.not_false,wz,Bool.false_eq_true,Jq,ET];rw[kh,dU,kG];exact ae S.pop.pop⟩
     case measure=>exact uO
    | true=>
     rw[hf] at C1 H1 H2
     go_wp2_with (first
   |((with_reducible refine pP ?_);refine Md (R.o.below S.b) hlt (DW HA) hsub.o ?_)
   |(go_at_call 154;refine je S (C1.o _) λW S=>?_)
   |((with_reducible refine bN 22 19 21 ?_);refine lZ S 0 rfl 1 rfl rfl rfl rfl cN (aE _) JW BM λg cap W S=>?_)
   |refine fN ?_
   |refine ew λW S=>?_)
     go_roundw
     case rel=>exact⟨k+1,au,by go_num,by rw[H1.o,H2.o];simp only[Bool.not_true,wz,Bool.false_eq_true,Jq,ET];rw[kh,dU,kG];exact ae S.pop.pop⟩
     case measure=>exact uO
  . obtain rfl:k=l.length:=au;have S:=hS.o;rw[wh] at S;clear hS;go_wp2;go_ret2;exact⟨_,_,rfl,S.o0,S.o1,S.b⟩
section
variable {P:pw}
variable {L:List R4}{O:List O4}
theorem St.made (S:St w0 d l L O X w)(hs:cur.size=cap*z)(hm:cap<=maxLen)(h1:df e=false)(h2:fk e=false):
 St w0 d l L (⟨e,z,.slice (some ⟨w.heap.size,0,none⟩) 0 cap,0,[]⟩::O) X (w.alloc (.cells cur e)):=
 S.cU ((iU _ _).alloc (eO _) _) (World.ownsRow_made w cur cap (eO _) hm hs) h1 h2
theorem qm (dst:Nat)(ty:dD)(h:wpList P ops Q (⟨some dst,.makeSlice ty q r,t2,p,af,none⟩::rest) a w):wpList P ops Q (⟨some dst,.makeSlice ty q r,t2,p,af,none⟩::rest) a w:=h
theorem Dp (S:St w0 d l L O X w)(ht:qj P ty e z by')(hq:a.eval q=.int .i64 0)(hr:a.eval r=.int .i64 n)(hb:by'*n<=281474976710656)(hn:n<=maxLen)(h1:df e=false)(h2:fk e=false)(h: ∀g W,St w0 d l L (⟨e,z,.slice (some ⟨g,0,none⟩) 0 n,0,[]⟩::O) X W->wpList P ops Q rest (a.put (some dst) (.slice (some ⟨g,0,none⟩) 0 n)) W):
 wpList P ops Q (⟨some dst,.makeSlice ty q r,t2,p,af,none⟩::rest) a w:=by
 obtain⟨hu,zv,hi,hz,h0⟩:=ht;obtain⟨it,hi1,hz0,hz1,hz2⟩:=sC hi;have hrun:=run_make w ty e it zv hu hi1 hz0 .i64 .i64 0 (n:Nat) au au rE (by grind[maxLen]);simp only[BQ,hz1,Int.toNat_zero] at hrun;refine sD rfl λK hK=>?_;unfold Oper.wp execOp;simp only[py,hq,hr,hrun,rj];exact hK _ _ (h _ _ (S.made (by grind[madeCells]) hn h1 h2))
theorem qE (w:aD)(base:Nat)(t ty e:dD)(i:TypeInfo)(size:Nat)(ht:P.underlying t=some (.slice e))(hi:P.info? e=some i)(v:bh)(n:Nat)(xs:List bh)(hown:w.ownsRow base e size v n xs)(ao:Option Addr)(c:Nat):
 (Builtin.append_ #[t,t] ty #[v,.slice ao 0 c]).run P w=.ok v w:=by
 rcases hown.2 with⟨rfl,rfl⟩ | ⟨g,cap,cur,rfl,_,_,hnc,_⟩
 . cases ao <;> simp[Builtin.append_,D7 ht,sizeOf,typeInfo,hi,Builtin.lenOf,Builtin.firstCells,loadCells,loadCellsFrom]
 . cases ao <;> simp[Builtin.append_,D7 ht,sizeOf,typeInfo,hi,Builtin.lenOf,Builtin.firstCells,hnc,storeCells,loadCells,loadCellsFrom]
theorem Z2 (S:St w0 d l L O X w)(j:Nat){o:O4}(hj:O[j]? =some o)(hs:a.eval (.tmp x)=o.v)(hx:a.eval (.tmp y)=v)(R:ar w T o.z v n xs)(ht:qj P t o.e o.z by')(h1: ∀u∈xs,u.oneCell'=true)(hn: (o.n+n)*by'<=140737488355328)(hm:o.n+n<=maxLen)(h: ∀v' W,St w0 d l L (O.set j ⟨o.e,o.z,v',o.n+n,o.xs++xs⟩) X W->K (a.put (some dst) v') W):
 Oper.wp P ⟨some dst,.call {callee:=.builtin .append,args:=#[.tmp x,.tmp y],argTypes:=#[t,t]},t2,p,af,none⟩ a w K Q:=by
 obtain⟨hu,zv,hi,hz,h0⟩:=ht;obtain⟨it,hi1,hz0,hz1,hz2⟩:=sC hi;obtain⟨hl,ao,cap,rfl,hc1,hc2,hc3⟩:=R;by_cases hn0:n=0
 . subst hn0;have hx0:xs=[]:=Jp au;subst hx0;have hrun:=qE (P:=P) w w0.heap.size t t2 o.e it o.z hu hi1 o.v o.n o.xs (S.bR hj) ao cap;unfold Oper.wp execOp;simp only[resolve,invoke,builtin,py,wB,rj,map_toArray,map_cons,map_nil,hs,hx,hrun];refine h _ _ ?_;rw[CI,ET];have e1:O.set j ⟨o.e,o.z,o.v,o.n,o.xs⟩=O:=by
    apply EU;intro i;rw[Pa];split
    . next h=>subst h;split<;>simp_all
    . rfl
   grind
 . obtain⟨b,off,cs,fl,rfl,hh,hcs⟩:=hc3 au;refine wp_append_lies w (.tmp x) (.tmp y) t rfl w0.heap.size o.e it zv o.z by' hu hi1 hz0 hz1 hz2 hz h0 o.v o.n o.xs hs (S.bR hj) ⟨b,off,none⟩ n cap xs hx hl (λi u hu2=>?_) h1 au hm hn S.fr.size _ rfl λg cap' w' hown hg hat _=>h _ w' ?_
   . rw[show(⟨b,off,none⟩:Addr).add i=⟨b,off+i,none⟩ from by grind[Addr.add],cell_of_row w b _ cs T fl hh]
     grind
   . exact S.grow hj hg hown rfl hat
theorem zL (S:St w0 d l L O X w)(j:Nat){o:O4}(hj:O[j]? =some o)(hs:a.eval (.tmp x)=o.v)(hx:a.eval (.tmp y)=v)(R:ar w T o.z v n xs)(ht:qj P t o.e o.z by')(h1: ∀u∈xs,u.oneCell'=true)(hn: (o.n+n)*by'<=140737488355328)(hm:o.n+n<=maxLen)(h: ∀v' W,St w0 d l L (O.set j ⟨o.e,o.z,v',o.n+n,o.xs++xs⟩) X W->wpList P ops Q rest (a.put (some dst) v') W):
 wpList P ops Q (⟨some dst,.call {callee:=.builtin .append,args:=#[.tmp x,.tmp y],argTypes:=#[t,t]},t2,p,af,none⟩::rest) a w:=
 sD rfl λ_ hK=>Z2 S j hj hs hx R ht h1 hn hm λv' W hS=>hK _ _ (h v' W hS)
end
theorem Ir: (prog.info? 5).map (λi=>(i.zero,i.size,i.bytes))=some (some (.int .u8 0),1,1):=cm
theorem mG:qj prog 22 5 1 1:=⟨oC,_,Ir,rfl,au⟩
theorem vV (l:aK): ∀u∈l.map λ(x:Nat)=>Value.int .u8 (x:Int),u.oneCell'=true:=λu hu=>by obtain⟨_,_,rfl⟩:=lY.1 hu;rfl
def pz (l:List aq):aK:=l.flatMap gZ
def lB (l:List aq):Option aK:=if l.length<=4000/\kY l=true then some (pz l) else none
theorem Ch (l:List aq): (pz l).length=l.length*16:=tf ep l
theorem No {l:List aq}(h:kY l=true)(hk:k<l.length):fP l[k]=true:=by
 simp_all[kY,oO,vL]
theorem FQ (p:aq)(hp:bt p)(hr:fP p=true)(A:iw)(hA:A=ah 3 (aN p))(w:aD):
 Calls prog 233 #[.agg A] w λe w'=>∃r,e=.returned (.tuple #[r,.int .i64 0])/\w'.ownsRow w.heap.size 5 1 r 16 ((gZ p).map λ(x:Nat)=>Value.int .u8 (x:Int))/\dp w w':=by
 rw[<-az hA];refine(qU p hp w).mono λe w' h=>?_
 simp_all[gI,ep]
theorem Qk (l:List aq)(hk:k<l.length):pz (l.take (k+1))=pz (l.take k)++gZ l[k]:=by
 grind[pz,take_succ_eq_append_getElem]
theorem Is (l:List aq)(hp: ∀q∈l,bt q)(v:bh)(w:aD)(hl:l.length<=1000000000)(R:fM w v l):
 Calls prog 275 #[v] w λe w'=>∃r,e=.returned (.tuple #[r,.int .i64 (codeF 131 (lB l))])/\gI w' w.heap.size r ((lB l).getD [])/\dp w w':=by
 have C0:=ae λw R=>tI l v w hl R;obtain⟨ao,cap,rfl,hcap,hao⟩:=aR R;have R:=ae R;have hao:=ae hao;have S:=ae (ug w);by_cases hbig:l.length<=4000
 case neg=>
  have hn:Hid (lB l=none):=ae (by unfold lB;rw[bX (λh=>hbig h.1)]);have S:=S.o;go_enter func275,ntmps275;go_wp2;go_ret2;exact⟨_,by rw[hn.o];rfl,by rw[hn.o];exact ju _ _ _ _,S.b⟩
 cases hr:kY l with
 | false=>
  rw[hr] at C0;have hn:Hid (lB l=none):=ae (by unfold lB;rw[bX (λh=>by rw[hr] at h;cases h.2)]);have S:=S.o;go_enter func275,ntmps275
  go_wp2_with (go_at_call 244;refine je S (C0.o _ (R.o.below S.b)) λW S=>?_)
  go_ret2;exact⟨_,by rw[hn.o];rfl,by rw[hn.o];exact ju _ _ _ _,S.b⟩
 | true=>
  rw[hr] at C0;have hn:Hid (lB l=some (pz l)):=ae (by unfold lB;rw[bC ⟨hbig,hr⟩]);have HR:=ae hr;clear hr;have S:=S.o;have hw1:IntKind.i64.wrap ((l.length:Int)*16)=((l.length*16:Nat):Int):=by rw[mT _ au];omega
  have HP:=ae hp;clear hp;go_enter func275,ntmps275
  go_upto_region 5 with(first|(go_at_call 244;refine je S (C0.o _ (R.o.below S.b)) λW S=>?_)|((with_reducible refine qm 20 22 ?_);refine Dp S (n:=l.length*16) mG rfl rfl au BM rfl rfl λg W S=>?_))
  have S:=ae S
  go_loopw [4,23] (λv i wr=>∃k:Nat,k<=l.length/\i=.int .i64 k/\Hid (St w none [] [] [⟨5,1,v,k*16,(pz (l.take k)).map λ(x:Nat)=>Value.int .u8 (x:Int)⟩] (λ_ _=>True) wr)) (λ_ i _=>l.length - (intOf i).toNat)
  case atStart=>exact⟨0,au,rfl,S⟩
  case round=>
   clear S;obtain⟨k,hk,rfl,hS⟩:=hrel;by_cases hlt:k<l.length
   . obtain⟨b,o,rfl⟩:=hao.o au;have S:=hS.o;clear hS;obtain⟨q,hq⟩:=cM (l[k]);obtain⟨A,hA⟩:=gq (ah 3 (aN q));have hsub:=ae (fF l hlt (A:=A) (by rw[hq];exact hA));have HA:=ae hA;have C1:=ae (FQ q (hq ▸ HP.o _ (tW hlt)) (by rw[<-hq];exact No HR.o hlt) A hA);have hsn:=Qk l hlt;rw[hq] at hsn;have HSN:=ae hsn;clear hA hq hsn;generalize pz (l.take k)=M at S HSN;have hbl:=ep q
     go_wp2_with (first
   |((with_reducible refine pP ?_);refine Md (R.o.below S.b) hlt (DW HA) hsub.o ?_)
   |(go_at_call 233;refine(C1.o _).mono ?_;rintro e W ⟨r,rfl,ho,hb⟩;replace S:=S.cU hb ho rfl rfl)
   |((with_reducible refine bN 36 34 35 ?_);refine zL S 1 rfl (by':=1) rfl rfl S.q0 mG (vV _) JW BM ?_;clear S;intro v' W S)
   |refine fN ?_
   |refine ew λW S=>?_)
     go_roundw
     case rel=>exact⟨k+1,au,by go_num,by rw[HSN.o,pt,succ_mul];exact ae S.pop.P9⟩
     case measure=>exact uO
   . obtain rfl:k=l.length:=au;have S:=hS.o;rw[wh] at S;clear hS;go_wp2;go_ret2;refine⟨_,by rw[hn.o];rfl,?_,S.b⟩;rw[hn.o];have h:=S.o0;unfold gI;rw[show((some (pz l)).getD [])=pz l from rfl,Ch];exact h
def nQ:Nat->aK->Option (List aq)
 | 0,_=>some []
 | k+1,bs=>match nQ k bs with
  | none=>none
  | some ps=>match ks ((bs.drop (16*k)).take 16) with
   | none=>none
   | some q=>some (ps++[q])
def gw (bs:aK):Option (List aq):=
 if bs.length % 16=0/\bs.length<=64000 then
  match nQ (bs.length / 16) bs with
  | none=>none
  | some l=>if kY l=true then some l else none
 else none
theorem Np (h:nQ k bs=none)(hm:k<=m):nQ m bs=none:=by
 induction m with
 | zero=>grind
 | succ m ih=>
  grind[nQ]
theorem Ql {k:Nat} {bs:aK} {l:List aq} (h:nQ k bs=some l):l.length=k:=by
 induction k generalizing l<;>grind[nQ]
theorem Qm (l:aK)(k:Nat): (aW l).take k=aW (l.take k):=by simp_all[aW]
theorem KW (bs:aK)(v:bh)(w:aD)(hs:bs.length<=1000000000)(hu:br .u8 w v (aW bs))(hc:qN v):
 Calls prog 242 #[v] w λe w'=>∃r,e=.returned (.tuple #[r,.int .i64 (codeF 131 (gw bs))])/\dh w' w.heap.size r ((gw bs).getD [])/\dp w w':=by
 have HU:=ae hu;obtain⟨ao,cap,rfl,-,-,-⟩:=hu;obtain⟨_,_,_,he,hcap⟩:=hc;simp only[mA] at he;obtain⟨rfl,rfl,rfl⟩:=he;rw[aI] at HU hcap ⊢;have S:=ug w;by_cases hm:bs.length % 16=0
 case neg=>
  have hn:Hid (gw bs=none):=ae (by unfold gw;rw[bX (λh=>hm h.1)]);have g: (((bs.length:Nat):Int) % 16 != 0)=true:=by rw[lh];omega
  go_enter func242,ntmps242;go_wp2;go_ret2;exact⟨_,by rw[hn.o];rfl,by rw[hn.o];exact ju _ _ _ _,S.b⟩
 have g: (((bs.length:Nat):Int) % 16 != 0)=false:=by rw[DY];omega
 by_cases hb:bs.length<=64000
 case neg=>
  have hn:Hid (gw bs=none):=ae (by unfold gw;rw[bX (λh=>hb h.2)]);go_enter func242,ntmps242;go_wp2;go_ret2;exact⟨_,by rw[hn.o];rfl,by rw[hn.o];exact ju _ _ _ _,S.b⟩
 obtain⟨n,hn⟩: ∃n,bs.length=16*n:=⟨bs.length / 16,au⟩;have hdr:Hid (gw bs=match nQ n bs with | none=>none | some l=>if kY l=true then some l else none):=ae (by unfold gw;rw[bC ⟨hm,hb⟩,show bs.length / 16=n by omega]);have hq:IntKind.i64.wrap (((bs.length:Nat):Int) / 16)=(n:Int):=by rw[mT _ au];omega
 rw[hn] at HU hcap;have hq2: (((bs.length:Nat):Int) / 16)=(n:Int):=au;go_enter func242,ntmps242
 go_upto_region 4 with((with_reducible refine qm 19 107 ?_);refine Dp S (n:=n) cN rfl rfl au BM rfl rfl λg W S=>?_)
 have S:=ae S
 go_loopw [0,4] (λu v wr=>∃(k m:Nat) (a:Option Addr) (c:Nat) (ps:List aq),m+16*k=16*n/\u=.slice a m c/\m<=c/\ps.length=k/\Hid (nQ k bs=some ps/\br .u8 w u (aW (bs.drop (16*k)))/\St w none [] [] [⟨106,3,v,ps.length,eo ps⟩] (λ_ _=>True) wr)) (λu _ _=>match u with | .slice _ m _=>m | _=>0)
 case atStart=>exact⟨0,16*n,ao,cap,[],au,rfl,hcap,rfl,rfl,HU.o,S.o⟩
 case round=>
  clear S;obtain⟨k,m,a,c,ps,hk,rfl,hmc,hps,hS⟩:=hrel;by_cases hlt:k<n
  . obtain⟨m1,rfl⟩: ∃m1,m=m1+16:=⟨m - 16,au⟩;obtain⟨c1,rfl⟩: ∃c1,c=c1+16:=⟨c - 16,au⟩;obtain⟨hpp,hI,S⟩:=hS.o;clear hS;have hI1:=Pp (y:=16) hI au;rw[Qm] at hI1;have hI2:=uV (y:=16) hI au hmc;rw[uW,drop_drop,Nat.add_sub_cancel,Nat.add_sub_cancel,show 16*k+16=16* (k+1) by omega] at hI2;obtain⟨b,o,rfl,-,-⟩: ∃b o,a=s_ b o/\True/\True:=by
     obtain⟨a',c',e1,_,_,e4⟩:=hI;simp only[mA] at e1;obtain⟨rfl,-,-⟩:=e1;have hne:aW (bs.drop (16*k))≠ []:=λh=>by
      have:=iS length h;rw[aI,Ek] at this;simp at this;omega
     obtain⟨b,o,h1,_⟩:=e4 hne;exact⟨b,o,h1,kO,kO⟩
    have HI1:=ae hI1;have hI3:br .u8 w (.slice (if c1=0 then some ⟨b,o,none⟩ else some ⟨b,o+16,none⟩) m1 c1) (aW (bs.drop (16* (k+1)))):=by
     rw[Kt] at hI2
     grind
    have HI2:=ae hI3;have HPP:=ae hpp;clear hI hI1 hI2 hI3 hpp;obtain⟨x,hx⟩:=cM ((bs.drop (16*k)).take 16);rw[hx] at HI1;have C1:=ae λu w hu hc=>qg u x w hu hc;have hst:nQ (k+1) bs=match ks x with | none=>none | some q=>some (ps++[q]):=by
     show(match nQ k bs with | none=>none | some ps=>match ks ((bs.drop (16*k)).take 16) with | none=>none | some q=>some (ps++[q]))=_;rw[HPP.o,hx]
    have HST:=ae hst;clear hst hx;cases hr:ks x with
    | none=>
     obtain⟨T,hT⟩:=gq (ah 3 (aN hole));rw[hr,show(none:Option aq).getD hole=hole from rfl,az hT] at C1;rw[hr] at HST;have HT:=ae hT;clear hT hr;have hnn:Hid (gw bs=none):=ae (by rw[hdr.o,Np (k:=k+1) HST.o au])
     go_wp2_with (first
   |(go_at_call 195;refine je S (C1.o _ _ (HI1.o.below S.b) ⟨_,_,_,rfl,au⟩) λW S=>?_)
   |refine ew λW S=>?_)
     go_ret2;exact⟨_,by rw[hnn.o];rfl,by rw[hnn.o];exact ju _ _ _ _,S.b⟩
    | some q=>
     obtain⟨T,hT⟩:=gq (ah 3 (aN q));rw[hr,show(some q).getD hole=q from rfl,az hT] at C1;rw[hr] at HST;have HT:=ae hT;clear hT hr
     go_wp2_with (first
   |(go_at_call 195;refine je S (C1.o _ _ (HI1.o.below S.b) ⟨_,_,_,rfl,au⟩) λW S=>?_)
   |((with_reducible refine bN 36 33 35 ?_);refine lZ S 0 rfl 0 rfl rfl rfl rfl cN (aE _) JW BM λg cap W S=>?_)
   |refine fN ?_
   |refine ew λW S=>?_)
     go_roundw
     case rel=>exact⟨k+1,m1,_,c1,ps++[q],au,rfl,au,by simp[hps],by rw[kh,dU,kG];exact ae ⟨HST.o,HI2.o,by rw[<-hps];exact S.pop.pop⟩⟩
     case measure=>simp
  . obtain rfl:k=n:=au;obtain rfl:m=0:=au;obtain⟨hpp,hI,S⟩:=hS.o;clear hS hI;rw[hpp] at hdr;obtain⟨b,hb2⟩:=cM (kY ps);have C2:=ae λv w R=>tI ps v w au R;rw[hb2] at C2;simp only[hb2] at hdr;clear hb2 hpp;cases b with
    | true=>
     go_wp2_with (go_at_call 244;refine je S (C2.o _ _ (dh.sl S.o0)) λW S=>?_)
     go_ret2;have hd:gw bs=some ps:=hdr.o;exact⟨_,by rw[hd];rfl,by rw[hd];exact S.o0,S.b⟩
    | false=>
     go_wp2_with (go_at_call 244;refine je S (C2.o _ _ (dh.sl S.o0)) λW S=>?_)
     go_ret2;have hd:gw bs=none:=hdr.o;exact⟨_,by rw[hd];rfl,by rw[hd];exact ju _ _ _ _,S.b⟩
section
variable {P:pw}
variable {L:List R4}{O:List O4}
theorem Z3 (S:St w0 d l L O X w){A:iw}(hx:a.eval (.tmp x)=.agg A)(hA:A=ah n f)(ht:qj P t e n by')(hn:n<=16777216)(ho:df e=false)(h: ∀W,St w0 d l (⟨w.heap.size,e,n,f⟩::L) O X W->K (a.put (some dst) (.slice (some ⟨w.heap.size,0,none⟩) 1 1)) W):Oper.wp P ⟨some dst,.buildSlice t 1 #[(0,.tmp x)],t2,p,af,none⟩ a w K Q:=by
 obtain⟨hu,zv,hi,hz,h0⟩:=ht;exact xW t e (.tmp x) rfl A n by' zv hx hu hi h0 hn (ha_ hA) (h _ (S.alloc e hA ho))
theorem Zl (S:St w0 d l L O X w)(k:Nat){r:R4}(hk:L[k]? =some r)(j:Nat){o:O4}(hj:O[j]? =some o)(hs:a.eval (.tmp x)=o.v)(hx:a.eval (.tmp y)=.slice (some ⟨r.b,0,none⟩) 1 1)(hr:r.n=o.z)(ht:qj P t o.e o.z by')(h1: ∀i,(r.f i).oneCell'=true)(hn: (o.n+1)*by'<=140737488355328)(hm:o.n+1<=maxLen)(h: ∀g cap W,St w0 d l L (O.set j ⟨o.e,o.z,.slice (some ⟨g,0,none⟩) (o.n+1) cap,o.n+1,o.xs++(ah r.n r.f).toList⟩) X W->K (a.put (some dst) (.slice (some ⟨g,0,none⟩) (o.n+1) cap)) W):
 Oper.wp P ⟨some dst,.call {callee:=.builtin .append,args:=#[.tmp x,.tmp y],argTypes:=#[t,t]},t2,p,af,none⟩ a w K Q:=by
 obtain⟨hu,zv,hi,hz,h0⟩:=ht;refine wM (.tmp x) (.tmp y) t rfl w0.heap.size o.e zv o.z by' hu hi hz h0 o.v o.n o.xs hs (S.bR hj) r.b (ah r.n r.f) r.t (0,0) hx (S.ee hk) (by rw[aj,hr])
  (λu hu=>?_) hm hn S.fr.size λg cap w' hown hg hat _=>h g cap w' ?_
 . grind[iv,Array.all_eq_true_iff_forall_mem]
 . exact S.grow hj hg hown rfl hat
end
theorem ar.Zm {b o:Nat}{x:List bh}(h:ar w e z (.slice (some ⟨b,o,none⟩) (n+1) (c+1)) (n+1) (x++xs))(hx:x.length=z):ar w e z (.slice (if c=0 then some ⟨b,o,none⟩ else some ⟨b,o+z,none⟩) n c) n xs:=by
 obtain⟨h1,ao,cap,h2,h3,h4,h5⟩:=h;simp only[mA] at h2;obtain⟨rfl,-,rfl⟩:=h2;refine⟨by grind,_,_,rfl,au,by omega,λhn=>?_⟩;obtain⟨b',o',cs,fl,e1,hh,hc⟩:=h5 au;cases e1;rw[bX au];refine⟨b,o+z,cs,fl,rfl,hh,λj u hj=>?_⟩
 simp_all[Vb,Sw]
theorem ru (p:aq)(l:List aq):eo (p::l)=Z0 p++eo l:=by rfl
def gl:List aq->List aq->Option (List aq)
 | [],b=>some b
 | p::a,[]=>some (p::a)
 | p::a,q::b=>
  if mQ p q=true then(gl a (q::b)).map (p::·) else
  if mQ q p=true then(gl (p::a) b).map (q::·) else none
termination_by a b=>a.length+b.length
theorem KX (p q:aq)(A B:iw)(hA:A=ah 3 (aN p))(hB:B=ah 3 (aN q))(w:aD):yr 178 #[.agg A,.agg B] w (.bool (mQ p q)):=by
 rw[<-az hA,<-az hB];exact JD p q w
theorem It (l m:List aq)(v u:bh)(w:aD)(hl:l.length<=100000000)(hm:m.length<=100000000)(R1:fM w v l)(R2:fM w u m):
 Calls prog 134 #[v,u] w λe w'=>∃r,e=.returned (.tuple #[r,.int .i64 (codeF 131 (gl l m))])/\dh w' w.heap.size r ((gl l m).getD [])/\dp w w':=by
 obtain⟨ao,cap,rfl,hcap,-⟩:=aR R1;obtain⟨bo,bap,rfl,hbap,-⟩:=aR R2;have S:=ug w;have hw1:IntKind.i64.wrap ((l.length:Int)+ (m.length:Int))=((l.length+m.length:Nat):Int):=by rw[mT _ au];omega
 obtain⟨N,hN⟩:=gq (l.length+m.length);have hNl:N<=200000000:=au;rw[<-hN] at hw1;have HN:=ae hN;clear hN;go_enter func134,ntmps134
 go_upto_region 2 with((with_reducible refine qm 12 107 ?_);refine Dp S (n:=N) cN rfl (by rw[HN.o,Int.natCast_add];rfl) au BM rfl rfl λg W S=>?_)
 have S:=ae S;have R1:=ae R1;have R2:=ae R2;clear hw1
 go_loopw [0,1,6] (λx y z wr=>∃(a b M:List aq) (ao bo:Option Addr) (ca cb:Nat),M.length+a.length+b.length=N/\x=.slice ao a.length ca/\y=.slice bo b.length cb/\a.length<=ca/\b.length<=cb/\Hid (gl l m=(gl a b).map (M++ ·)/\fM w x a/\fM w y b/\St w none [] [] [⟨106,3,z,M.length,eo M⟩] (λ_ _=>True) wr)) (λx y _ _=>(match x with | .slice _ m _=>m | _=>0)+ (match y with | .slice _ m _=>m | _=>0))
 case atStart=>exact⟨l,m,[],ao,bo,cap,bap,by rw[HN.o];simp,rfl,rfl,hcap,hbap,by simp,R1.o,R2.o,S.o⟩
 case round=>
  clear S;obtain⟨a,b,M,ao,bo,ca,cb,hsum,rfl,rfl,hca,hcb,hS⟩:=hrel;cases a with
  | nil=>
   obtain⟨hmm,ha,hb,S⟩:=hS.o;clear hS;have HM:Hid (gl l m=some (M++b)):=ae (by rw[hmm];simp[gl]);have HA:=ae ha;have HB:=ae hb;simp only[we] at hca hsum;clear hmm ha hb
   go_wp2_with (first|((with_reducible refine bN 55 53 54 ?_);refine zL S 0 rfl (by':=24) (n:=0) (xs:=[]) rfl rfl (HA.o.below S.b) cN fh JW BM λv1 W S=>?_)|((with_reducible refine bN 58 56 57 ?_);refine zL S 0 rfl (by':=24) rfl rfl (HB.o.below S.b) cN (jY _) JW BM λv2 W S=>?_))
   go_ret2;refine⟨_,by rw[HM.o];rfl,?_,S.b⟩;rw[HM.o];have h:=S.o0;show World.ownsRow _ _ _ _ _ (M++b).length (eo (M++b));rw[kh,dU];simpa using h
  | cons p a=>
   cases b with
   | nil=>
    obtain⟨hmm,ha,hb,S⟩:=hS.o;clear hS;have HM:Hid (gl l m=some (M++(p::a))):=ae (by rw[hmm];simp[gl]);have HA:=ae ha;have HB:=ae hb;simp only[we,o8] at hca hcb hsum HA ⊢;clear hmm ha hb;have hbd:M.length+ (a.length+1)<=200000000:=au
    go_wp2_with (first
   |((with_reducible refine bN 55 53 54 ?_);refine zL S 0 rfl (by':=24) rfl rfl (HA.o.below S.b) cN (jY _) (by simp only[o8];omega) (by unfold maxLen;simp only[o8];omega) λv1 W S=>?_)
   |((with_reducible refine bN 58 56 57 ?_);refine zL S 0 rfl (by':=24) (n:=0) (xs:=[]) rfl rfl (HB.o.below S.b) cN fh (by simp only[o8];omega) (by unfold maxLen;simp only[o8];omega) λv2 W S=>?_))
    go_ret2;refine⟨_,by rw[HM.o];rfl,?_,S.b⟩;rw[HM.o];have h:=S.o0;show World.ownsRow _ _ _ _ _ (M++(p::a)).length (eo (M++(p::a)));rw[kh,dU];simpa using h
   | cons q b=>
    obtain⟨hmm,ha,hb,S⟩:=hS.o;clear hS;obtain⟨ca,rfl⟩: ∃c,ca=c+1:=⟨ca - 1,by simp at hca;omega⟩;obtain⟨cb,rfl⟩: ∃c,cb=c+1:=⟨cb - 1,by simp at hcb;omega⟩;obtain⟨b1,o1,rfl⟩: ∃b o,ao=s_ b o:=by
     obtain⟨_,_,e1,_,h⟩:=aR ha
     grind
    obtain⟨b2,o2,rfl⟩: ∃b o,bo=s_ b o:=by
     obtain⟨_,_,e1,_,h⟩:=aR hb
     grind
    have ha2:fM w (.slice (if ca=0 then some ⟨b1,o1,none⟩ else some ⟨b1,o1+3,none⟩) a.length ca) a:=by
     have h:=ha;unfold fM at h;rw[ru] at h;exact ar.Zm h (rT p)
    have hb2:fM w (.slice (if cb=0 then some ⟨b2,o2,none⟩ else some ⟨b2,o2+3,none⟩) b.length cb) b:=by
     have h:=hb;unfold fM at h;rw[ru] at h;exact ar.Zm h (rT q)
    obtain⟨A,hA⟩:=gq (ah 3 (aN p));obtain⟨B,hB⟩:=gq (ah 3 (aN q));have sA:=ae (fF (p::a) (i:=0) fh hA);have sB:=ae (fF (q::b) (i:=0) fh hB);have HA:=ae hA;have HB:=ae hB;have C1:=ae (KX p q A B hA hB);have C2:=ae (KX q p B A hB hA);have RA:Hid (ar w 106 3 (.slice (s_ b1 o1) (a.length+1) (ca+1)) (a.length+1) (eo (p::a))):=ae ha;have RB:Hid (ar w 106 3 (.slice (s_ b2 o2) (b.length+1) (cb+1)) (b.length+1) (eo (q::b))):=ae hb;have RA2:=ae ha2;have RB2:=ae hb2;have hst:gl (p::a) (q::b)=if mQ p q=true then(gl a (q::b)).map (p::·) else if mQ q p=true then(gl (p::a) b).map (q::·) else none:=by rw[gl]
    rw[hst] at hmm;have HMM:=ae hmm;simp only[o8] at hca hcb hsum ⊢;clear ha hb ha2 hb2 hA hB hst hmm;obtain⟨na,hna⟩:=cM a.length;obtain⟨nb,hnb⟩:=cM b.length;rw[hna] at hca hsum RA RA2 ⊢;rw[hnb] at hcb hsum RB RB2 ⊢
    go_upto_region 4 with(fail)
    refine bL S cm λW S=>?_;refine bp 0 22 _ ?_;refine bp 1 23 (bZ b1 o1) ?_;refine gY 2 24 (.agg A) rfl (UO (o:=o1) (j:=0) (λw h=>by obtain⟨_,S⟩:=h;exact RA.o.below S.b) (succ_pos _) (by rw[EY,CI];rfl) (DW HA) sA.o bd) ?_;refine bp 3 25 _ ?_;refine bp 4 26 (bZ b2 o2) ?_;refine gY 5 27 (.agg B) rfl (UO (o:=o2) (j:=0) (λw h=>by obtain⟨_,S⟩:=h;exact RB.o.below S.b) (succ_pos _) (by rw[EY,CI];rfl) (DW HB) sB.o bd) ?_;refine mO 6 λK hK=>?_
    go_wp2_with fail
    refine je S (C1.o _) λW S=>?_;refine gM hK ?_;clear hK K;refine bp 7 21 _ ?_;refine uy ?_;cases h1:mQ p q with
    | true=>
     rw[h1] at HMM;have HM2:Hid (gl l m=(gl a (q::b)).map ((M++[p])++ ·)):=ae (by rw[HMM.o,bC rfl];cases gl a (q::b) <;> simp)
     go_upto_region 5 with(fail)
     refine ve S cm λW S=>?_;refine bp 0 29 _ ?_;refine bp 1 30 _ ?_;refine bp 2 31 (bZ b1 o1) ?_;refine gY 3 32 (.agg A) rfl (UO (o:=o1) (j:=0) (λw h=>by obtain⟨_,_,_,S⟩:=h;exact RA.o.below S.b) (succ_pos _) (by rw[EY,CI];rfl) (DW HA) sA.o bd) ?_;refine bp 6 35 _ ?_;refine gY 7 36 (.slice (if ca=0 then some ⟨b1,o1,none⟩ else some ⟨b1,o1+3,none⟩) na ca) rfl (Or.inl ⟨cm,λw hw=>by have h0: ¬((na:Int)+1<1):=au;go_simp⟩) ?_;refine mO 4 λK hK=>?_;refine Z3 S rfl HA.o cN au rfl λW S=>?_;refine gM hK ?_;clear hK K;refine mO 5 λK hK=>?_;refine Zl S 0 rfl 0 rfl rfl rfl rfl cN (aE _) JW BM λg cap W S=>?_;refine gM hK ?_;clear hK K;refine bp 8 6 _ ?_;refine bp 9 0 _ ?_;refine uy ?_;go_wp2;go_roundw
     case rel=>exact⟨a,q::b,M++[p],_,_,ca,cb+1,by simp;omega,by rw[hna],by rw[o8,hnb],au,by rw[o8];omega,ae ⟨HM2.o,RA2.o,(by unfold fM;rw[o8,hnb];exact RB.o),by rw[kh,dU,kG];exact S.pop⟩⟩
     case measure=>simp
    | false=>
     rw[h1,bX XZ] at HMM
     go_upto_region 6 with(fail)
     refine bL S cm λW S=>?_;refine bp 0 38 _ ?_;refine bp 1 39 (bZ b2 o2) ?_;refine gY 2 40 (.agg B) rfl (UO (o:=o2) (j:=0) (λw h=>by obtain⟨_,S⟩:=h;exact RB.o.below S.b) (succ_pos _) (by rw[EY,CI];rfl) (DW HB) sB.o bd) ?_;refine bp 3 41 _ ?_;refine bp 4 42 (bZ b1 o1) ?_;refine gY 5 43 (.agg A) rfl (UO (o:=o1) (j:=0) (λw h=>by obtain⟨_,S⟩:=h;exact RA.o.below S.b) (succ_pos _) (by rw[EY,CI];rfl) (DW HA) sA.o bd) ?_;refine mO 6 λK hK=>?_
     go_wp2_with fail
     refine je S (C2.o _) λW S=>?_;refine gM hK ?_;clear hK K;refine bp 7 37 _ ?_;refine uy ?_;cases h2:mQ q p with
     | true=>
      rw[h2] at HMM;have HM2:Hid (gl l m=(gl (p::a) b).map ((M++[q])++ ·)):=ae (by rw[HMM.o,bC rfl];cases gl (p::a) b <;> simp)
      go_upto_region 7 with(fail)
      refine ve S cm λW S=>?_;refine bp 0 45 _ ?_;refine bp 1 46 _ ?_;refine bp 2 47 (bZ b2 o2) ?_;refine gY 3 48 (.agg B) rfl (UO (o:=o2) (j:=0) (λw h=>by obtain⟨_,_,_,S⟩:=h;exact RB.o.below S.b) (succ_pos _) (by rw[EY,CI];rfl) (DW HB) sB.o bd) ?_;refine bp 6 51 _ ?_;refine gY 7 52 (.slice (if cb=0 then some ⟨b2,o2,none⟩ else some ⟨b2,o2+3,none⟩) nb cb) rfl (Or.inl ⟨cm,λw hw=>by have h0: ¬((nb:Int)+1<1):=au;go_simp⟩) ?_;refine mO 4 λK hK=>?_;refine Z3 S rfl HB.o cN au rfl λW S=>?_;refine gM hK ?_;clear hK K;refine mO 5 λK hK=>?_;refine Zl S 0 rfl 0 rfl rfl rfl rfl cN (aE _) JW BM λg cap W S=>?_;refine gM hK ?_;clear hK K;refine bp 8 6 _ ?_;refine bp 9 1 _ ?_;refine uy ?_;go_wp2;go_roundw
      case rel=>exact⟨p::a,b,M++[q],_,_,ca+1,cb,by simp;omega,by rw[o8,hna],by rw[hnb],by rw[o8];omega,au,ae ⟨HM2.o,(by unfold fM;rw[o8,hna];exact RA.o),RB2.o,by rw[kh,dU,kG];exact S.pop⟩⟩
      case measure=>simp
     | false=>
      rw[h2,bX XZ] at HMM;have HM:Hid (gl l m=none):=ae (by rw[HMM.o];rfl);go_wp2;go_ret2;exact⟨_,by rw[HM.o];rfl,by rw[HM.o];exact ju _ _ _ _,S.b⟩
end Go.Proofs.YtklligbjoplbgaaGreat
