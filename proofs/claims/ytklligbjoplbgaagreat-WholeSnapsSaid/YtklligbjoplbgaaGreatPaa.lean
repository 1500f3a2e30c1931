/- Part 1 of the proof of WholeSnaps. No conditions. -/
import Derived.KernelRfl
import Derived.Lib.Hide
import Derived.Test.YtklligbjoplbgaaGreatProg
set_option linter.all false
namespace Go.Proofs.YtklligbjoplbgaaGreat
set_option maxRecDepth 100000
set_option maxHeartbeats 64000000
open Go.RowKit Lib List Nat _root_.Go.Proofs.Tryz
abbrev cZ:=@if_neg
abbrev df:=@if_pos
abbrev eN:=@Nat.le_refl
abbrev gD:=@congrArg
abbrev iE:=@Nat.le_trans
abbrev iZ:=@mem_cons
abbrev ji:=@length_append
abbrev jG:=@decide_eq_false
abbrev fJ:=@bne_iff_ne
abbrev fM:=@mem_singleton
abbrev gw:=@zero_le
abbrev gH:=@mem_append
abbrev gI:=@mem_map
abbrev gM:=@decide_eq_true
abbrev iG:=@trivial
abbrev jE:=@getElem?_eq_getElem
abbrev jK:=@not_mem_nil
abbrev kA:=@mem_of_getElem?
abbrev lr:=@length_cons
abbrev lu:=@mem_cons_of_mem
abbrev lx:=@Option.getD_some
abbrev lP:=@length_take
abbrev lQ:=@mem_of_mem_take
abbrev lR:=@beq_eq_false_iff_ne
abbrev l6:=@of_decide_eq_true
abbrev mq:=@if_false
abbrev mP:=@getElem_mem
abbrev mQ:=@length_map
abbrev mR:=@Array.getElem?_toList
abbrev mS:=@mem_of_mem_drop
abbrev mT:=@Array.length_toList
abbrev nB:=@List.getElem?_eq_some_iff
abbrev nC:=@mem_cons_self
abbrev nL:=@map_append
abbrev nU:=@take_of_length_le
abbrev oQ:=@Nat.zero_add
abbrev oR:=@if_true
abbrev pM:=@Nat.lt_of_lt_of_le
abbrev pN:=@nil_append
abbrev pU:=@Ne.symm
abbrev qq:=@take_length
abbrev qS:=@decide_eq_true_eq
abbrev rz:=@all_eq_true
abbrev rN:=@Array.getElem?_eq_some_iff
abbrev rO:=@getElem?_map
abbrev sM:=@Nat.mul_one
abbrev tX:=@length_nil
abbrev tY:=@length_drop
abbrev tZ:=@Int.toNat_natCast
abbrev ud:=@Nat.lt_irrefl
abbrev uG:=@cons_append
abbrev uH:=@or_false
abbrev vx:=@Array.toArray_toList
abbrev vy:=@mem_or_eq_of_mem_set
abbrev wM:=@Bool.eq_iff_iff
abbrev wN:=@Bool.and_eq_true
abbrev wO:=@map_map
abbrev wP:=@append_assoc
abbrev wQ:=@not_lt_zero
abbrev wR:=@append_nil
abbrev wT:=@Option.some.inj
abbrev xI:=@Prod.ext
abbrev xJ:=@Nat.add_zero
abbrev xK:=@ext_getElem?
abbrev xL:=@beq_iff_eq
abbrev xM:=@length_set
abbrev yo:=@mem_range
abbrev yp:=@Array.ext_getElem?
abbrev yq:=@map_cons
abbrev yr:=@eq_nil_of_length_eq_zero
abbrev yu:=@le_add_right
abbrev zE:=@getD_eq_getElem?_getD
abbrev zF:=@getElem_of_mem
abbrev zG:=@foldl_cons
abbrev zH:=@Nat.zero_lt_one
abbrev AE:=@mem_filter
abbrev AG:=@size_toArray
abbrev AH:=@Array.replicate_succ
abbrev vE:=@Array.replicate_zero
abbrev vF:=@push_toArray
abbrev vG:=@append_toArray
abbrev vH:=@Nat.min_eq_left
abbrev vI:=@bne_eq_false_iff_eq
abbrev vJ:=@mem_iff_getElem
abbrev vK:=@eq_zero_or_pos
abbrev xw:=@Option.bind_some
abbrev xx:=@Nat.zero_mul
abbrev xy:=@not_true_eq_false
abbrev yv:=@take_succ_eq_append_getElem
abbrev yw:=@of_decide_eq_false
abbrev yx:=@nodup_cons
abbrev yy:=@nodup_append
abbrev yz:=@Option.some.injEq
abbrev Aj:=@take_append_drop
abbrev Ak:=@Option.map_eq_some_iff
abbrev BF:=@flatMap_cons
abbrev BG:=@Classical.em
abbrev BH:=@length_pos_iff
abbrev BI:=@getElem?_set
abbrev BJ:=@set_cons_zero
abbrev BK:=@mem_of_mem_eraseIdx
abbrev BL:=@Option.elim_some
abbrev BM:=@foldl_append
abbrev Dd:=@pairwise_cons
abbrev De:=@drop_eq_getElem_cons
abbrev Df:=@drop_of_length_le
abbrev Dg:=@length_eq_zero_iff
abbrev Dh:=@mem_flatMap
abbrev Di:=@Nat.lt_succ_iff_lt_or_eq
abbrev Dj:=@mem_append_right
abbrev Dk:=@Classical.byContradiction
abbrev FT:=@Nat.add_assoc
abbrev FV:=@set_cons_succ
abbrev FW:=@length_filter_le
abbrev IV:=@getElem?_append_right
abbrev IW:=@mul_le_mul_right
abbrev IX:=@getElem?_append_left
abbrev IY:=@mem_filterMap
abbrev IZ:=@findIdx?_eq_some_iff_getElem
abbrev I0:=@Prod.mk.injEq
abbrev I1:=@length_eraseIdx_le
abbrev I3:=@mem_append_left
abbrev Ln:=@Option.map_some
abbrev Lo:=@getElem?_toArray
abbrev Lp:=@Bool.false_eq_true
abbrev Lq:=@Bool.eq_false_iff
abbrev Lr:=@getElem?_append
abbrev Lt:=@Bool.true_and
abbrev Lu:=@Option.toList_some
abbrev Lw:=@pairwise_iff_getElem
abbrev Lx:=@ByteArray.size_append
abbrev QS:=@Nat.add_sub_cancel
abbrev QT:=@Nat.pow_le_pow_right
abbrev QU:=@Bool.false_ne_true
abbrev QV:=@decide_eq_false_iff_not
abbrev QW:=@Nat.lt_of_le_of_lt
abbrev c7:=Value
abbrev dU:=TypeId
abbrev fF:=ByteArray
abbrev oN:=Program
abbrev Fi_:=FuncId
abbrev CP_:=Calls prog
abbrev cV:=List Nat
abbrev gE:=Array Value
abbrev cS:=World
theorem kB{P:Prop}(h:P:=by decide):P:=h
theorem nz{P:Prop}(h:P:=by rfl):P:=h
theorem dC{P:Prop}(h:P:=by kernel_rfl):P:=h
theorem cN{P:Prop}(h:P:=by omega):P:=h
theorem eQ{P:Prop}(h:P:=by simp):P:=h
theorem dk_{P:Prop}(h:P:=by decide+kernel):P:=h
theorem rn{P:Prop}(h:P:=by exact l6 rfl):P:=h
theorem jv{P:Prop}(h:P:=by grind):P:=h
def dI{α:Sort _}(v:α):∃x,v=x:=⟨v,rfl⟩
def fP{α:Sort _}(v:α):∃x,x=v:=⟨v,rfl⟩
end Go.Proofs.YtklligbjoplbgaaGreat
namespace Go.RowKit
def Hid.o{p:Prop}(h:Hid p):p:=h
end Go.RowKit
namespace Go.Proofs.YtklligbjoplbgaaGreat
def ae{α:Sort _}{a:α}:a=a:=rfl
section
variable {P:Prop}
def aw(h:P:=by exact .inr ae):P:=h
def ax(h:P:=by exact λD e=>e):P:=h
def az(h:P:=by exact⟨ae,S.b⟩):P:=h
def aD(h:P:=by exact .inl ae):P:=h
def aE(h:P:=by exact⟨ae,ae⟩):P:=h
def aF(h:P:=by simp;omega):P:=h
def aG(h:P:=by grind[cW]):P:=h
def aH(h:P:=by exact show ¬((0:Int)≠0) from λh=>h ae):P:=h
def aI(h:P:=by exact λw h=>h.row 0 ae):P:=h
def aJ(h:P:=by exact⟨_,ae,iD _ _ _ _,S.b⟩):P:=h
def aK(h:P:=by intros;contradiction):P:=h
def aN(h:P:=by unfold maxLen;omega):P:=h
def aO(h:P:=by exact mA<|⟨_,by rw[dk (q:=q) ae];rfl,il.nil _ _,S.x,S.fr⟩):P:=h
def aQ(h:P:=by assumption):P:=h
def aR(h:P:=by exact(gJ _ _).alloc (eN _) _):P:=h
def aS(h:P:=by exact⟨g,s,ae,ae,S.x.at,ae,id,S.fr⟩):P:=h
def aT(h:P:=by exact mA<|⟨_,ae,ae,S.x,S.fr⟩):P:=h
def aV(h:P:=by exact iD _ _ _ _):P:=h
def aW(h:P:=by unfold fh;omega):P:=h
def aX(h:P:=by exact zL _ _ _ _ ae):P:=h
def aY(h:P:=by exact .inl eQ):P:=h
def aZ(h:P:=by exact mA<|⟨_,ae,sI _ _,S.b⟩):P:=h
def bd(h:P:=by simp[gF]):P:=h
def bf(h:P:=by exact⟨_,_,ae,iO,dV,il.nil _ _,dS,S.x,S.fr⟩):P:=h
def bg(h:P:=by simp[Value.oneCell']):P:=h
def bh(h:P:=by intro o ho;cases ho):P:=h
def bj(h:P:=by rw[lP];omega):P:=h
def bp(h:P:=by exact cM.alloc _ _ _ _):P:=h
def br(h:P:=by exact h.le (yu _ _)):P:=h
def bu(h:P:=by exact⟨_,ae,S.o0,S.b⟩):P:=h
def bw(h:P:=by grind[gF]):P:=h
def bA(h:P:=by decide):P:=h
def bB(h:P:=by exact⟨_,ae,⟨c,ae,p.o,S.jJ n.o⟩,S.b⟩):P:=h
def bC(h:P:=by exact⟨_,ae,⟨[],H.o _ _,ae⟩,S.b⟩):P:=h
def bD(h:P:=by exact⟨.refl _,by simp⟩):P:=h
def bE(h:P:=by simp[fS]):P:=h
def bF(h:P:=by have f:=S.q0.cellAt (j:=0) (u:=.int .u64 c) cN ae;exact f):P:=h
def bG(h:P:=by exact⟨_,_,ae,⟨c,ae,l.o,S.jJ k.o⟩,il.nil _ _,S.b⟩):P:=h
def bH(h:P:=by exact⟨g,s,ae,ae,S.x.1.1.at,ae,id,S.fr⟩):P:=h
def bI(h:P:=by show E<We.heap.size;omega):P:=h
def bJ(h:P:=by grind[maxLen]):P:=h
def bK(h:P:=by rw[xx,xJ];rfl):P:=h
def bL(h:P:=by simpa using h):P:=h
def bM(h:P:=by exact(H.cP S.b).c2):P:=h
def bN(h:P:=by exact mA<|⟨_,ae,⟨c,ae,p.o,S.jJ g.o⟩,S.b⟩):P:=h
def bO(h:P:=by intro h;rw[<-Dg,dA] at h;omega):P:=h
def bP(h:P:=by exact⟨_,ae,iD _ _ _ _,fm.nil _,S.b⟩):P:=h
def bQ(h:P:=by exact⟨h.text,h.q6,by grind⟩):P:=h
def bR(h:P:=by exact⟨by rw[f.o];rfl,S.b⟩):P:=h
def amd(h:P:=by simp;exact G.q6):P:=h
def ame(h:P:=by rw[hz2];omega):P:=h
def amf(h:P:=by rw[<-hbo];rfl):P:=h
def amg(h:P:=by exact λw h=>h.row 1 ae):P:=h
def amh(h:P:=by first | rfl):P:=h
def ami(h:P:=by grind[gy]):P:=h
def amj(h:P:=by grind[kh]):P:=h
def amk(h:P:=by simp_all):P:=h
def aml(h:P:=by exact⟨_,ae,⟨λh=>absurd h s.o,λ_=>⟨ae,S.x.1.1.dev⟩⟩,S.fr⟩):P:=h
def amm(h:P:=by exact⟨0,cN,ae,cz ⟨λj y _ h=>by omega,S.o⟩⟩):P:=h
def amn(h:P:=by rw[<-hxs];exact(D.o.cP S.b).c2):P:=h
def amo(h:P:=by exact⟨g,s1,ae,ae,S.x.at,ae,id,S.fr⟩):P:=h
def amp(h:P:=by rw[<-e.2.1];exact f):P:=h
def amq(h:P:=by rw[hq];exact hA):P:=h
def amr(h:P:=by exact .inl (by simp[fS])):P:=h
def ams(h:P:=by grind[cW,oz]):P:=h
def amt(h:P:=by exact λw h=>h.row 2 ae):P:=h
def amu(h:P:=by exact .inl ⟨ae,ae⟩):P:=h
def amv(h:P:=by exact .inr ⟨ae,ae⟩):P:=h
def amw(h:P:=by intro v hv;simp only[iZ,jK,uH] at hv;rcases hv with rfl | rfl | rfl <;> rfl):P:=h
def amx(h:P:=by exact⟨_,ae,⟨λh=>absurd (show(91:Int)=0 from h) kB,λ_=>⟨ae,S.x⟩⟩,S.fr⟩):P:=h
def amy(h:P:=by exact⟨_,_,_,ae,abU _ _,iD _ _ _ _,fm.nil _,il.nil _ _,dS,S.x.1.1,S.fr⟩):P:=h
def amz(h:P:=by obtain⟨d,f,e,_⟩:=C.o;exact⟨d,f,e⟩):P:=h
def amA(h:P:=by exact⟨0,cN,ae,cz ⟨λj _ h=>absurd h (wQ _),S.o⟩⟩):P:=h
def amB(h:P:=by exact⟨by rw[f.o];rfl,by rw[f.o];exact S.x,S.fr⟩):P:=h
def amC(h:P:=by exact⟨_,_,ae,H9.nil _ _,il.nil _ _,dS,S.x,S.fr⟩):P:=h
def amD(h:P:=by exact⟨_,ae,ae,⟨G,g,M,S.x.1.at,ae,b.o⟩,S.fr⟩):P:=h
def amE(h:P:=by show 1<=s1.cR;rw[d4];exact G.VH):P:=h
def amF(h:P:=by exact⟨_,by rw[p.o];rfl,by rw[p.o];rfl,S.b⟩):P:=h
def amG(h:P:=by rw[<-mT (xs:=A),l.o];exact AY):P:=h
def amH(h:P:=by exact⟨_,ae,⟨c,ae,HC.o,S.jJ V.o⟩,S.b⟩):P:=h
def amI(h:P:=by show E<V.heap.size;omega):P:=h
def amJ(h:P:=by rw[HA.o];exact J.o _ S.b):P:=h
def amK(h:P:=by as_aux_lemma=>kernel_rfl):P:=h
def amL(h:P:=by exact⟨_,ae,il.nil _ _,dS,S.x,S.fr⟩):P:=h
def amM(h:P:=by rw[<-mT,l.o];exact zQ):P:=h
def amN(h:P:=by show 0<m.length;omega):P:=h
def amO(h:P:=by rw[getElem_set_self]):P:=h
def amP(h:P:=by rw[xM];exact h.fit.1):P:=h
def amQ(h:P:=by rw[hc];exact htr.fit):P:=h
def amR(h:P:=by exact⟨by rw[e];rfl,hS.o.2.fr.cP⟩):P:=h
def amS(h:P:=by have:=k.o.2.1;omega):P:=h
def amT(h:P:=by have:=k.o.2.2;omega):P:=h
def amU(h:P:=by rw[HA.o];kernel_rfl):P:=h
def amV(h:P:=by exact⟨_,ae,il.nil _ _,S.x,S.fr⟩):P:=h
def amW(h:P:=by simp[maxLen];omega):P:=h
def amX(h:P:=by rw[<-g];exact mP a):P:=h
def amY(h:P:=by rw[hc];exact f.fit):P:=h
def amZ(h:P:=by exact⟨by rw[d.o];rfl,Gs _ _ _⟩):P:=h
def am0(h:P:=by exact⟨.inl (eN _),_,htl,ae,ae⟩):P:=h
def am1(h:P:=by rw[l.o];exact zQ):P:=h
def am2(h:P:=by have:=HC.o;omega):P:=h
def am3(h:P:=by rw[hxx];exact hA):P:=h
def am4(h:P:=by rw[hq];exact hAQ):P:=h
def am5(h:P:=by unfold nJ;grind):P:=h
def am6(h:P:=by have:=l.o;omega):P:=h
def am7(h:P:=by rw[g];exact hA):P:=h
def am8(h:P:=by exact cz ⟨Ai _ _,S.x,S.fr⟩):P:=h
def am9(h:P:=by simpa using c):P:=h
def ana(h:P:=by exact⟨by rw[b.o];rfl,S.b⟩):P:=h
def anb(h:P:=by exact⟨by rw[c.o];rfl,S.b⟩):P:=h
def anc(h:P:=by simp_all[gF]):P:=h
def ane(h:P:=by exact⟨by rw[a.o];rfl,ae⟩):P:=h
def anf(h:P:=by exact⟨_,ae,⟨⟨bn,m,s_ g 0,k⟩,ae,by unfold dW.t;rw[C.o.2.1],My C.o.1 S.o0 S.x C.o.2.2⟩,S.b⟩):P:=h
def ang(h:P:=by exact⟨cM.fr a.1 f (.inl ae) (.inl a.2.1),a.2.1,a.2.2.imp id λg D e=>Mc (g D e) f (h.Wi D e)⟩):P:=h
def anh(h:P:=by exact iH (vO ae _ _ _) ae<|⟨⟨_,ae⟩,.inr ⟨_,by rw[<-l.o];exact take_prefix _ _,hJx3⟩⟩):P:=h
def ani(h:P:=by show Value.slice (s_ x 0) (i+1) u=Value.slice (s_ x 0) (0+i+1) u;rw[oQ]):P:=h
def anj(h:P:=by exact FY (vO ae _ _ _) ae<|⟨⟨_,ae⟩,.inl ⟨_,ae,by rw[nU sp_] at d;exact d⟩⟩):P:=h
def ank(h:P:=by exact⟨_,_,_,_,_,⟨k+1,cN,ae,_,_,ae,cz ⟨_,by simpa using S⟩⟩,ae,ae,ae,ae,ae⟩):P:=h
def anl(h:P:=by exact(((gJ _ _).alloc (eN _) _).alloc (by rw[s1];omega) _).alloc (by rw[s2];omega) _):P:=h
def anm(h:P:=by exact G9 S 2 ae ae ae nT ae<|⟨_,_,ae,⟨c,ae,HC.o,S.jJ L.o⟩,il.nil _ _,S.b⟩):P:=h
def ann(h:P:=by exact show rH w.heap.size y from λr b s=>iE S.fr.size ((sH.of J.2).2 r b s)):P:=h
def ano(h:P:=by exact b _ _ (h _ (S.alloc ty (show(#[v]:Array c7)=cL 1 (λ_=>v) from ae) ho))):P:=h
def anp(h:P:=by exact⟨⟨by grind,by grind,by grind,by grind,λh a=>by grind⟩,ae,ae,ae⟩):P:=h
def anq(h:P:=by exact⟨_,_,_,ae,abU _ _,iD _ _ _ _,fm.nil _,il.nil _ _,dS,S.x.1.1.1,S.fr⟩):P:=h
def anr(h:P:=by exact⟨ae,ae,h.ba,by show _<=Pl.cR _/\Pl.cR _<=_;rw[h.st];omega,by simp⟩):P:=h
def ans(h:P:=by exact⟨_,ae,⟨λh=>absurd h n.o,λ_=>⟨ae,(l.o.2 n.o).2⟩⟩,k.o⟩):P:=h
def ant(h:P:=by intro v hv;simp only[iZ,jK,uH] at hv;rw[hv];rfl):P:=h
def anu(h:P:=by exact oY S 1 ae ae ae fK ae<|⟨by rw[dk (q:=cX) ae];rfl,S.x,S.fr⟩):P:=h
def anv(h:P:=by exact⟨0,replicate n nj,cN,ae,cz ⟨by simp,ae,by simp,S.o⟩⟩):P:=h
def anw(h:P:=by obtain⟨d,f,e,_⟩:=HI.o;exact⟨d,f,e⟩):P:=h
def anx(h:P:=by intro h;rw[<-Dg,dA] at h;have:=f.o;omega):P:=h
def anz(h:P:=by exact show c8 w 106 3 g.hv g.dK.length (iS g.dK) from h.dK):P:=h
def anA(h:P:=by exact⟨_,by rw[d.o];rfl,by rw[d.o];exact iD _ _ _ _,S.b⟩):P:=h
def anB(h:P:=by exact⟨_,by rw[t.o];rfl,by rw[t.o];exact iD _ _ _ _,S.b⟩):P:=h
def anC(h:P:=by exact⟨_,by rw[f.o];rfl,by rw[f.o];exact iD _ _ _ _,S.b⟩):P:=h
def anD(h:P:=by exact⟨_,by rw[f.o];rfl,by rw[f.o];exact aea a S.o0,S.b⟩):P:=h
def anE(h:P:=by exact cM.alloc_old (cM.alloc_old (cM.alloc _ _ _ _) _) _):P:=h
def anF(h:P:=by exact mA<|⟨_,by rw[dk (q:=p3) ae];rfl,S.o0,S.x,S.fr⟩):P:=h
def anG(h:P:=by unfold maxLen;simp only[lr];omega):P:=h
def anH(h:P:=by exact cz ⟨_,⟨ae,ae⟩,Ai _ _,S.x.1.1.1.dev,S.fr⟩):P:=h
def anI(h:P:=by exact below_setRow ((gJ _ _).alloc (eN _) _) (eN _) _):P:=h
def anJ(h:P:=by exact⟨_,_,ae,⟨c,ae,HC.o,S.jJ L.o⟩,sI _ _,S.b⟩):P:=h
def anK(h:P:=by exact⟨_,_,ae,H9.nil _ _,il.nil _ _,dS,S.x.1,S.fr⟩):P:=h
def anL(h:P:=by have:=p.o;have:=H.o;simp;omega):P:=h
def anM(h:P:=by unfold nK;rw[hv];simp only[hi]):P:=h
def anN(h:P:=by rw[<-hpx];exact(V.o.cP S.b).c2):P:=h
def anO(h:P:=by rw[(S.x.2.sl.at E.o).c2,HSP.o]):P:=h
def anP(h:P:=by rw[<-hs];exact(H.o.cP S.b).c2):P:=h
def anQ(h:P:=by obtain⟨_,S⟩:=H;exact S.k1):P:=h
def anR(h:P:=by unfold maxLen;simp only;omega):P:=h
def anS(h:P:=by intro h;rw[h] at c;simp at c):P:=h
def anT(h:P:=by rw[<-s];exact(G.o.cP S.b).c2):P:=h
def anU(h:P:=by exact show T=se y.id q1 iP (g.gt s1) from b.o):P:=h
def anV(h:P:=by show(0:Nat)+20000<=_;omega):P:=h
def anW(h:P:=by show k*128+128<=8192;omega):P:=h
def anX(h:P:=by have:=cM.lt f.o.2.1;omega):P:=h
def anY(h:P:=by have:=u.1;unfold fh;omega):P:=h
end
def ah{f:FuncId}{g:Array Value}{w:World}{α:Type}{v:α->Value}{R:α->World->Prop}{K:Ending->World->Prop}(h:CP_ f g w λe w'=>∃a,e=.returned (v a)/\R a w')(k:∀a W,R a W->K (.returned (v a)) W):CP_ f g w K:=h.mono (by rintro _ _ ⟨a,rfl,h⟩;exact k _ _ h)
def aj{f:FuncId}{g:Array Value}{w:World}{v:Value}{R:World->Prop}{K:Ending->World->Prop}(h:CP_ f g w λe w'=>e=.returned v/\R w')(k:∀W,R W->K (.returned v) W):CP_ f g w K:=h.mono (by rintro _ _ ⟨rfl,h⟩;exact k _ h)
end Go.Proofs.YtklligbjoplbgaaGreat