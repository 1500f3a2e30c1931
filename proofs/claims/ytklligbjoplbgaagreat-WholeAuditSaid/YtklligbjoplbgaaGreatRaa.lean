/- Part 1 of the proof of WholeAudit. No conditions. -/
import Derived.Lib.Hide
import Derived.Test.YtklligbjoplbgaaGreatProg
set_option linter.all false
namespace Go.Proofs.YtklligbjoplbgaaGreat
set_option maxRecDepth 100000
set_option maxHeartbeats 64000000
open Go.RowKit Lib List Nat _root_.Go.Proofs.Tryz
abbrev cX:=@if_neg
abbrev c8:=@if_pos
abbrev eN:=@Nat.le_refl
abbrev gQ:=@congrArg
abbrev ik:=@Nat.le_trans
abbrev iX:=@mem_cons
abbrev jv:=@length_append
abbrev jC:=@decide_eq_false
abbrev fK:=@bne_iff_ne
abbrev fS:=@mem_singleton
abbrev gG:=@zero_le
abbrev gH:=@mem_append
abbrev gI:=@decide_eq_true
abbrev gT:=@mem_map
abbrev iC:=@trivial
abbrev jG:=@getElem?_eq_getElem
abbrev jL:=@not_mem_nil
abbrev kL:=@Option.getD_some
abbrev kT:=@mem_cons_of_mem
abbrev lq:=@length_cons
abbrev lr:=@beq_eq_false_iff_ne
abbrev lu:=@mem_of_getElem?
abbrev lO:=@length_take
abbrev lP:=@mem_of_mem_take
abbrev mj:=@of_decide_eq_true
abbrev mP:=@getElem_mem
abbrev mQ:=@length_map
abbrev mR:=@mem_of_mem_drop
abbrev mS:=@if_false
abbrev nA:=@Array.length_toList
abbrev nB:=@mem_cons_self
abbrev nL:=@Array.getElem?_toList
abbrev nM:=@map_append
abbrev nV:=@take_of_length_le
abbrev oF:=@List.getElem?_eq_some_iff
abbrev oQ:=@if_true
abbrev pK:=@Nat.lt_of_lt_of_le
abbrev pL:=@nil_append
abbrev pM:=@Nat.zero_add
abbrev pU:=@Ne.symm
abbrev qp:=@take_length
abbrev qQ:=@decide_eq_true_eq
abbrev rI:=@Array.getElem?_eq_some_iff
abbrev rJ:=@all_eq_true
abbrev rK:=@getElem?_map
abbrev sL:=@Nat.mul_one
abbrev ue:=@length_nil
abbrev uf:=@length_drop
abbrev ug:=@Nat.lt_irrefl
abbrev uG:=@cons_append
abbrev uH:=@or_false
abbrev uI:=@Int.toNat_natCast
abbrev vz:=@not_lt_zero
abbrev vA:=@Array.toArray_toList
abbrev vB:=@mem_or_eq_of_mem_set
abbrev wR:=@Bool.eq_iff_iff
abbrev wT:=@Bool.and_eq_true
abbrev wU:=@map_map
abbrev wV:=@append_nil
abbrev wW:=@Option.some.inj
abbrev wX:=@beq_iff_eq
abbrev xI:=@Prod.ext
abbrev xJ:=@append_assoc
abbrev xK:=@Nat.add_zero
abbrev xL:=@ext_getElem?
abbrev xM:=@length_set
abbrev xN:=@le_add_right
abbrev yg:=@Array.ext_getElem?
abbrev yh:=@map_cons
abbrev yj:=@eq_nil_of_length_eq_zero
abbrev yk:=@getElem_of_mem
abbrev zA:=@mem_range
abbrev zB:=@getD_eq_getElem?_getD
abbrev zC:=@foldl_cons
abbrev zD:=@Nat.zero_lt_one
abbrev Ax:=@mem_filter
abbrev Ay:=@size_toArray
abbrev Az:=@Array.replicate_succ
abbrev vH:=@Array.replicate_zero
abbrev vI:=@push_toArray
abbrev vJ:=@append_toArray
abbrev vK:=@Nat.min_eq_left
abbrev vL:=@bne_eq_false_iff_eq
abbrev vM:=@eq_zero_or_pos
abbrev xz:=@mem_iff_getElem
abbrev xA:=@Option.bind_some
abbrev yl:=@take_succ_eq_append_getElem
abbrev ym:=@of_decide_eq_false
abbrev yn:=@Nat.zero_mul
abbrev yo:=@nodup_cons
abbrev yp:=@nodup_append
abbrev yq:=@Option.some.injEq
abbrev yr:=@le_succ
abbrev yu:=@not_true_eq_false
abbrev Ac:=@take_append_drop
abbrev Ad:=@Option.map_eq_some_iff
abbrev Ae:=@Classical.byContradiction
abbrev Bu:=@flatMap_cons
abbrev Bv:=@Classical.em
abbrev Bw:=@length_pos_iff
abbrev Bx:=@getElem?_set
abbrev By:=@set_cons_zero
abbrev Bz:=@mem_of_mem_eraseIdx
abbrev BB:=@Option.elim_some
abbrev BC:=@foldl_append
abbrev Da:=@pairwise_cons
abbrev Db:=@drop_eq_getElem_cons
abbrev Dc:=@drop_of_length_le
abbrev Dd:=@length_eq_zero_iff
abbrev De:=@mem_flatMap
abbrev Df:=@Nat.lt_succ_iff_lt_or_eq
abbrev FP:=@Nat.add_assoc
abbrev FQ:=@set_cons_succ
abbrev FR:=@length_filter_le
abbrev FT:=@mem_append_right
abbrev IZ:=@getElem?_append_right
abbrev I0:=@mul_le_mul_right
abbrev I1:=@getElem?_append_left
abbrev I3:=@mem_filterMap
abbrev I4:=@findIdx?_eq_some_iff_getElem
abbrev I5:=@length_eraseIdx_le
abbrev I6:=@pairwise_iff_getElem
abbrev Lw:=@Option.map_some
abbrev Lx:=@getElem?_toArray
abbrev Ly:=@Bool.false_eq_true
abbrev Lz:=@Bool.eq_false_iff
abbrev LA:=@Prod.mk.injEq
abbrev LB:=@getElem?_append
abbrev LC:=@Bool.true_and
abbrev LD:=@Option.toList_some
abbrev LF:=@mem_append_left
abbrev QP:=@Nat.add_sub_cancel
abbrev QQ:=@Nat.pow_le_pow_right
abbrev QR:=@Bool.false_ne_true
abbrev QS:=@decide_eq_false_iff_not
abbrev QT:=@Nat.lt_of_le_of_lt
abbrev QU:=@mem_of_find?_eq_some
abbrev c7:=Value
abbrev dW:=TypeId
abbrev fM:=ByteArray
abbrev oN:=Program
abbrev Fi_:=FuncId
abbrev CP_:=Calls prog
abbrev cV:=List Nat
abbrev gJ:=Array Value
abbrev cS:=World
theorem kM{P:Prop}(h:P:=by decide):P:=h
theorem nF{P:Prop}(h:P:=by rfl):P:=h
theorem dC{P:Prop}(h:P:=by kernel_rfl):P:=h
theorem cN{P:Prop}(h:P:=by omega):P:=h
theorem eQ{P:Prop}(h:P:=by simp):P:=h
theorem dk_{P:Prop}(h:P:=by decide+kernel):P:=h
theorem rh{P:Prop}(h:P:=by exact mj rfl):P:=h
theorem jH{P:Prop}(h:P:=by grind):P:=h
def dG{α:Sort _}(v:α):∃x,v=x:=⟨v,rfl⟩
def fU{α:Sort _}(v:α):∃x,x=v:=⟨v,rfl⟩
end Go.Proofs.YtklligbjoplbgaaGreat
namespace Go.RowKit
def Hid.o{p:Prop}(h:Hid p):p:=h
end Go.RowKit
namespace Go.Proofs.YtklligbjoplbgaaGreat
def ae{α:Sort _}{a:α}:a=a:=rfl
section
variable {P:Prop}
def aw(h:P:=by exact λD e=>e):P:=h
def ax(h:P:=by exact .inr ae):P:=h
def az(h:P:=by exact⟨ae,S.b⟩):P:=h
def aD(h:P:=by exact .inl ae):P:=h
def aE(h:P:=by exact⟨ae,ae⟩):P:=h
def aF(h:P:=by simp;omega):P:=h
def aG(h:P:=by grind[cW]):P:=h
def aH(h:P:=by exact⟨_,ae,iD _ _ _ _,S.b⟩):P:=h
def aI(h:P:=by exact show ¬((0:Int)≠0) from λh=>h ae):P:=h
def aJ(h:P:=by intros;contradiction):P:=h
def aK(h:P:=by unfold maxLen;omega):P:=h
def aN(h:P:=by exact⟨_,by rw[dk (q:=q) rfl];rfl,ir.nil _ _,S.x,S.fr⟩):P:=h
def aO(h:P:=by assumption):P:=h
def aQ(h:P:=by exact(gK _ _).alloc (eN _) _):P:=h
def aR(h:P:=by exact⟨g,s,ae,ae,S.x.at,ae,id,S.fr⟩):P:=h
def aS(h:P:=by exact mu<|⟨_,ae,ae,S.x,S.fr⟩):P:=h
def aT(h:P:=by exact .inr rfl):P:=h
def aV(h:P:=by exact iD _ _ _ _):P:=h
def aW(h:P:=by unfold eT;omega):P:=h
def aX(h:P:=by exact λw h=>h.row 0 rfl):P:=h
def aY(h:P:=by exact zH _ _ _ _ ae):P:=h
def aZ(h:P:=by exact .inl eQ):P:=h
def bd(h:P:=by exact mu<|⟨_,ae,sH _ _,S.b⟩):P:=h
def bf(h:P:=by exact λw h=>h.row 0 ae):P:=h
def bg(h:P:=by simp[gM]):P:=h
def bh(h:P:=by simp[Value.oneCell']):P:=h
def bj(h:P:=by intro o ho;cases ho):P:=h
def bp(h:P:=by rw[lO];omega):P:=h
def br(h:P:=by exact cL.alloc _ _ _ _):P:=h
def bu(h:P:=by exact h.le (xN _ _)):P:=h
def bw(h:P:=by exact⟨_,ae,S.o0,S.b⟩):P:=h
def bA(h:P:=by grind[gM]):P:=h
def bB(h:P:=by decide):P:=h
def bC(h:P:=by exact⟨_,rfl,⟨c,rfl,HC.o,S.jK HF.o⟩,S.b⟩):P:=h
def bD(h:P:=by exact⟨_,_,rfl,iU,dV,ir.nil _ _,dU,S.x,S.fr⟩):P:=h
def bE(h:P:=by exact⟨_,ae,⟨[],H.o _ _,ae⟩,S.b⟩):P:=h
def bF(h:P:=by exact⟨.refl _,by simp⟩):P:=h
def bG(h:P:=by grind[gU]):P:=h
def bH(h:P:=by simp[fV]):P:=h
def bI(h:P:=by exact λ_=>rfl):P:=h
def bJ(h:P:=by have f:=S.q0.cellAt (j:=0) (u:=.int .u64 c) cN ae;exact f):P:=h
def bK(h:P:=by exact⟨_,_,ae,⟨c,ae,l.o,S.jK k.o⟩,ir.nil _ _,S.b⟩):P:=h
def bL(h:P:=by exact show ¬((0:Int)≠0) from λh=>h rfl):P:=h
def bM(h:P:=by exact⟨g,s,ae,ae,S.x.1.1.at,ae,id,S.fr⟩):P:=h
def bN(h:P:=by grind[maxLen]):P:=h
def bO(h:P:=by rw[yn,xK];rfl):P:=h
def bP(h:P:=by simpa using h):P:=h
def bQ(h:P:=by exact(H.cP S.b).c2):P:=h
def bR(h:P:=by exact mu<|⟨_,ae,⟨c,ae,p.o,S.jK g.o⟩,S.b⟩):P:=h
def amc(h:P:=by intro h;rw[<-Dd,dA] at h;omega):P:=h
def amd(h:P:=by exact⟨_,ae,iD _ _ _ _,fj.nil _,S.b⟩):P:=h
def ame(h:P:=by exact⟨h.text,h.qD,by grind⟩):P:=h
def amf(h:P:=by exact⟨by rw[f.o];rfl,S.b⟩):P:=h
def amg(h:P:=by simp;exact G.qD):P:=h
def amh(h:P:=by rw[hz2];omega):P:=h
def ami(h:P:=by rw[<-hbo];rfl):P:=h
def amj(h:P:=by exact λw h=>h.row 1 rfl):P:=h
def amk(h:P:=by first | rfl):P:=h
def aml(h:P:=by grind[kA]):P:=h
def amm(h:P:=by simp_all):P:=h
def amn(h:P:=by exact⟨_,rfl,⟨λh=>absurd h s.o,λ_=>⟨rfl,S.x.1.1.dev⟩⟩,S.fr⟩):P:=h
def amo(h:P:=by exact⟨0,cN,ae,cz ⟨λj y _ h=>by omega,S.o⟩⟩):P:=h
def amp(h:P:=by rw[<-hxs];exact(D.o.cP S.b).c2):P:=h
def amq(h:P:=by exact⟨g,s1,ae,ae,S.x.at,ae,id,S.fr⟩):P:=h
def amr(h:P:=by rw[<-e.2.1];exact f):P:=h
def ams(h:P:=by exact .inl (by simp[fV])):P:=h
def amt(h:P:=by grind[cW,oA]):P:=h
def amu(h:P:=by exact λw h=>h.row 2 rfl):P:=h
def amv(h:P:=by exact .inl ⟨ae,ae⟩):P:=h
def amw(h:P:=by exact .inr ⟨ae,ae⟩):P:=h
def amx(h:P:=by intro v hv;simp only[iX,jL,uH] at hv;rcases hv with rfl | rfl | rfl <;> rfl):P:=h
def amy(h:P:=by exact⟨_,rfl,⟨λh=>absurd (show(91:Int)=0 from h) kM,λ_=>⟨rfl,S.x⟩⟩,S.fr⟩):P:=h
def amz(h:P:=by exact⟨_,_,_,ae,abR _ _,iD _ _ _ _,fj.nil _,ir.nil _ _,dU,S.x.1.1,S.fr⟩):P:=h
def amA(h:P:=by obtain⟨d,f,e,_⟩:=C.o;exact⟨d,f,e⟩):P:=h
def amB(h:P:=by exact⟨0,cN,ae,cz ⟨λj _ h=>absurd h (vz _),S.o⟩⟩):P:=h
def amC(h:P:=by exact⟨by rw[f.o];rfl,by rw[f.o];exact S.x,S.fr⟩):P:=h
def amD(h:P:=by exact⟨_,ae,ae,⟨G,g,M,S.x.1.at,ae,b.o⟩,S.fr⟩):P:=h
def amE(h:P:=by show 1<=s1.cR;rw[d4];exact G.VL):P:=h
def amF(h:P:=by exact⟨_,by rw[p.o];rfl,by rw[p.o];rfl,S.b⟩):P:=h
def amG(h:P:=by rw[<-nA (xs:=A),l.o];exact AK):P:=h
def amH(h:P:=by exact⟨_,ae,⟨c,ae,HC.o,S.jK HF.o⟩,S.b⟩):P:=h
def amI(h:P:=by show E<We.heap.size;omega):P:=h
def amJ(h:P:=by show E<V.heap.size;omega):P:=h
def amK(h:P:=by rw[HA.o];exact J.o _ S.b):P:=h
def amL(h:P:=by show E<U.heap.size;omega):P:=h
def amM(h:P:=by as_aux_lemma=>kernel_rfl):P:=h
def amN(h:P:=by exact⟨_,rfl,ir.nil _ _,dU,S.x,S.fr⟩):P:=h
def amO(h:P:=by rw[<-nA,l.o];exact zM):P:=h
def amP(h:P:=by show 0<m.length;omega):P:=h
def amQ(h:P:=by rw[getElem_set_self]):P:=h
def amR(h:P:=by rw[xM];exact h.fit.1):P:=h
def amS(h:P:=by rw[hc];exact htr.fit):P:=h
def amT(h:P:=by exact⟨by rw[e];rfl,hS.o.2.fr.cP⟩):P:=h
def amU(h:P:=by exact⟨_,rfl,ir.nil _ _,S.x,S.fr⟩):P:=h
def amV(h:P:=by exact same _ ((G.map _).2.1 cN).1 cN):P:=h
def amW(h:P:=by have:=k.o.2.1;omega):P:=h
def amX(h:P:=by have:=k.o.2.2;omega):P:=h
def amY(h:P:=by rw[HA.o];kernel_rfl):P:=h
def amZ(h:P:=by exact⟨by rw[hn.o];rfl,Gq _ _ _⟩):P:=h
def am0(h:P:=by simp[maxLen];omega):P:=h
def am1(h:P:=by rw[<-g];exact mP a):P:=h
def am2(h:P:=by rw[hc];exact f.fit):P:=h
def am3(h:P:=by exact⟨.inl (eN _),_,htl,ae,ae⟩):P:=h
def am4(h:P:=by rw[l.o];exact zM):P:=h
def am5(h:P:=by have:=HC.o;omega):P:=h
def am6(h:P:=by rw[hxx];exact hA):P:=h
def am7(h:P:=by rw[hq];exact hA):P:=h
def am8(h:P:=by unfold nJ;grind):P:=h
def am9(h:P:=by have:=l.o;omega):P:=h
def ana(h:P:=by rw[g];exact hA):P:=h
def anb(h:P:=by exact cz ⟨Ab _ _,S.x,S.fr⟩):P:=h
def anc(h:P:=by exact⟨by rw[b.o];rfl,S.b⟩):P:=h
def ane(h:P:=by exact⟨by rw[c.o];rfl,S.b⟩):P:=h
def anf(h:P:=by simp_all[gM]):P:=h
def ang(h:P:=by exact⟨by rw[a.o];rfl,ae⟩):P:=h
def anh(h:P:=by exact⟨by unfold dY.sv;rw[xM];exact h9,λv hv=>⟨by rcases HDL.o v hv with h | h;exact(S.x.2 v h).1;rw[h];exact Hq _ _ (by rw[HY2.o]) (by rw[HY2.o]) (by rw[HY2.o]),HFR.o v hv⟩⟩):P:=h
def ani(h:P:=by exact⟨_,ae,⟨⟨bn,m,s_ g 0,k⟩,ae,by unfold dY.t;rw[C.o.2.1],MH C.o.1 S.o0 S.x C.o.2.2⟩,S.b⟩):P:=h
def anj(h:P:=by exact⟨cL.fr a.1 f (.inl ae) (.inl a.2.1),a.2.1,a.2.2.imp id λg D e=>Ml (g D e) f (h.Wo D e)⟩):P:=h
def ank(h:P:=by exact iI (vQ ae _ _ _) ae<|⟨⟨_,ae⟩,.inr ⟨_,by rw[<-l.o];exact take_prefix _ _,hJx3⟩⟩):P:=h
def anl(h:P:=by show Value.slice (s_ x 0) (i+1) u=Value.slice (s_ x 0) (0+i+1) u;rw[pM]):P:=h
def anm(h:P:=by exact FW (vQ ae _ _ _) ae<|⟨⟨_,ae⟩,.inl ⟨_,ae,by rw[nV sp_] at d;exact d⟩⟩):P:=h
def ann(h:P:=by exact⟨_,_,_,_,_,⟨k+1,cN,ae,_,_,ae,cz ⟨_,by simpa using S⟩⟩,ae,ae,ae,ae,ae⟩):P:=h
def ano(h:P:=by exact(((gK _ _).alloc (eN _) _).alloc (by rw[s1];omega) _).alloc (by rw[s2];omega) _):P:=h
def anp(h:P:=by exact Ha S 2 ae ae ae nU ae<|⟨_,_,ae,⟨c,ae,HC.o,S.jK L.o⟩,ir.nil _ _,S.b⟩):P:=h
def anq(h:P:=by exact show rD w.heap.size y from λr b s=>ik S.fr.size ((sG.of J.2).2 r b s)):P:=h
def anr(h:P:=by exact b _ _ (h _ (S.alloc ty (show(#[v]:Array c7)=cM 1 (λ_=>v) from ae) ho))):P:=h
def ans(h:P:=by exact S.grow r (by grind[u0,qC]) (by rw[hv];exact(b.stored i v).1) k (.inl k)):P:=h
def ant(h:P:=by exact⟨⟨by grind,by grind,by grind,by grind,λh a=>by grind⟩,ae,ae,ae⟩):P:=h
def anu(h:P:=by exact⟨_,_,_,ae,abR _ _,iD _ _ _ _,fj.nil _,ir.nil _ _,dU,S.x.1.1.1,S.fr⟩):P:=h
def anv(h:P:=by exact⟨ae,ae,h.ba,by show _<=Pl.cR _/\Pl.cR _<=_;rw[h.st];omega,by simp⟩):P:=h
def anw(h:P:=by exact⟨_,ae,⟨λh=>absurd h n.o,λ_=>⟨ae,(l.o.2 n.o).2⟩⟩,k.o⟩):P:=h
def anx(h:P:=by intro v hv;simp only[iX,jL,uH] at hv;rw[hv];rfl):P:=h
def anz(h:P:=by exact oW S 1 ae ae ae fL ae<|⟨by rw[dk (q:=cY) ae];rfl,S.x,S.fr⟩):P:=h
def anA(h:P:=by exact⟨0,replicate n nj,cN,ae,cz ⟨by simp,ae,by simp,S.o⟩⟩):P:=h
def anB(h:P:=by obtain⟨d,f,e,_⟩:=HI.o;exact⟨d,f,e⟩):P:=h
def anC(h:P:=by exact⟨uM (by rw[gI (Pt q.o (λj r s=>C.o j cN r s))]),hbel⟩):P:=h
def anD(h:P:=by intro h;rw[<-Dd,dA] at h;have:=f.o;omega):P:=h
def anE(h:P:=by have h9:=gQ length hcs;rwa [iv,iv] at h9):P:=h
def anF(h:P:=by exact show dg w 106 3 g.hv g.dI.length (iZ g.dI) from h.dI):P:=h
def anG(h:P:=by exact⟨_,by rw[d.o];rfl,by rw[d.o];exact iD _ _ _ _,S.b⟩):P:=h
def anH(h:P:=by exact⟨_,by rw[t.o];rfl,by rw[t.o];exact iD _ _ _ _,S.b⟩):P:=h
def anI(h:P:=by exact⟨_,by rw[f.o];rfl,by rw[f.o];exact iD _ _ _ _,S.b⟩):P:=h
def anJ(h:P:=by exact⟨_,by rw[f.o];rfl,by rw[f.o];exact ad3 a S.o0,S.b⟩):P:=h
def anK(h:P:=by exact Hq _ _ (by rw[HY2.o]) (by rw[HY2.o]) (by rw[HY2.o])):P:=h
def anL(h:P:=by exact cL.alloc_old (cL.alloc_old (cL.alloc _ _ _ _) _) _):P:=h
def anM(h:P:=by exact⟨_,_,rfl,⟨c,rfl,HC.o,S.jK HF.o⟩,sH _ _,S.b⟩):P:=h
def anN(h:P:=by unfold maxLen;simp only[lq];omega):P:=h
def anO(h:P:=by exact⟨_,_,rfl,Ib.nil _ _,ir.nil _ _,dU,S.x.1,S.fr⟩):P:=h
def anP(h:P:=by exact⟨uM (by rw[jC (λh=>q.o (by rw[h]))]),gK _ _⟩):P:=h
def anQ(h:P:=by exact cz ⟨_,⟨ae,ae⟩,Ab _ _,S.x.1.1.1.dev,S.fr⟩):P:=h
def anR(h:P:=by exact below_setRow ((gK _ _).alloc (eN _) _) (eN _) _):P:=h
def anS(h:P:=by exact⟨_,_,rfl,Ib.nil _ _,ir.nil _ _,dU,S.x,S.fr⟩):P:=h
def anT(h:P:=by have:=p.o;have:=H.o;simp;omega):P:=h
def anU(h:P:=by unfold nK;rw[hv];simp only[hi]):P:=h
def anV(h:P:=by rw[<-hpx];exact(V.o.cP S.b).c2):P:=h
def anW(h:P:=by rw[(S.x.2.sl.at E.o).c2,HSP.o]):P:=h
def anX(h:P:=by exact⟨_,by rw[dk (q:=U) rfl];rfl,S.o0,S.x,S.fr⟩):P:=h
def anY(h:P:=by rw[<-hs];exact(G.o.cP S.b).c2):P:=h
def anZ(h:P:=by obtain⟨_,S⟩:=H;exact S.k1):P:=h
def an0(h:P:=by unfold maxLen;simp only;omega):P:=h
def an1(h:P:=by exact⟨0,gG _,ae,λj z=>absurd z (vz _),gK _ _⟩):P:=h
def an2(h:P:=by intro h;rw[h] at c;simp at c):P:=h
def an3(h:P:=by rw[<-s];exact(G.o.cP S.b).c2):P:=h
def an4(h:P:=by exact show T=r8 y.id q1 iW (g.gt s1) from b.o):P:=h
def an5(h:P:=by show(0:Nat)+20000<=_;omega):P:=h
def an6(h:P:=by have:=cL.lt f.o.2.1;omega):P:=h
def an7(h:P:=by have:=u.1;unfold eT;omega):P:=h
end
def ah{f:FuncId}{g:Array Value}{w:World}{α:Type}{v:α->Value}{R:α->World->Prop}{K:Ending->World->Prop}(h:CP_ f g w λe w'=>∃a,e=.returned (v a)/\R a w')(k:∀a W,R a W->K (.returned (v a)) W):CP_ f g w K:=h.mono (by rintro _ _ ⟨a,rfl,h⟩;exact k _ _ h)
def aj{f:FuncId}{g:Array Value}{w:World}{v:Value}{R:World->Prop}{K:Ending->World->Prop}(h:CP_ f g w λe w'=>e=.returned v/\R w')(k:∀W,R W->K (.returned v) W):CP_ f g w K:=h.mono (by rintro _ _ ⟨rfl,h⟩;exact k _ h)
end Go.Proofs.YtklligbjoplbgaaGreat