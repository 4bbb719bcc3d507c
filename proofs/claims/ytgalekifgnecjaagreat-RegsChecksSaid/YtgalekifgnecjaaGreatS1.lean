/- Keys that are pairs of numbers -/
import Derived.Test.YtgalekifgnecjaaGreatM1
import Derived.WideKeyArr
import Derived.WideKeyPair
namespace Go.Proofs.YtgalekifgnecjaaGreat
open Tryz Go.RowKit
open Go.Maps (Keyed)
theorem NN:WideMaps.ArrKey prog 48 3 2:=⟨Tryz.underlying48,by kernel_rfl,by kernel_rfl,by kernel_rfl⟩
theorem MZ:Keyed prog 48:=Keyed.of_law NN.law
attribute [local go_sem] Oper.semAt_some
structure MK(α β: Type) where
 kT:TypeId
 eT:TypeId
 K:Keyed prog kT
 kV:α-> Value
 kL:α-> Lit
 ok:α-> Prop
 key:∀x,ok x->keyOf prog kT (kV x)=some (kL x)
 kInj:∀x y,kV x=kV y->x=y
 eV:β-> Value
 eD:β-> DataW Unit
 okE:β-> Prop
 elem:∀v,okE v->plainElem (H:=Unit) prog eT (eV v)=some (eD v,[])
 elemInv:∀v z,plainElem (H:=Unit) prog eT v=some z->∃c,v=eV c/\okE c/\z=(eD c,[])
 eInj:∀x y,eD x=eD y->x=y
 zero:β
 okZ:okE zero
 zeroRun:∀w,(zeroValue eT).run prog w= .ok (eV zero) w
section
variable {α β: Type}
def EI(M:MK α β)(x:α× β):Lit×DataW Unit:=(M.kL x.1,M.eD x.2)
def XM(M:MK α β)(L:List (α× β)):DataW Unit:=.map ((L.map (EI M)).foldr DataW.insert [])
abbrev Zo(L:List (α× β)):Prop:=L.Pairwise fun p q=>p.1≠q.1
structure xe(M:MK α β)(w:World)(b:Nat)(L:List (α× β)):Prop where
 ap:Zo L
 ok:∀p∈L,M.ok p.1/\M.okE p.2
 own:w.ownsMap prog M.kT (plainElem prog M.eT) b L.length (XM M L)
variable {M:MK α β} {w w':World} {b r:Nat} {L L' R:List (α× β)}
theorem MK.kLinj(M:MK α β){x y:α}(hx:M.ok x)(hy:M.ok y)(h:M.kL x=M.kL y):x=y:=
 M.kInj _ _ (M.K.inj (M.key x hx) (by rw[h];exact M.key y hy))
theorem Uv(L:List (α× β)):Maps.size (XM M L)=L.length:=by unfold XM;rw[Maps.size_eq,length_sorted,ym]
theorem Ah(h:∀p∈L,M.ok p.1/\M.okE p.2):Maps.Keys (Maps.KeysOf prog M.kT) (L.map (EI M)):=by
 intro p hp;obtain⟨x,hx,rfl⟩:=xI.1 hp;exact⟨M.kV x.1,M.key _ (h x hx).1⟩
theorem U9(h:∀p∈L,M.ok p.1/\M.okE p.2)(ha:Zo L):(L.map (EI M)).Pairwise (fun p q=>p.1≠q.1):=by
 rw[List.pairwise_map];refine ha.imp_of_mem ?_;intro p q hp hq hne e;exact hne (M.kLinj (h p hp).1 (h q hq).1 e)
theorem Fb(h:∀p∈L,M.ok p.1/\M.okE p.2)(ha:Zo L)(hp:L.Perm L'):XM M L=XM M L':=by
 have h':∀p∈L',M.ok p.1/\M.okE p.2:=fun p hp'=>h p (hp.mem_iff.2 hp')
 have ha':Zo L':=(hp.pairwise_iff (fun {_ _} hne=>Ne.symm hne)).1 ha;unfold XM;congr 1;exact ChangeMaps.eq_of_perm_sorted ((WideShapes.sorted_perm _).trans ((hp.map _).trans (WideShapes.sorted_perm _).symm)) (Maps.sorted_sorted M.K.one _ (Ah h) (U9 h ha)) (Maps.sorted_sorted M.K.one _ (Ah h') (U9 h' ha'))
theorem xe.perm(h:xe M w b L)(hp:L.Perm L'):xe M w b L':=
 ⟨(hp.pairwise_iff (fun {_ _} hne=>Ne.symm hne)).1 h.ap,fun p hp'=>h.ok p (hp.mem_iff.2 hp'),by rw[<-hp.length_eq,<-Fb h.ok h.ap hp];exact h.own⟩
theorem xe.lt(h:xe M w b L):b<w.heap.size:=h.own.lt
theorem xe.keep(h:xe M w b L)(e:w'.heap[b]?=w.heap[b]?):xe M w' b L:=by
 obtain⟨es,clock,hb,r⟩:=h.own;exact⟨h.ap,h.ok,es,clock,e.trans hb,r⟩
theorem xe.kept{row:Option Nat}(h:xe M w b L)(hg:w.grownBy w' row)(hn:some b≠row):xe M w' b L:=h.keep (hg.block b h.lt hn)
theorem xe.below(h:xe M w b L)(hb:Below w.heap.size w w'):xe M w' b L:=h.keep (hb.block b h.lt)
theorem Z9(M:MK α β)(w:World):xe M (w.alloc (.map #[] 0)) w.heap.size []:=⟨.nil,by simp,World.ownsMap_made w _ _ _⟩
def j_(M:MK α β)(w:World)(r b:Nat)(L R:List (α× β)):Prop:=
 xe M w b L/\∃left cnt,w.ranges prog M.kT (plainElem (H:=Unit) prog M.eT) b r L.length (XM M L) left cnt/\R=L.filter (fun x=>left (M.kL x.1))
theorem j_.lt(h:j_ M w r b L R):r<w.heap.size:=by
 obtain⟨_,left,cnt,h,_⟩:=h;exact h.lt
theorem j_.sub(h:j_ M w r b L R):∀x∈R,x∈L:=by
 obtain⟨_,left,cnt,_,rfl⟩:=h;intro x hx;exact(jn.1 hx).1
theorem j_.apart(h:j_ M w r b L R):Zo R:=by
 obtain⟨hm,left,cnt,_,rfl⟩:=h;exact hm.ap.filter _
theorem j_.kept{row:Option Nat}(h:j_ M w r b L R)(hg:w.grownBy w' row)(hr:some r≠row)(hb:some b≠row):j_ M w' r b L R:=by
 obtain⟨hm,left,cnt,h,e⟩:=h;exact⟨hm.kept hg hb,left,cnt,h.kept hg hb hr,e⟩
theorem j_.below(h:j_ M w r b L R)(hb:Below w.heap.size w w'):j_ M w' r b L R:=
 h.kept (row:=none) ⟨hb.os,hb.tape,hb.output,hb.size,fun k hk _=>hb.block k hk⟩ (by simp) (by simp)
theorem Lb{n:Nat}(h:w.ownsMap prog M.kT (plainElem (H:=Unit) prog M.eT) b n (XM M L)):w.ownsMap prog M.kT (plainElem (H:=Unit) prog M.eT) b L.length (XM M L):=by
 obtain⟨es,clock,hb,F,_,hD⟩:=h;refine⟨es,clock,hb,F,?_,hD⟩
 have h1:L.length=es.size:=by
  have h2:=congrArg Maps.size hD;rw[Uv]at h2;rw[h2];simp[Maps.size,length_sorted]
 omega
theorem xe.len{T:TypeId}(hT:prog.underlying T=some (.map M.kT M.eT))(h:xe M w b L)(ty:TypeId):(Builtin.len_ #[T] ty #[.map (some b)]).run prog w= .ok (.int .i64 L.length) w:=by
 rw[h.own.len hT ty,Uv]
variable [DecidableEq α]
def jZ(L:List (α× β))(x:α):Option β:=(L.find? fun p=>decide (p.1=x)).map (·.2)
def putM(x:α)(v:β)(L:List (α× β)):List (α× β):=(x,v)::L.filter fun p=> !decide (p.1=x)
theorem Fi{x:α}{v:β}(h:Zo L):Zo (putM x v L):=by
 refine jW.2 ⟨fun q hq=> ?_,h.filter _⟩;have:=(jn.1 hq).2;simp only[jb,ZQ]at this;exact fun e=>this e.symm
theorem LX{x:α}{v:β}(h:∀p∈L,M.ok p.1/\M.okE p.2)(ha:Zo L)(hx:M.ok x):(XM M L).put (M.kL x) (M.eD v)=XM M (putM x v L):=by
 unfold XM;rw[DataW.put_eq];congr 1;refine(Maps.sorted_put M.K.one ⟨M.kV x,M.key x hx⟩ (Ah h) (U9 h ha) ?_).symm;unfold putM;rw[j9];refine List.Perm.cons _ ?_;rw[List.filter_map];refine List.Perm.of_eq (congrArg _ (List.filter_congr fun p hp=> ?_));simp only[Function.comp,EI,ChangeMaps.notKey];by_cases e:p.1=x
 ·subst e
  simp[WideAt.sameKey_self (M.K.key (M.key _ hx))]
 ·have:(M.kL p.1).sameKey (M.kL x)=false:=by
   cases hs:(M.kL p.1).sameKey (M.kL x)with
   |false=>rfl
   |true=>exact absurd (M.kLinj (h p hp).1 hx (WideAt.sameKey_eq hs)) e
  simp[this,e]
theorem xe.put{T:TypeId}(hT:prog.underlying T=some (.map M.kT M.eT)){x:α}{v:β}(h:xe M w b L)(hl:L.length<=1000000000)(hx:M.ok x)(hv:M.okE v):
  ∃w',(Instr.mapUpdate T (.map (some b)) (M.kV x) (M.eV v)).run prog w= .ok () w'/\xe M w' b (putM x v L)/\w.grownBy w' (some b):=by
 obtain⟨w',h1,h2,h3⟩:=h.own.update M.K hT (by unfold maxLen;omega) (M.key x hx) (M.elem v hv);rw[LX h.ok h.ap hx]at h2;refine⟨w',h1,⟨Fi h.ap,fun p hp=> ?_,Lb h2⟩,h3⟩;rcases xK.1 hp with rfl|hp
 ·exact⟨hx,hv⟩
 ·exact h.ok p (jn.1 hp).1
theorem G7{x:α}{v:β}(h:jZ L x=some v):(x,v)∈L:=by
 unfold jZ at h
 cases hf:L.find? (fun p=>decide (p.1=x))with
 |none=>rw[hf]at h;cases h
 |some p=>
  rw[hf]at h;have h1:=List.mem_of_find?_eq_some hf;have h2:=List.find?_some hf;simp only[yB]at h2;simp only[Option.map_some,Option.some.injEq]at h;rw[<-h2,<-h];exact h1
theorem vE{x:α}{v:β}(ha:Zo L)(h:(x,v)∈L):jZ L x=some v:=by
 unfold jZ
 cases hf:L.find? (fun p=>decide (p.1=x))with
 |none=>exact absurd (List.find?_eq_none.1 hf _ h) (by simp)
 |some p=>
  have h1:=List.mem_of_find?_eq_some hf;have h2:=List.find?_some hf;simp only[yB]at h2
  have:p=(x,v):=by
   clear hf
   induction L with
   |nil=>simp at h1
   |cons q L ih=>
    obtain⟨a1,a2⟩:=jW.1 ha;rcases xK.1 h with e|h
    ·rcases xK.1 h1 with e2|h1
     ·rw[e,e2]
     ·exact absurd (by rw[<-e,h2]) (a1 p h1)
    ·rcases xK.1 h1 with e2|h1
     ·exact absurd (by rw[<-e2,h2]) (a1 _ h)
     ·exact ih a2 h h1
  rw[this];rfl
theorem Vc{x:α}(h:jZ L x=none):∀p∈L,p.1≠x:=by
 intro p hp e;unfold jZ at h;rw[Option.map_eq_none_iff]at h;have:=List.find?_eq_none.1 h p hp;simp[e]at this
theorem U4{x:α}(h:∀p∈L,M.ok p.1/\M.okE p.2)(ha:Zo L)(hx:M.ok x)(z:DataW Unit):(XM M L).atKey (M.kL x) z=((jZ L x).map M.eD).getD z:=by
 have hat:=WideShapes.atKey_sorted (L.map (EI M)) (ChangeMaps.rising_of_pairwise _ (Maps.sorted_sorted M.K.one _ (Ah h) (U9 h ha))) (M.kL x) (M.K.key (M.key x hx));unfold XM
 cases hg:jZ L x with
 |none=>
  refine(hat.1 (fun p hp e=> ?_) z).trans rfl;obtain⟨q,hq,rfl⟩:=xI.1 hp
  exact Vc hg q hq (M.kLinj (h q hq).1 hx e)
 |some v=>exact(hat.2 (EI M (x,v)) (xI.2 ⟨_,G7 hg,rfl⟩) rfl z).trans rfl
theorem xe.look{T:TypeId}(hT:prog.underlying T=some (.map M.kT M.eT)){x:α}(h:xe M w b L)(hx:M.ok x):
  (Instr.lookup T (.map (some b)) (M.kV x) false).run prog w= .ok (M.eV ((jZ L x).getD M.zero)) w:=by
 obtain⟨v,ps,h1,h2⟩:=h.own.lookup M.K hT (M.zeroRun w) (M.elem _ M.okZ) (M.key x hx);obtain⟨c,rfl,_,h3⟩:=M.elemInv _ _ h2;rw[U4 h.ok h.ap hx]at h3;rw[h1];refine congrArg (fun z=>Result.ok (M.eV z) w) (M.eInj _ _ ?_);simp only[Prod.mk.injEq]at h3;rw[<-h3.1];cases jZ L x<;>rfl
theorem Ir{x:α}(h:∀p∈L,M.ok p.1/\M.okE p.2)(hx:M.ok x):Maps.has (XM M L) (M.kL x)=(jZ L x).isSome:=by
 unfold XM;rw[Maps.has_eq]
 cases hg:jZ L x with
 |none=>
  refine List.any_eq_false.2 fun p hp e=> ?_
  obtain⟨q,hq,rfl⟩:=xI.1 ((WideShapes.sorted_perm _).mem_iff.1 hp)
  exact Vc hg q hq (M.kLinj (h q hq).1 hx (WideAt.sameKey_eq e))
 |some v=>
  refine v_.2 ⟨EI M (x,v),(WideShapes.sorted_perm _).mem_iff.2 (xI.2 ⟨_,G7 hg,rfl⟩),?_⟩;exact WideAt.sameKey_self (M.K.key (M.key x hx))
theorem xe.lookOk{T:TypeId}(hT:prog.underlying T=some (.map M.kT M.eT)){x:α}(h:xe M w b L)(hx:M.ok x):
  (Instr.lookup T (.map (some b)) (M.kV x) true).run prog w= .ok (.tuple #[M.eV ((jZ L x).getD M.zero),.bool (jZ L x).isSome]) w:=by
 obtain⟨v,ps,h1,h2⟩:=h.own.look_ok M.K hT (M.zeroRun w) (M.elem _ M.okZ) (M.key x hx);obtain⟨c,rfl,_,h3⟩:=M.elemInv _ _ h2;rw[U4 h.ok h.ap hx]at h3;rw[h1,Ir h.ok hx];refine congrArg (fun z=>Result.ok (Value.tuple #[M.eV z,Value.bool (jZ L x).isSome]) w) (M.eInj _ _ ?_);simp only[Prod.mk.injEq]at h3;rw[<-h3.1];cases jZ L x<;>rfl
theorem xe.range{T:TypeId}(hT:prog.underlying T=some (.map M.kT M.eT))(h:xe M w b L):
  ∃w',(Instr.range T (.map (some b))).run prog w= .ok (.pointer (some ⟨w.heap.size,0,none⟩)) w'/\j_ M w' w.heap.size b L L/\w.grownBy w' none/\w'.heap.size=w.heap.size+1:=by
 obtain⟨w',h1,h2,h3,h4⟩:=h.own.range M.K hT;refine⟨w',h1,⟨h.kept h3 (by simp),_,_,h2,?_⟩,h3,h4⟩;refine(List.filter_eq_self.2 fun x hx=> ?_).symm;rw[Ir h.ok (h.ok x hx).1,vE h.ap (show(x.1,x.2)∈L from hx)];rfl
theorem j_.next(h:j_ M w r b L R)(ty:TypeId):(R= []/\(Instr.next (.pointer (some ⟨r,0,none⟩)) false ty).run prog w= .ok (.tuple #[.bool false]) w) \/
  ∃x v w',(x,v)∈R/\(Instr.next (.pointer (some ⟨r,0,none⟩)) false ty).run prog w= .ok (.tuple #[.bool true,M.kV x,M.eV v]) w'/\j_ M w' r b L (R.filter fun p=> !decide (p.1=x))/\w.grownBy w' (some r)/\w'.heap.size=w.heap.size /\
   (Instr.entry (.pointer (some ⟨r,0,none⟩))).run prog w'= .ok (.tuple #[M.kV x,M.eV v]) w':=by
 obtain⟨hs,left,cnt,h,rfl⟩:=h;rcases h.next M.K ty with ⟨_,hl,hrun⟩|⟨key,u,kl,y,w',cnt',hkey,hlk,hv,hat,hrun,hrg,_,hgr,hsz,hen⟩
 ·exact .inl ⟨List.filter_eq_nil_iff.2 fun x _=>by simp[hl],hrun⟩
 ·obtain⟨c,rfl,_,rfl⟩:=M.elemInv _ _ hv
  have hhas:Maps.has (XM M L) kl=true:=Maps.has_true_of_atKey hat;unfold XM at hhas;rw[Maps.has_eq]at hhas;obtain⟨p,hp,hpk⟩:=v_.1 hhas;obtain⟨q,hq,rfl⟩:=xI.1 ((WideShapes.sorted_perm _).mem_iff.1 hp);have hkl:M.kL q.1=kl:=WideAt.sameKey_eq hpk;have hok:=hs.ok q hq;have hkv:key=M.kV q.1:=M.K.inj hkey (by rw[<-hkl];exact M.key _ hok.1)
  have hqv:q.2=c:=by
   have h1:=hat (M.eD M.zero);rw[<-hkl,U4 hs.ok hs.ap hok.1,vE hs.ap (show(q.1,q.2)∈L from hq)]at h1;exact M.eInj _ _ h1
  subst hkv;subst hqv;refine .inr ⟨q.1,q.2,w',jn.2 ⟨hq,by rw[hkl];exact hlk⟩,hrun,⟨hs.kept hgr (fun e=>by cases e;exact h.ne rfl),_,_,hrg,?_⟩,hgr,hsz,hen⟩;rw[List.filter_filter];refine List.filter_congr fun z hz=> ?_
  by_cases e:z.1=q.1
  ·rw[e,hkl]
   simp[WideAt.sameKey_self (M.K.key hkey)]
  ·have:(M.kL z.1).sameKey kl=false:=by
    cases hs2:(M.kL z.1).sameKey kl with
    |false=>rfl
    |true=>exact absurd (M.kLinj (hs.ok z hz).1 hok.1 (by rw[hkl];exact WideAt.sameKey_eq hs2)) e
   simp[this,e]
end
section
variable {α β: Type} [DecidableEq α] (M:MK α β)
variable (w:World) {ops:Array Oper} {rest:List Oper} {o:Oper} {a:Act} {Q:Exit->Act->World->Prop}
theorem vM{T:TypeId}(hT:prog.underlying T=some (.map M.kT M.eT))(hg:o.guard=none)(m x v:Operand)(hop:o.op=Op.mapUpdate T m x v)(b:Nat)(L:List (α× β))(k:α)(c:β)(hm:a.eval m= .map (some b))(h:xe M w b L)(hl:L.length<=1000000000)(hx:a.eval x=M.kV k)(hv:a.eval v=M.eV c)(hk:M.ok k)(hc:M.okE c)
  (hK:∀w',xe M w' b (putM k c L)->w.grownBy w' (some b)->wpList prog ops Q rest (a.put o.dst undef) w'):wpList prog ops Q (o::rest) a w:=by
 refine wpList_plain hg fun K' hK'=> ?_
 obtain⟨w',hrun,r1,r2⟩:=h.put hT hl hk hc;unfold Oper.wp;simp[execOp,hop,hm,hx,hv,hrun,Result.andThen];exact hK' _ _ (hK w' r1 r2)
theorem YR{T:TypeId}(hT:prog.underlying T=some (.map M.kT M.eT))(hg:o.guard=none)(m:Operand)(hop:o.op=Op.range T m)(b:Nat)(L:List (α× β))(hm:a.eval m= .map (some b))(h:xe M w b L)
  (hK:∀w',j_ M w' w.heap.size b L L->w.grownBy w' none->w'.heap.size=w.heap.size+1->wpList prog ops Q rest (a.put o.dst (.pointer (some ⟨w.heap.size,0,none⟩))) w'):wpList prog ops Q (o::rest) a w:=by
 refine wpList_plain hg fun K' hK'=> ?_
 obtain⟨w',hrun,r1,r2,r3⟩:=h.range hT;unfold Oper.wp;simp[execOp,hop,hm,hrun,Result.andThen];exact hK' _ _ (hK w' r1 r2 r3)
theorem Xv(hg:o.guard=none)(it:Operand)(hop:o.op=Op.next it false)(r b:Nat)(L R:List (α× β))(hit:a.eval it= .pointer (some ⟨r,0,none⟩))(h:j_ M w r b L R)
  (hDone:R= []->wpList prog ops Q rest (a.put o.dst (.tuple #[.bool false])) w)
  (hMore:∀(x:α) (v:β) (w':World),(x,v)∈R->j_ M w' r b L (R.filter fun p=> !decide (p.1=x))->w.grownBy w' (some r)->w'.heap.size=w.heap.size->(Instr.entry (.pointer (some ⟨r,0,none⟩))).run prog w'= .ok (.tuple #[M.kV x,M.eV v]) w' ->
   wpList prog ops Q rest (a.put o.dst (.tuple #[.bool true,M.kV x,M.eV v])) w'):wpList prog ops Q (o::rest) a w:=by
 refine wpList_plain hg fun K' hK'=> ?_
 unfold Oper.wp;rcases h.next o.type with ⟨h0,hrun⟩|⟨x,v,w',hx,hrun,hrg,hgr,hsz,hen⟩
 ·simp[execOp,hop,hit,hrun,Result.andThen]
  exact hK' _ _ (hDone h0)
 ·simp[execOp,hop,hit,hrun,Result.andThen]
  exact hK' _ _ (hMore x v w' hx hrg hgr hsz hen)
end
theorem Z7{v:Value}{z:DataW Unit×List MemPlace}(h:plainElem prog 4 v=some z):∃c,v=Value.bool c/\True/\z=(.lit (.bool c),[]):=by
 obtain⟨c,h1,h2⟩:=Qx h;exact⟨c,h1,trivial,h2⟩
theorem Ft(w:World):(zeroValue 4).run prog w= .ok (.bool false) w:=by
 simp[zeroValue,go_sem];rfl
def Jq:MK (Int×Int) Bool where
 kT:=48
 eT:=4
 K:=MZ
 kV x:=.agg #[.int .i64 x.1,.int .i64 x.2]
 kL x:=.string (keyBytes [.int .i64 x.1,.int .i64 x.2])
 ok x:=(0<=x.1/\x.1<=1000000)/\(0<=x.2/\x.2<=1000000)
 key x hx:=WideMaps.keyOf_pair NN Tryz.underlying3 ⟨prog.types.size-1,by kernel_rfl⟩ (Gk hx.1) (Gk hx.2)
 kInj x y h:=by
  injection h with h;injection h with h;injection h with h1 h;injection h with h2 h;injection h1 with _ h1;injection h2 with _ h2;exact Prod.ext h1 h2
 eV c:=.bool c
 eD c:=.lit (.bool c)
 okE _:=True
 elem v _:=Ut v
 elemInv _ _ h:=Z7 h
 eInj x y h:=by
  injection h with h;injection h
 zero:=false
 okZ:=trivial
 zeroRun w:=Ft w
theorem Rh(w:World):(zeroValue 3).run prog w= .ok (.int .i64 0) w:=by
 simp[zeroValue,go_sem];rfl
def xU:MK Int Int where
 kT:=3
 eT:=3
 K:=XY
 kV x:=.int .i64 x
 kL x:=.int .i64 x
 ok x:=(Lit.int .i64 x).wf=true
 key x hx:=Go.Maps.keyOf_int_mk Tryz.underlying3 hx
 kInj x y h:=by injection h
 eV c:=.int .i64 c
 eD c:=.lit (.int .i64 c)
 okE c:=(Lit.int .i64 c).wf=true
 elem v hv:=plainElem_int Tryz.underlying3 hv
 elemInv v z h:=by
  obtain⟨a,h1,h2,h3⟩:=plainElem_int_inv Tryz.underlying3 h;exact⟨a,h1,h3,h2⟩
 eInj x y h:=by
  injection h with h;injection h
 zero:=0
 okZ:=by decide
 zeroRun w:=Rh w
def RQ:MK Int Bool where
 kT:=3
 eT:=4
 K:=XY
 kV x:=.int .i64 x
 kL x:=.int .i64 x
 ok x:=(Lit.int .i64 x).wf=true
 key x hx:=Go.Maps.keyOf_int_mk Tryz.underlying3 hx
 kInj x y h:=by injection h
 eV c:=.bool c
 eD c:=.lit (.bool c)
 okE _:=True
 elem v _:=Ut v
 elemInv _ _ h:=Z7 h
 eInj x y h:=by
  injection h with h;injection h
 zero:=false
 okZ:=trivial
 zeroRun w:=Ft w
end Go.Proofs.YtgalekifgnecjaaGreat
