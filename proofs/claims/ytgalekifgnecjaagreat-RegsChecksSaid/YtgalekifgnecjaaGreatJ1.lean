/- An argument that is a unit, or homes -/
import Derived.Test.YtgalekifgnecjaaGreatRows
import Derived.Test.YtgalekifgnecjaaGreatT24
import Derived.ProofKit
import Derived.OpenShut
import Derived.Deep.Slices
import Derived.Deep.Fields
import Derived.Deep.Matrix
namespace Go.Proofs.YtgalekifgnecjaaGreat
open Go.Proofs.Tryz Go.RowKit
open Go.ChangeShapes Go.WideShapes Go.ChangeAt Go.RowKit Go.Deep
set_option maxHeartbeats 1000000
set_option maxRecDepth 100000
theorem Tryz.own:ownKnob prog.godebug=none:=by kernel_rfl
theorem Tryz.laidOut:laidOutB prog=true:=by kernel_rfl
section
variable {H:Type} {enc:TypeId×Value->H} {W:World} {sp:Nat->Bool} {hd:Bool}
theorem Qf{α: Type}{Q:Nat->α-> Prop}:∀(n:Nat),(∀i,i<n->∃x,Q i x)->∃l:List α,l.length=n/\∀i (h:i<l.length),Q i l[i]
 |0,_=>⟨[],rfl,fun i h=>absurd h (y_ i)⟩
 |n+1,h=>by
  obtain⟨l,hl,hq⟩:=Qf n fun i hi=>h i (by omega)
  obtain⟨x,hx⟩:=h n (by omega);refine⟨l++ [x],by simp[hl],fun i hi=> ?_⟩;rw[yV,Y8]at hi;by_cases e:i<l.length
  ·rw[List.getElem_append_left e]
   exact hq i e
  ·have e2:i=l.length:=by omega
   subst e2;rw[List.getElem_append_right (zI _)];simp only[Nat.sub_self,List.getElem_cons_zero];rw[hl];exact hx
theorem AD{b off:Nat}{v:Value}(h:W.cell? ⟨b,off,none⟩=some v):b<W.heap.size:=by
 unfold World.cell? at h
 cases hh:W.heap[b]? with
 |none=>simp[hh]at h
 |some o=>exact ze hh
theorem AG{a:Addr}{v:Value}(h:W.cell? (a.add 0)=some v):∃b off,a=⟨b,off,none⟩:=by
 obtain⟨b,off,spot⟩:=a;have e:(⟨b,off,spot⟩:Addr).add 0=⟨b,off,spot⟩:=by simp[Addr.add]
 rw[e]at h
 cases spot with
 |none=>exact⟨b,off,rfl⟩
 |some s=>
  unfold World.cell? at h
  cases hh:W.heap[b]? with
  |none=>simp[hh]at h
  |some o=>cases o<;>simp[hh]at h
theorem Ko(b off j:Nat):(⟨b,off,none⟩:Addr).add j=⟨b,off+j,none⟩:=by
 unfold Addr.add;by_cases h0:j=0
 ·subst h0;simp
 ·simp[h0]
theorem Q0{t:TypeId}{fs:Array Field}(ht:prog.underlying t=some (.struct fs))(hone:oneCellFields prog fs=true)
  {fuel:Nat} {cs:List Value} {y:DataW H×List MemPlace} (h:DataW.trod enc prog W 0 sp hd fuel t cs=some y):∀j f,fs[j]?=some f->∃n x,DataW.trod enc prog W 0 sp hd n f.type ((cs.drop j).take 1)=some x:=by
 intro j f hj;obtain⟨xs,n,_,_,_,hxl,hf⟩:=DataW.trod_struct ht h;obtain⟨ho,hk⟩:=hone_of hone j f hj;have hjl:j<fs.size:=(qM.1 hj).1;have h1:=hf j f hj;rw[ho,hk,q9 (by omega)]at h1;exact⟨_,_,h1⟩
end
section
variable {H:Type} {enc:TypeId×Value->H} {W:World}
theorem Yp{cs:List Value}{j:Nat}{v:Value}(h:(cs.drop j).take 1= [v]):cs[j]?=some v:=by
 have e:((cs.drop j).take 1)[0]?=some v:=by rw[h];rfl
 rw[List.getElem?_take,zj (by decide),List.getElem?_drop]at e;simpa using e
theorem Jc{ts t:TypeId}{fs:Array Field}(hs:prog.underlying ts=some (.slice t))(ht:prog.underlying t=some (.struct fs))(hone:oneCellFields prog fs=true)(hC:prog.cellsOf t=fs.size)(h0:0<fs.size)
  {fuel:Nat} {cs:List Value} {x:DataW H×List MemPlace} (hf:DataW.trod enc prog W 0 (fun _=>true) true fuel ts cs=some x):
  ∃a0 len cap,cs= [.slice a0 len cap]/\len<=9223372036854775807/\len<=cap/\∀i,i<len->∃b off,a0=some ⟨b,off,none⟩/\b<W.heap.size/\∃cs':List Value,(∀j,j<fs.size->W.cell? ⟨b,off+i*fs.size+j,none⟩=cs'[j]?) /\
   ∀j T,(fs[j]?).map (·.type)=some T->∃n x,DataW.trod enc prog W 0 (fun _=>true) true n T ((cs'.drop j).take 1)=some x:=by
 rcases open_slice hs hf with ⟨hcs,hx⟩|⟨a,len',cap',m,n,D,Pl,hcs,hb,hl,hm,hmm,hx,hi⟩
 ·exact⟨none,0,0,hcs,zE _,zE _,fun i hi=>absurd hi (y_ i)⟩
 ·refine⟨some a,len',cap',hcs,by unfold maxLen at hm;omega,hl,fun i hilt=> ?_⟩
  have key:∀i,i<len'->∃cs':List Value,(∀j,j<fs.size->W.cell? (a.add (i*fs.size+j))=cs'[j]?)/\(∃v,cs'[0]?=some v) /\
    ∀j T,(fs[j]?).map (·.type)=some T->∃n x,DataW.trod enc prog W 0 (fun _=>true) true n T ((cs'.drop j).take 1)=some x:=by
   intro i hilt;obtain⟨cs',hc,ht'⟩:=hi i (by simp at hmm;omega);rw[hC]at hc;obtain⟨_,hcl,hat⟩:=World.cells?_some hc;refine⟨cs',fun j hj=>by have:=hat j hj;rw[Go.Deep.add_add]at this;exact this,⟨_,q9 (by omega:0<cs'.length)⟩,fun j T hT=> ?_⟩
   cases hj:fs[j]? with
   |none=>rw[hj]at hT;cases hT
   |some f=>
    rw[hj]at hT;cases hT;exact Q0 ht hone ht' j f hj
  obtain⟨c0,k1,⟨v,k2⟩,_⟩:=key 0 (by omega);have hz:=(k1 0 h0).trans k2;obtain⟨b,off,rfl⟩:=AG (by simpa using hz);obtain⟨cs',q1,⟨v',q2⟩,q3⟩:=key i hilt;refine⟨b,off,rfl,?_,cs',fun j hj=> ?_,q3⟩
  ·have:=(q1 0 h0).trans q2
   rw[Ko]at this;exact AD this
  ·have:=q1 j hj
   rwa [Ko,<-Nat.add_assoc]at this
theorem PW:prog.cellsOf 3=1:=by kernel_rfl
theorem Ej{n:Int}(h:(Lit.int .i64 n).wf=true): -9223372036854775808<=n/\n<=9223372036854775807:=bounds_i64 h
theorem K9{fuel:Nat}{cs:List Value}{x:DataW H×List MemPlace}(hf:DataW.trod enc prog W 0 (fun _=>true) true fuel 28 cs=some x):
  ∃(l:List Int) (a:Option Addr) (cap:Nat),cs= [.slice a l.length cap]/\yC W a l/\l.length<=9223372036854775807/\l.length<=cap/\∀e,e∈l-> -9223372036854775808<=e/\e<=9223372036854775807:=by
 rcases open_ints Tryz.underlying28 Tryz.underlying3 PW hf with ⟨hcs,hx⟩|⟨a,len',cap',zs,hcs,_,hl,hm,hz,hx,hcell,hwz⟩
 ·exact⟨[],none,0,hcs,fun i hi=>absurd hi (y_ i),zE _,zE _,fun e he=>by cases he⟩
 ·simp only[if_true]at hz
  have hlen:(zs.take len').length=len':=by rw[xm];omega
  refine⟨zs.take len',some a,cap',by rw[hlen];exact hcs,fun i hi=> ?_,by rw[hlen];unfold maxLen at hm;omega,by rw[hlen];exact hl,fun e he=>Ej (hwz e (List.mem_of_mem_take he))⟩;rw[hlen]at hi;have h0:=hcell 0 (by omega);obtain⟨b,off,rfl⟩:=AG h0;have hc:=hcell i (by omega);rw[Ko]at hc;refine⟨b,off,rfl,AD hc,?_⟩;rw[hc,List.getElem_take,jI,q9 (by omega)];rfl
theorem LP{fuel:Nat}{cs:List Value}{x:DataW H×List MemPlace}(hf:DataW.trod enc prog W 0 (fun _=>true) true fuel 23 cs=some x):
  ∃(l:List jR) (a:Option Addr) (cap:Nat),cs= [.slice a l.length cap]/\IG W a l/\l.length<=9223372036854775807/\l.length<=cap:=by
 have hs:(prog.fieldsOf 90).size=3:=by kernel_rfl
 obtain⟨a0,len,cap,hcs,hlen,hcap,hi⟩:=Jc (ts:=23) (t:=90) (fs:=prog.fieldsOf 90) (by kernel_rfl) (by kernel_rfl) (by kernel_rfl) (by kernel_rfl) (by rw[hs];decide) hf;rw[hs]at hi
 obtain⟨l,hl,hq⟩:=Qf (Q:=fun i (s:jR)=>(∃b off,a0=some ⟨b,off,none⟩/\b<W.heap.size/\W.cell? ⟨b,off+i*3,none⟩=some (.int .i64 s.frm)/\W.cell? ⟨b,off+i*3+1,none⟩=some (.int .i64 s.til)/\W.cell? ⟨b,off+i*3+2,none⟩=some (.int .i64 s.at'))) len (by
  intro i hilt;obtain⟨b,off,ha,hb,cs',hc,hT⟩:=hi i hilt;obtain⟨n0,x0,h0⟩:=hT 0 3 (by kernel_rfl);obtain⟨z0,e0,_⟩:=DataW.trod_int Tryz.underlying3 h0;have c0:=(hc 0 (by decide)).trans (Yp e0);obtain⟨n1,x1,h1⟩:=hT 1 3 (by kernel_rfl);obtain⟨z1,e1,_⟩:=DataW.trod_int Tryz.underlying3 h1;have c1:=(hc 1 (by decide)).trans (Yp e1);obtain⟨n2,x2,h2⟩:=hT 2 3 (by kernel_rfl);obtain⟨z2,e2,_⟩:=DataW.trod_int Tryz.underlying3 h2;have c2:=(hc 2 (by decide)).trans (Yp e2)
  exact⟨⟨z0,z1,z2⟩,b,off,ha,hb,c0,c1,c2⟩)
 exact⟨l,a0,cap,by rw[hl];exact hcs,fun i hi=>hq i hi,by omega,by omega⟩
theorem I_{v:Value}{r:Reach}{base:Nat}{d:DataW H}{ps:List MemPlace}(hv:Value.okWide prog W r base 30 v)(h:DataW.Trod enc prog W 0 (fun _=>true) true 30 v d ps):
  ∃(hs t:List Int) (ha:Option Addr) (hc:Nat) (ta:Option Addr) (tc:Nat),v=Sg ha hs hc ta t tc/\yC W ha hs/\yC W ta t/\∀x∈hs,-9223372036854775808<=x/\x<=9223372036854775807:=by
 have hu:prog.underlying 30=some (.struct (prog.fieldsOf 30)):=by kernel_rfl
 obtain⟨cs,rfl,hsz⟩:=okWide_struct hu hv;have h5:prog.cellsOf 30=2:=by kernel_rfl
 rw[h5]at hsz;obtain⟨fuel,hf⟩:=h;have hz0:=Q0 hu (by kernel_rfl) hf
 have hz:∀j T,((prog.fieldsOf 30)[j]?).map (·.type)=some T->∃n x,DataW.trod enc prog W 0 (fun _=>true) true n T ((cs.toList.drop j).take 1)=some x:=by
  intro j T hT
  cases hj:(prog.fieldsOf 30)[j]? with
  |none=>rw[hj]at hT;cases hT
  |some f=>
   rw[hj]at hT;cases hT;exact hz0 j f hj
 obtain⟨l⟩:=cs;obtain⟨n0,x0,h0⟩:=hz 0 28 (by kernel_rfl);obtain⟨n1,x1,h1⟩:=hz 1 28 (by kernel_rfl);clear hf hz hz0;obtain⟨A,aa,ak,e0,p0,_,_,t0⟩:=K9 h0;obtain⟨B,ba,bk,e1,p1,_,_,_⟩:=K9 h1
 match l,hsz with
 | [c0,c1],_=>
  have g0:=(List.cons.inj (show [c0]= [Value.slice aa A.length ak]from e0)).1;have g1:=(List.cons.inj (show [c1]= [Value.slice ba B.length bk]from e1)).1;clear e0 e1;subst g0 g1;exact⟨A,B,aa,ak,ba,bk,rfl,p0,p1,t0⟩
end
theorem Oo{H:Type}{enc:TypeId×Value->H}{t:TypeId}(hr:prog.readableRec t=true)(hrow:t<prog.types.size){W W':World}{v:Value}{d:DataW H}{ps:List MemPlace}
  (h:DataW.Trod enc prog W 0 (fun _=>true) true t v d ps) (hb:Below W.heap.size W W') (hlt:∀x∈ps,x.block<W.heap.size):DataW.Trod enc prog W' 0 (fun b=>decide (b<W.heap.size)) true t v d ps:=
 Below.trod Tryz.laidOut hr hrow h hb hlt
theorem I5:prog.readableRec 25=true:=by kernel_rfl
theorem FL:25<prog.types.size:=Qi (by kernel_rfl)
theorem Py:prog.readableRec 30=true:=by kernel_rfl
theorem RF:30<prog.types.size:=Qi (by kernel_rfl)
section
variable {H:Type} {enc:TypeId×Value->H} {W:World}
theorem Dt{fuel:Nat}{cs:List Value}{x:DataW H×List MemPlace}(hf:DataW.trod enc prog W 0 (fun _=>true) true fuel 22 cs=some x):
  ∃(l:List zm) (a:Option Addr) (cap:Nat),cs= [.slice a l.length cap]/\Qz W a l/\l.length<=9223372036854775807/\l.length<=cap/\∀y∈l,(-9223372036854775808<=y.a/\y.a<=9223372036854775807)/\(-9223372036854775808<=y.b/\y.b<=9223372036854775807):=by
 have hs:(prog.fieldsOf 85).size=4:=by kernel_rfl
 obtain⟨a0,len,cap,hcs,hlen,hcap,hi⟩:=Jc (ts:=22) (t:=85) (fs:=prog.fieldsOf 85) (by kernel_rfl) (by kernel_rfl) (by kernel_rfl) (by kernel_rfl) (by rw[hs];decide) hf;rw[hs]at hi
 obtain⟨l,hl,hq⟩:=Qf (Q:=fun i (s:zm)=>(∃b off,a0=some ⟨b,off,none⟩/\b<W.heap.size/\W.cell? ⟨b,off+i*4,none⟩=some (.int .i64 s.op)/\W.cell? ⟨b,off+i*4+1,none⟩=some (.int .i64 s.a)/\W.cell? ⟨b,off+i*4+2,none⟩=some (.int .i64 s.b)/\W.cell? ⟨b,off+i*4+3,none⟩=some (.int .i64 s.c))/\((-9223372036854775808<=s.a/\s.a<=9223372036854775807)/\(-9223372036854775808<=s.b/\s.b<=9223372036854775807))) len (by
  intro i hilt;obtain⟨b,off,ha,hb,cs',hc,hT⟩:=hi i hilt;obtain⟨n0,x0,h0⟩:=hT 0 3 (by kernel_rfl);obtain⟨z0,e0,_⟩:=DataW.trod_int Tryz.underlying3 h0;have c0:=(hc 0 (by decide)).trans (Yp e0);obtain⟨n1,x1,h1⟩:=hT 1 3 (by kernel_rfl);obtain⟨z1,e1,w1⟩:=DataW.trod_int Tryz.underlying3 h1;have c1:=(hc 1 (by decide)).trans (Yp e1);obtain⟨n2,x2,h2⟩:=hT 2 3 (by kernel_rfl);obtain⟨z2,e2,w2⟩:=DataW.trod_int Tryz.underlying3 h2;have c2:=(hc 2 (by decide)).trans (Yp e2);obtain⟨n3,x3,h3⟩:=hT 3 3 (by kernel_rfl);obtain⟨z3,e3,_⟩:=DataW.trod_int Tryz.underlying3 h3;have c3:=(hc 3 (by decide)).trans (Yp e3)
  exact⟨⟨z0,z1,z2,z3⟩,⟨b,off,ha,hb,c0,c1,c2,c3⟩,⟨Ej (by simp_all),Ej (by simp_all)⟩⟩)
 exact⟨l,a0,cap,by rw[hl];exact hcs,fun i hi=>(hq i hi).1,by omega,by omega,fun y hy=>by
  obtain⟨i,hi,rfl⟩:=List.getElem_of_mem hy
  exact(hq i hi).2⟩
theorem QS{v:Value}{r:Reach}{base:Nat}{d:DataW H}{ps:List MemPlace}(hv:Value.okWide prog W r base 25 v)(h:DataW.Trod enc prog W 0 (fun _=>true) true 25 v d ps):
  ∃(u:zg) (ca:Option Addr) (cc:Nat) (ga:Option Addr) (gc:Nat),v=vU u ca cc ga gc/\jo W u ca cc ga gc/\∀y∈u.code,(-9223372036854775808<=y.a/\y.a<=9223372036854775807)/\(-9223372036854775808<=y.b/\y.b<=9223372036854775807):=by
 have hu:prog.underlying 25=some (.struct (prog.fieldsOf 25)):=by kernel_rfl
 obtain⟨cs,rfl,hsz⟩:=okWide_struct hu hv;have h5:prog.cellsOf 25=7:=by kernel_rfl
 rw[h5]at hsz;obtain⟨fuel,hf⟩:=h;have hz0:=Q0 hu (by kernel_rfl) hf
 have hz:∀j T,((prog.fieldsOf 25)[j]?).map (·.type)=some T->∃n x,DataW.trod enc prog W 0 (fun _=>true) true n T ((cs.toList.drop j).take 1)=some x:=by
  intro j T hT
  cases hj:(prog.fieldsOf 25)[j]? with
  |none=>rw[hj]at hT;cases hT
  |some f=>
   rw[hj]at hT;cases hT;exact hz0 j f hj
 obtain⟨l⟩:=cs;obtain⟨n0,x0,h0⟩:=hz 0 9 (by kernel_rfl);obtain⟨n1,x1,h1⟩:=hz 1 9 (by kernel_rfl);obtain⟨n2,x2,h2⟩:=hz 2 3 (by kernel_rfl);obtain⟨n3,x3,h3⟩:=hz 3 3 (by kernel_rfl);obtain⟨n4,x4,h4⟩:=hz 4 3 (by kernel_rfl);obtain⟨n5,x5,h5'⟩:=hz 5 22 (by kernel_rfl);obtain⟨n6,x6,h6⟩:=hz 6 23 (by kernel_rfl);clear hf hz hz0;obtain⟨z0,e0,_⟩:=DataW.trod_string Tryz.underlying9 h0;obtain⟨z1,e1,_⟩:=DataW.trod_string Tryz.underlying9 h1;obtain⟨z2,e2,_⟩:=DataW.trod_int Tryz.underlying3 h2;obtain⟨z3,e3,_⟩:=DataW.trod_int Tryz.underlying3 h3;obtain⟨z4,e4,_⟩:=DataW.trod_int Tryz.underlying3 h4;obtain⟨C,ca,ck,e5,p5,_,q5,t5⟩:=Dt h5';obtain⟨G,ga,gk,e6,p6,_,q6⟩:=LP h6
 match l,hsz with
 | [c0,c1,c2,c3,c4,c5,c6],_=>
  have g0:=(List.cons.inj (show [c0]= [Value.string z0]from e0)).1;have g1:=(List.cons.inj (show [c1]= [Value.string z1]from e1)).1;have g2:=(List.cons.inj (show [c2]= [Value.int .i64 z2]from e2)).1;have g3:=(List.cons.inj (show [c3]= [Value.int .i64 z3]from e3)).1;have g4:=(List.cons.inj (show [c4]= [Value.int .i64 z4]from e4)).1;have g5:=(List.cons.inj (show [c5]= [Value.slice ca C.length ck]from e5)).1;have g6:=(List.cons.inj (show [c6]= [Value.slice ga G.length gk]from e6)).1;clear e0 e1 e2 e3 e4 e5 e6;subst g0 g1 g2 g3 g4 g5 g6;exact⟨⟨z0,z1,z2,z3,z4,C,G⟩,ca,ck,ga,gk,rfl,⟨p5,p6,q5,q6⟩,t5⟩
end
end Go.Proofs.YtgalekifgnecjaaGreat
