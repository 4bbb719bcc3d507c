/- The reader's group of package regs: what lies in memory while it goes on -/
import Derived.Test.YtgalekifgnecjaaGreatT18
import Derived.Test.YtgalekifgnecjaaGreatT17
import Derived.Test.YtgalekifgnecjaaGreatT10
import Derived.BigQuiet
namespace Go.Proofs.YtgalekifgnecjaaGreat
open Tryz Go.RowKit
open Go.RowKit Go.Shelf
set_option maxHeartbeats 60000000
set_option maxRecDepth 100000
theorem yC.kept{w w':World}{a:Option Addr}{l:List Int}{row:Option Nat}(h:yC w a l)(hg:w.grownBy w' row)(hn:∀b off,a=some ⟨b,off,none⟩->some b≠row):yC w' a l:=by
 intro i hi;obtain⟨b,off,ha,hlt,hc⟩:=h i hi;refine⟨b,off,ha,xh hlt hg.size,?_⟩;rw[<-hc];unfold World.cell?;rw[hg.block b hlt (hn b off ha)]
def LO(u v:zg)(live:List (List Int))(h at':List Int)(g:xd)(lm:Nat×List (Int×Int)):Option Nat:=
 (jC u v h at' lm.2 (zU u live g) g.frm (g.til+1-g.frm) lm.1).bind fun b=>
  if 0<=g.wr/\zh h g.wr<= -2 then jY v b (xx (-2-zh h g.wr) ((v.code.getD (b-1) zw).a))else some b
theorem EB{u v:zg}{live:List (List Int)}{h at':List Int}{a:Nat}{g:xd}(h1:at'.getD g.frm 0=(a:Int)):
  ql u v live h at' a g=(vL v h g.reads (yj u live g) (v.code.length+1) a [] []).bind (LO u v live h at' g):=zj h1
theorem DQ{u v:zg}{live:List (List Int)}{h at':List Int}{a:Nat}{g:xd}(h1:at'.getD g.frm 0≠(a:Int)):ql u v live h at' a g=none:=zi h1
structure Sb(w0 w wa:World)(x:YK)(b1 b4 b6 bm bh:Nat)(na:Option Addr)(nc:Nat)(N:List Int)(nb:Option Addr)(ncb:Nat)(NB:List Int):Prop where
 z0:w0.heap.size<b1
 z1:b1=w.heap.size/\b1+2=wa.heap.size
 z4:wa.heap.size<=b4/\b4<bm
 z6:bm<b6/\b6<bh
 zN:∀b,(Value.slice na N.length nc).ownBlock=some b->b<bm
 zB:∀b,(Value.slice nb NB.length ncb).ownBlock=some b->b<bm
 zR:∀b off,x.a=some ⟨b,off,none⟩->b<b1/\b≠w0.heap.size
structure JR(w0 w wa:World)(r:qF)(x:YK)(b1 b4 b6 bm bh:Nat)(na:Option Addr)(nc:Nat)(N:List Int)(nb:Option Addr)(ncb:Nat)(NB:List Int)(a:Nat)(S:List Int)(L:List (Int×Int))(W:World):Prop where
 hi:RI w0 r a W
 hg:w.grownBy W (some w0.heap.size)
 h1:W.heap[b1]?=some (.cells #[.pointer (some ⟨w0.heap.size,0,none⟩)] 177)
 h2:W.heap[b1+1]?=some (.cells #[.int .i64 x.g.frm,.int .i64 x.g.til,.slice x.a x.g.reads.length x.c,.int .i64 x.g.wr] 107)
 h4:W.heap[b4]?=some (.cells #[.slice na N.length nc] 28)
 h6:W.heap[b6]?=some (.cells #[.map (some bm)] 120)
 hN:zu W wa.heap.size (.slice na N.length nc) N
 hB:zu W wa.heap.size (.slice nb NB.length ncb) NB
 hR:yC W x.a x.g.reads
 hM:xe xU W bm L
 hH:yW W bh S
section
variable {w0 w wa:World} {r:qF} {x:YK} {b1 b4 b6 bm bh:Nat} {na:Option Addr} {nc:Nat} {N:List Int} {nb:Option Addr} {ncb:Nat} {NB:List Int} {a:Nat} {S:List Int} {L:List (Int×Int)} {W W':World}
theorem JR.below(h:JR w0 w wa r x b1 b4 b6 bm bh na nc N nb ncb NB a S L W)(hb:Below W.heap.size W W'):JR w0 w wa r x b1 b4 b6 bm bh na nc N nb ncb NB a S L W':=
 ⟨h.hi.below hb,qB h.hg hb,zb hb h.h1,zb hb h.h2,zb hb h.h4,zb hb h.h6,zu.later h.hN hb,zu.later h.hB hb,h.hR.below hb,h.hM.below hb,h.hH.below hb⟩
theorem JR.next(h:JR w0 w wa r x b1 b4 b6 bm bh na nc N nb ncb NB a S L W)(z:Sb w0 w wa x b1 b4 b6 bm bh na nc N nb ncb NB){a':Nat}(hi:RI w0 r a' W')(hg:W.grownBy W' (some w0.heap.size)):JR w0 w wa r x b1 b4 b6 bm bh na nc N nb ncb NB a' S L W':=by
 have z0:=z.z0;have z1:=z.z1;have z4:=z.z4;have z6:=z.z6;have kb:∀ {b:Nat} {o:Obj},W.heap[b]?=some o->w0.heap.size<b->W'.heap[b]?=some o:=fun h1 h2=>jG hg h1 (fun e=>by cases e;omega)
 exact⟨hi,h.hg.andThen hg (fun j e=> .inr e),kb h.h1 z0,kb h.h2 (by omega),kb h.h4 (by omega),kb h.h6 (by omega),
  h.hN.kept hg (fun b hb e=>by cases e;have:=zy h.hN _ hb;omega),h.hB.kept hg (fun b hb e=>by cases e;have:=zy h.hB _ hb;omega),
  h.hR.kept hg (fun b off ha e=>by cases e;exact(z.zR _ _ ha).2 rfl),h.hM.kept hg (fun e=>by cases e;omega),h.hH.kept hg (fun e=>by cases e;omega)⟩
theorem JR.putH(h:JR w0 w wa r x b1 b4 b6 bm bh na nc N nb ncb NB a S L W)(z:Sb w0 w wa x b1 b4 b6 bm bh na nc N nb ncb NB){S':List Int}(hH:yW W' bh S')(hg:W.grownBy W' (some bh)):JR w0 w wa r x b1 b4 b6 bm bh na nc N nb ncb NB a S' L W':=by
 have z0:=z.z0;have z1:=z.z1;have z4:=z.z4;have z6:=z.z6;have kb:∀ {b:Nat} {o:Obj},W.heap[b]?=some o->b≠bh->W'.heap[b]?=some o:=fun h1 h2=>jG hg h1 (fun e=>by cases e;exact h2 rfl)
 exact⟨h.hi.grown hg (fun k e=>by cases e;omega),h.hg.andThen hg (fun j e=>by cases e;exact .inl (by omega)),kb h.h1 (by omega),kb h.h2 (by omega),kb h.h4 (by omega),kb h.h6 (by omega),
  h.hN.kept hg (fun b hb e=>by cases e;have:=z.zN _ hb;omega),h.hB.kept hg (fun b hb e=>by cases e;have:=z.zB _ hb;omega),
  h.hR.kept hg (fun b off ha e=>by cases e;have:=(z.zR _ _ ha).1;omega),h.hM.kept hg (fun e=>by cases e;omega),hH⟩
theorem JR.putM(h:JR w0 w wa r x b1 b4 b6 bm bh na nc N nb ncb NB a S L W)(z:Sb w0 w wa x b1 b4 b6 bm bh na nc N nb ncb NB){L':List (Int×Int)}(hM:xe xU W' bm L')(hg:W.grownBy W' (some bm)):JR w0 w wa r x b1 b4 b6 bm bh na nc N nb ncb NB a S L' W':=by
 have z0:=z.z0;have z1:=z.z1;have z4:=z.z4;have z6:=z.z6;have kb:∀ {b:Nat} {o:Obj},W.heap[b]?=some o->b≠bm->W'.heap[b]?=some o:=fun h1 h2=>jG hg h1 (fun e=>by cases e;exact h2 rfl)
 exact⟨h.hi.grown hg (fun k e=>by cases e;omega),h.hg.andThen hg (fun j e=>by cases e;exact .inl (by omega)),kb h.h1 (by omega),kb h.h2 (by omega),kb h.h4 (by omega),kb h.h6 (by omega),
  h.hN.kept hg (fun b hb e=>by cases e;have:=z.zN _ hb;omega),h.hB.kept hg (fun b hb e=>by cases e;have:=z.zB _ hb;omega),
  h.hR.kept hg (fun b off ha e=>by cases e;have:=(z.zR _ _ ha).1;omega),hM,h.hH.kept hg (fun e=>by cases e;omega)⟩
theorem JR.cells(h:JR w0 w wa r x b1 b4 b6 bm bh na nc N nb ncb NB a S L W):
  W.cell? ⟨b1,0,none⟩=some (.pointer (some ⟨w0.heap.size,0,none⟩))/\W.cell? ⟨b1+1,0,none⟩=some (.int .i64 x.g.frm)/\W.cell? ⟨b1+1,1,none⟩=some (.int .i64 x.g.til)/\W.cell? ⟨b1+1,2,none⟩=some (.slice x.a x.g.reads.length x.c)/\W.cell? ⟨b1+1,3,none⟩=some (.int .i64 x.g.wr) /\
  W.cell? ⟨b4,0,none⟩=some (.slice na N.length nc)/\W.cell? ⟨b6,0,none⟩=some (.map (some bm)):=by
 obtain⟨q0,q1,q2,q3⟩:=zX h.h2;exact⟨qZ h.h1,q0,q1,q2,q3,qZ h.h4,qZ h.h6⟩
end
theorem RI.k17{w0 w:World}{r:qF}{a:Nat}(h:RI w0 r a w):w.cell? ⟨w0.heap.size,17,none⟩=some (.int .i64 a):=(zA _ _ 17 _ _ _ h.hr).trans rfl
theorem RI.k11{w0 w:World}{r:qF}{a:Nat}(h:RI w0 r a w):w.cell? ⟨w0.heap.size,11,none⟩=some (.int .i64 r.v.slots):=(zA _ _ 11 _ _ _ h.hr).trans rfl
theorem RI.k13{w0 w:World}{r:qF}{a:Nat}(h:RI w0 r a w):w.cell? ⟨w0.heap.size,13,none⟩=some (.slice r.da r.v.code.length r.dc):=(zA _ _ 13 _ _ _ h.hr).trans rfl
theorem RI.k15{w0 w:World}{r:qF}{a:Nat}(h:RI w0 r a w):w.cell? ⟨w0.heap.size,15,none⟩=some (.slice r.ha r.h.length r.hc):=(zA _ _ 15 _ _ _ h.hr).trans rfl
theorem RI.k16{w0 w:World}{r:qF}{a:Nat}(h:RI w0 r a w):w.cell? ⟨w0.heap.size,16,none⟩=some (.slice r.ta r.t.length r.tc):=(zA _ _ 16 _ _ _ h.hr).trans rfl
theorem RI.k5{w0 w:World}{r:qF}{a:Nat}(h:RI w0 r a w):w.cell? ⟨w0.heap.size,5,none⟩=some (.slice r.ca r.u.code.length r.cc):=(zA _ _ 5 _ _ _ h.hr).trans rfl
theorem RI.k7{w0 w:World}{r:qF}{a:Nat}(h:RI w0 r a w):w.cell? ⟨w0.heap.size,7,none⟩=some (.slice r.va (zf r.u).length r.vc):=(zA _ _ 7 _ _ _ h.hr).trans rfl
theorem J6{w0:World}{r:qF}{a:Nat}{w:World}{x:zm}(hm:Xs w0 r)(h:RI w0 r a w)(ha:a<=1000000)(hx:r.v.code[a]?=some x):
  Calls prog 217 #[.pointer (some ⟨w0.heap.size,0,none⟩)] w (fun e w'=>e= .returned (vI x)/\RI w0 r (a+1) w'/\w.grownBy w' (some w0.heap.size)):=by
 refine(GG w0 r a w hm h ha).mono ?_;rintro e w' ⟨hg,hx2⟩;rw[hx]at hx2;exact⟨hx2.1,hx2.2,hg⟩
theorem Ud{w0:World}{r:qF}{a:Nat}{w:World}(hm:Xs w0 r)(h:RI w0 r a w)(ha:a<=1000000)(hx:r.v.code[a]?=none):
  Calls prog 217 #[.pointer (some ⟨w0.heap.size,0,none⟩)] w (fun e w'=>e= .panicked jr/\w.grownBy w' (some w0.heap.size)):=by
 refine(GG w0 r a w hm h ha).mono ?_;rintro e w' ⟨hg,hx2⟩;rw[hx]at hx2;exact⟨hx2,hg⟩
theorem J5{w:World}{base:Nat}{v:Value}{l:List Int}(h:zu w base v l):∀b,v.ownBlock=some b->b<w.heap.size:=by
 intro b hb;rcases h.2 with ⟨e1,_⟩|⟨g,cap,cur,e1,_,hh,_⟩
 ·rw[e1]at hb
  cases hb
 ·rw[e1]at hb
  cases hb;exact ze hh
theorem EH{l:List Int}{p:Int->Bool}:(0<(l.filter p).length)↔l.any p=true:=by
 rw[List.length_pos_iff,ne_eq,List.filter_eq_nil_iff,v_];constructor
 ·intro h
  by_cases hx:∃x∈l,p x=true
  ·exact hx
  ·exact absurd (fun x hx2 hp=>hx ⟨x,hx2,hp⟩) h
 ·rintro⟨x,hx,hp⟩ h
  exact h x hx hp
theorem O0{u v:zg}{h at':List Int}{m:List (Int×Int)}{behind:List Int}{frm a n:Nat}(hn:jC u v h at' m behind frm n a=none):∀ {k:Nat},n<=k->jC u v h at' m behind frm k a=none
 |0,h0=>by
  obtain rfl:n=0:=by omega
  exact hn
 |k+1,h0=>by
  by_cases e:n=k+1
  ·rw[<-e];exact hn
  ·unfold jC
   rw[O0 hn (show n<=k by omega)];rfl
theorem OZ{u v:zg}{h at':List Int}{m:List (Int×Int)}{behind:List Int}{frm a b n:Nat}(hn:jC u v h at' m behind frm n a=some b):jC u v h at' m behind frm (n+1) a=qW u v h at' m behind frm (frm+n) b:=by
 unfold jC;rw[hn];rfl
theorem Dw{u v:zg}{h at':List Int}{m:List (Int×Int)}{behind:List Int}{frm i a:Nat}(hc:¬(i=frm\/at'.getD i 0=(a:Int))):qW u v h at' m behind frm i a=none:=by
 unfold qW
 cases v.code[a]? with
 |none=>rfl
 |some x=>exact zi (fun h=>hc h.1)
theorem En{u v:zg}{h at':List Int}{m:List (Int×Int)}{behind:List Int}{frm i a:Nat}(hc:v.code[a]?=none):qW u v h at' m behind frm i a=none:=by
 unfold qW;rw[hc]
theorem Du{u v:zg}{h at':List Int}{m:List (Int×Int)}{behind:List Int}{frm i a:Nat}{y:zm}(hc:v.code[a]?=some y)
  (hr:¬((∀s∈zp (u.code.getD i zw),(xG h m s).isSome=true)/\(0<=zc (u.code.getD i zw)->(qH v h behind y (zc (u.code.getD i zw))).isSome=true))):qW u v h at' m behind frm i a=none:=by
 unfold qW;rw[hc];exact zi (fun h=>hr ⟨fun s hs=>yL.1 h.2.1 s hs,h.2.2.1⟩)
theorem Dv{u v:zg}{h at':List Int}{m:List (Int×Int)}{behind:List Int}{frm i a:Nat}{y z:zm}(hc:v.code[a]?=some y)(hz:z=zY (u.code.getD i zw) (fun s=>(xG h m s).getD 0) (fun s=>(qH v h behind y s).getD 0))(hne:y≠yK at' z):qW u v h at' m behind frm i a=none:=by
 unfold qW;rw[hc];exact zi (fun h=>hne (by rw[hz];exact h.2.2.2))
theorem Em{u v:zg}{h at':List Int}{m:List (Int×Int)}{behind:List Int}{frm i a:Nat}{y z:zm}(hc:v.code[a]?=some y)(h1:i=frm\/at'.getD i 0=(a:Int))
  (hr:(∀s∈zp (u.code.getD i zw),(xG h m s).isSome=true)/\(0<=zc (u.code.getD i zw)->(qH v h behind y (zc (u.code.getD i zw))).isSome=true))
  (hz:z=zY (u.code.getD i zw) (fun s=>(xG h m s).getD 0) (fun s=>(qH v h behind y s).getD 0)) (he:y=yK at' z):qW u v h at' m behind frm i a=some (a+1):=by
 unfold qW;rw[hc];exact zj ⟨h1,yL.2 hr.1,hr.2,by rw[<-hz];exact he⟩
theorem FO(x:zm)(rd wr:Int->Int):(zY x rd wr).op=x.op:=by
 unfold zY;split
 ·rfl
 ·split
  ·rfl
  ·split<;>rfl
theorem Ow(x:zm)(rd wr:Int->Int):zQ (zY x rd wr)=zQ x:=by
 unfold zQ;rw[FO]
 cases h24:(x.op==24)with
 |true=>
  have e:x.op=24:=by simpa using h24
  rw[zj rfl,zj rfl];unfold zY;rw[e,zi (by decide),zi (by decide),zi (by decide)];have hf:(zM 24).wr=0:=by decide
  have hw:¬0<=zc x:=by unfold zc;rw[e,zj hf];omega
  rw[zi hw]
 |false=>
  simp only[XH,if_false]
  cases h2:(x.op==25||x.op==32)with
  |false=>rfl
  |true=>
   simp only[if_true]
   have hA:V4.contains x.op=true:=by
    simp only[jV,qE]at h2;rcases h2 with e|e<;>rw[e]<;>decide
   unfold zY;rw[zj hA]
theorem F9{u:zg}(hp:zJ u=true){t:Nat}(ht:t<u.code.length){p:Int}(h:zQ u.code[t]=some p):0<=p/\p<u.code.length:=by
 refine Zm hp ht p ?_;rw[Zn,qs,zk ht];right;rw[h];exact qf.2 rfl
section
variable {w0 w wa:World} {r:qF} {x:YK} {b1 b4 b6 bm bh:Nat} {na:Option Addr} {nc:Nat} {N:List Int} {nb:Option Addr} {ncb:Nat} {NB:List Int} {a:Nat} {S:List Int} {L:List (Int×Int)} {W W':World}
theorem JR.own(h:JR w0 w wa r x b1 b4 b6 bm bh na nc N nb ncb NB a S L W)(z:Sb w0 w wa x b1 b4 b6 bm bh na nc N nb ncb NB){c:Nat}(hc:bh<c)(hg:W.grownBy W' (some c)):JR w0 w wa r x b1 b4 b6 bm bh na nc N nb ncb NB a S L W':=by
 have z0:=z.z0;have z1:=z.z1;have z4:=z.z4;have z6:=z.z6;have kb:∀ {b:Nat} {o:Obj},W.heap[b]?=some o->b≠c->W'.heap[b]?=some o:=fun h1 h2=>jG hg h1 (fun e=>by cases e;exact h2 rfl)
 exact⟨h.hi.grown hg (fun k e=>by cases e;omega),h.hg.andThen hg (fun j e=>by cases e;exact .inl (by omega)),kb h.h1 (by omega),kb h.h2 (by omega),kb h.h4 (by omega),kb h.h6 (by omega),
  h.hN.kept hg (fun b hb e=>by cases e;have:=z.zN _ hb;omega),h.hB.kept hg (fun b hb e=>by cases e;have:=z.zB _ hb;omega),
  h.hR.kept hg (fun b off ha e=>by cases e;have:=(z.zR _ _ ha).1;omega),h.hM.kept hg (fun e=>by cases e;omega),h.hH.kept hg (fun e=>by cases e;omega)⟩
end
theorem MR(t:List Int)(A B C:Int):yK t ⟨24,A,B,C⟩=⟨24,t.getD A.toNat 0,B,C⟩:=rfl
theorem PG(t:List Int){op:Int}(h:op=25\/op=32)(A B C:Int):yK t ⟨op,A,B,C⟩=⟨op,A,t.getD B.toNat 0,C⟩:=by
 rcases h with rfl|rfl<;>rfl
theorem MQ(t:List Int){x:zm}(h1:x.op≠24)(h2:x.op≠25)(h3:x.op≠32):yK t x=x:=by
 unfold yK;rw[zi (by simpa using h1),zi (by simp[h2,h3])]
attribute [local go_sem] Oper.semAt_some
attribute [local irreducible] wpStill
theorem IY(w0:World)(r:qF)(a:Nat)(x:YK)(w:World)(hm:Xs w0 r)(h:RI w0 r a w)(hw:zC r.u=true)(hx:x.g∈yg r.u)(hr:yC w x.a x.g.reads)(hxb:∀b off,x.a=some ⟨b,off,none⟩->b<w.heap.size/\b≠w0.heap.size)(hom:qk r.u r.v r.h r.t=true)(ha:a<=1000)(hvb:∀y∈r.v.code,-9223372036854775808<=y.b/\y.b<=9223372036854775807):
  Calls prog 184 #[.pointer (some ⟨w0.heap.size,0,none⟩),NV x] w (RP w0 r (ql r.u r.v (zf r.u) r.h r.t a x.g) w):=by
 have hok:=jq hw hx;have hho:=O7 hw hom;have hn6:=qA hw;have hgo:=yq r.u;have hg40:=(z8 (zH hw)).2.2.1;have HM:=za hm;have HVB:=za hvb;have HR:=za hr;have HXB:=za hxb;have HOM:=za hho;have HOK:=za hok;have HWT:=za hw;have HGO:=za hgo;have htil:=hok.lt;have hfrm:=hok.le;have hlt0:=ze h.hr
 have HI:=za (show Sc w0 r a w.heap.size (w.heap.size+1) x ((w.alloc (.cells #[.pointer (some ⟨w0.heap.size,0,none⟩)] 177)).alloc (.cells #[.int .i64 x.g.frm,.int .i64 x.g.til,.slice x.a x.g.reads.length x.c,.int .i64 x.g.wr] 107))from
  ⟨h.below ((zd _ _).step (zd _ _)),zb (zd _ _) (zo _ _ _ rfl),zo _ _ _ (by simp)⟩)
 obtain⟨o,ho⟩:∃o,o=ql r.u r.v (zf r.u) r.h r.t a x.g:=⟨_,rfl⟩
 rw[<-ho];have HO:=za ho;clear ho hm hvb h hr hxb hom hok hx hho hw hgo;obtain⟨wa,hwa⟩:∃wa,wa=(w.alloc (.cells #[.pointer (some ⟨w0.heap.size,0,none⟩)] 177)).alloc (.cells #[.int .i64 x.g.frm,.int .i64 x.g.til,.slice x.a x.g.reads.length x.c,.int .i64 x.g.wr] 107):=⟨_,rfl⟩
 obtain⟨b1,hb1⟩:∃b,b=w.heap.size:=⟨_,rfl⟩
 rw[<-hwa,<-hb1]at HI;have HWA:Hid (Below w.heap.size w wa):=za (by rw[hwa];exact(zd _ _).step (zd _ _));have HZ0:Hid (w0.heap.size<b1/\b1=w.heap.size/\b1+2=wa.heap.size):=za (by rw[hwa,hb1];simp;exact hlt0);clear hlt0;have HNX:=za (fun(w':World) (hb:Below w0.heap.size w0 w')=>Ue r.u x.g.til htil hn6 (by omega) r.ca r.cc r.ga r.gc r.va (zf r.u).length r.vc w' (HM.out.below hb).mu);have HND:=za (fun(pa:Option Addr) (pc:Nat) (w':World) (hb:Below w0.heap.size w0 w') (hr:yC w' pa (Zc r.u x.g.til))=>YC r.u r.ca r.cc r.ga r.gc (zf r.u) r.va r.vc (Zc r.u x.g.til) pa pc w' (HM.out.below hb).ml hr (by rw[HGO.out.len];exact ON (zH HWT.out) htil) (by have:=Qq r.u x.g.til;omega) (qJ HWT.out));go_enter func184,ntmps184;go_upto_region 1 with fail;rw[<-hb1,<-hwa];clear hwa hb1;have c1:=qZ HI.out.h1;obtain⟨g0,g1,g2,g3⟩:=zX HI.out.h2
 have kk:∀k v,(#[.string r.u.cls,.string r.u.name,.int .i64 r.u.args,.int .i64 r.u.slots,.int .i64 r.u.frame,.slice r.ca r.u.code.length r.cc,.slice r.ga r.u.guards.length r.gc,.slice r.va (zf r.u).length r.vc,
 .string r.v.cls,.string r.v.name,.int .i64 r.v.args,.int .i64 r.v.slots,.int .i64 r.v.frame,.slice r.da r.v.code.length r.dc,.slice r.ea r.v.guards.length r.ec,.slice r.ha r.h.length r.hc,.slice r.ta r.t.length r.tc,Value.int .i64 a]:Array Value)[k]?=some v->wa.cell? ⟨w0.heap.size,k,none⟩=some v:=fun k v hk=>(zA _ _ k _ _ _ HI.out.hi.hr).trans hk
 have k0:=kk 0 _ rfl;have k1:=kk 1 _ rfl;have k2:=kk 2 _ rfl;have k3:=kk 3 _ rfl;have k4:=kk 4 _ rfl;have k5:=kk 5 _ rfl;have k6:=kk 6 _ rfl;have k7:=kk 7 _ rfl;clear kk;obtain⟨N,hN⟩:∃N,N=zU r.u (zf r.u) x.g:=⟨_,rfl⟩
 have HNN:=za hN;rw[show qV (zf r.u) (Zc r.u x.g.til)=N from hN.symm]at HND;clear hN;have HS:Hid (∀W,Below wa.heap.size wa W->W.cell? ⟨b1,0,none⟩=some (.pointer (some ⟨w0.heap.size,0,none⟩))/\W.cell? ⟨b1+1,1,none⟩=some (.int .i64 x.g.til)/\W.cell? ⟨w0.heap.size,0,none⟩=some (.string r.u.cls)/\W.cell? ⟨w0.heap.size,1,none⟩=some (.string r.u.name)/\W.cell? ⟨w0.heap.size,2,none⟩=some (.int .i64 r.u.args)/\W.cell? ⟨w0.heap.size,3,none⟩=some (.int .i64 r.u.slots)/\W.cell? ⟨w0.heap.size,4,none⟩=some (.int .i64 r.u.frame)/\W.cell? ⟨w0.heap.size,5,none⟩=some (.slice r.ca r.u.code.length r.cc)/\W.cell? ⟨w0.heap.size,6,none⟩=some (.slice r.ga r.u.guards.length r.gc)/\W.cell? ⟨w0.heap.size,7,none⟩=some (.slice r.va (zf r.u).length r.vc)):=za (fun W hb=>⟨zK hb c1,zK hb g1,zK hb k0,zK hb k1,zK hb k2,zK hb k3,zK hb k4,zK hb k5,zK hb k6,zK hb k7⟩);go_cut [4]from 19 to 30 (fun s4 wy=>∃(b4:Nat) (na:Option Addr) (nc:Nat),s4= .pointer (some ⟨b4,0,none⟩)/\Hid (wy.heap[b4]?=some (.cells #[.slice na N.length nc] 28))/\Hid (zu wy wa.heap.size (.slice na N.length nc) N)/\Hid (Below wa.heap.size wa wy/\wa.heap.size<=b4))
 case first=>as_aux_lemma=>
  clear c1 g0 g1 g2 g3 k0 k1 k2 k3 k4 k5 k6 k7;have HB0:=za (HI.out.hi.hb.step (zt wa));have HB0a:=za ((HI.out.hi.hb.step (zd wa (.cells #[.slice none 0 0] 28))).step (zt _))
  go_region_held3 (fun W=>W.cell? ⟨b1,0,none⟩=some (.pointer (some ⟨w0.heap.size,0,none⟩))/\W.cell? ⟨b1+1,1,none⟩=some (.int .i64 x.g.til)/\W.cell? ⟨w0.heap.size,0,none⟩=some (.string r.u.cls)/\W.cell? ⟨w0.heap.size,1,none⟩=some (.string r.u.name)/\W.cell? ⟨w0.heap.size,2,none⟩=some (.int .i64 r.u.args)/\W.cell? ⟨w0.heap.size,3,none⟩=some (.int .i64 r.u.slots)/\W.cell? ⟨w0.heap.size,4,none⟩=some (.int .i64 r.u.frame)/\W.cell? ⟨w0.heap.size,5,none⟩=some (.slice r.ca r.u.code.length r.cc)/\W.cell? ⟨w0.heap.size,6,none⟩=some (.slice r.ga r.u.guards.length r.gc)/\W.cell? ⟨w0.heap.size,7,none⟩=some (.slice r.va (zf r.u).length r.vc))
   (first|exact HS.out _ (zt _)|exact HS.out _ ((zd _ _).step (zt _))|exact HS.out _ hb8|exact HS.out _ (hb8.step (zd _ _))|exact HS.out _ hb7|exact HS.out _ (hb7.step (zd _ _))|exact HS.out _ (zG _ _)|exact HS.out _ (hb8.setCell (p:=⟨_,0,none⟩) (by first|exact zI _|exact hb7.size) _))
   (first
    |(go_at_call 106;(with_reducible refine(HNX.out _ HB0.out).mono ?_);rintro e w7 ⟨hb,v7,rfl,ho7⟩;obtain⟨pa,pc,rfl,hr7⟩:=ho7.rd;have hb7:=(zt wa).step hb;have HO7:=za ho7;have HR7:=za hr7;clear hb ho7 hr7)
    |(go_at_call 106;(with_reducible refine(HNX.out _ HB0a.out).mono ?_);rintro e w7 ⟨hb,v7,rfl,ho7⟩;obtain⟨pa,pc,rfl,hr7⟩:=ho7.rd;have T7:=za (zb (w:=(wa.alloc (.cells #[.slice none 0 0] 28)).drew) hb (zo wa (.cells #[.slice none 0 0] 28) _ rfl));have t7:=qZ T7.out;have f7:World.frozen? _ ⟨_,0,none⟩=false:=YF T7.out;have hb7:=((zd wa (.cells #[.slice none 0 0] 28)).step (zt _)).step hb;have HO7:=za ho7;have HR7:=za hr7;have ZA:=za (ze T7.out);clear hb ho7 hr7)
    |(go_at_call 72;(with_reducible refine(HND.out pa pc _ (HI.out.hi.hb.step hb7) HR7.out).mono ?_);rintro e w8 ⟨hb,v8,rfl,ho8⟩;obtain⟨sa,sc,rfl,hrs⟩:=ho8.rd;have T8:=za (zb hb T7.out);have t8:=qZ T8.out;have f8:World.frozen? _ ⟨_,0,none⟩=false:=YF T8.out;have hb8:=hb7.step hb;have HO8:=za ho8;clear hb ho8 hrs)
    |(go_at_call 72;(with_reducible refine(HND.out pa pc _ (HI.out.hi.hb.step hb7) HR7.out).mono ?_);rintro e w8 ⟨hb,v8,rfl,ho8⟩;obtain⟨sa,sc,rfl,hrs⟩:=ho8.rd;have hb8:=hb7.step hb;have HO8:=za ho8;clear hb ho8 hrs)
    |(go_at_call 72;(with_reducible refine(HND.out pa pc _ ((HI.out.hi.hb.step hb7).step (zd w7 (.cells #[.slice none 0 0] 28))) (HR7.out.below (zd _ _))).mono ?_);rintro e w8 ⟨hb,v8,rfl,ho8⟩;obtain⟨sa,sc,rfl,hrs⟩:=ho8.rd;have T8:=za (zb hb (zo w7 (.cells #[.slice none 0 0] 28) _ rfl));have t8:=qZ T8.out;have f8:World.frozen? _ ⟨_,0,none⟩=false:=YF T8.out;have hb8:=(hb7.step (zd w7 (.cells #[.slice none 0 0] 28))).step hb;have HO8:=za ho8;clear hb ho8 hrs))
  all_goals
   go_wp2_with fail;go_meet
   first
    |exact⟨wa.heap.size,sa,sc,rfl,za (yk _ _ 0 _ _ _ T8.out),za (zu.mono (HO8.out.kept (YO (row:=some wa.heap.size) (b:=wa.heap.size) (vv _ _) 0 _ (.inl rfl)) (fun b hb e=>by cases e;have h1:=zy HO8.out _ hb;have h2:=ZA.out;omega)) (by have:=hb7.size;omega)),za ⟨hb8.setCell (p:=⟨wa.heap.size,0,none⟩) (zI _) _,zI _⟩⟩
    |exact⟨w7.heap.size,sa,sc,rfl,za (yk _ _ 0 _ _ _ T8.out),za (zu.mono (HO8.out.kept (YO (row:=some w7.heap.size) (b:=w7.heap.size) (vv _ _) 0 _ (.inl rfl)) (fun b hb e=>by cases e;have h1:=zy HO8.out _ hb;rw[vJ]at h1;omega)) (by have:=hb7.size;rw[vJ];omega)),za ⟨hb8.setCell (p:=⟨w7.heap.size,0,none⟩) hb7.size _,hb7.size⟩⟩
    |exact⟨w8.heap.size,sa,sc,rfl,za (zo _ _ _ rfl),za (zu.mono (zu.later HO8.out (zd _ _)) hb7.size),za ⟨hb8.step (zd _ _),hb8.size⟩⟩
 case rest=>as_aux_lemma=>
  obtain⟨b4,na,nc,rfl,T4,HO4,HB4⟩:=hcut;clear c1 g0 g1 g2 g3 k0 k1 k2 k3 k4 k5 k6 k7 HS HNX HND;obtain⟨wd,hwd⟩:∃wd,wd=wc:=⟨_,rfl⟩
  rw[<-hwd]at T4 HO4 HB4;rw[<-hwd];clear hwd;have HI4:=za (HI.out.below HB4.out.1);have HW4:Hid (Below w.heap.size w wd):=za (HWA.out.step HB4.out.1);have c1:=qZ HI4.out.h1;obtain⟨g0,g1,g2,g3⟩:=zX HI4.out.h2;have k7:=HI4.out.hi.k7;have t4:=qZ T4.out;have hfl:x.g.frm<(zf r.u).length:=by rw[HGO.out.len];omega
  have nfl:(x.g.frm:Int)<((zf r.u).length:Int):=by omega
  obtain⟨bv,ov,li,lic,hva,-,hlc,hlr,-,-⟩:=(HM.out.below HI4.out.hi.hb).ml x.g.frm hfl;rw[hva]at k7;have hl200:=qJ HWT.out x.g.frm;have hnl:=YV (zf r.u) 200 (qJ HWT.out) (Zc r.u x.g.til);have hnx:=Qq r.u x.g.til;have HLF0:=za (zk (d:=[]) hfl);rw[HLF0.out]at hl200;obtain⟨LF,hLF⟩:∃L,L=(zf r.u)[x.g.frm]:=⟨_,rfl⟩
  rw[<-hLF]at hlc hlr hl200 HLF0
  have hnl2:N.length<=600:=by
   have:=HNN.out;unfold zU at this;rw[this];omega
  have HLR:=za hlr;clear hLF hlr hnl hnx hva;obtain⟨NB,hNB⟩:∃NB,NB=yG LF N:=⟨_,rfl⟩
  have HNB:Hid (NB=yj r.u (zf r.u) x.g):=za (by rw[hNB];unfold yj;rw[HLF0.out,<-HNN.out]);have HAD:=za (fun(base:Nat) (v:Value) (w':World) (ho:zu w' base v LF) (hb:Below wd.heap.size wd w') (hbs:base<=w'.heap.size) (hwb:wd.heap.size<=base)=>JN base v LF N na nc w' ho ((qy HO4.out).2.2.1.below hb) (by omega) (fun b off e h=>by have h1:=(qy HO4.out).2.2.2 b off e;have h2:=zy ho b h.symm;omega) hbs);rw[<-hNB]at HAD;have HCL:=za (fun(w':World) (hb:Below wd.heap.size wd w')=>Kg LF li lic w' (HLR.out.below hb) (by omega));clear hNB;have HS2:Hid (∀W,Below wd.heap.size wd W->W.cell? ⟨b1,0,none⟩=some (.pointer (some ⟨w0.heap.size,0,none⟩))/\W.cell? ⟨b1+1,0,none⟩=some (.int .i64 x.g.frm)/\W.cell? ⟨w0.heap.size,7,none⟩=some (.slice (some ⟨bv,ov,none⟩) (zf r.u).length r.vc)/\W.cell? ⟨bv,ov+x.g.frm,none⟩=some (.slice li LF.length lic)/\W.cell? ⟨b4,0,none⟩=some (.slice na N.length nc)):=za (fun W hb=>⟨zK hb c1,zK hb g0,zK hb k7,zK hb hlc,zK hb t4⟩);go_upto_region 2 with fail;go_cut [5]from 31 to 42 (fun s5 wy=>∃(nb:Option Addr) (ncb:Nat),s5= .slice nb NB.length ncb/\Hid (zu wy wa.heap.size (.slice nb NB.length ncb) NB)/\Hid (Below wd.heap.size wd wy))
  case first=>as_aux_lemma=>
   clear c1 g0 g1 g2 g3 k7 t4 hlc
   go_region_held3 (fun W=>W.cell? ⟨b1,0,none⟩=some (.pointer (some ⟨w0.heap.size,0,none⟩))/\W.cell? ⟨b1+1,0,none⟩=some (.int .i64 x.g.frm)/\W.cell? ⟨w0.heap.size,7,none⟩=some (.slice (some ⟨bv,ov,none⟩) (zf r.u).length r.vc)/\W.cell? ⟨bv,ov+x.g.frm,none⟩=some (.slice li LF.length lic)/\W.cell? ⟨b4,0,none⟩=some (.slice na N.length nc))
    (first|exact HS2.out _ (zt _)|exact HS2.out _ hb6|exact HS2.out _ hb5|exact HS2.out _ (zG _ _))
    (first
     |(go_at_call 108;(with_reducible refine(HCL.out _ (zt _)).mono ?_);rintro e w5 ⟨hb,v5,rfl,ho5⟩;have hb5:=(zt wd).step hb;have HO5:Hid (zu w5 wd.heap.size v5 LF):=za ho5;have HZ5:Hid (wd.heap.size<=w5.heap.size):=za hb.size;clear hb ho5)
     |(go_at_call 74;(with_reducible refine(HAD.out wd.heap.size v5 _ HO5.out hb5 HZ5.out (zI _)).mono ?_);rintro e w6 ⟨v6,rfl,ho6,hg6,hx6⟩;have hb6:Below wd.heap.size wd w6:=hb5.grown hg6 hb5.size (fun k e=>zy HO5.out k e);obtain⟨nb,ncb,rfl,hr6⟩:=ho6.rd;have HO6:=za ho6;clear ho6 hg6 hx6 hr6))
   all_goals
    go_wp2_with fail;go_meet;exact⟨nb,ncb,rfl,za (zu.mono HO6.out HB4.out.1.size),za hb6⟩
  case rest=>as_aux_lemma=>
   obtain⟨nb,ncb,rfl,HO5,HB5⟩:=hcut;clear c1 g0 g1 g2 g3 k7 t4 hlc HS2 HAD HCL HLR hl200;obtain⟨we,hwe⟩:∃we,we=wc:=⟨_,rfl⟩
   rw[<-hwe]at HO5 HB5;rw[<-hwe];clear hwe;have HI5:=za (HI4.out.below HB5.out);have HW5:Hid (Below w.heap.size w we):=za (HW4.out.step HB5.out);have T5:=za (zb HB5.out T4.out);have HN5:=za (zu.later HO4.out HB5.out);have c1:=qZ HI5.out.h1;obtain⟨g0,g1,g2,g3⟩:=zX HI5.out.h2;have k16:=HI5.out.hi.k16;have k17:=HI5.out.hi.k17;have htl:x.g.frm<r.t.length:=by rw[HOM.out.tl];omega
   have ntl:(x.g.frm:Int)<(r.t.length:Int):=by omega
   obtain⟨bt,ot,hta,-,ht0⟩:=(HM.out.below HI5.out.hi.hb).mt x.g.frm htl;rw[hta]at k16;have HTZ:Hid (r.t.getD x.g.frm 0=r.t[x.g.frm]):=za (zk htl);generalize r.t[x.g.frm]=tz at *;clear hta;have HG5:Hid (w.grownBy we (some w0.heap.size)):=za (yw HW5.out _);go_upto_region 3 with fail;by_cases htz:tz=(a:Int)
   case neg=>as_aux_lemma=>
    have HE:Hid (o=none):=za (HO.out.trans (DQ (by rw[HTZ.out];exact htz)));have d1:(tz==(a:Int))=false:=by simpa using htz
    go_still_tail 14,(by kernel_rfl);change wpList _ _ _ _ _ we.drew
    go_wp2_with (first
     |(go_at_call 185;(with_reducible refine(yM _).mono ?_);rintro e w8 ⟨rfl,rfl⟩))
    exact⟨rfl,qB HG5.out (zt _),by rw[HE.out]⟩
   case pos=>as_aux_lemma=>
    have HE0:Hid (o=(vL r.v r.h x.g.reads NB (r.v.code.length+1) a [] []).bind (LO r.u r.v (zf r.u) r.h r.t x.g)):=za (by rw[HNB.out];exact HO.out.trans (EB (by rw[HTZ.out];exact htz)));have d1:(tz==(a:Int))=true:=by simpa using htz
    clear htz;go_still_tail 14,(by kernel_rfl);change wpList _ _ _ _ _ we.drew;have hmm:=@run_makeMap prog
    go_upto_region 4 with (first
     |(go_at_call 185;(with_reducible refine(yE _).mono ?_);rintro e w8 ⟨rfl,rfl⟩))
    clear c1 g0 g1 g2 g3 k16 k17 ht0 d1 HO;obtain⟨wf,hwf⟩:∃wf,wf=we.drew:=⟨_,rfl⟩
    have HI6:Hid (Sc w0 r a b1 (b1+1) x wf):=za (by rw[hwf];exact HI5.out.below (zt we));have HW6:Hid (Below w.heap.size w wf):=za (by rw[hwf];exact HW5.out.step (zt we));have T6:Hid (wf.heap[b4]?=some (.cells #[.slice na N.length nc] 28)):=za (by rw[hwf];exact T5.out);have HN6:Hid (zu wf wa.heap.size (.slice na N.length nc) N):=za (by rw[hwf];exact zu.later HN5.out (zt we));have HO6:Hid (zu wf wa.heap.size (.slice nb NB.length ncb) NB):=za (by rw[hwf];exact zu.later HO5.out (zt we));rw[<-hwf];clear hwf HI5 HW5 T5 HN5 HO5 HB5 HI4 HW4 T4 HO4 HI HWA;obtain⟨bm,hbm⟩:∃b,b=wf.heap.size:=⟨_,rfl⟩
    obtain⟨b6,hb6⟩:∃b,b=bm+1:=⟨_,rfl⟩
    obtain⟨bh,hbh⟩:∃b,b=b6+1:=⟨_,rfl⟩
    obtain⟨wg,hwg⟩:∃wg,wg=((wf.alloc (.map #[] 0)).alloc (.cells #[.map (some bm)] 120)).alloc (.map #[] 0):=⟨_,rfl⟩
    have HZ:Hid (Sb w0 w wa x b1 b4 b6 bm bh na nc N nb ncb NB):=za ⟨HZ0.out.1,⟨HZ0.out.2.1,HZ0.out.2.2⟩,⟨HB4.out.2,by rw[hbm];exact ze T6.out⟩,⟨by omega,by omega⟩,
     fun b e=>by rw[hbm];exact J5 HN6.out b e,fun b e=>by rw[hbm];exact J5 HO6.out b e,fun b off e=>by have:=HXB.out b off e;have:=HZ0.out;omega⟩
    have HL0:Hid (JR w0 w wa r x b1 b4 b6 bm bh na nc N nb ncb NB a [] [] wg):=za (by
     have hs1:=Z9 xU wf;rw[<-hbm]at hs1;have hs2:=QQ ((wf.alloc (.map #[] 0)).alloc (.cells #[.map (some bm)] 120));rw[vJ,vJ,<-hbm,<-hb6,<-hbh,<-hwg]at hs2;have hb1:Below wf.heap.size wf (wf.alloc (.map #[] 0)):=zd _ _;have hb2:Below (wf.alloc (.map #[] 0)).heap.size (wf.alloc (.map #[] 0)) wg:=by rw[hwg];exact(zd _ _).step (zd _ _)
     have hb3:=hb1.step hb2
     exact⟨HI6.out.hi.below hb3,yw (HW6.out.step hb3) _,zb hb3 HI6.out.h1,zb hb3 HI6.out.h2,zb hb3 T6.out,by rw[hwg];exact zb (zd _ _) (zo _ _ _ (by rw[vJ,hb6,hbm])),
      zu.later HN6.out hb3,zu.later HO6.out hb3,HR.out.below (HW6.out.step hb3),hs1.below hb2,hs2⟩)
    go_upto_region 6 with fail;rw[<-hbm,<-hb6,<-hbh,<-hwg];clear hbm hb6 hbh hwg HI6 HW6 T6 HN6 HO6 hmm HG5 HTZ HLF0 hfl nfl;have hvc:=HOM.out.vc
    go_loopg [] (r.v.code.length-a) (fun gh wr=>∃(f a2:Nat) (had:List Int) (m:List (Int×Int)) (S:List Int) (L:List (Int×Int)),gh=r.v.code.length-a2/\f+a2=r.v.code.length+1+a/\a<=a2/\(a2<=r.v.code.length\/a2=a) /\
     Hid (o=(vL r.v r.h x.g.reads NB f a2 had m).bind (LO r.u r.v (zf r.u) r.h r.t x.g))/\Hid (JR w0 w wa r x b1 b4 b6 bm bh na nc N nb ncb NB a2 S L wr)/\Hid (∀y,y∈S↔y∈had)/\Hid (∀s,jZ L s=ZL m s)/\Hid (L.length<=(a2-a)*2000))
    case atStart=>exact⟨r.v.code.length+1,a,[],[],[],[],rfl,rfl,zI _,.inr rfl,HE0,HL0,za (fun y=>Iff.rfl),za (fun s=>rfl),za (zE _)⟩
    case round=>as_aux_lemma=>
     obtain⟨f,a2,had,m,S,L,rfl,hf,haa,ha2,HE,HL,HS,HG,HC⟩:=hrel;have ha21:a2<=1000:=by omega
     clear HE0 HL0;obtain⟨c1,g0,g1,g2,g3,t4,t6⟩:=HL.out.cells;have k17:=HL.out.hi.k17;have k13:=HL.out.hi.k13;by_cases hop:∃y,r.v.code[a2]?=some y/\y.op=33
     case pos=>as_aux_lemma=>
      obtain⟨y,hy,hy33⟩:=hop;have hlt:a2<r.v.code.length:=(ZE.1 hy).1;have nlt:(a2:Int)<(r.v.code.length:Int):=by omega
      obtain⟨bd,od,hda,-,y0,-,-,-⟩:=((HM.out.below HL.out.hi.hb).mv.rc) a2 hlt
      have hyy:r.v.code[a2]=y:=by
       have:=q9 hlt;rw[hy]at this;exact(Option.some.inj this).symm
      rw[hyy,hy33]at y0;rw[hda]at k13;have hyb:=HVB.out y (by rw[<-hyy];exact yy hlt);have HY:=za hy;have HY33:=za hy33;clear hda hyy hy hy33;go_upto_region 6 with fail;go_still_tail 25,(by kernel_rfl);change wpList _ _ _ _ _ wr.drew;go_upto_region 7 with fail;have HL1:=za (HL.out.below (zt wr));have HNX:=za (J6 HM.out HL1.out.hi (by omega) HY.out)
      go_upto_region 8 with (first
       |(go_at_call 217;(with_reducible refine HNX.out.mono ?_);rintro e w7 ⟨rfl,hri,hg⟩;have HL7:=za (HL1.out.next HZ.out hri hg);clear hri hg))
      clear c1 g0 g1 g2 g3 t4 t6 k17 k13 y0 HNX HL1;obtain⟨b8,hb8⟩:∃b,b=w7.heap.size:=⟨_,rfl⟩
      obtain⟨w8,hw8⟩:∃w8,w8=w7.alloc (.cells #[.int .i64 y.op,.int .i64 y.a,.int .i64 y.b,.int .i64 y.c] 85):=⟨_,rfl⟩
      have HX8:Hid (w8.heap[b8]?=some (.cells #[.int .i64 y.op,.int .i64 y.a,.int .i64 y.b,.int .i64 y.c] 85)):=za (by rw[hw8];exact zo _ _ _ hb8);have HL8:Hid (JR w0 w wa r x b1 b4 b6 bm bh na nc N nb ncb NB (a2+1) S L w8):=za (by rw[hw8];exact HL7.out.below (zd _ _));have HZ8:Hid (b4<b8/\bm<b8/\bh<b8):=za (by rw[hb8];exact⟨ze HL7.out.h4,HL7.out.hM.lt,HL7.out.hH.lt⟩);rw[<-hw8,<-hb8];clear hw8 hb8 HL HL7;obtain⟨c1,g0,g1,g2,g3,t4,t6⟩:=HL8.out.cells;have k11:=HL8.out.hi.k11;obtain⟨q0,q1,q2,q3⟩:=zX HX8.out;have hvs:=HOM.out.vs;have hus:=zL HWT.out;have e1:IntKind.i64.wrap (r.v.slots-1)=r.v.slots-1:=ju (by omega);have HWI:=za (fun w=>xY y.a 0 (r.v.slots-1) w)
      have HBU:∀s∈NB,0<=s/\s<r.h.length:=by
       have hl:=HOM.out.hl;intro s hs;rw[HNB.out]at hs;unfold yj zU at hs;rcases qs.1 hs with h1|h1
       ·have:=ZR HWT.out _ s h1;omega
       ·have:=Jn HWT.out _ s h1;omega
      have hnb:NB.length<=1000000:=by
       have h1:=qJ HWT.out x.g.frm;have h2:=qt ((zf r.u).getD x.g.frm []) N;rw[HNB.out];unfold yj;rw[<-HNN.out];omega
      have hhl:r.h.length<=1000000:=by have hl:=HOM.out.hl;omega
      have HT:=za (fun w' (hb:Below w8.heap.size w8 w')=>KV w0 r (a2+1) y.a NB nb ncb w' HM.out (HL8.out.hi.below hb) ((qy HL8.out.hB).2.2.1.below hb) HBU hhl hnb);have HD:Hid (XA r.v r.h x.g.reads NB y had=(y.c==0&&yr y.a 0 (r.v.slots-1)&& !had.contains y.a&& !yS r.h y.a NB&&decide (0<=y.b)&&x.g.reads.any fun s=>zh r.h s== -2-y.b)):=za rfl
      have HNO:Hid (XA r.v r.h x.g.reads NB y had=false->o=none):=za (fun hd=>by
       obtain⟨f2,rfl⟩:∃f2,f=f2+1:=⟨f-1,by omega⟩
       rw[HE.out,MW HY.out HY33.out hd]
       rfl)
      have HGR:=za (qB HL8.out.hg (zt w8));by_cases hc0:y.c=0
      case neg=>as_aux_lemma=>
       have d1:(y.c==0)=false:=by simpa using hc0
       have HN:=za (HNO.out (by rw[HD.out,d1];rfl));go_still_tail 29,(by kernel_rfl);change wpList _ _ _ _ _ w8.drew
       go_wp2_with (first
        |(go_at_call 185;(with_reducible refine(yM _).mono ?_);rintro e w9 ⟨rfl,rfl⟩))
       exact⟨rfl,HGR.out,by rw[HN.out]⟩
      case pos=>as_aux_lemma=>
       have d1:(y.c==0)=true:=by simpa using hc0
       clear hc0;rw[d1,xk]at HD
       cases hin:yr y.a 0 (r.v.slots-1)with
       |false=>as_aux_lemma=>
        have HN:=za (HNO.out (by rw[HD.out,hin];rfl));rw[hin]at HWI;clear hin;go_still_tail 29,(by kernel_rfl);still_call (KB (HWI.out _))
        repeat still_step
        refine wpStill_nil ?_;change wpList _ _ _ _ _ w8.drew
        go_wp2_with (first
         |(go_at_call 185;(with_reducible refine(yM _).mono ?_);rintro e w9 ⟨rfl,rfl⟩))
        exact⟨rfl,HGR.out,by rw[HN.out]⟩
       |true=>as_aux_lemma=>
       have hya:0<=y.a/\y.a<=1000:=by unfold yr at hin;simp only[yi,yB]at hin;omega
       rw[hin,xk]at HD;rw[hin]at HWI;clear hin;have hlk:=(HL8.out.hH.below (zt w8)).hasT Tryz.underlying156 (k:=y.a) (by omega);have HSC:Hid (S.contains y.a=had.contains y.a):=za (by rw[Bool.eq_iff_iff,xn,xn];exact HS.out y.a)
       cases hct:S.contains y.a with
       |true=>as_aux_lemma=>
        rw[hct]at hlk;have HN:=za (HNO.out (by rw[HD.out,<-HSC.out,hct];rfl));clear hct;go_still_tail 29,(by kernel_rfl);still_call (KB (HWI.out _))
        repeat still_step
        refine wpStill_nil ?_;change wpList _ _ _ _ _ w8.drew
        go_wp2_with (first
         |(go_at_call 185;(with_reducible refine(yM _).mono ?_);rintro e w9 ⟨rfl,rfl⟩))
        exact⟨rfl,HGR.out,by rw[HN.out]⟩
       |false=>as_aux_lemma=>
       rw[hct]at hlk;rw[<-HSC.out,hct,Bool.not_false,xk]at HD;clear hct
       cases htk:yS r.h y.a NB with
       |true=>as_aux_lemma=>
        rw[htk]at HT;have HN:=za (HNO.out (by rw[HD.out,htk];rfl));clear htk;go_still_tail 26,(by kernel_rfl);still_call (KB (HWI.out _))
        repeat still_step
        refine wpStill_nil ?_;change wpList _ _ _ _ _ w8.drew
        go_wp2_with (first
         |(go_at_call 218;(with_reducible refine(HT.out _ (zt _)).mono ?_);rintro e w9 ⟨rfl,hb⟩;have HG9:=za (qB HGR.out hb);clear hb)
         |(go_at_call 185;(with_reducible refine(yM _).mono ?_);rintro e w10 ⟨rfl,rfl⟩))
        exact⟨rfl,HG9.out,by rw[HN.out]⟩
       |false=>as_aux_lemma=>
       rw[htk]at HT;rw[htk,Bool.not_false,xk]at HD;clear htk;go_still_tail 26,(by kernel_rfl);still_call (KB (HWI.out _))
       repeat still_step
       refine wpStill_nil ?_;change wpList _ _ _ _ _ w8.drew
       go_upto_region 9 with (first
        |(go_at_call 218;(with_reducible refine(HT.out _ (zt _)).mono ?_);rintro e w9 ⟨rfl,hb⟩;have HL9:=za ((HL8.out.below (zt w8)).below hb);have HX9:=za (zb hb (zb (zt w8) HX8.out));clear hb)
        |(go_at_call 185;(with_reducible refine(yE _).mono ?_);rintro e w10 ⟨rfl,rfl⟩))
       clear c1 g0 g1 g2 g3 t4 t6 k11 q0 q1 q2 q3 hlk HT HWI e1 HL8 HX8 HGR;obtain⟨c1,g0,g1,g2,g3,t4,t6⟩:=HL9.out.cells;obtain⟨q0,q1,q2,q3⟩:=zX HX9.out
       go_upto_region 10 with (first
        |(at_mapUpdate;refine ve Tryz.underlying156 _ rfl _ _ _ rfl bh S y.a rfl HL9.out.hH rfl rfl (by omega) ?_;intro w10 hs10 hg10;have HL10:=za (HL9.out.putH HZ.out hs10 hg10);have HX10:=za (jG hg10 HX9.out (fun e=>by cases e;have:=HZ8.out;omega));clear hs10 hg10))
       clear c1 g0 g1 g2 g3 t4 t6 q0 q1 q2 q3 HL9 HX9;obtain⟨c1,g0,g1,g2,g3,t4,t6⟩:=HL10.out.cells;obtain⟨q0,q1,q2,q3⟩:=zX HX10.out
       have HRL:Hid (x.g.reads.length<=1200):=za (by
        have h1:=UX r.u.code x.g.frm x.g.til;rw[<-HOK.out.rq]at h1
        omega)
       have hlh:=HOM.out.hl
       have HRB:Hid (∀s∈x.g.reads,(0<=s/\s<r.h.length)/\(0<=s/\s<=1000)/\ -1000<=zh r.h s/\zh r.h s<=1000):=za (fun s hs=>by
        have h1:=HOK.out.rd s hs;have h2:=HOM.out.hb s h1.1 h1.2
        omega)
       have HF:=za (VE 219 D3 #[.pointer (some ⟨b1,0,none⟩),.pointer (some ⟨b8,0,none⟩)] (fun s=>zh r.h s== -2-y.b) x.g.reads x.a x.c w10
        (fun s hs w' hb=>SB w0 r (a2+1) s y b1 b8 w' HM.out (HL10.out.hi.below hb) (zb hb HL10.out.h1) (zb hb HX10.out) (HRB.out s hs).1 hhl (HRB.out s hs).2.2 hyb) HL10.out.hR (by have:=HRL.out;omega))
       have HFP:=za (EH (l:=x.g.reads) (p:=fun s=>zh r.h s== -2-y.b));have HFL:=za (ZP (fun s=>zh r.h s== -2-y.b) x.g.reads);have HFM:Hid (∀s∈x.g.reads.filter (fun s=>zh r.h s== -2-y.b),0<=s/\s<=1000):=za (fun s hs=>(HRB.out s (jn.1 hs).1).2.1);have HPU:Hid (GQ r.h x.g.reads y m=m++(x.g.reads.filter (fun s=>zh r.h s== -2-y.b)).map fun s=>(s,y.a)):=za rfl;generalize x.g.reads.filter (fun s=>zh r.h s== -2-y.b)=lf at HF HFP HFL HFM HPU;have HZ10:Hid (bm<w10.heap.size):=za HL10.out.hM.lt
       go_upto_region 11 with (first
        |(go_at_call 109;(with_reducible refine HF.out.mono ?_);rintro e w11 ⟨hb,v11,rfl,ho⟩;obtain⟨la,lc,rfl,hlr⟩:=ho.rd;have HL11:=za (HL10.out.below hb);have HX11:=za (zb hb HX10.out);have HO11:=za ho;clear hb ho hlr))
       clear c1 g0 g1 g2 g3 t4 t6 q0 q1 q2 q3 HF HL10 HX10;obtain⟨c1,g0,g1,g2,g3,t4,t6⟩:=HL11.out.cells;obtain⟨q0,q1,q2,q3⟩:=zX HX11.out;have HGR:=za HL11.out.hg;by_cases hb0:0<=y.b
       case neg=>as_aux_lemma=>
        have HN:=za (HNO.out (by rw[HD.out,yn hb0];rfl))
        go_wp2_with (first
         |(go_at_call 185;(with_reducible refine(yM _).mono ?_);rintro e w10 ⟨rfl,rfl⟩))
        exact⟨rfl,HGR.out,by rw[HN.out]⟩
       case pos=>as_aux_lemma=>
       by_cases hlf:0<lf.length
       case neg=>as_aux_lemma=>
        have nlf:¬(0:Int)<(lf.length:Int):=by omega
        have HN:=za (HNO.out (by
         rw[HD.out,zP hb0,xk]
         cases ha:x.g.reads.any (fun s=>zh r.h s== -2-y.b)with
         |false=>rfl
         |true=>exact absurd (HFP.out.2 ha) hlf))
        go_wp2_with (first
         |(go_at_call 185;(with_reducible refine(yM _).mono ?_);rintro e w10 ⟨rfl,rfl⟩))
        exact⟨rfl,HGR.out,by rw[HN.out]⟩
       case pos=>as_aux_lemma=>
       have nlf:(0:Int)<(lf.length:Int):=by omega
       have HD2:Hid (XA r.v r.h x.g.reads NB y had=true):=za (by rw[HD.out,zP hb0,xk];exact HFP.out.1 hlf)
       have HE2:Hid (∃f2,f=f2+1/\o=(vL r.v r.h x.g.reads NB f2 (a2+1) (had++ [y.a]) (GQ r.h x.g.reads y m)).bind (LO r.u r.v (zf r.u) r.h r.t x.g)):=za (by
        obtain⟨f2,rfl⟩:∃f2,f=f2+1:=⟨f-1,by omega⟩
        exact⟨f2,rfl,by rw[HE.out,MX HY.out HY33.out HD2.out]⟩)
       clear HD HD2 HNO HFP
       go_upto_region 13 with (first
        |(go_at_call 185;(with_reducible refine(yE _).mono ?_);rintro e w11 ⟨rfl,rfl⟩))
       have HO11b:Hid (bm<w10.heap.size/\zu w11 w10.heap.size (.slice la lf.length lc) lf):=za ⟨HZ10.out,HO11.out⟩;clear HO11 HZ10 c1 g0 g1 g2 g3 t4 t6 q0 q1 q2 q3 HGR
       go_loopg [136] lf.length (fun gh s136 wz=>∃(j:Nat) (L2:List (Int×Int)),j<=lf.length/\gh=lf.length-j/\s136= .int .i64 j/\Hid (JR w0 w wa r x b1 b4 b6 bm bh na nc N nb ncb NB (a2+1) (xB y.a S) L2 wz)/\Hid (wz.heap[b8]?=some (.cells #[.int .i64 y.op,.int .i64 y.a,.int .i64 y.b,.int .i64 y.c] 85)) /\
        Hid (bm<w10.heap.size/\zu wz w10.heap.size (.slice la lf.length lc) lf)/\Hid (∀s,jZ L2 s=ZL (m++(lf.take j).map fun s=>(s,y.a)) s)/\Hid (L2.length<=L.length+j))
       case atStart=>exact⟨0,L,zE _,rfl,rfl,HL11,HX11,HO11b,za (by rw[List.take_zero,List.map_nil,qO];exact HG.out),za (zI _)⟩
       case round=>as_aux_lemma=>
        obtain⟨j,L2,hj,rfl,rfl,HLz,HXz,HOz,HGz,HCz⟩:=hrel;clear HL11 HX11 HO11b;obtain⟨c1,g0,g1,g2,g3,t4,t6⟩:=HLz.out.cells;obtain⟨q0,q1,q2,q3⟩:=zX HXz.out;have hlf12:lf.length<=1200:=by have h3:=HFL.out;have h4:=HRL.out;omega
        by_cases hjl:j<lf.length
        ·have nj:(j:Int)<(lf.length:Int):=by omega
         obtain⟨bl,ol,hla,-,hl0⟩:=(qy HOz.out.2).2.2.1 j hjl;have hsj:=HFM.out lf[j] (yy hjl);have HTK:Hid (lf.take (j+1)=lf.take j++ [lf[j]]):=za (zO hjl);generalize lf[j]=s at *;subst hla;have hl2:L2.length<=1000000000:=by have h1:=HCz.out;have h2:=HC.out;have h3:=HFL.out;have h4:=HRL.out;omega
         have hk:=Gk (x:=s) (by omega);have hc:=Gk (x:=y.a) (by omega)
         go_wp2_with (first
          |(at_mapUpdate;refine vM xU _ Tryz.underlying120 rfl _ _ _ rfl bm L2 s y.a rfl HLz.out.hM hl2 rfl rfl hk hc ?_;intro w12 hm12 hg12;have HL12:=za (HLz.out.putM HZ.out hm12 hg12);have HX12:=za (jG hg12 HXz.out (fun e=>by cases e;have:=HZ8.out;omega));have HO12:Hid (bm<w10.heap.size/\zu w12 w10.heap.size (.slice (some ⟨bl,ol,none⟩) lf.length lc) lf):=za ⟨HOz.out.1,HOz.out.2.kept hg12 (fun b hb e=>by cases e;have h1:=zy HOz.out.2 _ hb;have h2:=HOz.out.1;omega)⟩;clear hm12 hg12))
         go_roundg (lf.length-(j+1));case measure=>omega
         case rel=>
          exact⟨j+1,putM s y.a L2,by omega,rfl,by go_num,HL12,HX12,HO12,za (fun t=>by
           rw[DV,HGz.out t,HTK.out,q8,List.map_singleton,<-List.append_assoc,El]),za (by have h1:=F4 s y.a L2;have h2:=HCz.out;omega)⟩
        ·obtain rfl:j=lf.length:=by omega
         have nj:¬(lf.length:Int)<(lf.length:Int):=by omega
         obtain⟨f2,hf2,hE2⟩:=HE2.out;have HE3:=za hE2;clear hE2;go_wp2;go_roundg (r.v.code.length-(a2+1));case measure=>omega
         case rel=>
          refine⟨f2,a2+1,had++ [y.a],GQ r.h x.g.reads y m,xB y.a S,L2,rfl,by omega,by omega,.inl (by omega),HE3,HLz,za (fun z=> ?_),za (fun t=> ?_),za ?_⟩
          ·rw[vQ,qr,qf,HS.out z]
           exact or_comm
          ·rw[HGz.out t,HPU.out,xL]
          ·have h1:=HCz.out
           have h2:=HC.out;have h3:=HFL.out;have h4:=HRL.out;have h5:a2+1-a=(a2-a)+1:=by omega
           rw[h5];omega
     case neg=>as_aux_lemma=>
      have hno:∀y,r.v.code[a2]?=some y->y.op≠33:=fun y h1 h2=>hop ⟨y,h1,h2⟩
      have HK:Hid (o=LO r.u r.v (zf r.u) r.h r.t x.g (a2,m)):=za (by
       obtain⟨f2,rfl⟩:∃f2,f=f2+1:=⟨f-1,by omega⟩
       cases hy:r.v.code[a2]? with
       |none=>rw[HE.out,PI hy];rfl
       |some y=>rw[HE.out,MV hy (hno y hy)];rfl)
      clear HE hop;have HHNO:=za hno;clear hno;go_upto_region 6 with fail;go_cut [85]from 60 to 85 (fun s85 wy=>s85= .bool false/\Hid (Below wr.heap.size wr wy))
      case first=>as_aux_lemma=>
       by_cases hlt:a2<r.v.code.length
       ·have nlt:(a2:Int)<(r.v.code.length:Int):=by omega
        obtain⟨bd,od,hda,-,y0,-,-,-⟩:=((HM.out.below HL.out.hi.hb).mv.rc) a2 hlt;have hy:=HHNO.out _ (q9 hlt);generalize r.v.code[a2]=y at *;rw[hda]at k13;have d33:(y.op==33)=false:=by simpa using hy
        clear hda hy;go_still_tail 25,(by kernel_rfl);change wpList _ _ _ _ _ wr.drew;go_wp2_with fail;go_meet;exact⟨rfl,za (zt _)⟩
       ·have nlt:¬(a2:Int)<(r.v.code.length:Int):=by omega
        go_still_tail 25,(by kernel_rfl);change wpList _ _ _ _ _ wr.drew;go_wp2_with fail;go_meet;exact⟨rfl,za (zt _)⟩
      case rest=>as_aux_lemma=>
       obtain⟨rfl,HBX⟩:=hcut;clear c1 g0 g1 g2 g3 t4 t6 k17 k13;obtain⟨wd,hwd⟩:∃wd,wd=wc:=⟨_,rfl⟩
       rw[<-hwd]at HBX;rw[<-hwd];clear hwd;have HLd:=za (HL.out.below HBX.out);clear HL HBX;obtain⟨c1,g0,g1,g2,g3,t4,t6⟩:=HLd.out.cells;go_upto_region 19 with fail;have HSG:Hid (∀s∈x.g.reads,0<=s/\s<r.h.length):=za (fun s hs=>by have h1:=HOK.out.rd s hs;have h2:=HOM.out.hl;omega)
       have HNIN:Hid (∀s∈N,0<=s/\s<r.h.length):=za (fun s hs=>by
        have h2:=HOM.out.hl;rw[HNN.out]at hs;have h1:=Jn HWT.out _ s hs
        omega)
       have hhl:r.h.length<=1000000:=by have hl:=HOM.out.hl;have:=zL HWT.out;omega
       have HK2:Hid (o=(jC r.u r.v r.h r.t m N x.g.frm (x.g.til+1-x.g.frm) a2).bind fun b=>if 0<=x.g.wr/\zh r.h x.g.wr<= -2 then jY r.v b (xx (-2-zh r.h x.g.wr) ((r.v.code.getD (b-1) zw).a))else some b):=za (by
        rw[HK.out,HNN.out]
        rfl)
       clear HK HHNO c1 g0 g1 g2 g3 t4 t6 HS HC
       go_loopg [13] (x.g.til+1-x.g.frm) (fun gh s13 wz=>∃(i a3:Nat),x.g.frm<=i/\i<=x.g.til+1/\gh=x.g.til+1-i/\s13= .int .i64 (i:Int)/\a3<=1000/\(x.g.frm<i->0<a3/\a3<=r.v.code.length) /\
        Hid (jC r.u r.v r.h r.t m N x.g.frm (i-x.g.frm) a2=some a3)/\Hid (JR w0 w wa r x b1 b4 b6 bm bh na nc N nb ncb NB a3 S L wz))
       case atStart=>exact⟨x.g.frm,a2,zI _,by omega,rfl,rfl,ha21,fun h=>absurd h (Nat.lt_irrefl _),za (by rw[Nat.sub_self];rfl),HLd⟩
       case round=>as_aux_lemma=>
        obtain⟨i,a3,hi1,hi2,rfl,rfl,ha3,ha3b,HIN,HLz⟩:=hrel;clear HLd;obtain⟨c1,g0,g1,g2,g3,t4,t6⟩:=HLz.out.cells;have k17:=HLz.out.hi.k17
        have HSTOP:Hid (qW r.u r.v r.h r.t m N x.g.frm i a3=none->i<x.g.til+1->o=none):=za (fun h1 h2=>by
         rw[HK2.out,O0 (n:=i-x.g.frm+1) (by rw[OZ HIN.out,show x.g.frm+(i-x.g.frm)=i by omega];exact h1) (show i-x.g.frm+1<=x.g.til+1-x.g.frm by omega)]
         rfl)
        by_cases hnt:i<x.g.til+1
        case pos=>as_aux_lemma=>
         have hit:(i:Int)<=(x.g.til:Int):=by omega
         have hil:i<r.u.code.length:=by omega
         go_upto_region 21 with fail;go_cut []from 148 to 206 (fun wy=>Hid (i=x.g.frm\/r.t.getD i 0=(a3:Int))/\Hid (Below wr.heap.size wr wy))
         case first=>as_aux_lemma=>
          by_cases hif0:i=x.g.frm
          ·have d1:((i:Int)==(x.g.frm:Int))=true:=by simp;omega
           have d1n:(i==x.g.frm)=true:=by simpa using hif0
           have HX:=za (Or.inl hif0:i=x.g.frm\/r.t.getD i 0=(a3:Int));clear hif0;go_still_tail 19,(by kernel_rfl);change wpList _ _ _ _ _ wr.drew
           go_wp2_with (first
            |(go_at_call 185;(with_reducible refine(yE _).mono ?_);rintro e w10 ⟨rfl,rfl⟩))
           go_meet;exact⟨HX,za (zt _)⟩
          ·have d1:((i:Int)==(x.g.frm:Int))=false:=by simp;omega
           have d1n:(i==x.g.frm)=false:=by simpa using hif0
           have k16:=HLz.out.hi.k16;have htli:i<r.t.length:=by rw[HOM.out.tl];omega
           have ntli:(i:Int)<(r.t.length:Int):=by omega
           obtain⟨bt2,ot2,hta,-,ht0⟩:=(HM.out.below HLz.out.hi.hb).mt i htli;rw[hta]at k16;have HTZ:Hid (r.t.getD i 0=r.t[i]):=za (zk htli);generalize r.t[i]=tz2 at *;clear hta;by_cases he:tz2=(a3:Int)
           ·have HX:=za (Or.inr (HTZ.out.trans he):i=x.g.frm\/r.t.getD i 0=(a3:Int))
            have d2:(tz2==(a3:Int))=true:=by simpa using he
            clear he hif0;go_still_tail 19,(by kernel_rfl);change wpList _ _ _ _ _ wr.drew
            go_wp2_with (first
             |(go_at_call 185;(with_reducible refine(yE _).mono ?_);rintro e w10 ⟨rfl,rfl⟩))
            go_meet;exact⟨HX,za (zt _)⟩
           ·have HN:=za (HSTOP.out (Dw (fun h=>h.elim hif0 (fun h2=>he (HTZ.out.symm.trans h2)))) hnt)
            have d2:(tz2==(a3:Int))=false:=by simpa using he
            have HGR:=za (qB HLz.out.hg (zt wr));clear he hif0;go_still_tail 19,(by kernel_rfl);change wpList _ _ _ _ _ wr.drew
            go_wp2_with (first
             |(go_at_call 185;(with_reducible refine(yM _).mono ?_);rintro e w10 ⟨rfl,rfl⟩))
            exact⟨rfl,HGR.out,by rw[HN.out]⟩
         case rest=>as_aux_lemma=>
          obtain⟨HAT,HBX⟩:=hcut;clear c1 g0 g1 g2 g3 t4 t6 k17;obtain⟨wd,hwd⟩:∃wd,wd=wc:=⟨_,rfl⟩
          rw[<-hwd]at HBX;rw[<-hwd];clear hwd;have HLd:=za (HLz.out.below HBX.out);clear HLz HBX;obtain⟨c1,g0,g1,g2,g3,t4,t6⟩:=HLd.out.cells
          cases hy:r.v.code[a3]? with
          |none=>as_aux_lemma=>
           have HN:=za (HSTOP.out (En hy) hnt);have HNX:=za (Ud HM.out HLd.out.hi (by omega) hy);have HGR:=za HLd.out.hg
           go_wp2_with (first
            |(go_at_call 217;(with_reducible refine HNX.out.mono ?_);rintro e w7 ⟨rfl,hg⟩;have HG7:=za (HGR.out.andThen hg (fun j e=> .inr e));clear hg))
           exact⟨rfl,HG7.out,by rw[HN.out]⟩
          |some y=>as_aux_lemma=>
           have HY:=za hy;have hlt3:a3<r.v.code.length:=(ZE.1 hy).1;have HNX:=za (J6 HM.out HLd.out.hi (by omega) hy);clear hy
           go_upto_region 23 with (first
            |(go_at_call 217;(with_reducible refine HNX.out.mono ?_);rintro e w7 ⟨rfl,hri,hg⟩;have HL7:=za (HLd.out.next HZ.out hri hg);clear hri hg))
           clear c1 g0 g1 g2 g3 t4 t6 HNX HLd;obtain⟨b14,hb14⟩:∃b,b=w7.heap.size:=⟨_,rfl⟩
           obtain⟨w8,hw8⟩:∃w8,w8=w7.alloc (.cells #[.int .i64 y.op,.int .i64 y.a,.int .i64 y.b,.int .i64 y.c] 85):=⟨_,rfl⟩
           have HX8:Hid (w8.heap[b14]?=some (.cells #[.int .i64 y.op,.int .i64 y.a,.int .i64 y.b,.int .i64 y.c] 85)):=za (by rw[hw8];exact zo _ _ _ hb14);have HL8:Hid (JR w0 w wa r x b1 b4 b6 bm bh na nc N nb ncb NB (a3+1) S L w8):=za (by rw[hw8];exact HL7.out.below (zd _ _));rw[<-hw8,<-hb14];clear hw8 hb14 HL7;obtain⟨c1,g0,g1,g2,g3,t4,t6⟩:=HL8.out.cells;obtain⟨q0,q1,q2,q3⟩:=zX HX8.out;have k5:=HL8.out.hi.k5;have nil:(i:Int)<(r.u.code.length:Int):=by omega
           obtain⟨bc,oc,hca,-,z0,z1,z2,z3⟩:=((HM.out.below HL8.out.hi.hb).mu.rc) i hil;rw[hca]at k5;have HVS:=za HOM.out.vs;have HUS:=za (zL HWT.out);have HU0:Hid (r.u.code.getD i zw=r.u.code[i]):=za (zk hil);have HUR:=za (qG HWT.out hil);have HUW:=za (xA HWT.out hil);have HPL:Hid (∀p,zQ r.u.code[i]=some p->0<=p/\p<r.u.code.length):=za (fun p hp=>F9 (zH HWT.out) hil hp)
           have hop34:r.u.code[i].op≠34:=by
            have h1:=XQ HWT.out hil;unfold qx at h1;rw[HU0.out]at h1;simp only[yi,jb,yY]at h1;exact h1.1.1.2
           have HH:=za HOM.out.hl
           have HRE:=za (Jh r.u.code[i] 220 221 D0 DZ #[.pointer (some ⟨b1,0,none⟩),.pointer (some ⟨b6,0,none⟩)] #[.pointer (some ⟨b1,0,none⟩),.pointer (some ⟨b14,0,none⟩),.pointer (some ⟨b4,0,none⟩)] (xG r.h m) (qH r.v r.h N y) (fun s=>0<=s/\s<r.h.length) (fun s=>0<=s/\s<r.h.length) w8
            (fun s hs w' hb=>SA w0 r (a3+1) s m L b1 b6 bm w' HM.out (HL8.out.hi.below hb) (zb hb HL8.out.h1) (zb hb HL8.out.h6) (HL8.out.hM.below hb) (HG.out s) hs hhl)
            (fun s hs w' hb=>Sz w0 r (a3+1) s y N na nc b1 b14 b4 w' HM.out (HL8.out.hi.below hb) (zb hb HL8.out.h1) (zb hb HX8.out) (zb hb HL8.out.h4) ((qy HL8.out.hN).2.2.1.below hb) HNIN.out (by omega) hs hhl (by have:=HVS.out;have:=HUS.out;omega))
            (fun s hs=>by have h1:=HUR.out s hs;have h2:=HH.out;omega) (fun h0=>by have h1:=HUW.out;have h2:=HH.out;omega))
           rw[Ov _ _ _ hop34 (fun s hs=>(HUR.out s hs).1)]at HRE;have HGR:=za HL8.out.hg;by_cases hc:(∀s∈zp r.u.code[i],(xG r.h m s).isSome=true)/\(0<=zc r.u.code[i]->(qH r.v r.h N y (zc r.u.code[i])).isSome=true)
           case neg=>as_aux_lemma=>
            have HN:=za (HSTOP.out (Du HY.out (by rw[HU0.out];exact hc)) hnt);rw[zi hc]at HRE;clear hc HUR HUW HPL hop34 HU0;generalize r.u.code[i]=cu at *
            go_wp2_with (first
             |(go_at_call 113;(with_reducible refine HRE.out.mono ?_);rintro e w9 ⟨hb,hor⟩;obtain rfl:e= .panicked jr:=hor.elim (fun h=>by obtain⟨z,hz,_⟩:=h;cases hz) (fun h=>h.2);have HG9:=za (qB HGR.out hb);clear hb hor))
            exact⟨rfl,HG9.out,by rw[HN.out]⟩
           case pos=>as_aux_lemma=>
            rw[zj hc]at HRE;obtain⟨z,hz⟩:∃z,z=zY r.u.code[i] (fun s=>(xG r.h m s).getD 0) (fun s=>(qH r.v r.h N y s).getD 0):=⟨_,rfl⟩
            rw[<-hz]at HRE;have HPZ:Hid (∀p,zQ z=some p->0<=p/\p<r.u.code.length):=za (fun p hp=>HPL.out p (by rw[hz,Ow]at hp;exact hp));have HYES:=za (fun(he:y=yK r.t z)=>Em HY.out HAT.out (by rw[HU0.out];exact hc) (by rw[HU0.out];exact hz) he);have HNE:=za (fun(he:y≠yK r.t z)=>HSTOP.out (Dv HY.out (by rw[HU0.out];exact hz) he) hnt);clear hc hz HUR HUW HPL hop34 HU0 HSTOP HAT;generalize r.u.code[i]=cu at *;clear hca
            go_upto_region 24 with (first
             |(go_at_call 113;(with_reducible refine HRE.out.mono ?_);rintro e w9 ⟨hb,hor⟩;have HL9:=za (HL8.out.below hb);have HX9:=za (zb hb HX8.out);clear hb;obtain⟨z2,hz2,rfl⟩:∃z2,some z=some z2/\e= .returned (vI z2):=hor.elim (fun h=>h) (fun h=>by cases h.1);cases hz2;clear hor))
            clear c1 g0 g1 g2 g3 t4 t6 q0 q1 q2 q3 k5 z0 z1 z2 z3 nil HRE HL8 HX8 HGR;obtain⟨b15,hb15⟩:∃b,b=w9.heap.size:=⟨_,rfl⟩
            obtain⟨w10,hw10⟩:∃w10,w10=w9.alloc (.cells #[.int .i64 z.op,.int .i64 z.a,.int .i64 z.b,.int .i64 z.c] 85):=⟨_,rfl⟩
            have HXz:Hid (w10.heap[b15]?=some (.cells #[.int .i64 z.op,.int .i64 z.a,.int .i64 z.b,.int .i64 z.c] 85)):=za (by rw[hw10];exact zo _ _ _ hb15);have HXy:Hid (w10.heap[b14]?=some (.cells #[.int .i64 y.op,.int .i64 y.a,.int .i64 y.b,.int .i64 y.c] 85)):=za (by rw[hw10];exact zb (zd _ _) HX9.out);have HLa:Hid (JR w0 w wa r x b1 b4 b6 bm bh na nc N nb ncb NB (a3+1) S L w10):=za (by rw[hw10];exact HL9.out.below (zd _ _));have HZf:Hid (bh<b15/\b14<b15):=za (by rw[hb15];exact⟨HL9.out.hH.lt,ze HX9.out⟩);rw[<-hw10,<-hb15];clear hw10 hb15 HL9 HX9;obtain⟨pa,hpa⟩:∃pa,pa=YM z.op b15 0:=⟨_,rfl⟩
            obtain⟨eb,heb⟩:∃eb,eb=pa.isSome:=⟨_,rfl⟩
            have HPC:Hid (Calls prog 101 #[.pointer (some ⟨b15,0,none⟩)] w10 (Q5 (.pointer pa) w10)):=za (by
             rw[hpa]
             exact Qo z.op b15 0 w10 (zX HXz.out).1)
            have hnq:∀w,(binOp .neq 153 (.pointer pa) (.pointer none)).run prog w= .ok (.bool eb) w:=fun w=>by
             rw[heb]
             cases pa with
             |none=>simp[go_sem]
             |some p=>simp[go_sem]
            have HPA:=za hpa;have HEB:=za heb;clear hpa heb
            go_upto_if 190 with (first
             |(go_at_call 101;(with_reducible refine HPC.out.mono ?_);rintro e w11 ⟨rfl,rfl⟩))
            go_cut []from 148 to 206 (fun wy=>Hid (JR w0 w wa r x b1 b4 b6 bm bh na nc N nb ncb NB (a3+1) S L wy)/\Hid (wy.heap[b14]?=some (.cells #[.int .i64 y.op,.int .i64 y.a,.int .i64 y.b,.int .i64 y.c] 85))/\Hid (wy.heap[b15]?=some (.cells #[.int .i64 (yK r.t z).op,.int .i64 (yK r.t z).a,.int .i64 (yK r.t z).b,.int .i64 (yK r.t z).c] 85)))
            case first=>as_aux_lemma=>
             obtain⟨op,A,B,C⟩:=z;have HTAT:=za (fun(p:Nat) (hp:p<r.t.length)=>(HM.out.below HLa.out.hi.hb).mt p hp);have k16:=HLa.out.hi.k16;obtain⟨c1,g0,g1,g2,g3,t4,t6⟩:=HLa.out.cells;obtain⟨q0,q1,q2,q3⟩:=zX HXz.out;clear HNE HYES;rcases(show op=24\/(op=25\/op=32)\/(op≠24/\op≠25/\op≠32) by omega)with rfl|h2|⟨n1,n2,n3⟩
             ·obtain⟨h0,h1⟩:=HPZ.out A rfl
              obtain⟨p,rfl⟩:∃p:Nat,A=(p:Int):=⟨A.toNat,by omega⟩
              have hpt:p<r.t.length:=by rw[HOM.out.tl];omega
              have npt:(p:Int)<(r.t.length:Int):=by omega
              obtain⟨bt2,ot2,hta,-,ht0⟩:=HTAT.out p hpt;rw[hta]at k16;have HTZ:Hid (r.t.getD p 0=r.t[p]):=za (zk hpt);obtain⟨tp,htp⟩:∃tp,tp=r.t[p]:=⟨_,rfl⟩
              rw[<-htp]at HTZ ht0;have HMV:Hid (yK r.t (⟨24,p,B,C⟩:zm)=(⟨24,tp,B,C⟩:zm)):=za ((MR r.t p B C).trans (by rw[show((p:Int)).toNat=p by omega,HTZ.out]));have f1:=zF 1 HXz.out;obtain rfl:pa=some ⟨b15,1,none⟩:=HPA.out;obtain rfl:eb=true:=HEB.out;clear hta h0 h1 htp hnq;go_upto_region 26 with fail;go_still_tail 12,(by kernel_rfl);change wpList _ _ _ _ _ (World.drew _);go_wp2;go_meet;rw[HMV.out];exact⟨za ((HLa.out.below (zt _)).own HZ.out HZf.out.1 (YO (row:=some b15) (b:=b15) (vv _ _) 1 _ (.inl rfl))),za ((yF _ _ _ _ (show b14≠b15 by have:=HZf.out;omega)).trans HXy.out),za (yk _ _ 1 _ _ _ HXz.out)⟩
             ·obtain⟨h0,h1⟩:=HPZ.out B (by rcases h2 with rfl|rfl<;>rfl)
              obtain⟨p,rfl⟩:∃p:Nat,B=(p:Int):=⟨B.toNat,by omega⟩
              have hpt:p<r.t.length:=by rw[HOM.out.tl];omega
              have npt:(p:Int)<(r.t.length:Int):=by omega
              obtain⟨bt2,ot2,hta,-,ht0⟩:=HTAT.out p hpt;rw[hta]at k16;have HTZ:Hid (r.t.getD p 0=r.t[p]):=za (zk hpt);obtain⟨tp,htp⟩:∃tp,tp=r.t[p]:=⟨_,rfl⟩
              rw[<-htp]at HTZ ht0;have HMV:Hid (yK r.t (⟨op,A,p,C⟩:zm)=(⟨op,A,tp,C⟩:zm)):=za ((PG r.t h2 A p C).trans (by rw[show((p:Int)).toNat=p by omega,HTZ.out]));have f1:=zF 2 HXz.out;obtain rfl:pa=some ⟨b15,2,none⟩:=HPA.out.trans (by rcases h2 with rfl|rfl<;>rfl);obtain rfl:eb=true:=HEB.out;clear hta h0 h1 htp h2 hnq;go_upto_region 26 with fail;go_still_tail 12,(by kernel_rfl);change wpList _ _ _ _ _ (World.drew _);go_wp2;go_meet;rw[HMV.out];exact⟨za ((HLa.out.below (zt _)).own HZ.out HZf.out.1 (YO (row:=some b15) (b:=b15) (vv _ _) 2 _ (.inl rfl))),za ((yF _ _ _ _ (show b14≠b15 by have:=HZf.out;omega)).trans HXy.out),za (yk _ _ 2 _ _ _ HXz.out)⟩
             ·have HMV:Hid (yK r.t (⟨op,A,B,C⟩:zm)=(⟨op,A,B,C⟩:zm)):=za (MQ r.t n1 n2 n3)
              obtain rfl:pa=none:=HPA.out.trans (by unfold YM;rw[zi (by simpa using n1),zi (by simp[n2,n3])]);obtain rfl:eb=false:=HEB.out;clear n1 n2 n3 hnq;go_wp2_with fail;go_meet;rw[HMV.out];exact⟨HLa,HXy,HXz⟩
            case rest=>as_aux_lemma=>
             obtain⟨HLw,HXy2,HXz2⟩:=hcut;clear HLa HXy HXz HPC HPA HEB HPZ hnq;obtain⟨we2,hwe2⟩:∃we,we=wc:=⟨_,rfl⟩
             rw[<-hwe2]at HLw HXy2 HXz2;rw[<-hwe2];clear hwe2;obtain⟨c1,g0,g1,g2,g3,t4,t6⟩:=HLw.out.cells;obtain⟨zz,hzz⟩:∃zz,zz=yK r.t z:=⟨_,rfl⟩
             rw[<-hzz]at HXz2 HYES HNE;clear hzz;obtain⟨q0,q1,q2,q3⟩:=zX HXy2.out;obtain⟨p0,p1,p2,p3⟩:=zX HXz2.out;have heg:prog.eqGuardType prog.depth 85=false:=by kernel_rfl
             have HEQ:∀w,(binOp .eql 85 (.agg #[.int .i64 y.op,.int .i64 y.a,.int .i64 y.b,.int .i64 y.c]) (.agg #[.int .i64 zz.op,.int .i64 zz.a,.int .i64 zz.b,.int .i64 zz.c])).run prog w= .ok (.bool (VW y zz)) w:=fun w=>SN y zz w
             have HGR:=za HLw.out.hg;by_cases hyz:y=zz
             case neg=>as_aux_lemma=>
              have HN:=za (HNE.out hyz);have he:VW y zz=false:=by unfold VW;exact yn hyz
              rw[he]at HEQ;clear hyz HNE HYES he
              go_wp2_with (first
               |(go_at_call 185;(with_reducible refine(yM _).mono ?_);rintro e w10 ⟨rfl,rfl⟩))
              exact⟨rfl,HGR.out,by rw[HN.out]⟩
             case pos=>as_aux_lemma=>
              have HY1:=za (HYES.out hyz);have he:VW y zz=true:=by unfold VW;exact zP hyz
              rw[he]at HEQ;clear hyz HNE HYES he
              go_wp2_with (first
               |(go_at_call 185;(with_reducible refine(yE _).mono ?_);rintro e w10 ⟨rfl,rfl⟩))
              go_roundg (x.g.til+1-(i+1));case measure=>omega
              case rel=>
               refine⟨i+1,a3+1,by omega,by omega,rfl,by go_num,by omega,fun _=>⟨by omega,by omega⟩,za ?_,HLw⟩;rw[show i+1-x.g.frm=(i-x.g.frm)+1 by omega,OZ HIN.out,show x.g.frm+(i-x.g.frm)=i by omega];exact HY1.out
        case neg=>as_aux_lemma=>
         have hie:i=x.g.til+1:=by omega
         have hit:¬(i:Int)<=(x.g.til:Int):=by omega
         have HB2:=za (ha3b (by omega))
         have HK3:Hid (o=if 0<=x.g.wr/\zh r.h x.g.wr<= -2 then jY r.v a3 (xx (-2-zh r.h x.g.wr) ((r.v.code.getD (a3-1) zw).a))else some a3):=za (by
          have h1:=HIN.out;rw[hie]at h1;rw[HK2.out,h1]
          rfl)
         clear HIN HK2 HSTOP hie;obtain⟨wv,hwv⟩:∃wv,wv=x.g.wr:=⟨_,rfl⟩
         have HWV:=za hwv
         have hwr: -1<=wv/\wv<r.u.slots:=by
          have h1:=HOK.out.wr;rw[zk htil]at h1;rw[hwv,h1];exact xA HWT.out htil
         rw[<-hwv]at HK3 g3;clear hwv;have HGR:=za HLz.out.hg;go_upto_region 28 with fail;by_cases hw0:0<=wv
         case neg=>as_aux_lemma=>
          have HN:Hid (o=some a3):=za (by rw[HK3.out,zi (fun h=>hw0 h.1)]);go_still_tail 14,(by kernel_rfl);change wpList _ _ _ _ _ wr.drew;go_wp2
          go_end0
          exact⟨qB HGR.out (zt _),by rw[HN.out];exact⟨rfl,HLz.out.hi.below (zt _)⟩⟩
         case pos=>as_aux_lemma=>
          obtain⟨q,rfl⟩:∃q:Nat,wv=(q:Int):=⟨wv.toNat,by omega⟩
          have hq:q<r.h.length:=by have:=HOM.out.hl;omega
          have nq:(q:Int)<(r.h.length:Int):=by omega
          have HMH:=za (fun(w':World) (hb:Below w0.heap.size w0 w')=>(HM.out.below hb).mh q hq);obtain⟨bh2,oh2,hha,-,ht0⟩:=HMH.out wr HLz.out.hi.hb;have k15:=HLz.out.hi.k15;rw[hha]at k15;have HHA:=za hha;have hzb:=HOM.out.hb q (by omega) (by omega);have HQZ:Hid (zh r.h (q:Int)=r.h[q]):=za (zk hq);rw[HQZ.out]at HK3 hzb;generalize r.h[q]=hz at *;by_cases hz2:hz<= -2
          case neg=>as_aux_lemma=>
           have HN:Hid (o=some a3):=za (by rw[HK3.out,zi (fun h=>hz2 h.2)]);clear hha;go_still_tail 14,(by kernel_rfl);change wpList _ _ _ _ _ wr.drew;go_wp2
           go_end0
           exact⟨qB HGR.out (zt _),by rw[HN.out];exact⟨rfl,HLz.out.hi.below (zt _)⟩⟩
          case pos=>as_aux_lemma=>
           rw[zj ⟨hw0,hz2⟩]at HK3;obtain⟨c,rfl⟩:∃c,a3=c+1:=⟨a3-1,by have:=HB2.out;omega⟩
           have hcv:c<r.v.code.length:=by have:=HB2.out;omega
           have ncv:(c:Int)<(r.v.code.length:Int):=by omega
           rw[show c+1-1=c by omega,zk hcv]at HK3
           have e1:IntKind.i64.wrap ((c:Int)+1-1)=(c:Int):=by
            rw[show(c:Int)+1-1=(c:Int) by omega];exact ju (x:=(c:Int)) (by omega)
           have e2:IntKind.i64.wrap (c:Int)=(c:Int):=ju (x:=(c:Int)) (by omega);clear hha;go_still_tail 14,(by kernel_rfl);change wpList _ _ _ _ _ wr.drew;go_upto_region 29 with fail;obtain⟨wA,hwA⟩:∃wA,wA=wr.drew:=⟨_,rfl⟩
           have HLA:Hid (JR w0 w wa r x b1 b4 b6 bm bh na nc N nb ncb NB (c+1) S L wA):=za (by rw[hwA];exact HLz.out.below (zt _));rw[<-hwA];clear hwA c1 g0 g1 g2 g3 t4 t6 k17 k15 ht0 HLz HGR;obtain⟨c1,g0,g1,g2,g3,t4,t6⟩:=HLA.out.cells;have k17b:wA.cell? ⟨w0.heap.size,17,none⟩=some (.int .i64 ((c:Int)+1)):=HLA.out.hi.k17;obtain⟨bd,od,hda,-,y0,y1,y2,y3⟩:=((HM.out.below HLA.out.hi.hb).mv.rc) c hcv;have k13:=HLA.out.hi.k13;rw[hda]at k13;generalize r.v.code[c].a=reg at *;clear hda;go_still_tail 13,(by kernel_rfl);change wpList _ _ _ _ _ (World.drew _);go_upto_region 30 with fail;obtain⟨wB,hwB⟩:∃wB,wB=wA.drew:=⟨_,rfl⟩
           have HLB:Hid (JR w0 w wa r x b1 b4 b6 bm bh na nc N nb ncb NB (c+1) S L wB):=za (by rw[hwB];exact HLA.out.below (zt _));rw[<-hwB];clear hwB c1 g0 g1 g2 g3 t4 t6 k17b k13 y0 y1 y2 y3 e1 e2 HLA;obtain⟨c1,g0,g1,g2,g3,t4,t6⟩:=HLB.out.cells
           cases hy:r.v.code[c+1]? with
           |none=>as_aux_lemma=>
            have HN:Hid (o=none):=za (by
             rw[HK3.out];unfold jY;rw[hy]
             rfl)
            have HNX:=za (Ud HM.out HLB.out.hi (by omega) hy);have HGR:=za HLB.out.hg
            go_wp2_with (first
             |(go_at_call 217;(with_reducible refine HNX.out.mono ?_);rintro e w7 ⟨rfl,hg⟩;have HG7:=za (HGR.out.andThen hg (fun j e=> .inr e));clear hg))
            exact⟨rfl,HG7.out,by rw[HN.out]⟩
           |some y=>as_aux_lemma=>
            have HY:=za hy;have HNX:=za (J6 HM.out HLB.out.hi (by omega) hy);clear hy
            go_upto_region 31 with (first
             |(go_at_call 217;(with_reducible refine HNX.out.mono ?_);rintro e w7 ⟨rfl,hri,hg⟩;have HL7:=za (HLB.out.next HZ.out hri hg);clear hri hg))
            clear c1 g0 g1 g2 g3 t4 t6 HNX HLB;obtain⟨b18,hb18⟩:∃b,b=w7.heap.size:=⟨_,rfl⟩
            obtain⟨w8,hw8⟩:∃w8,w8=w7.alloc (.cells #[.int .i64 y.op,.int .i64 y.a,.int .i64 y.b,.int .i64 y.c] 85):=⟨_,rfl⟩
            have HX8:Hid (w8.heap[b18]?=some (.cells #[.int .i64 y.op,.int .i64 y.a,.int .i64 y.b,.int .i64 y.c] 85)):=za (by rw[hw8];exact zo _ _ _ hb18);have HL8:Hid (JR w0 w wa r x b1 b4 b6 bm bh na nc N nb ncb NB (c+1+1) S L w8):=za (by rw[hw8];exact HL7.out.below (zd _ _));rw[<-hw8,<-hb18];clear hw8 hb18 HL7;obtain⟨c1,g0,g1,g2,g3,t4,t6⟩:=HL8.out.cells;rw[<-HWV.out]at g3;obtain⟨q0,q1,q2,q3⟩:=zX HX8.out;obtain⟨bh3,oh3,hha3,-,ht0⟩:=HMH.out w8 HL8.out.hi.hb;have k15:=HL8.out.hi.k15;rw[hha3]at k15;rw[<-HQZ.out,HQZ.out]at ht0;clear hha3;have e3:IntKind.i64.wrap (-2-hz)= -2-hz:=ju (x:=-2-hz) (by omega);have heg:prog.eqGuardType prog.depth 85=false:=by kernel_rfl
            have HEQ:∀w,(binOp .eql 85 (.agg #[.int .i64 y.op,.int .i64 y.a,.int .i64 y.b,.int .i64 y.c]) (.agg #[.int .i64 34,.int .i64 (-2-hz),.int .i64 reg,.int .i64 0])).run prog w= .ok (.bool (VW y (xx (-2-hz) reg))) w:=fun w=>SN y (xx (-2-hz) reg) w
            have HGR:=za HL8.out.hg
            have HN2:Hid (o=if y=xx (-2-hz) reg then some (c+1+1)else none):=za (by
             rw[HK3.out];unfold jY;rw[HY.out];by_cases e:y=xx (-2-hz) reg
             ·rw[zj e,zj (by rw[e])]
             ·rw[zi e,zi (fun h=>e (Option.some.inj h))])
            by_cases hyz:y=xx (-2-hz) reg
            case neg=>as_aux_lemma=>
             have he:VW y (xx (-2-hz) reg)=false:=by unfold VW;exact yn hyz
             rw[he]at HEQ;rw[zi hyz]at HN2;clear hyz he;go_still_tail 14,(by kernel_rfl);change wpList _ _ _ _ _ (World.drew _)
             go_wp2_with (first
              |(go_at_call 185;(with_reducible refine(yM _).mono ?_);rintro e w10 ⟨rfl,rfl⟩))
             exact⟨rfl,qB HGR.out (zt _),by rw[HN2.out]⟩
            case pos=>as_aux_lemma=>
             have he:VW y (xx (-2-hz) reg)=true:=by unfold VW;exact zP hyz
             rw[he]at HEQ;rw[zj hyz]at HN2;clear hyz he;go_still_tail 14,(by kernel_rfl);change wpList _ _ _ _ _ (World.drew _)
             go_wp2_with (first
              |(go_at_call 185;(with_reducible refine(yE _).mono ?_);rintro e w10 ⟨rfl,rfl⟩))
             go_end0
             exact⟨qB HGR.out (zt _),by rw[HN2.out];exact⟨rfl,HL8.out.hi.below (zt _)⟩⟩
end Go.Proofs.YtgalekifgnecjaaGreat
