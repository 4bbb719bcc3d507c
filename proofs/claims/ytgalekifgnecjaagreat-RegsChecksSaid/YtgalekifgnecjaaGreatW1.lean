/- The homes that slots are given: plain laws -/
import Derived.Test.YtgalekifgnecjaaGreatQ2
import Derived.Test.YtgalekifgnecjaaGreatT18
import Derived.Test.YtgalekifgnecjaaGreatT4
import Derived.Test.YtgalekifgnecjaaGreatN6
namespace Go.Proofs.YtgalekifgnecjaaGreat
open Go.RowKit
open Go.RowKit Go.Shelf
theorem Zw{u:zg}{s:Int}:s∈yx u↔(0<=s/\s<(u.args.toNat:Int))\/∃x∈u.code,s∈zp x\/(0<=zc x/\s=zc x):=by
 have h:∀(c:List zm) (l:List Int),s∈c.foldl (fun l x=>if 0<=zc x then xB (zc x) ((zp x).foldl (fun l s=>xB s l) l)else(zp x).foldl (fun l s=>xB s l) l) l ↔
   s∈l\/∃x∈c,s∈zp x\/(0<=zc x/\s=zc x):=by
  intro c
  induction c with
  |nil=>intro l;simp
  |cons y c ih=>
   intro l;rw[qP,ih];simp only[xK,exists_eq_or_imp]
   have e:(s∈if 0<=zc y then xB (zc y) ((zp y).foldl (fun l s=>xB s l) l)else(zp y).foldl (fun l s=>xB s l) l)↔s∈l\/(s∈zp y\/(0<=zc y/\s=zc y)):=by
    split
    ·rename_i hy
     rw[vQ,jB];constructor
     ·rintro(h|h|h)
      ·exact .inr (.inr ⟨hy,h⟩)
      ·exact .inl h
      ·exact .inr (.inl h)
     ·rintro(h|h|h)
      ·exact .inr (.inl h)
      ·exact .inr (.inr h)
      ·exact .inl h.2
    ·rename_i hy
     rw[jB];constructor
     ·rintro(h|h)
      ·exact .inl h
      ·exact .inr (.inl h)
     ·rintro(h|h|h)
      ·exact .inl h
      ·exact .inr h
      ·exact absurd h.1 hy
   rw[e,or_assoc]
 unfold yx;rw[h];refine or_congr_left ?_;rw[xI];constructor
 ·rintro⟨k,hk,rfl⟩
  have:=yR.1 hk;exact⟨by show(0:Int)<=(k:Int);omega,by show(k:Int)<_;omega⟩
 ·rintro⟨h1,h2⟩
  exact⟨s.toNat,yR.2 (by omega),by show((s.toNat:Nat):Int)=s;omega⟩
theorem Uh{u:zg}{t:Nat}{x:Int}(hx:x∈(zf u).getD t []):x∈yx u:=by
 have h1:=(yq u).un t x hx;unfold Vm at h1;rw[List.mem_flatMap]at h1;obtain⟨y,hy,hx2⟩:=h1;exact Zw.2 (.inr ⟨y,hy,.inl hx2⟩)
theorem Di{u:zg}{ps:List Int}{x:Int}(hx:x∈qV (zf u) ps):x∈yx u:=by
 obtain⟨p,_,h⟩:=Zh.1 hx;exact Uh h
def Yt(u:zg)(l:List (Int×Int)):Prop:=∀p∈l,p.1∈yx u/\p.2∈yx u
theorem Yt.note{u:zg}{l:List (Int×Int)}(h:Yt u l){s t:Int}(hs:s∈yx u)(ht:t∈yx u):Yt u (xu l s t):=by
 intro p hp;rcases Qr.1 hp with hp|⟨_,rfl⟩
 ·exact h p hp
 ·unfold qU
  rcases(show s<=t\/t<=s by omega)with hc|hc
  ·exact⟨by show min s t∈_;rw[show min s t=s by omega];exact hs,by show max s t∈_;rw[show max s t=t by omega];exact ht⟩
  ·exact⟨by show min s t∈_;rw[show min s t=t by omega];exact ht,by show max s t∈_;rw[show max s t=s by omega];exact hs⟩
theorem Yt.fold{u:zg}{s:Int}(hs:s∈yx u):∀ {bs:List Int} {l:List (Int×Int)},Yt u l->(∀b∈bs,b∈yx u)->Yt u (bs.foldl (fun l b=>xu l s b) l)
 | [],_,h,_=>h
 |b::bs,l,h,hb=>by
  rw[qP];exact Yt.fold hs (h.note hs (hb b (by simp))) (fun c hc=>hb c (by simp[hc]))
theorem JK{u:zg}{k:Nat}(h:k<u.args.toNat):(k:Int)∈yx u:=Zw.2 (.inl ⟨by omega,by omega⟩)
theorem VG{u:zg}:∀(k:Nat),k<=u.args.toNat->Yt u (yT [] k)
 |0,_=>fun p hp=>by simp[yT]at hp
 |k+1,hk=>by
  have ih:=VG (u:=u) k (by omega);unfold yT
  have hf:∀(j:Nat),j<=k->Yt u ((List.range j).foldl (fun l (b:Nat)=>xu l k b) (yT [] k)):=by
   intro j
   induction j with
   |zero=>intro _;exact ih
   |succ j ihj=>
    intro hj;rw[Ze,jc];exact(ihj (by omega)).note (JK (by omega)) (JK (by omega))
  exact hf k (zI _)
theorem VF{u:zg}{l:List (Int×Int)}(h:Yt u l){s0:List Int}(hs:∀b∈s0,b∈yx u):∀(k:Nat),k<=u.args.toNat->Yt u (qd l s0 k)
 |0,_=>h
 |k+1,hk=>by
  unfold qd;exact(VF h hs k (by omega)).fold (JK (by omega)) hs
theorem EN{u:zg}{l:List (Int×Int)}(h:Yt u l){t:Nat}(ht:t<u.code.length):Yt u (ZM u (zf u) l t):=by
 unfold ZM;split
 ·rename_i hy
  rw[zk ht]at *;exact h.fold (Zw.2 (.inr ⟨_,yy ht,.inr ⟨hy,rfl⟩⟩)) (fun b hb=>Di hb)
 ·exact h
theorem EM(u:zg):Yt u (zZ u):=by
 have hf:∀(k:Nat),k<=u.code.length->Yt u ((List.range k).foldl (ZM u (zf u)) (qd (yT [] u.args.toNat) ((zf u).getD 0 []) u.args.toNat)):=by
  intro k
  induction k with
  |zero=>intro _;exact VF (VG _ (zI _)) (fun b hb=>Uh hb) _ (zI _)
  |succ k ih=>
   intro hk;rw[Ze,jc];exact EN (ih (by omega)) (by omega)
 exact hf _ (zI _)
def Oe(u:zg)(keep cells:Int)(t:Nat)(x:Int):Prop:=
 ((t:Int)∉yx u/\x= -1)\/((t:Int)∈yx u/\((0<=x/\x<keep)\/((t:Int)<u.args/\x= -2-(t:Int))\/(u.args<=(t:Int)/\∃c,u.args<=c/\c<cells/\x= -2-c)))
structure KR(u:zg)(keep:Int)(n:Nat)(h:KQ):Prop where
 len:h.out.length=n
 had:∀x,x∈h.had↔∃t,t<n/\x=((t:Int),h.out.getD t 0)/\0<=h.out.getD t 0
 cel:u.args<=h.cells
 fin:h.cells<=max u.args n
 one:∀t,t<n->Oe u keep h.cells t (h.out.getD t 0)
 ne:∀t t',t<t'->t'<n->ZT (zZ u) t' t=true->0<=h.out.getD t 0->h.out.getD t 0≠h.out.getD t' 0
 uq:∀t t',t<t'->t'<n->h.out.getD t 0<= -2->h.out.getD t 0≠h.out.getD t' 0
theorem UZ{l:List Int}{x:Int}{t:Nat}(h:t<l.length):(l++ [x]).getD t 0=l.getD t 0:=by
 simp only[jI,List.getElem?_append_left h]
theorem U0{l:List Int}{x:Int}{t:Nat}(h:l.length=t):(l++ [x]).getD t 0=x:=by
 subst h;simp
theorem Oe.mono{u:zg}{keep c c':Int}(h:c<=c'){t:Nat}{x:Int}(hx:Oe u keep c t x):Oe u keep c' t x:=by
 rcases hx with hx|⟨h1,h2|h2|⟨h3,d,h4,h5,h6⟩⟩
 ·exact .inl hx
 ·exact .inr ⟨h1,.inl h2⟩
 ·exact .inr ⟨h1,.inr (.inl h2)⟩
 ·exact .inr ⟨h1,.inr (.inr ⟨h3,d,h4,by omega,h6⟩)⟩
theorem Oe.ge{u:zg}{keep c:Int}{t:Nat}{x:Int}(hx:Oe u keep c t x)(hn:x<= -2):(t:Int)∈yx u/\(((t:Int)<u.args/\x= -2-(t:Int))\/(u.args<=(t:Int)/\∃d,u.args<=d/\d<c/\x= -2-d)):=by
 rcases hx with ⟨_,hx⟩|⟨h1,h2|h2⟩
 ·omega
 ·omega
 ·exact⟨h1,h2⟩
theorem KR.snoc{u:zg}{keep:Int}{n:Nat}{h:KQ}(hi:KR u keep n h){x c':Int}{had':List (Int×Int)}
  (hh:∀y,y∈had'↔y∈h.had\/(y=((n:Int),x)/\0<=x)) (hc:h.cells<=c') (hf:c'<=max u.args ((n:Int)+1)) (ho:Oe u keep c' n x)
  (hne:∀t,t<n->ZT (zZ u) n t=true->0<=h.out.getD t 0->h.out.getD t 0≠x) (huq:∀t,t<n->h.out.getD t 0<= -2->h.out.getD t 0≠x):KR u keep (n+1) ⟨had',h.out++ [x],c'⟩:=by
 have hl:=hi.len;have e1:∀t,t<n->(h.out++ [x]).getD t 0=h.out.getD t 0:=fun t ht=>UZ (by omega)
 have e2:(h.out++ [x]).getD n 0=x:=U0 hl;refine⟨by rw[yV,hl];rfl,fun y=> ?_,by have:=hi.cel;show u.args<=c';omega,by show c'<=_;omega,fun t ht=> ?_,fun t t' h1 h2=> ?_,fun t t' h1 h2=> ?_⟩
 ·show y∈had'↔_
  rw[hh,hi.had];constructor
  ·rintro(⟨t,ht,e,h0⟩|⟨e,h0⟩)
   ·exact⟨t,by omega,by rw[e1 t ht];exact e,by rw[e1 t ht];exact h0⟩
   ·exact⟨n,by omega,by rw[e2];exact e,by rw[e2];exact h0⟩
  ·rintro⟨t,ht,e,h0⟩
   by_cases htn:t<n
   ·rw[e1 t htn]at e h0
    exact .inl ⟨t,htn,e,h0⟩
   ·obtain rfl:t=n:=by omega
    rw[e2]at e h0;exact .inr ⟨e,h0⟩
 ·show Oe u keep c' t ((h.out++ [x]).getD t 0)
  by_cases htn:t<n
  ·rw[e1 t htn];exact(hi.one t htn).mono hc
  ·obtain rfl:t=n:=by omega
   rw[e2];exact ho
 ·show ZT _ _ _=true->0<=(h.out++ [x]).getD t 0->(h.out++ [x]).getD t 0≠(h.out++ [x]).getD t' 0
  by_cases htn:t'<n
  ·rw[e1 t (by omega),e1 t' htn];exact hi.ne t t' h1 htn
  ·obtain rfl:t'=n:=by omega
   rw[e1 t h1,e2];exact hne t h1
 ·show(h.out++ [x]).getD t 0<= -2->(h.out++ [x]).getD t 0≠(h.out++ [x]).getD t' 0
  by_cases htn:t'<n
  ·rw[e1 t (by omega),e1 t' htn];exact hi.uq t t' h1 htn
  ·obtain rfl:t'=n:=by omega
   rw[e1 t h1,e2];exact huq t h1
theorem KR.step{u:zg}{keep:Int}{n:Nat}{h:KQ}(ha:0<=u.args)(hi:KR u keep n h):KR u keep (n+1) (Xi (zZ u) (yx u) keep u.args h n):=by
 have hc:=hi.cel;have hfi:=hi.fin;unfold Xi;split
 ·rename_i hu
  have hu:(n:Int)∈yx u:=xn.1 hu;split
  ·rename_i hk
   refine hi.snoc (fun y=> ?_) (Int.le_refl _) (by omega) (.inr ⟨hu,.inl ⟨by omega,hk⟩⟩) (fun t ht hcl h0 e=> ?_) (fun t ht h0=>by omega)
   ·rw[qr,qf]
    exact or_congr_right ⟨fun e=>⟨e,by omega⟩,fun e=>e.1⟩
   ·have hb:=(Vg (zZ u) h.had (n:Int)).2
    unfold vw at hb;rw[List.any_eq_false]at hb;refine hb ((t:Int),h.out.getD t 0) ((hi.had _).2 ⟨t,ht,rfl,h0⟩) ?_;rw[yi];exact⟨by simpa using e,hcl⟩
  ·split
   ·rename_i hna
    refine hi.snoc (fun y=>⟨fun e=> .inl e,fun e=>e.elim id (fun e=>by omega)⟩) (Int.le_refl _) (by omega) (.inr ⟨hu,.inr (.inl ⟨hna,rfl⟩)⟩) (fun t ht hcl h0=>by omega) (fun t ht h0=> ?_);obtain⟨_,h2|⟨h2,d,h3,h4,h5⟩⟩:=(hi.one t ht).ge h0
    ·omega
    ·omega
   ·rename_i hna
    refine hi.snoc (fun y=>⟨fun e=> .inl e,fun e=>e.elim id (fun e=>by omega)⟩) (by omega) (by omega) (.inr ⟨hu,.inr (.inr ⟨by omega,h.cells,hc,by omega,rfl⟩)⟩) (fun t ht hcl h0=>by omega) (fun t ht h0=> ?_);obtain⟨_,h2|⟨h2,d,h3,h4,h5⟩⟩:=(hi.one t ht).ge h0
    ·omega
    ·omega
 ·rename_i hu
  have hu:(n:Int)∉yx u:=fun e=>hu (xn.2 e)
  exact hi.snoc (fun y=>⟨fun e=> .inl e,fun e=>e.elim id (fun e=>by omega)⟩) (Int.le_refl _) (by omega) (.inl ⟨hu,rfl⟩) (fun t ht hcl h0=>by omega) (fun t ht h0=>by omega)
theorem vk{u:zg}(hw:zC u=true)(k:Int):KR u (k-yd u) u.slots.toNat (zW u k):=by
 have ha:=(zL hw).1
 have hf:∀n:Nat,KR u (k-yd u) n ((List.range n).foldl (Xi (zZ u) (yx u) (k-yd u) u.args) ⟨[],[],u.args⟩):=by
  intro n
  induction n with
  |zero=>exact⟨rfl,fun x=>⟨fun h=>(by cases h),fun⟨t,h,_⟩=>absurd h (y_ t)⟩,Int.le_refl _,by show u.args<=max u.args 0;omega,fun t h=>absurd h (y_ t),fun t t' _ h=>absurd h (y_ t'),fun t t' _ h=>absurd h (y_ t')⟩
  |succ n ih=>
   rw[Ze,jc];exact ih.step ha
 exact hf _
def xC(u:zg)(live:List (List Int))(h:List Int)(k:Nat)(g:xd):List zm:=
 (zx h g).map (fun s=>qm (qX (zx h g) (yv h k (yj u live g)) s) (-2-zh h s)) ++
 ((List.range (g.til+1-g.frm)).map (fun j=>zY (u.code.getD (g.frm+j) zw) (Yx h (zx h g) (yv h k (yj u live g))) (q_ h (yv h k (zU u live g)))) ++
 (if 0<=g.wr/\zh h g.wr<= -2 then [xx (-2-zh h g.wr) (q_ h (yv h k (zU u live g)) g.wr)]else []))
structure P4(h ats:List Int)(a:Nat)(g:xd):Prop where
 at0:ats.getD g.frm 0=(a:Int)
 atj:∀j,g.frm<j->j<=g.til->ats.getD j 0=((a+(zx h g).length+(j-g.frm):Nat):Int)
theorem jO(l:List Int)(i:Nat)(x:Int)(j:Nat)(h:i<l.length):(l.set i x).getD j 0=if j=i then x else l.getD j 0:=by
 simp only[jI,List.getElem?_set];by_cases e:i=j
 ·subst e
  simp[h]
 ·simp[e,show ¬j=i from fun h=>e h.symm]
section
variable {u:zg} {live:List (List Int)} {h loads temps fr:List Int} {k:Nat}
theorem Jw(l:List Nat)(w:xN):(l.foldl (vu u h loads temps fr) w).code=w.code++l.map fun i=>zY (u.code.getD i zw) (Yx h loads temps) (q_ h fr):=by
 induction l generalizing w with
 |nil=>simp
 |cons i l ih=>
  rw[qP,ih];unfold vu;rw[j9,Yr];rfl
theorem Vy(l:List Nat)(w:xN):(l.foldl (vu u h loads temps fr) w).ats.length=w.ats.length:=by
 induction l generalizing w with
 |nil=>rfl
 |cons i l ih=>
  rw[qP,ih];unfold vu;rw[List.length_set]
theorem GU(f:Nat):∀(m:Nat) (w:xN),f+1+m<=w.ats.length ->
  (∀j,f<j->j<=f+m->(((List.range m).map (f+1+ ·)).foldl (vu u h loads temps fr) w).ats.getD j 0=((w.code.length+(j-f-1):Nat):Int)) /\
  (∀j,(j<=f\/f+m<j)->(((List.range m).map (f+1+ ·)).foldl (vu u h loads temps fr) w).ats.getD j 0=w.ats.getD j 0)
 |0,w,_=>⟨fun j h1 h2=>by omega,fun j _=>rfl⟩
 |m+1,w,hl=>by
  obtain⟨h1,h2⟩:=GU f m w (by omega);rw[Ze,q8,jc];have hc:=Jw (u:=u) (h:=h) (loads:=loads) (temps:=temps) (fr:=fr) ((List.range m).map (f+1+ ·)) w;have hn:=Vy (u:=u) (h:=h) (loads:=loads) (temps:=temps) (fr:=fr) ((List.range m).map (f+1+ ·)) w;generalize ((List.range m).map (f+1+ ·)).foldl (vu u h loads temps fr) w=w1 at *;have hcl:w1.code.length=w.code.length+m:=by rw[hc,yV,ym,ym,Qh]
  have e:∀j,((List.map (f+1+ ·) [m]).foldl (vu u h loads temps fr) w1).ats.getD j 0=if j=f+1+m then((w1.code.length:Nat):Int)else w1.ats.getD j 0:=fun j=>by
   show(w1.ats.set (f+1+m) w1.code.length).getD j 0=_;rw[jO _ _ _ _ (by omega)]
  refine⟨fun j g1 g2=> ?_,fun j g1=> ?_⟩
  ·rw[e]
   by_cases hj:j=f+1+m
   ·rw[zj hj,hcl]
    congr 1;omega
   ·rw[zi hj]
    exact h1 j g1 (by omega)
  ·rw[e,zi (by omega)]
   exact h2 j (by omega)
theorem DN{w:xN}{g:xd}(hle:g.frm<=g.til)(hl:g.til<w.ats.length):
  (qY u live h k w g).code=w.code++xC u live h k g/\(qY u live h k w g).ats.length=w.ats.length/\P4 h (qY u live h k w g).ats w.code.length g /\
  ∀j,(j<g.frm\/g.til<j)->(qY u live h k w g).ats.getD j 0=w.ats.getD j 0:=by
 obtain⟨m,hm⟩:∃m,g.til=g.frm+m:=⟨g.til-g.frm,by omega⟩
 have hm2:g.til-g.frm=m:=by omega
 have hm3:g.til+1-g.frm=m+1:=by omega
 unfold qY xC;simp only[hm2,hm3];generalize hlo:zx h g=loads;generalize yv h k (yj u live g)=temps;generalize yv h k (zU u live g)=fr;obtain⟨w2,hw2⟩:∃w2:xN,w2=⟨(w.code++loads.map fun s=>qm (qX loads temps s) (-2-zh h s))++ [zY (u.code.getD g.frm zw) (Yx h loads temps) (q_ h fr)],w.ats.set g.frm w.code.length⟩:=⟨_,rfl⟩
 rw[<-hw2];have hc2:w2.code.length=w.code.length+loads.length+1:=by rw[hw2];simp only[yV,ym,xv,List.length_nil]
 have ha2:w2.ats.length=w.ats.length:=by rw[hw2];exact List.length_set
 have hg2:∀j,w2.ats.getD j 0=if j=g.frm then((w.code.length:Nat):Int)else w.ats.getD j 0:=fun j=>by rw[hw2];exact jO _ _ _ _ (by omega)
 have hcd:=Jw (u:=u) (h:=h) (loads:=loads) (temps:=temps) (fr:=fr) ((List.range m).map (g.frm+1+ ·)) w2;have hln:=Vy (u:=u) (h:=h) (loads:=loads) (temps:=temps) (fr:=fr) ((List.range m).map (g.frm+1+ ·)) w2;obtain⟨p1,p2⟩:=GU (u:=u) (h:=h) (loads:=loads) (temps:=temps) (fr:=fr) g.frm m w2 (by omega);generalize ((List.range m).map (g.frm+1+ ·)).foldl (vu u h loads temps fr) w2=w3 at *;have hats:∀j,(if 0<=g.wr/\zh h g.wr<= -2 then(⟨w3.code++ [xx (-2-zh h g.wr) (q_ h fr g.wr)],w3.ats⟩:xN)else w3).ats.getD j 0=w3.ats.getD j 0:=fun j=>by split<;>rfl
 have hats2:(if 0<=g.wr/\zh h g.wr<= -2 then(⟨w3.code++ [xx (-2-zh h g.wr) (q_ h fr g.wr)],w3.ats⟩:xN)else w3).ats.length=w3.ats.length:=by split<;>rfl
 refine⟨?_,by rw[hats2,hln,ha2],⟨?_,fun j g1 g2=> ?_⟩,fun j g1=> ?_⟩
 ·have e:w3.code=w.code++((loads.map fun s=>qm (qX loads temps s) (-2-zh h s))++(List.range (m+1)).map fun j=>zY (u.code.getD (g.frm+j) zw) (Yx h loads temps) (q_ h fr)):=by
   rw[hcd,hw2,List.range_succ_eq_map,j9,List.map_map,List.map_map];simp only[Yr,Y6,Zd];congr 3;congr 1;funext j;simp only[Function.comp];rw[show g.frm+1+j=g.frm+(j+1) by omega]
  split
  ·show w3.code++_=_
   rw[e];simp only[Yr]
  ·rw[e]
   simp only[qO]
 ·rw[hats,p2 _ (.inl (zI _)),hg2,zj rfl]
 ·rw[hats,p1 j g1 (by omega),hc2,hlo]
  congr 1;omega
 ·rw[hats,p2 j (by omega),hg2,zi (by omega)]
end
def vd(u:zg):Nat->List xd->Prop
 |_,[]=>True
 |i,g::gs=>g.frm=i/\g.frm<=g.til/\g.til<u.code.length/\vd u (g.til+1) gs
def Mj(u:zg)(live:List (List Int))(h:List Int)(k:Nat)(ats:List Int):Nat->List xd->Prop
 |_,[]=>True
 |a,g::gs=>P4 h ats a g/\Mj u live h k ats (a+(xC u live h k g).length) gs
theorem X9{u:zg}{live:List (List Int)}{h:List Int}{k:Nat}:∀(gs:List xd) (i:Nat) (w:xN),vd u i gs->w.ats.length=u.code.length ->
  (gs.foldl (qY u live h k) w).code=w.code++gs.flatMap (xC u live h k)/\(gs.foldl (qY u live h k) w).ats.length=u.code.length /\
  (∀j,j<i->(gs.foldl (qY u live h k) w).ats.getD j 0=w.ats.getD j 0)/\Mj u live h k (gs.foldl (qY u live h k) w).ats w.code.length gs
 | [],i,w,_,hl=>⟨by simp,hl,fun j _=>rfl,trivial⟩
 |g::gs,i,w,hg,hl=>by
  obtain⟨h1,h2,h3,h4⟩:=hg;obtain⟨c1,c2,c3,c4⟩:=DN (u:=u) (live:=live) (h:=h) (k:=k) (w:=w) h2 (by omega);obtain⟨d1,d2,d3,d4⟩:=X9 (u:=u) (live:=live) (h:=h) (k:=k) gs (g.til+1) (qY u live h k w g) h4 (by omega);rw[qP];refine⟨by rw[d1,c1,List.flatMap_cons,Yr],d2,fun j hj=>by rw[d3 j (by omega),c4 j (by omega)],⟨by rw[d3 _ (by omega)];exact c3.at0,fun j e1 e2=>by rw[d3 j (by omega)];exact c3.atj j e1 e2⟩,?_⟩;rw[c1,yV]at d4;exact d4
theorem YE{u:zg}:∀(f i:Nat),vd u i (jE u.code (zl u.code) f i)
 |0,_=>trivial
 |f+1,i=>by
  unfold jE;split
  ·rename_i hi
   have hfl:(zl u.code).length=u.code.length:=z_ u.code u.code.length;exact⟨rfl,jp _ _,by rw[<-hfl];exact vD (by rw[hfl];exact hi),YE f _⟩
  ·trivial
theorem ZZ{u:zg}(k:Nat):(xM u k).code=yp (zW u k).out u.args.toNat++(yg u).flatMap (xC u (zf u) (zW u k).out k)/\(xM u k).ats.length=u.code.length /\
  Mj u (zf u) (zW u k).out k (xM u k).ats (yp (zW u k).out u.args.toNat).length (yg u):=by
 obtain⟨h1,h2,_,h4⟩:=X9 (u:=u) (live:=zf u) (h:=(zW u k).out) (k:=k) (yg u) 0 ⟨yp (zW u k).out u.args.toNat,List.replicate u.code.length 0⟩ (YE _ _) List.length_replicate;exact⟨h1,h2,h4⟩
theorem Uu{α: Type}{l:List α}{a:Nat}{x:α}{r:List α}(h:l.drop a=x::r):l[a]?=some x/\l.drop (a+1)=r:=by
 constructor
 ·have e:(l.drop a)[0]?=some x:=by rw[h];rfl
  rwa [List.getElem?_drop,Nat.add_zero]at e
 ·rw[<-List.drop_drop,h];rfl
theorem LW{α: Type}{l:List α}{a:Nat}(h:l.drop a= []):l[a]?=none:=by
 have e:(l.drop a)[0]?=none:=by rw[h];rfl
 rwa [List.getElem?_drop,Nat.add_zero]at e
theorem Nl{α: Type}{l r:List α}{a:Nat}(h:l.drop a=r)(j:Nat):l[a+j]?=r[j]?:=by rw[<-h,List.getElem?_drop]
theorem OW{v:zg}{h reads needed:List Int}{tmp:Int->Int}{rest:List zm}(hrest:∀x r,rest=x::r->x.op≠33):
  ∀(ls:List Int) (f a:Nat) (had:List Int) (m:List (Int×Int)),v.code.drop a=ls.map (fun s=>qm (tmp s) (-2-zh h s))++rest->ls.length<f ->
  (∀s∈ls,s∈reads/\zh h s<= -2/\yr (tmp s) 0 (v.slots-1)=true/\yS h (tmp s) needed=false/\tmp s∉had)->ls.Pairwise (fun s t=>tmp s≠tmp t) ->
  vL v h reads needed f a had m=some (a+ls.length,m++ls.flatMap fun s0=>(reads.filter fun s=>zh h s==zh h s0).map fun s=>(s,tmp s0))
 | [],f,a,had,m,hd,hf,_,_=>by
  obtain⟨f,rfl⟩:∃f',f=f'+1:=⟨f-1,by simp at hf;omega⟩
  unfold vL;rw[List.map_nil,Zd]at hd
  cases rest with
  |nil=>rw[LW hd];simp
  |cons x r=>
   rw[(Uu hd).1];simp only[zj (hrest x r rfl)]
   simp
 |s::ls,f,a,had,m,hd,hf,hs,hp=>by
  obtain⟨f,rfl⟩:∃f',f=f'+1:=⟨f-1,by simp at hf;omega⟩
  rw[j9,Y6]at hd;obtain⟨e1,e2⟩:=Uu hd;obtain⟨q1,q2,q3,q4,q5⟩:=hs s (by simp);obtain⟨p1,p2⟩:=jW.1 hp;have eb: -2-(-2-zh h s)=zh h s:=by omega
  have hone:XA v h reads needed (qm (tmp s) (-2-zh h s)) had=true:=by
   unfold XA qm;simp only[eb];simp only[yi,jb,yB,v_];refine⟨⟨⟨⟨⟨rfl,q3⟩,?_⟩,q4⟩,by omega⟩,s,q1,by simp⟩
   cases hc:had.contains (tmp s)with
   |false=>rfl
   |true=>exact absurd (xn.1 hc) q5
  have ih:=OW (v:=v) (h:=h) (reads:=reads) (needed:=needed) (tmp:=tmp) hrest ls f (a+1) (had++ [tmp s]) (GQ h reads (qm (tmp s) (-2-zh h s)) m) e2 (by simp at hf;omega) (fun t ht=>by
   obtain⟨r1,r2,r3,r4,r5⟩:=hs t (by simp[ht]);refine⟨r1,r2,r3,r4,fun e=> ?_⟩;rcases qr.1 e with e|e
   ·exact r5 e
   ·exact p1 t ht (qf.1 e).symm) p2
  unfold vL;rw[e1];simp only[zi (show ¬(qm (tmp s) (-2-zh h s)).op≠33 from fun e=>e rfl),zj hone];show vL v h reads needed f (a+1) (had++ [tmp s]) _=_;rw[ih,List.flatMap_cons,xv];unfold GQ qm;simp only[eb,Yr];rw[show a+1+ls.length=a+(ls.length+1) by omega]
theorem Ls{m:List (Int×Int)}{s r:Int}(h:(s,r)∈m)(ha:∀x∈m,x.1=s->x.2=r):ZL m s=some r:=by
 unfold ZL
 cases hf:m.reverse.find? (fun x=>x.1==s)with
 |none=>
  rw[List.find?_eq_none]at hf
  exact absurd (by simp) (hf (s,r) (List.mem_reverse.2 h))
 |some y=>
  have h1:=List.find?_some hf;have h2:=List.mem_of_find?_eq_some hf;rw[Option.map_some,ha y (List.mem_reverse.1 h2) (by simpa using h1)]
theorem Z6{y:Int}{f g:Int->Int}(h:0<=y->f y=g y):qg y f=qg y g:=by
 unfold qg;split
 ·rename_i h0;exact h h0
 ·rfl
theorem XR{x:zm}{rd rd' wr wr':Int->Int}(hr:∀s∈zp x,rd s=rd' s)(hw:0<=zc x->wr (zc x)=wr' (zc x)):zY x rd wr=zY x rd' wr':=by
 have hA:V4.contains x.op=true->(zM x.op).r0=1:=fun h=>((by decide:∀op∈V4,(zM op).r0=1) _ (xn.1 h))
 have hBC:Yy.contains x.op=true->(zM x.op).r0=2/\(zM x.op).r1=3:=fun h=>((by decide:∀op∈Yy,(zM op).r0=2/\(zM op).r1=3) _ (xn.1 h))
 have hB:rdB.contains x.op=true->(zM x.op).r0=2:=fun h=>((by decide:∀op∈rdB,(zM op).r0=2) _ (xn.1 h))
 have hW:(if 0<=zc x then qg x.a wr else x.a)=if 0<=zc x then qg x.a wr' else x.a:=by
  split
  ·rename_i h0
   have e:=hw h0;rw[Q7 h0]at e;exact Z6 (fun _=>e)
  ·rfl
 unfold zY;split
 ·rename_i h
  rw[Z6 (fun h0=>hr _ (FZ (hA h) h0))]
 ·split
  ·rename_i h
   rw[hW,Z6 (fun h0=>hr _ (Gy (hBC h).1 h0)),Z6 (f:=rd) (g:=rd') (y:=x.c) (fun h0=>hr _ (FY (hBC h).2 h0))]
  ·split
   ·rename_i h
    rw[hW,Z6 (fun h0=>hr _ (Gy (hB h) h0))]
   ·rw[hW]
theorem Y9(x:zm)(rd wr:Int->Int):(zY x rd wr).op=x.op:=by
 unfold zY;split
 ·rfl
 ·split
  ·rfl
  ·split<;>rfl
theorem UQ(t:List Int)(x:zm):(yK t x).op=x.op:=by
 unfold yK;split
 ·rfl
 ·split<;>rfl
theorem NF{t:List Int}{x:zm}(h:x.op≠24):(yK t x).a=x.a:=by
 unfold yK;rw[zi (by simpa using h)];split<;>rfl
theorem UD{x:zm}(h:0<=zc x):x.op≠24:=by
 intro e;unfold zc at h;rw[e,zj (by decide)]at h;omega
theorem FN{x:zm}{rd wr:Int->Int}(h:0<=zc x):(zY x rd wr).a=wr (zc x):=by
 have ha:=Q7 h
 have hs:qg x.a wr=wr x.a:=by
  unfold qg;rw[zj (by omega)]
 have hA:V4.contains x.op=false:=by
  cases hc:V4.contains x.op with
  |false=>rfl
  |true=>
   have:=(by decide:∀op∈V4,(zM op).wr=0) _ (xn.1 hc);unfold zc at h;rw[zj this]at h;omega
 unfold zY;rw[zi (by rw[hA];exact Y7)];split
 ·show qg x.a wr=_
  rw[hs,ha]
 ·split
  ·show qg x.a wr=_
   rw[hs,ha]
  ·show qg x.a wr=_
   rw[hs,ha]
theorem J9{u v:zg}{h at':List Int}{m:List (Int×Int)}{behind:List Int}{frm:Nat}{rd wr:Int->Int}:∀(n a:Nat),
  (∀j,j<n->v.code[a+j]?=some (yK at' (zY (u.code.getD (frm+j) zw) rd wr))/\(j=0\/at'.getD (frm+j) 0=((a+j:Nat):Int)) /\
   (∀s∈zp (u.code.getD (frm+j) zw),xG h m s=some (rd s)) /\
   (0<=zc (u.code.getD (frm+j) zw)->qH v h behind (yK at' (zY (u.code.getD (frm+j) zw) rd wr)) (zc (u.code.getD (frm+j) zw))=some (wr (zc (u.code.getD (frm+j) zw))))) ->
  jC u v h at' m behind frm n a=some (a+n)
 |0,a,_=>rfl
 |n+1,a,H=>by
  unfold jC;rw[J9 n a (fun j hj=>H j (by omega)),xz];obtain⟨h1,h2,h3,h4⟩:=H n (by omega);unfold qW;rw[h1]
  have e:zY (u.code.getD (frm+n) zw) rd wr=zY (u.code.getD (frm+n) zw) (fun s=>(xG h m s).getD 0) (fun s=>(qH v h behind (yK at' (zY (u.code.getD (frm+n) zw) rd wr)) s).getD 0):=
   XR (fun s hs=>by rw[h3 s hs];rfl) (fun h0=>by rw[h4 h0];rfl)
  dsimp only;refine(zj ⟨?_,?_,?_,?_⟩).trans rfl
  ·rcases h2 with h2|h2
   ·exact .inl (by omega)
   ·exact .inr h2
  ·unfold I6
   rw[yL];intro s hs;rw[h3 s hs];rfl
  ·intro h0
   rw[h4 h0];rfl
  ·rw[<-e]
section
variable {u:zg} {k:Nat}
theorem UU(hw:zC u=true)(k:Nat){s:Int}(h0:0<=s)(h1:s<u.slots):Oe u (k-yd u) (zW u k).cells s.toNat (zh (zW u k).out s):=
 (vk hw k).one s.toNat (by omega)
theorem J_(hw:zC u=true){s:Int}(h0:0<=s)(h1:s<u.slots)(hu:s∈yx u):(0<=zh (zW u k).out s/\zh (zW u k).out s<k-yd u)\/zh (zW u k).out s<= -2:=by
 have ha:=(zL hw).1;have e:((s.toNat:Nat):Int)=s:=by omega
 rcases UU hw k h0 h1 with ⟨h,_⟩|⟨_,h|⟨_,h⟩|⟨_,d,h2,h3,h4⟩⟩
 ·rw[e]at h;exact absurd hu h
 ·exact .inl h
 ·exact .inr (by omega)
 ·exact .inr (by omega)
theorem Nb(hw:zC u=true){s:Int}(h0:0<=s)(h1:s<u.slots):zh (zW u k).out s<k-yd u\/zh (zW u k).out s<0:=by
 have ha:=(zL hw).1;rcases UU hw k h0 h1 with ⟨_,h⟩|⟨_,h|⟨_,h⟩|⟨_,d,h2,h3,h4⟩⟩
 ·exact .inr (by omega)
 ·exact .inl h.2
 ·exact .inr (by omega)
 ·exact .inr (by omega)
theorem Na(hw:zC u=true){s t:Int}(s0:0<=s)(s1:s<u.slots)(t0:0<=t)(t1:t<u.slots)(h:zh (zW u k).out s<= -2)(e:zh (zW u k).out s=zh (zW u k).out t):s=t:=by
 have hq:=(vk hw k).uq;unfold zh at *;rcases(show s.toNat<t.toNat\/s.toNat=t.toNat\/t.toNat<s.toNat by omega)with hc|hc|hc
 ·exact absurd e (hq _ _ hc (by omega) h)
 ·omega
 ·exact absurd e.symm (hq _ _ hc (by omega) (by rw[<-e];exact h))
theorem JE{h l:List Int}{r:Int}:r∈yv h k l->0<=r/\r<k/\yS h r l=false:=by
 unfold yv;rw[xI];rintro⟨n,hn,rfl⟩;obtain⟨h1,h2⟩:=jn.1 hn;have:=yR.1 h1;exact⟨by show(0:Int)<=(n:Int);omega,by show(n:Int)<_;omega,by simpa using h2⟩
theorem EE(h:List Int)(k:Nat)(l:List Int):(yv h k l).Nodup:=by
 unfold yv;have hn:((List.range k).filter fun(r:Nat)=> !(yS h r l)).Nodup:=List.Pairwise.filter _ List.nodup_range;exact List.pairwise_map.2 (hn.imp fun hne e=>hne (by have e2:((_:Nat):Int)=((_:Nat):Int):=e;omega))
theorem Gb(hw:zC u=true)(hk:yd u<=k){l:List Int}(hl:∀x∈l,0<=x/\x<u.slots):yd u<=(yv (zW u k).out k l).length:=by
 unfold yv;rw[ym];obtain⟨d,hd⟩:∃d,k=d+yd u:=⟨k-yd u,by omega⟩
 have e:List.range k=List.range d++(List.range (yd u)).map (d+ ·):=by rw[hd];exact List.range_add
 have hf:((List.range (yd u)).map (d+ ·)).filter (fun(r:Nat)=> !(yS (zW u k).out r l))=(List.range (yd u)).map (d+ ·):=by
  rw[List.filter_eq_self];intro r hr;obtain⟨j,hj,rfl⟩:=xI.1 hr;rw[jb];unfold yS;rw[List.any_eq_false];intro s hs e;have e:zh (zW u k).out s=((d+j:Nat):Int):=by simpa using e
  obtain⟨s0,s1⟩:=hl s hs;rcases Nb (k:=k) hw s0 s1 with h|h
  ·omega
  ·omega
 rw[e,List.filter_append,hf,yV,ym,Qh];omega
theorem Yk(code:List zm)(i j:Nat):(yu code i j).Nodup:=by
 unfold yu
 have h:∀(l:List zm) (s:List Int),s.Nodup->(l.foldl (fun l x=>yG l (zp x)) s).Nodup:=by
  intro l
  induction l with
  |nil=>intro s hs;exact hs
  |cons y l ih=>intro s hs;exact ih _ (Ys _ hs)
 exact h _ _ List.nodup_nil
theorem OS{g:xd}(hg:g∈yg u):g.reads.length<=yd u:=by
 unfold yd Zi
 have h:∀(l:List xd) (n:Nat),n<=l.foldl (fun n g=>max n g.reads.length) n/\∀g∈l,g.reads.length<=l.foldl (fun n g=>max n g.reads.length) n:=by
  intro l
  induction l with
  |nil=>intro n;exact⟨zI _,fun g hg=>by cases hg⟩
  |cons y l ih=>
   intro n;obtain⟨h1,h2⟩:=ih (max n y.reads.length);rw[qP];refine⟨by omega,fun g hg=> ?_⟩;rcases xK.1 hg with rfl|hg
   ·omega
   ·exact h2 g hg
 exact(h _ _).2 g hg
theorem YY(u:zg):1<=yd u:=by
 unfold yd Zi
 have h:∀(l:List xd) (n:Nat),n<=l.foldl (fun n g=>max n g.reads.length) n:=by
  intro l
  induction l with
  |nil=>intro n;exact zI _
  |cons y l ih=>
   intro n;have:=ih (max n y.reads.length);rw[qP];omega
 exact h _ _
theorem Gx(hw:zC u=true){g:xd}(hg:g∈yg u){s:Int}(hs:s∈g.reads):s∈yx u:=by
 rw[(jq hw hg).rq]at hs;obtain⟨y,hy,h⟩:=vV.1 hs;exact Zw.2 (.inr ⟨y,List.mem_of_mem_drop (List.mem_of_mem_take hy),.inl h⟩)
theorem V7:∀ {l:List Int} {s:Int},s∈l->l[l.idxOf s]?=some s
 |y::l,s,h=>by
  rw[List.idxOf_cons]
  cases e:(y==s)with
  |true=>
   have:y=s:=by simpa using e
   simp[this]
  |false=>
   have hne:s≠y:=fun h2=>by simp[h2]at e
   have hm:s∈l:=by
    rcases xK.1 h with h|h
    ·exact absurd h hne
    ·exact h
   simp only[cond_false,List.getElem?_cons_succ];exact V7 hm
theorem IN{loads temps:List Int}(hl:loads.length<=temps.length){s:Int}(hs:s∈loads):temps[loads.idxOf s]?=some (qX loads temps s):=by
 have h:=V7 hs;have hlt:loads.idxOf s<loads.length:=(ZE.1 h).1;unfold qX;rw[jI,q9 (show loads.idxOf s<temps.length by omega)];rfl
theorem Mr{loads temps:List Int}(hl:loads.length<=temps.length){s:Int}(hs:s∈loads):qX loads temps s∈temps:=List.mem_of_getElem? (IN hl hs)
theorem Ms{loads temps:List Int}(hl:loads.length<=temps.length)(hn:temps.Nodup){s t:Int}(hs:s∈loads)(ht:t∈loads)(e:qX loads temps s=qX loads temps t):s=t:=by
 have h1:=IN hl hs;have h2:=IN hl ht;rw[e]at h1;obtain⟨l1,g1⟩:=ZE.1 h1;obtain⟨l2,g2⟩:=ZE.1 h2
 have e2:loads.idxOf s=loads.idxOf t:=by
  rcases(show loads.idxOf s<loads.idxOf t\/loads.idxOf s=loads.idxOf t\/loads.idxOf t<loads.idxOf s by omega)with hc|hc|hc
  ·exact absurd (g1.trans g2.symm) (List.pairwise_iff_getElem.1 hn _ _ l1 l2 hc)
  ·exact hc
  ·exact absurd (g2.trans g1.symm) (List.pairwise_iff_getElem.1 hn _ _ l2 l1 hc)
 have k1:=V7 hs;have k2:=V7 ht;rw[e2,k2]at k1;exact(Option.some.inj k1).symm
theorem Vl(hw:zC u=true){i:Nat}(hi:i<u.code.length):(u.code.getD i zw).op≠33:=by
 have:=XP hw _ (yy hi);rw[zk hi];omega
theorem DP{v:zg}(hw:zC u=true)(hk:yd u<=k){T:List Int}{g:xd}(hg:g∈yg u){a:Nat}{rest:List zm}(hvs:v.slots=(k:Int))
  (hd:v.code.drop a=(xC u (zf u) (zW u k).out k g).map (yK T)++rest) (hp:P4 (zW u k).out T a g):
  ql u v (zf u) (zW u k).out T a g=some (a+(xC u (zf u) (zW u k).out k g).length):=by
 have hok:=jq hw hg;have hru:∀s∈g.reads,s∈yx u:=fun s hs=>Gx hw hg hs
 have hplain:=zH hw;have hbeh:∀x∈zU u (zf u) g,0<=x/\x<u.slots:=fun x hx=>Jn hw _ x hx
 have hbus:∀x∈yj u (zf u) g,0<=x/\x<u.slots:=fun x hx=>by
  unfold yj at hx;rcases qs.1 hx with hx|hx
  ·exact ZR hw _ x hx
  ·exact hbeh x hx
 have hfr:yd u<=(yv (zW u k).out k (zU u (zf u) g)).length:=Gb hw hk hbeh;have htp:yd u<=(yv (zW u k).out k (yj u (zf u) g)).length:=Gb hw hk hbus;have hrl:=OS hg;have hone:=YY u;have hnd:g.reads.Nodup:=by rw[hok.rq];exact Yk _ _ _
 have hld:∀s,s∈zx (zW u k).out g↔s∈g.reads/\zh (zW u k).out s<= -2:=fun s=>by unfold zx;rw[jn,yB]
 have hldn:(zx (zW u k).out g).Nodup:=List.Pairwise.filter _ hnd;have hldl:(zx (zW u k).out g).length<=g.reads.length:=ZP _ _;have hat0:=hp.at0;have hatj:=hp.atj;have hhu:∀s,s∈g.reads->(0<=zh (zW u k).out s/\zh (zW u k).out s<k-yd u)\/zh (zW u k).out s<= -2:=fun s hs=>J_ hw (hok.rd s hs).1 (hok.rd s hs).2 (hru s hs)
 have huq:∀s t,s∈g.reads->t∈g.reads->zh (zW u k).out s<= -2->zh (zW u k).out s=zh (zW u k).out t->s=t:=fun s t hs ht h e=>Na hw (hok.rd s hs).1 (hok.rd s hs).2 (hok.rd t ht).1 (hok.rd t ht).2 h e
 have hfm:∀r,r∈yv (zW u k).out k (zU u (zf u) g)->0<=r/\r<k/\yS (zW u k).out r (zU u (zf u) g)=false:=fun r hr=>JE hr
 have htm:∀r,r∈yv (zW u k).out k (yj u (zf u) g)->0<=r/\r<k/\yS (zW u k).out r (yj u (zf u) g)=false:=fun r hr=>JE hr
 have htn:=EE (zW u k).out k (yj u (zf u) g);unfold xC at hd ⊢;unfold ql;rw[zj hat0];generalize (zW u k).out=H at *;generalize zx H g=loads at *;generalize yv H k (yj u (zf u) g)=temps at *;generalize hfre:yv H k (zU u (zf u) g)=fr at *;generalize yj u (zf u) g=busy at *;generalize zU u (zf u) g=behind at *;have hlt:loads.length<=temps.length:=by omega
 obtain⟨f0,hf0⟩:∃f0,fr[0]?=some f0:=⟨_,q9 (show 0<fr.length by omega)⟩
 have hfd:fr.getD 0 0=f0:=by rw[jI,hf0];rfl
 obtain⟨ff0,ff1,ff2⟩:=hfm f0 (List.mem_of_getElem? hf0);obtain⟨m,hm⟩:∃m,g.til+1-g.frm=m+1:=⟨g.til-g.frm,by have:=hok.le;omega⟩
 have htil:g.til=g.frm+m:=by have:=hok.le;omega
 rw[hm]at hd ⊢;obtain⟨L2,hL2⟩:∃L2,L2=(List.range (m+1)).map (fun j=>zY (u.code.getD (g.frm+j) zw) (Yx H loads temps) (q_ H fr)):=⟨_,rfl⟩
 obtain⟨L3,hL3⟩:∃L3,L3=(if 0<=g.wr/\zh H g.wr<= -2 then [xx (-2-zh H g.wr) (q_ H fr g.wr)]else []):=⟨_,rfl⟩
 rw[<-hL2,<-hL3]at hd ⊢;have hL2l:L2.length=m+1:=by rw[hL2,ym,Qh]
 have hL2a:∀j,j<m+1->L2[j]?=some (zY (u.code.getD (g.frm+j) zw) (Yx H loads temps) (q_ H fr)):=fun j hj=>by
  rw[hL2,List.getElem?_map,List.getElem?_range hj];rfl
 have hd1:v.code.drop a=loads.map (fun s=>qm (qX loads temps s) (-2-zh H s))++(L2.map (yK T)++(L3.map (yK T)++rest)):=by
  rw[hd,q8,q8,List.map_map];simp only[Yr];rfl
 have hat:=Nl hd1
 have hvl:loads.length<v.code.length+1:=by
  have e:=congrArg List.length hd1;rw[jH,yV,ym]at e;omega
 have hrest:∀x r,L2.map (yK T)++(L3.map (yK T)++rest)=x::r->x.op≠33:=by
  intro x r e;have e0:(L2.map (yK T)++(L3.map (yK T)++rest))[0]?=some x:=by rw[e];rfl
  rw[List.getElem?_append_left (by rw[ym,hL2l];omega),List.getElem?_map,hL2a 0 (by omega)]at e0;have e1:=Option.some.inj e0;rw[<-e1,UQ,Y9];exact Vl hw (by have:=hok.lt;have:=hok.le;omega)
 rw[OW hrest loads (v.code.length+1) a [] [] hd1 hvl (fun s hs=>by
  obtain⟨h1,h2⟩:=(hld s).1 hs;obtain⟨t1,t2,t3⟩:=htm _ (Mr hlt hs);refine⟨h1,h2,?_,t3,fun e=>by cases e⟩;unfold yr;rw[hvs,yi,yB,yB]
  omega) (List.pairwise_iff_getElem.2 fun i j hi hj hij e=>by
   have h1:=Ms hlt htn (yy hi) (yy hj) e
   exact List.pairwise_iff_getElem.1 hldn i j hi hj hij h1)]
 rw[xz];dsimp only;rw[Zd];obtain⟨M,hM⟩:∃M,M=loads.flatMap fun s0=>(g.reads.filter fun s=>zh H s==zh H s0).map fun s=>(s,qX loads temps s0):=⟨_,rfl⟩
 rw[<-hM]
 have hMm:∀x,x∈M->x.1∈loads->x.2=qX loads temps x.1:=fun x hx hl1=>by
  rw[hM,List.mem_flatMap]at hx;obtain⟨s0,hs0,hx⟩:=hx;obtain⟨s,hs,rfl⟩:=xI.1 hx;obtain⟨hs1,hs2⟩:=jn.1 hs;have e:zh H s=zh H s0:=by simpa using hs2
  have:=huq s s0 hs1 ((hld s0).1 hs0).1 ((hld s).1 hl1).2 e;show qX loads temps s0=qX loads temps s;rw[this]
 have hMi:∀s,s∈loads->(s,qX loads temps s)∈M:=fun s hs=>by
  rw[hM,List.mem_flatMap];exact⟨s,hs,xI.2 ⟨s,jn.2 ⟨((hld s).1 hs).1,by simp⟩,rfl⟩⟩
 have hrd:∀s,s∈g.reads->xG H M s=some (Yx H loads temps s):=fun s hs=>by
  unfold xG Yx;rcases hhu s hs with h|h
  ·rw[zj h.1,zj h.1]
  ·rw[zi (by omega),zi (by omega)]
   have hs2:s∈loads:=(hld s).2 ⟨hs,h⟩
   exact Ls (hMi s hs2) (fun x hx e=>by
    have:=hMm x hx (by rw[e];exact hs2)
    rw[this,e])
 have hxa:∀j,j<m+1->0<=zc (u.code.getD (g.frm+j) zw)->(yK T (zY (u.code.getD (g.frm+j) zw) (Yx H loads temps) (q_ H fr))).a=q_ H fr (zc (u.code.getD (g.frm+j) zw)):=fun j _ h0=>by
  rw[NF (by rw[Y9];exact UD h0),FN h0]
 have hcode:∀j,j<m+1->v.code[a+loads.length+j]?=some (yK T (zY (u.code.getD (g.frm+j) zw) (Yx H loads temps) (q_ H fr))):=fun j hj=>by
  rw[Nat.add_assoc,hat,List.getElem?_append_right (by rw[ym];omega),ym,Nat.add_sub_cancel_left,List.getElem?_append_left (by rw[ym,hL2l];exact hj),List.getElem?_map,hL2a j hj];rfl
 rw[J9 (rd:=Yx H loads temps) (wr:=q_ H fr) (m+1) (a+loads.length) (fun j hj=>by
  refine⟨hcode j hj,?_,fun s hs=>hrd s (hok.ra (g.frm+j) (by omega) (by omega) s hs),fun h0=> ?_⟩
  ·by_cases hj0:j=0
   ·exact .inl hj0
   ·refine .inr ?_
    rw[hatj (g.frm+j) (by omega) (by omega)];congr 1;omega
  ·unfold qH
   rw[hxa j hj h0];unfold q_;by_cases hh:0<=zh H (zc (u.code.getD (g.frm+j) zw))
   ·rw[zj hh,zj hh]
   ·rw[zi hh,zi hh,hfd,zj ?_]
    unfold yr;rw[hvs,ff2];simp only[Bool.not_false,Bool.and_true,yi,yB]
    omega)]
 rw[xz];have hwr:=hok.wr;rw[htil]at hwr;by_cases hst:0<=g.wr/\zh H g.wr<= -2
 ·rw[zj hst]
  rw[zj hst]at hL3
  have h3:v.code[a+loads.length+(m+1)]?=some (xx (-2-zh H g.wr) (q_ H fr g.wr)):=by
   rw[Nat.add_assoc,hat,List.getElem?_append_right (by rw[ym];omega),ym,Nat.add_sub_cancel_left,List.getElem?_append_right (by rw[ym,hL2l];exact zI _),ym,hL2l,Nat.sub_self,hL3];rfl
  have h4:(v.code.getD (a+loads.length+(m+1)-1) zw).a=q_ H fr g.wr:=by
   rw[show a+loads.length+(m+1)-1=a+loads.length+m by omega,jI,hcode m (by omega)];show(yK T _).a=_;rw[hxa m (by omega) (by rw[<-hwr];exact hst.1),<-hwr]
  unfold jY;rw[h4,zj h3,hL3];simp only[yV,ym,hL2l,xv,List.length_nil];congr 1;omega
 ·rw[zi hst]
  rw[zi hst]at hL3;rw[hL3];simp only[yV,ym,hL2l,List.length_nil];congr 1;omega
theorem G4{v:zg}(hw:zC u=true)(hk:yd u<=k){T:List Int}(hvs:v.slots=(k:Int)):∀(gs:List xd) (a:Nat),(∀g∈gs,g∈yg u) ->
  v.code.drop a=(gs.flatMap (xC u (zf u) (zW u k).out k)).map (yK T)->a<=v.code.length->Mj u (zf u) (zW u k).out k T a gs->xr u v (zf u) (zW u k).out T gs a=some v.code.length
 | [],a,_,hd,ha,_=>by
  have e:=congrArg List.length hd;rw[jH]at e;simp at e;show some a=some v.code.length;congr 1
  omega
 |g::gs,a,hg,hd,ha,hp=>by
  rw[List.flatMap_cons,q8]at hd;unfold xr;rw[DP hw hk (hg g (by simp)) hvs hd hp.1,xz];have e:=congrArg List.length hd;rw[jH,yV,ym]at e;refine G4 hw hk hvs gs _ (fun g' hg'=>hg g' (by simp[hg'])) ?_ (by omega) hp.2;rw[<-List.drop_drop,hd,List.drop_append_of_le_length (by rw[ym];exact zI _)];have e2:((xC u (zf u) (zW u k).out k g).map (yK T)).drop (xC u (zf u) (zW u k).out k g).length= []:=List.drop_eq_nil_of_le (by rw[ym];exact zI _);rw[e2,Zd]
end
section
variable {u:zg} {k:Nat}
theorem L5{s t:Int}(h:ZT (zZ u) s t=true):s∈yx u/\t∈yx u:=by
 unfold ZT at h;have hm:=EM u _ (xn.1 h);unfold qU at hm;simp only at hm;rcases(show s<=t\/t<=s by omega)with hc|hc
 ·rw[show min s t=s by omega,show max s t=t by omega]at hm
  exact hm
 ·rw[show min s t=t by omega,show max s t=s by omega]at hm
  exact⟨hm.2,hm.1⟩
theorem Y3(h:List Int)(s:Nat):zh h s=h.getD s 0:=rfl
theorem DE(hw:zC u=true){v:zg}(hvs:v.slots=(k:Int))(hvf:v.frame=(zW u k).cells){s:Nat}(hs:s<u.slots.toNat):vr v (zW u k).out (zZ u) (yx u) s=true:=by
 have hI:=vk hw (k:Int);have ha:=(zL hw).1;have hl1:=YY u;have ho:=hI.one s hs;unfold vr;rw[Y3];rw[yi];constructor
 ·simp only[jV,yi,jb,qE,yB,yr,hvs,hvf]
  rcases ho with ⟨h1,h2⟩|⟨h1,h|⟨h2,h3⟩|⟨h2,c,h3,h4,h5⟩⟩
  ·refine .inl (.inl ⟨h2,?_⟩)
   cases hc:(yx u).contains (s:Int)with
   |false=>rfl
   |true=>exact absurd (xn.1 hc) h1
  ·exact .inl (.inr (by omega))
  ·exact .inr (by have:=hI.cel;omega)
  ·exact .inr (by omega)
 ·rw[yL]
  intro t ht;have ht:=yR.1 ht;rw[Y3]
  cases hc:ZT (zZ u) s t with
  |false=>rfl
  |true=>
   rw[Bool.not_true,Bool.false_or,bne_iff_ne];obtain⟨hu1,hu2⟩:=L5 hc;intro e;by_cases h0:0<=(zW u k).out.getD t 0
   ·exact hI.ne t s ht hs hc h0 e.symm
   ·have h2:=J_ (k:=k) hw (s:=(t:Int)) (by omega) (by omega) hu2
    rw[Y3]at h2;exact hI.uq t s ht hs (by omega) e.symm
theorem DG(hw:zC u=true){v:zg}(hvf:v.frame=(zW u k).cells)(l0:List Int){i:Nat}(hi:i<u.args.toNat):jX v (zW u k).out l0 i=true:=by
 have hI:=vk hw (k:Int);have ha:=zL hw;have hc:=hI.cel;have hlen:=hI.len;unfold jX;rw[zi (by omega)];simp only[yi,yB];refine⟨⟨by omega,?_⟩,?_⟩
 ·rw[yL]
  intro t ht;have ht:=yR.1 ht;rw[Y3];simp only[jV,bne_iff_ne,qE,jb];by_cases e:(zW u k).out.getD t 0= -2-(i:Int)
  ·left;right
   obtain⟨_,h|⟨h,c,h3,h4,h5⟩⟩:=(hI.one t (by omega)).ge (by omega)
   ·omega
   ·omega
  ·exact .inl (.inl e)
 ·rw[Y3]
  simp only[jV,yB,qE];rcases hI.one i (by omega)with ⟨h1,h2⟩|⟨h1,h|⟨h2,h3⟩|⟨h2,c,h3,h4,h5⟩⟩
  ·exact absurd (JK hi) h1
  ·exact .inl h.1
  ·exact .inr h3
  ·omega
theorem Qw(s:ByteArray):(s==s)=true:=by
 rw[beq_toListBytes];exact beq_self_eq_true _
theorem DD(hw:zC u=true)(hk1:1<=k)(hks:(k:Int)<=u.slots)(hc6:(xM u k).code.length<=600)(hcl:(zW u k).cells<=200):qk u (VP u k (xM u k)) (zW u k).out (xM u k).ats=true:=by
 have hI:=vk hw (k:Int);have ha:=zL hw;have hlen:=hI.len;have hats:=(ZZ (u:=u) k).2.1;have hcel:=hI.cel;unfold qk;simp only[yi,yB,yL,yR];refine⟨⟨⟨⟨⟨⟨⟨⟨⟨by omega,by rw[hats];exact beq_self_eq_true _⟩,Qw _⟩,Qw _⟩,by show(u.args==u.args)=true;exact beq_self_eq_true _⟩,?_⟩,?_⟩,?_⟩,fun s hs=>DE hw rfl rfl (by omega)⟩,fun i hi=>DG hw rfl _ hi⟩
 ·unfold yr
  rw[yi,yB,yB];exact⟨by show(1:Int)<=(k:Int);omega,hks⟩
 ·unfold yr
  rw[yi,yB,yB];exact⟨by show(0:Int)<=(zW u k).cells;omega,hcl⟩
 ·show((xM u k).code.map _).length<=600
  rw[ym];exact hc6
theorem Xy(p:Nat->Bool):∀(N:Nat) {n:Nat},n<N->p n=true->((List.range N).filter p)[((List.range n).filter p).length]?=some n
 |0,n,h,_=>absurd h (y_ n)
 |N+1,n,h,hp=>by
  rw[Ze,List.filter_append];by_cases hn:n=N
  ·subst hn
   rw[List.getElem?_append_right (zI _),Nat.sub_self];simp[hp]
  ·have ih:=Xy p N (n:=n) (by omega) hp
   rw[List.getElem?_append_left (ZE.1 ih).1];exact ih
theorem AE{v:zg}{h:List Int}{N:Nat}{rest:List zm}{T:List Int}(hc:v.code=(yp h N).map (yK T)++rest)(hf:v.frame≠0\/N=0):∀n,n<=N->vy v h n=some ((List.range n).filter fun(s:Nat)=>decide (0<=zh h s)).length
 |0,_=>rfl
 |n+1,hn=>by
  unfold vy;rw[AE hc hf n (by omega),xz];have hf:v.frame≠0:=hf.resolve_right (by omega);rw[Ze,List.filter_append,yV];by_cases hp:0<=zh h (n:Int)
  ·rw[zj ⟨hf,hp⟩]
   have hat:=Xy (fun(s:Nat)=>decide (0<=zh h s)) N (n:=n) (by omega) (by simpa using hp);unfold jY
   have hcode:v.code[((List.range n).filter fun(s:Nat)=>decide (0<=zh h s)).length]?=some (qm (zh h n) n):=by
    unfold yp at hc;rw[hc,List.getElem?_append_left (by rw[ym,ym];exact(ZE.1 hat).1),List.getElem?_map,List.getElem?_map,hat];rfl
   rw[zj hcode];simp[hp]
  ·rw[zi (fun e=>hp e.2)]
   simp[hp]
theorem I3(hw:zC u=true)(hk:yd u<=k)(hks:(k:Int)<=u.slots)(hc6:(xM u k).code.length<=600)(hcl:(zW u k).cells<=200):qS u (VP u k (xM u k)) (zW u k).out (xM u k).ats=0:=by
 have hl1:=YY u;have ha:=zL hw;have hcel:=(vk hw (k:Int)).cel;obtain⟨wc,_,wp⟩:=ZZ (u:=u) k
 have hcode:(VP u k (xM u k)).code=(yp (zW u k).out u.args.toNat).map (yK (xM u k).ats)++((yg u).flatMap (xC u (zf u) (zW u k).out k)).map (yK (xM u k).ats):=by
  show(xM u k).code.map _=_;rw[wc,q8]
 have hbeg:=AE (v:=VP u k (xM u k)) (h:=(zW u k).out) hcode (by show(zW u k).cells≠0\/u.args.toNat=0;omega) u.args.toNat (zI _);have hlen:((List.range u.args.toNat).filter fun(s:Nat)=>decide (0<=zh (zW u k).out s)).length=(yp (zW u k).out u.args.toNat).length:=by unfold yp;rw[ym]
 rw[hlen]at hbeg
 have hgr:=G4 (v:=VP u k (xM u k)) hw hk (T:=(xM u k).ats) rfl (yg u) (yp (zW u k).out u.args.toNat).length (fun g hg=>hg) (by
  rw[hcode,List.drop_append_of_le_length (by rw[ym];exact zI _)];have e:((yp (zW u k).out u.args.toNat).map (yK (xM u k).ats)).drop (yp (zW u k).out u.args.toNat).length= []:=List.drop_eq_nil_of_le (by rw[ym];exact zI _)
  rw[e,Zd]) (by rw[hcode,yV,ym];exact Nat.le_add_right ..) wp
 unfold qS;rw[zj hw,zj ?_];unfold vm;rw[DD hw (by omega) hks hc6 hcl,hbeg,xz,hgr];simp only[xk,yi];refine⟨by simp,?_⟩;unfold jS;rw[yB];show u.guards.map _=u.guards.map (x_ u _ ((xM u k).code.map _).length);rw[ym]
end
theorem Uc{l:List Int}{n:Int}(hn:l.Nodup)(h:∀x∈l,0<=x/\x<n)(h0:0<=n):(l.length:Int)<=n:=by
 have h1:=yz hn (m:=(List.range n.toNat).map fun(i:Nat)=>(i:Int)) (fun x hx=>by
  obtain⟨h2,h3⟩:=h x hx
  exact xI.2 ⟨x.toNat,yR.2 (by omega),by show((x.toNat:Nat):Int)=x;omega⟩)
 rw[ym,Qh]at h1;omega
section
variable {u:zg} {k:Nat}
theorem Lp(hw:zC u=true):(yd u:Int)<=u.slots:=by
 have ha:=zL hw
 have hg:∀g∈yg u,(g.reads.length:Int)<=u.slots:=fun g hg=>by
  have hok:=jq hw hg;exact Uc (by rw[hok.rq];exact Yk _ _ _) hok.rd (by omega)
 unfold yd Zi
 have h:∀(l:List xd) (n:Nat),(∀g∈l,(g.reads.length:Int)<=u.slots)->(n:Int)<=u.slots->((l.foldl (fun n g=>max n g.reads.length) n:Nat):Int)<=u.slots:=by
  intro l
  induction l with
  |nil=>intro n _ h;exact h
  |cons y l ih=>
   intro n h1 h2;rw[qP];exact ih _ (fun g hg=>h1 g (by simp[hg])) (by have:=h1 y (by simp);omega)
 exact h _ 1 hg (by omega)
theorem KH(code:List zm)(i j:Nat):(yu code i j).length<=2*(j+1-i):=by
 have h:∀(l:List zm) (s:List Int),(l.foldl (fun l x=>yG l (zp x)) s).length<=s.length+2*l.length:=by
  intro l
  induction l with
  |nil=>intro s;simp
  |cons y l ih=>
   intro s;have h1:=ih (yG s (zp y));have h2:=qt s (zp y);have h3:=xD y;rw[qP,xv];omega
 unfold yu;refine yP (h _ _) ?_;have:((code.drop i).take (j+1-i)).length<=j+1-i:=by rw[xm];exact Nat.min_le_left _ _
 simp only[List.length_nil];omega
theorem VD(hw:zC u=true){g:xd}(hg:g∈yg u)(live:List (List Int))(h:List Int)(k:Nat):1<=(xC u live h k g).length/\(xC u live h k g).length<=4*(g.til+1-g.frm):=by
 have hok:=jq hw hg;have h1:(zx h g).length<=g.reads.length:=ZP _ _;have h2:g.reads.length<=2*(g.til+1-g.frm):=by rw[hok.rq];exact KH _ _ _
 have hle:=hok.le;unfold xC;rw[yV,yV,ym,ym,Qh];split
 ·simp only[xv,List.length_nil];omega
 ·simp only[List.length_nil];omega
theorem G1(hw:zC u=true)(live:List (List Int))(h:List Int)(k:Nat):∀(gs:List xd) (i:Nat),(∀g∈gs,g∈yg u)->vd u i gs->i<=u.code.length->(gs.flatMap (xC u live h k)).length+4*i<=4*u.code.length
 | [],i,_,_,hi=>by simp;omega
 |g::gs,i,hg,⟨h1,h2,h3,h4⟩,hi=>by
  have:=G1 hw live h k gs (g.til+1) (fun g' hg'=>hg g' (by simp[hg'])) h4 (by omega);have hl:=(VD hw (hg g (by simp)) live h k).2;rw[List.flatMap_cons,yV];omega
theorem Mq(hw:zC u=true)(hc:u.code.length<=60)(hs:u.slots<=20)(k:Nat):(xM u k).code.length<=600/\(zW u k).cells<=200:=by
 have ha:=zL hw;have hf:=(vk hw (k:Int)).fin;have h1:=G1 hw (zf u) (zW u k).out k (yg u) 0 (fun g hg=>hg) (YE _ _) (zE _)
 have h2:(yp (zW u k).out u.args.toNat).length<=u.args.toNat:=by
  unfold yp;rw[ym];exact yP (ZP _ _) (by rw[Qh];exact zI _)
 refine⟨?_,by omega⟩;rw[(ZZ (u:=u) k).1,yV];omega
end
def JQ(u:zg):Nat->List xd->Prop
 |i,[]=>u.code.length<=i
 |i,g::gs=>g.frm=i/\g.frm<=g.til/\g.til<u.code.length/\JQ u (g.til+1) gs
theorem Xl{u:zg}:∀(f i:Nat),u.code.length<=i+f->JQ u i (jE u.code (zl u.code) f i)
 |0,i,h=>h
 |f+1,i,h=>by
  unfold jE;split
  ·rename_i hi
   have hfl:(zl u.code).length=u.code.length:=z_ u.code u.code.length;have hge:=jp (zl u.code) i;exact⟨rfl,hge,by rw[<-hfl];exact vD (by rw[hfl];exact hi),Xl f _ (by show _<=zS (zl u.code) i+1+f;omega)⟩
  ·rename_i hi
   show u.code.length<=i;omega
section
variable {u:zg}
theorem EA(live:List (List Int))(h:List Int)(k:Nat)(g:xd):(zx h g).length+(g.til+1-g.frm)<=(xC u live h k g).length:=by
 unfold xC;rw[yV,yV,ym,ym,Qh];omega
theorem I7{live:List (List Int)}{h:List Int}{k:Nat}{T:List Int}:∀(gs:List xd) (i a:Nat),JQ u i gs->Mj u live h k T a gs ->
  (∀j,i<=j->j<u.code.length->(a:Int)<=T.getD j 0/\T.getD j 0<((a+(gs.flatMap (xC u live h k)).length:Nat):Int))/\∀j j',i<=j->j<j'->j'<u.code.length->T.getD j 0<T.getD j' 0
 | [],i,a,hg,_=>by
  have hg:u.code.length<=i:=hg
  exact⟨fun j h1 h2=>by omega,fun j j' h1 h2 h3=>by omega⟩
 |g::gs,i,a,⟨h1,h2,h3,h4⟩,⟨p1,p2⟩=>by
  obtain⟨q1,q2⟩:=I7 gs (g.til+1) _ h4 p2;have hge:=EA (u:=u) live h k g;have h0:=p1.at0
  have hin:∀j,i<=j->j<=g.til->T.getD j 0=(a:Int)/\j=g.frm\/T.getD j 0=((a+(zx h g).length+(j-g.frm):Nat):Int)/\g.frm<j:=fun j g1 g2=>by
   by_cases e:j=g.frm
   ·exact .inl ⟨by rw[e];exact h0,e⟩
   ·exact .inr ⟨p1.atj j (by omega) g2,by omega⟩
  rw[List.flatMap_cons,yV];refine⟨fun j g1 g2=> ?_,fun j j' g1 g2 g3=> ?_⟩
  ·by_cases hj:j<=g.til
   ·have:=hin j g1 hj
    omega
   ·have:=q1 j (by omega) g2
    omega
  ·by_cases hj:j'<=g.til
   ·have:=hin j g1 (by omega)
    have:=hin j' (by omega) hj;omega
   ·by_cases hj2:j<=g.til
    ·have:=hin j g1 hj2
     have:=q1 j' (by omega) g3;omega
    ·exact q2 j j' (by omega) g2 g3
theorem I9{x:zm}(h:0<=x.op/\x.op<=32):qR x=(zQ x).toList:=by
 obtain⟨op,a,b,c⟩:=x;simp only at h;rcases OK h with rfl|rfl|rfl|rfl|rfl|rfl|rfl|rfl|rfl|rfl|rfl|rfl|rfl|rfl|rfl|rfl|rfl|rfl|rfl|rfl|rfl|rfl|rfl|rfl|rfl|rfl|rfl|rfl|rfl|rfl|rfl|rfl|rfl<;>rfl
theorem GD{x:zm}(rd wr:Int->Int)(h:0<=x.op/\x.op<=32):zQ (zY x rd wr)=zQ x:=by
 obtain⟨op,a,b,c⟩:=x;simp only at h;rcases OK h with rfl|rfl|rfl|rfl|rfl|rfl|rfl|rfl|rfl|rfl|rfl|rfl|rfl|rfl|rfl|rfl|rfl|rfl|rfl|rfl|rfl|rfl|rfl|rfl|rfl|rfl|rfl|rfl|rfl|rfl|rfl|rfl|rfl<;>rfl
theorem Db(T:List Int)(x:zm):zQ (yK T x)=(zQ x).map fun p=>T.getD p.toNat 0:=by
 unfold zQ yK
 cases h1:(x.op==24)with
 |true=>simp[h1]
 |false=>
  cases h2:(x.op==25||x.op==32)with
  |true=>simp[h1,h2]
  |false=>simp[h1,h2]
theorem GB(n:Nat)(a b:Int):xf n (qm a b)=true:=rfl
theorem OB(n:Nat)(a b:Int):xf n (xx a b)=true:=rfl
theorem VC{live:List (List Int)}{h:List Int}{k:Nat}{g:xd}{x:zm}(hx:x∈xC u live h k g):(∃a b,x=qm a b)\/(∃a b,x=xx a b)\/∃j rd wr,j<g.til+1-g.frm/\x=zY (u.code.getD (g.frm+j) zw) rd wr:=by
 unfold xC at hx;rcases qr.1 hx with hx|hx
 ·obtain⟨s,_,rfl⟩:=xI.1 hx
  exact .inl ⟨_,_,rfl⟩
 ·rcases qr.1 hx with hx|hx
  ·obtain⟨j,hj,rfl⟩:=xI.1 hx
   exact .inr (.inr ⟨j,_,_,yR.1 hj,rfl⟩)
  ·split at hx
   ·exact .inr (.inl ⟨_,_,qf.1 hx⟩)
   ·cases hx
theorem I4(hw:zC u=true){k:Nat}(hk2:k<=200)(hc6:(xM u k).code.length<=600)(hcl:(zW u k).cells<=200):zJ (VP u k (xM u k))=true:=by
 have hp:=zH hw;have ha:=zL hw;have hcel:=(vk hw (k:Int)).cel;obtain⟨wc,_,wp⟩:=ZZ (u:=u) k;obtain⟨m1,m2⟩:=I7 (yg u) 0 _ (Xl u.code.length 0 (by omega)) wp;have hl0:0<u.code.length:=(z8 hp).1;have hlen:(VP u k (xM u k)).code.length=(xM u k).code.length:=ym _;have hn:(xM u k).code.length=(yp (zW u k).out u.args.toNat).length+((yg u).flatMap (xC u (zf u) (zW u k).out k)).length:=by rw[wc,yV]
 have hT:∀j,j<u.code.length->0<=(xM u k).ats.getD j 0/\(xM u k).ats.getD j 0<((xM u k).code.length:Int):=fun j hj=>by
  have:=m1 j (zE _) hj;omega
 have hpos:=hT 0 hl0;unfold zJ;rw[hlen];simp only[yi,yL,yB];refine⟨⟨⟨⟨⟨?_,?_⟩,?_⟩,?_⟩,fun x hx=> ?_⟩,fun g hg=> ?_⟩
 ·unfold yr
  rw[yi,yB,yB];omega
 ·show(u.guards.map _).length<=40
  rw[ym];exact(z8 hp).2.2.1
 ·unfold yr
  rw[yi,yB,yB];exact⟨by show(0:Int)<=(k:Int);omega,by show(k:Int)<=200;omega⟩
 ·unfold yr
  rw[yi,yB,yB];exact⟨by show(0:Int)<=(zW u k).cells;omega,hcl⟩
 ·have hx:x∈(xM u k).code.map (yK (xM u k).ats):=hx
  obtain⟨y,hy,rfl⟩:=xI.1 hx;rw[wc]at hy;rcases qr.1 hy with hy|hy
  ·unfold yp at hy
   obtain⟨s,_,rfl⟩:=xI.1 hy;exact GB _ _ _
  ·obtain⟨g,hg,hy⟩:=List.mem_flatMap.1 hy
   rcases VC hy with ⟨a,b,rfl⟩|⟨a,b,rfl⟩|⟨j,rd,wr,hj,rfl⟩
   ·exact GB _ _ _
   ·exact OB _ _ _
   ·have hok:=jq hw hg
    have hi:g.frm+j<u.code.length:=by have:=hok.lt;omega
    have ho:=XP hw _ (yy hi);have hpl:=fun p (e:zQ u.code[g.frm+j]=some p)=>jz hp hi e
    have hpo:jA u.code[g.frm+j].op=true:=by
     have h2:=hp;simp only[zJ,xf,yi,yL]at h2;exact(h2.1.2 _ (yy hi)).1
    rw[zk hi];generalize u.code[g.frm+j]=z at *;unfold xf;rw[UQ,Y9,hpo,xk,I9 (by rw[UQ,Y9];exact ho),Db,GD _ _ ho,yL];intro p hp2
    cases hz:zQ z with
    |none=>rw[hz]at hp2;simp at hp2
    |some q=>
     rw[hz]at hp2;have e:p=(xM u k).ats.getD q.toNat 0:=by simpa using hp2
     have h3:=hpl q hz;have h4:=hT q.toNat (by omega);rw[e];unfold yr;rw[yi,yB,yB];omega
 ·have hg:g∈u.guards.map (x_ u (xM u k).ats (xM u k).code.length):=hg
  obtain⟨y,hy,rfl⟩:=xI.1 hg;obtain⟨i,hi,rfl⟩:=List.getElem_of_mem hy;obtain⟨b1,b2,b3,b4,b5⟩:=Zv hp hi;generalize u.guards[i]=y at *;have t1:=hT y.frm.toNat (by omega);have t2:=hT y.at'.toNat (by omega);unfold xF x_ yr;simp only[yi,yB];by_cases hlt:y.til<u.code.length
  ·rw[zj hlt]
   have t3:=hT y.til.toNat (by omega);have t4:=m2 y.frm.toNat y.til.toNat (zE _) (by omega) (by omega);omega
  ·rw[zi hlt]
   omega
def Ep(n:Nat):List Int:=(List.range n).map Int.ofNat
theorem XZ{n j:Nat}(h:j<n):(Ep n).getD j 0=(j:Int):=by
 unfold Ep;rw[jI,List.getElem?_map,List.getElem?_range h];rfl
theorem Jz{n:Nat}{s:Int}(h0:0<=s)(h1:s<(n:Int)):zh (Ep n) s=s:=by
 unfold zh;rw[XZ (by omega)];omega
theorem My(x:zm):zY x id id=x:=by
 have hs:∀y,qg y id=y:=fun y=>by unfold qg;split<;>rfl
 have hi:(if 0<=zc x then x.a else x.a)=x.a:=by split<;>rfl
 unfold zY;simp only[hs,hi];split
 ·rfl
 ·split
  ·rfl
  ·split<;>rfl
theorem PF{n:Nat}{x:zm}(h:∀p,zQ x=some p->0<=p/\p<(n:Int)):yK (Ep n) x=x:=by
 unfold zQ at h;unfold yK
 cases h1:(x.op==24)with
 |true=>
  simp only[h1,if_true]at h ⊢;obtain⟨e1,e2⟩:=h _ rfl;rw[XZ (by omega)];obtain⟨o,a,b,c⟩:=x;simp only at e1 ⊢;congr 1
  omega
 |false=>
  cases h2:(x.op==25||x.op==32)with
  |true=>
   simp only[h1,h2,XH,if_false,if_true]at h ⊢;obtain⟨e1,e2⟩:=h _ rfl;rw[XZ (by omega)];obtain⟨o,a,b,c⟩:=x;simp only at e1 ⊢;congr 1
   omega
  |false=>simp
theorem LA(hw:zC u=true){g:xd}(hg:g∈yg u):ql u u (zf u) (Ep u.slots.toNat) (Ep u.code.length) g.frm g=some (g.til+1):=by
 have hok:=jq hw hg;have hle:=hok.le;have hlt:=hok.lt;have ha:=zL hw;have hh:∀s,0<=s->s<u.slots->zh (Ep u.slots.toNat) s=s:=fun s h0 h1=>Jz h0 (by omega)
 unfold ql;rw[zj (XZ (by omega))];have h33:=Vl hw (i:=g.frm) (by omega);rw[zk (by omega)]at h33
 have hld:vL u (Ep u.slots.toNat) g.reads (yj u (zf u) g) (u.code.length+1) g.frm [] []=some (g.frm,[]):=by
  unfold vL;rw[q9 (by omega)];simp only[zj h33]
 rw[hld,xz];dsimp only
 rw[J9 (rd:=id) (wr:=id) (g.til+1-g.frm) g.frm (fun j hj=>by
  have hi:g.frm+j<u.code.length:=by omega
  refine⟨?_,.inr (by rw[XZ hi]),fun s hs=> ?_,fun h0=> ?_⟩
  ·rw[My,zk hi,PF (fun p hp=>jz (zH hw) hi hp),q9 hi]
  ·rw[zk hi]at hs
   obtain⟨h1,h2⟩:=qG hw hi s hs;unfold xG;rw[hh s h1 h2,zj h1];rfl
  ·rw[zk hi]at h0 ⊢
   have h2:=(xA hw hi).2;unfold qH;rw[hh _ h0 h2,zj h0]
   rfl),xz]
 rw[zi ?_]
 ·congr 1
  omega
 ·rintro⟨h0,h1⟩
  have hwr:=hok.wr;rw[zk hlt]at hwr;have h2:=(xA hw hlt).2;rw[hh g.wr h0 (by rw[hwr];exact h2)]at h1;omega
theorem Up(hw:zC u=true):∀(gs:List xd) (i:Nat),(∀g∈gs,g∈yg u)->JQ u i gs->i<=u.code.length->xr u u (zf u) (Ep u.slots.toNat) (Ep u.code.length) gs i=some u.code.length
 | [],i,_,h,hi=>by
  have h:u.code.length<=i:=h;show some i=_;congr 1
  omega
 |g::gs,i,hg,⟨h1,h2,h3,h4⟩,hi=>by
  unfold xr;rw[<-h1,LA hw (hg g (by simp)),xz];exact Up hw gs _ (fun g' hg'=>hg g' (by simp[hg'])) h4 (by omega)
theorem Lz(hw:zC u=true):qS u u (Ep u.slots.toNat) (Ep u.code.length)=0:=by
 have hp:=zH hw;have ha:=zL hw
 have hfr:u.frame=0:=by
  have h:=hw;simp only[zC,yi,qE]at h;exact h.1.1.1.1.2
 have hl:∀n,(Ep n).length=n:=fun n=>by unfold Ep;rw[ym,Qh]
 have hbeg:∀n,vy u (Ep u.slots.toNat) n=some 0:=by
  intro n
  induction n with
  |zero=>rfl
  |succ n ih=>
   unfold vy;rw[ih,xz,zi (fun e=>e.1 hfr)]
 unfold qS;rw[zj hw,zj ?_];unfold vm;rw[hbeg,xz,Up hw (yg u) 0 (fun g hg=>hg) (Xl u.code.length 0 (by omega)) (zE _)];simp only[yi];refine⟨⟨?_,by simp⟩,?_⟩
 ·unfold qk
  simp only[yi,yB,yL,yR,hl];refine⟨⟨⟨⟨⟨⟨⟨⟨⟨by omega,beq_self_eq_true _⟩,Qw _⟩,Qw _⟩,beq_self_eq_true _⟩,?_⟩,?_⟩,(z8 hp).2.1⟩,fun s hs=> ?_⟩,fun i hi=> ?_⟩
  ·unfold yr
   rw[yi,yB,yB];omega
  ·unfold yr
   rw[yi,yB,yB,hfr];omega
  ·unfold vr
   rw[Jz (by omega) (by omega),yi];constructor
   ·simp only[jV,yi,yB,yr]
    exact .inl (.inr (by omega))
   ·rw[yL]
    intro t ht;have ht:=yR.1 ht;rw[Jz (by omega) (by omega),jV,bne_iff_ne];exact .inr (by omega)
  ·unfold jX
   rw[zj hfr,Jz (by omega) (by omega)];exact beq_self_eq_true _
 ·unfold jS
  rw[yB];refine(List.map_id _).symm.trans (List.map_congr_left fun g hg=> ?_);obtain⟨i,hi,rfl⟩:=List.getElem_of_mem hg;obtain⟨b1,b2,b3,b4,b5⟩:=Zv hp hi;generalize u.guards[i]=y at *;obtain⟨f,t,a⟩:=y;simp only at b1 b2 b3 b4 b5;unfold x_;simp only[id];rw[XZ (j:=f.toNat) (by omega),XZ (j:=a.toNat) (by omega)];by_cases hlt:t<u.code.length
  ·rw[zj hlt,XZ (j:=t.toNat) (by omega)]
   congr 1<;>omega
  ·rw[zi hlt]
   congr 1<;>omega
theorem AQ(hw:zC u=true):Xz u 33=0/\Xz u 34=0:=by
 have h:∀n:Int,33<=n->Xz u n=0:=fun n hn=>by
  unfold Xz;rw[List.length_eq_zero_iff,List.filter_eq_nil_iff];intro x hx;have:=XP hw x hx;unfold ID;simp only[qE];omega
 exact⟨h 33 (by omega),h 34 (by omega)⟩
end
end Go.Proofs.YtgalekifgnecjaaGreat
