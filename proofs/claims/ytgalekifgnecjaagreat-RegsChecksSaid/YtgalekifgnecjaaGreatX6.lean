/- The reference's CheckRegs, plainly: what it asks of a group -/
import Derived.Test.YtgalekifgnecjaaGreatX1
import Derived.Test.YtgalekifgnecjaaGreatW1
import Derived.Test.YtgalekifgnecjaaGreatL1
namespace Go.Proofs.YtgalekifgnecjaaGreat
open Go.RowKit
open Go.RowKit Go.Shelf
def YL(t:List Int)(p:Int):Int:=if p<0\/(t.length:Int)<=p then -1 else t.getD p.toNat 0
def Ji(x:zm)(r:List Int):zm:=
 if rdB.contains x.op=true then(if x.b≠ -1 then { x with b:=r.getD 0 0 }else x)
 else if Yy.contains x.op=true then { x with b:=if x.b≠ -1 then r.getD 0 0 else x.b,c:=if x.c≠ -1 then r.getD (r.length-1) 0 else x.c }
 else if V4.contains x.op=true then(if x.a≠ -1 then { x with a:=r.getD 0 0 }else x)else x
def I2(x:zm)(w:Int):zm:=if 0<=zc x then { x with a:=w }else x
def A3(t:List Int)(x:zm):zm:=if x.op=24 then { x with a:=YL t x.a }else if x.op=25\/x.op=32 then { x with b:=YL t x.b }else x
def KC(x:zm)(r:List Int)(w:Int)(t:List Int):zm:=A3 t (I2 (Ji x r) w)
theorem NJ{x:zm}(h:rdB.contains x.op=true):(zM x.op).r0=2/\(zM x.op).r1=0:=(by decide:∀op∈rdB,(zM op).r0=2/\(zM op).r1=0) _ (xn.1 h)
theorem L4{x:zm}(h:Yy.contains x.op=true):(zM x.op).r0=2/\(zM x.op).r1=3:=(by decide:∀op∈Yy,(zM op).r0=2/\(zM op).r1=3) _ (xn.1 h)
theorem NK{x:zm}(h:V4.contains x.op=true):(zM x.op).r0=1/\(zM x.op).r1=0/\(zM x.op).wr=0:=(by decide:∀op∈V4,(zM op).r0=1/\(zM op).r1=0/\(zM op).wr=0) _ (xn.1 h)
theorem PU{x:zm}(h:V4.contains x.op=true):rdB.contains x.op=false/\Yy.contains x.op=false:=(by decide:∀op∈V4,rdB.contains op=false/\Yy.contains op=false) _ (xn.1 h)
theorem No{x:zm}(h:Yy.contains x.op=true):rdB.contains x.op=false:=(by decide:∀op∈Yy,rdB.contains op=false) _ (xn.1 h)
theorem NU{op:Int}:(zM op).wr=0\/(zM op).wr=1:=by
 unfold zM;split
 ·rename_i h
  have h2:1<=op/\op<=34:=by unfold jA at h;simpa using h
  have:∀k,k<35->(Zz.getD k jT).wr=0\/(Zz.getD k jT).wr=1:=by decide
  exact this _ (by omega)
 ·exact .inl rfl
theorem jf(x:zm):zc x= -1/\(zM x.op).wr=0\/zc x=x.a/\(zM x.op).wr=1:=by
 unfold zc;rcases NU (op:=x.op)with h|h
 ·rw[zj h];exact .inl ⟨rfl,h⟩
 ·rw[zi (by omega),h];exact .inr ⟨rfl,rfl⟩
theorem K6{t:List Int}{p:Int}(h0:0<=p)(h1:p<t.length):YL t p=t.getD p.toNat 0:=zi (by omega)
theorem vC{x:zm}{k:Int}(h:0<k):ye x k=if vP x (k-1).toNat≠ -1 then [vP x (k-1).toNat]else []:=by
 unfold ye;by_cases e:vP x (k-1).toNat≠ -1
 ·rw[zj ⟨h,e⟩,zj e]
 ·rw[zi (fun hh=>e hh.2),zi e]
theorem K3{x:zm}:ye x 0= []:=zi (by omega)
theorem FQ{x:zm}{rd:Int->Int}{w:Int}{t:List Int}(hr:∀s∈zp x,0<=s)(hpl:∀p,zQ x=some p->0<=p/\p<t.length):
  KC x ((zp x).map rd) w t=yK t (zY x rd (fun _=>w)):=by
 have hset:∀y:Int,(y≠ -1->0<=y)->qg y rd=if y≠ -1 then rd y else y:=fun y h=>by
  unfold qg;by_cases e:y= -1
  ·rw[zi (by omega),zi (by omega)]
  ·rw[zj (h e),zj e]
 have hmove:∀y:zm,y.op=x.op->(∀p,zQ y=some p->0<=p/\p<t.length)->A3 t y=yK t y:=fun y hy h=>by
  unfold A3 yK;unfold zQ at h;by_cases e1:y.op=24
  ·have b1:(y.op==24)=true:=by simpa using e1
   rw[zj e1,zj b1];rw[zj b1]at h;obtain⟨g1,g2⟩:=h y.a rfl;rw[K6 g1 g2]
  ·have b1:¬(y.op==24)=true:=by simpa using e1
   rw[zi e1,zi b1];rw[zi b1]at h;by_cases e2:y.op=25\/y.op=32
   ·have b2:(y.op==25||y.op==32)=true:=by simpa using e2
    rw[zj e2,zj b2];rw[zj b2]at h;obtain⟨g1,g2⟩:=h y.b rfl;rw[K6 g1 g2]
   ·have b2:¬(y.op==25||y.op==32)=true:=by simpa using e2
    rw[zi e2,zi b2]
 have hW:∀y:zm,y.op=x.op->y.a=x.a->(I2 y w)= { y with a:=if 0<=zc x then qg x.a (fun _=>w)else x.a }:=fun y h1 h2=>by
  have hw:zc y=zc x:=by
   rcases jf y with ⟨g1,g2⟩|⟨g1,g2⟩
   ·rcases jf x with ⟨k1,k2⟩|⟨k1,k2⟩
    ·omega
    ·rw[h1]at g2;omega
   ·rcases jf x with ⟨k1,k2⟩|⟨k1,k2⟩
    ·rw[h1]at g2;omega
    ·rw[g1,k1,h2]
  unfold I2;rw[hw];by_cases e:0<=zc x
  ·have ha:zc x=x.a:=by
    rcases jf x with ⟨k1,_⟩|⟨k1,_⟩
    ·omega
    ·exact k1
   rw[zj e,zj e];unfold qg;rw[zj (by omega)]
  ·rw[zi e,zi e,<-h2]
 unfold KC;by_cases cA:V4.contains x.op=true
 ·obtain⟨f0,f1,f2⟩:=NK cA
  obtain⟨g1,g2⟩:=PU cA
  have hre:zp x=if x.a≠ -1 then [x.a]else []:=by
   unfold zp;rw[f0,f1,K3,qO,vC (by omega)];rfl
  have ha:x.a≠ -1->0<=x.a:=fun h=>hr x.a (by rw[hre,zj h];simp)
  have e:Ji x ((zp x).map rd)=zY x rd (fun _=>w):=by
   unfold Ji zY;rw[zi (by rw[g1];exact Y7),zi (by rw[g2];exact Y7),zj cA,zj cA,hset _ ha,hre];by_cases e:x.a≠ -1
   ·rw[zj e,zj e,zj e];rfl
   ·rw[zi e,zi e]
  rw[e];have hop:(zY x rd fun _=>w).op=x.op:=Y9 _ _ _
  have hw:I2 (zY x rd fun _=>w) w=zY x rd fun _=>w:=by
   unfold I2;rw[zi];rcases jf (zY x rd fun _=>w)with ⟨k1,_⟩|⟨_,k2⟩
   ·omega
   ·rw[hop]at k2;omega
  rw[hw];refine hmove _ hop (fun p hp=>hpl p ?_);have e2:zY x rd (fun _=>w)= { x with a:=qg x.a rd }:=by unfold zY;rw[zj cA]
  rw[e2]at hp;unfold zQ at hp ⊢;simp only at hp;have h24:(x.op==24)=false:=(by decide:∀op∈V4,(op==(24:Int))=false) _ (xn.1 cA);rw[h24]at hp ⊢;exact hp
 ·by_cases cBC:Yy.contains x.op=true
  ·obtain⟨f0,f1⟩:=L4 cBC
   have g1:=No cBC
   have hre:zp x=(if x.b≠ -1 then [x.b]else [])++(if x.c≠ -1 then [x.c]else []):=by
    unfold zp;rw[f0,f1,vC (by omega),vC (by omega)];rfl
   have hb:x.b≠ -1->0<=x.b:=fun h=>hr x.b (by rw[hre,zj h];simp)
   have hc:x.c≠ -1->0<=x.c:=fun h=>hr x.c (by rw[hre,zj h];simp)
   have e:Ji x ((zp x).map rd)= { x with b:=qg x.b rd,c:=qg x.c rd }:=by
    unfold Ji;rw[zi (by rw[g1];exact Y7),zj cBC,hset _ hb,hset _ hc,hre];by_cases e1:x.b≠ -1
    ·by_cases e2:x.c≠ -1
     ·simp[e1,e2]
     ·simp[e1,e2]
    ·by_cases e2:x.c≠ -1
     ·simp[e1,e2]
     ·simp[e1,e2]
   rw[e,hW { x with b:=qg x.b rd,c:=qg x.c rd } rfl rfl]
   have e3:zY x rd (fun _=>w)= { x with a:=if 0<=zc x then qg x.a (fun _=>w)else x.a,b:=qg x.b rd,c:=qg x.c rd }:=by
    unfold zY;rw[zi cA,zj cBC]
   rw[e3];refine hmove _ rfl (fun p hp=> ?_);have hno:(x.op==24)=false/\(x.op==25||x.op==32)=false:=(by decide:∀op∈Yy,(op==(24:Int))=false/\(op==(25:Int)||op==32)=false) _ (xn.1 cBC);unfold zQ at hp;simp only at hp;rw[hno.1,hno.2]at hp;simp at hp
  ·by_cases cB:rdB.contains x.op=true
   ·obtain⟨f0,f1⟩:=NJ cB
    have hre:zp x=if x.b≠ -1 then [x.b]else []:=by
     unfold zp;rw[f0,f1,K3,qO,vC (by omega)];rfl
    have hb:x.b≠ -1->0<=x.b:=fun h=>hr x.b (by rw[hre,zj h];simp)
    have e:Ji x ((zp x).map rd)= { x with b:=qg x.b rd }:=by
     unfold Ji;rw[zj cB,hset _ hb,hre];by_cases e1:x.b≠ -1
     ·simp[e1]
     ·simp[e1]
    rw[e,hW { x with b:=qg x.b rd } rfl rfl]
    have e3:zY x rd (fun _=>w)= { x with a:=if 0<=zc x then qg x.a (fun _=>w)else x.a,b:=qg x.b rd }:=by
     unfold zY;rw[zi cA,zi cBC,zj cB]
    rw[e3];refine hmove _ rfl (fun p hp=> ?_);have hno:(x.op==24)=false/\(x.op==25||x.op==32)=false:=(by decide:∀op∈rdB,(op==(24:Int))=false/\(op==(25:Int)||op==32)=false) _ (xn.1 cB);unfold zQ at hp;simp only at hp;rw[hno.1,hno.2]at hp;simp at hp
   ·have e:Ji x ((zp x).map rd)=x:=by
     unfold Ji;rw[zi cB,zi cBC,zi cA]
    rw[e,hW _ rfl rfl]
    have e3:zY x rd (fun _=>w)= { x with a:=if 0<=zc x then qg x.a (fun _=>w)else x.a }:=by
     unfold zY;rw[zi cA,zi cBC,zi cB]
    rw[e3];refine hmove _ rfl (fun p hp=>hpl p ?_);by_cases h0:0<=zc x
    ·have hj:=UD h0
     have b1:(x.op==24)=false:=by simpa using hj
     unfold zQ at hp ⊢;simp only at hp;rw[b1]at hp ⊢;exact hp
    ·rw[zi h0]at hp
     exact hp
def Zk(h reads:List Int)(c:Int):List Int:=reads.filter fun s=>zh h s== -2-c
def vT(load:List Int)(ss:List Int)(r:Int):List Int:=ss.foldl (fun l s=>l.set s.toNat r) load
def J8(v:zg)(h reads busy:List Int)(x:zm)(taken:List Int):Bool:=
 !((Zk h reads x.b).isEmpty)&& !decide (x.b<0)&&(x.c==0)&& !yS h x.a busy&&yr x.a 0 (v.slots-1)&& !taken.contains x.a
def Z_(v:zg)(h reads busy:List Int):Nat->Nat->List Int->List Int->Option (Nat×List Int)
 |0,_,_,_=>none
 |f+1,a,taken,load=>
  match v.code[a]? with
  |none=>some (a,load)
  |some x=>if x.op≠33 then some (a,load)else if J8 v h reads busy x taken=true then Z_ v h reads busy f (a+1) (taken++ [x.a]) (vT load (Zk h reads x.b) x.a)else none
def Yw(h load:List Int)(s:Int):Int:=if zh h s<0 then load.getD s.toNat 0 else zh h s
def toR(v:zg)(h later:List Int)(x:zm)(w:Int):Option Int:=
 if 0<=w then(if zh h w<0 then(if (yr (zc x) 0 (v.slots-1)&& !yS h (zc x) later)=true then some (zc x)else none)else some (zh h w))else some 0
def VS(u v:zg)(h t load later:List Int)(first i a:Nat):Option Nat:=
 match v.code[a]? with
 |none=>none
 |some x=>
  if i≠first/\t.getD i 0≠(a:Int)then none
  else if ((zp (u.code.getD i zw)).map (Yw h load)).contains (-1)=true then none
  else match toR v h later x (zc (u.code.getD i zw))with
   |none=>none
   |some r=>if x=KC (u.code.getD i zw) ((zp (u.code.getD i zw)).map (Yw h load)) r t then
     (if 0<=zc (u.code.getD i zw)/\zh h (zc (u.code.getD i zw))<0 then jY v (a+1) (xx (-2-zh h (zc (u.code.getD i zw))) r)else some (a+1))else none
def jk(u v:zg)(h t load later:List Int)(first:Nat):Nat->Nat->Option Nat
 |0,a=>some a
 |n+1,a=>(jk u v h t load later first n a).bind fun a=>VS u v h t load later first (first+n) a
def KI(u v:zg)(live:List (List Int))(h t:List Int)(first:Nat)(a:Nat):Option Nat:=
 if t.getD first 0=(a:Int)then
  (Z_ v h (yu u.code first (zS (zl u.code) first)) (live.getD first []++jJ u live (zS (zl u.code) first)) (v.code.length+1) a [] (List.replicate u.slots.toNat (-1))).bind fun lm=>
  jk u v h t lm.2 (jJ u live (zS (zl u.code) first)) first (zS (zl u.code) first+1-first) lm.1
 else none
theorem AH{l m:List Int}{p:Int->Bool}(h:∀x,x∈l↔x∈m):l.any p=m.any p:=by
 rw[Bool.eq_iff_iff,v_,v_];constructor
 ·rintro⟨x,h1,h2⟩;exact⟨x,(h x).1 h1,h2⟩
 ·rintro⟨x,h1,h2⟩;exact⟨x,(h x).2 h1,h2⟩
theorem Lr{v:zg}{h reads busy needed:List Int}(hb:∀x,x∈busy↔x∈needed)(x:zm)(had:List Int):J8 v h reads busy x had=XA v h reads needed x had:=by
 have e:yS h x.a busy=yS h x.a needed:=AH hb
 have e2:(!(Zk h reads x.b).isEmpty)=reads.any fun s=>zh h s== -2-x.b:=by
  rw[Bool.eq_iff_iff,v_,jb,List.isEmpty_eq_false_iff_exists_mem];unfold Zk;simp only[jn]
 have e3:(!decide (x.b<0))=decide (0<=x.b):=by
  rw[Bool.eq_iff_iff];simp
 unfold J8 XA;rw[e,e2,e3];generalize (reads.any fun s=>zh h s== -2-x.b)=q1;generalize decide (0<=x.b)=q2;generalize (x.c==0)=q3;generalize yS h x.a needed=q4;generalize yr x.a 0 (v.slots-1)=q5;generalize had.contains x.a=q6;cases q1<;>cases q2<;>cases q3<;>cases q4<;>cases q5<;>cases q6<;>rfl
def QK(n:Nat)(load:List Int)(m:List (Int×Int)):Prop:=load.length=n/\(∀s:Nat,s<n->load.getD s 0=(ZL m s).getD (-1))/\∀x∈m,0<=x.2
theorem OX(m:List (Int×Int))(s x r:Int):ZL (m++ [(s,r)]) x=if s=x then some r else ZL m x:=by
 unfold ZL;rw[List.reverse_append,List.reverse_singleton,List.singleton_append,List.find?_cons];by_cases e:s=x
 ·subst e;simp
 ·have:(s==x)=false:=by simpa using e
  rw[this,zi e]
theorem Uj{n:Nat}:∀(ss:List Int) {load:List Int} {m:List (Int×Int)} {r:Int},QK n load m->(∀s∈ss,0<=s/\s<n)->0<=r->QK n (vT load ss r) (m++ss.map fun s=>(s,r))
 | [],load,m,r,h,_,_=>by
  simpa[vT]using h
 |s::ss,load,m,r,h,hs,hr=>by
  have h0:=hs s (by simp);have hl:=h.1;have:=Uj ss (load:=load.set s.toNat r) (m:=m++ [(s,r)]) (r:=r) ⟨by rw[List.length_set];exact hl,fun k hk=> ?_,fun x hx=> ?_⟩ (fun t ht=>hs t (by simp[ht])) hr
  ·rw[Yr]at this
   exact this
  ·rw[jO _ _ _ _ (by omega),OX,h.2.1 k hk]
   by_cases e:k=s.toNat
   ·rw[zj e,zj (by omega)];rfl
   ·rw[zi e,zi (by omega)]
  ·rcases qr.1 hx with hx|hx
   ·exact h.2.2 x hx
   ·rw[qf.1 hx];exact hr
theorem Af{v:zg}{h reads busy needed:List Int}{n:Nat}(hb:∀x,x∈busy↔x∈needed)(hr:∀s∈reads,0<=s/\s<n):∀(f a:Nat) (had load:List Int) (m:List (Int×Int)),QK n load m ->
  (vL v h reads needed f a had m=none/\Z_ v h reads busy f a had load=none)\/∃a' m' load',vL v h reads needed f a had m=some (a',m')/\Z_ v h reads busy f a had load=some (a',load')/\QK n load' m'
 |0,_,_,_,_,_=> .inl ⟨rfl,rfl⟩
 |f+1,a,had,load,m,hl=>by
  unfold vL Z_
  cases hx:v.code[a]? with
  |none=>exact .inr ⟨a,m,load,rfl,rfl,hl⟩
  |some x=>
   dsimp only;by_cases h33:x.op≠33
   ·rw[zj h33,zj h33]
    exact .inr ⟨a,m,load,rfl,rfl,hl⟩
   ·rw[zi h33,zi h33,Lr hb]
    by_cases ho:XA v h reads needed x had=true
    ·rw[zj ho,zj ho]
     have ha:0<=x.a:=by
      unfold XA yr at ho;simp only[yi,yB]at ho;exact ho.1.1.1.1.2.1
     exact Af hb hr f (a+1) (had++ [x.a]) _ _ (Uj (Zk h reads x.b) hl (fun s hs=>hr s (jn.1 hs).1) ha)
    ·rw[zi ho,zi ho]
     exact .inl ⟨rfl,rfl⟩
theorem UL{n:Nat}{h load:List Int}{m:List (Int×Int)}(hl:QK n load m){s:Int}(h0:0<=s)(h1:s<n):Yw h load s=(xG h m s).getD (-1):=by
 unfold Yw xG;by_cases hc:zh h s<0
 ·have e:=hl.2.1 s.toNat (by omega)
  rw[show((s.toNat:Nat):Int)=s by omega]at e;rw[zj hc,zi (by omega),e]
 ·rw[zi hc,zj (by omega)]
  rfl
theorem F3{n:Nat}{h load:List Int}{m:List (Int×Int)}(hl:QK n load m){s r:Int}(e:xG h m s=some r):0<=r:=by
 unfold xG at e;split at e
 ·rename_i h0
  cases e;exact h0
 ·unfold ZL at e
  cases hf:m.reverse.find? fun x=>x.1==s with
  |none=>rw[hf]at e;cases e
  |some y=>
   rw[hf]at e;cases e;exact hl.2.2 y (List.mem_reverse.1 (List.mem_of_find?_eq_some hf))
theorem E6{n:Nat}{h load:List Int}{m:List (Int×Int)}(hl:QK n load m){x:zm}(hx:∀s∈zp x,0<=s/\s<n):(((zp x).map (Yw h load)).contains (-1)=false)↔I6 h m x=true:=by
 unfold I6;rw[yL,<-Bool.not_eq_true,xn,xI];constructor
 ·intro hn s hs
  cases e:xG h m s with
  |none=>exact absurd ⟨s,hs,by rw[UL hl (hx s hs).1 (hx s hs).2,e];rfl⟩ hn
  |some r=>rfl
 ·rintro hall ⟨s,hs,e⟩
  have hsm:=hall s hs;obtain⟨r,hr⟩:=Option.isSome_iff_exists.1 hsm;rw[UL hl (hx s hs).1 (hx s hs).2,hr]at e;have:=F3 hl hr;simp only[Option.getD_some]at e;omega
theorem Ar(code:List zm):∀(k j:Nat),k<=code.length->j<k->0<=(qh code k).getD j 0->∀m:Nat,(qh code k).getD j 0<=(m:Int)->m<j->jQ (code.getD m zw)=true
 |0,j,_,hj,_,_,_,_=>absurd hj (y_ j)
 |k+1,j,hk,hj,h0,m,h1,h2=>by
  have hl:=z_ code k
  have hone:∀i,(qi code (qh code k) k).getD i 0=if i=k then(if jQ (code.getD k zw)=true then -1 else(k:Int))else(qh code k).getD i 0:=fun i=>by
   unfold qi;rw[jO _ _ _ _ (by omega)]
  have base:0<=(qi code (qh code k) k).getD j 0->(qi code (qh code k) k).getD j 0<=(m:Int)->jQ (code.getD m zw)=true:=fun g0 g1=>by
   rw[hone]at g0 g1;by_cases e:j=k
   ·subst e
    rw[zj rfl]at g0 g1;by_cases ha:jQ (code.getD j zw)=true
    ·rw[zj ha]at g0;omega
    ·rw[zi ha]at g1;omega
   ·rw[zi e]at g0 g1
    exact Ar code k j (by omega) (by omega) g0 m g1 h2
  rw[show qh code (k+1)=vX code (qh code k) k from rfl]at h0 h1;unfold vX at h0 h1;split at h0
  ·rename_i hc
   rw[zj hc]at h1;have hg:xW code k<=k:=yP (Yl code k _) (Ql (by omega));have hs:∀i,(xQ (qi code (qh code k) k) (k-xW code k) ((k-xW code k:Nat):Int) (xW code k+1)).getD i 0=if k-xW code k<=i/\i<k-xW code k+(xW code k+1)then((k-xW code k:Nat):Int)else(qi code (qh code k) k).getD i 0:=fun i=>jg _ _ _ _ _ (by rw[qL];omega)
   rw[hs]at h0 h1;by_cases e:k-xW code k<=j/\j<k-xW code k+(xW code k+1)
   ·rw[zj e]at h1
    have hgl:xW code k<=QA code k:=Yl code k _;exact Gq (i:=k) (by omega) (by omega) (by omega)
   ·rw[zi e]at h0 h1
    exact base h0 h1
  ·rename_i hc
   rw[zi hc]at h1;exact base h0 h1
theorem LN{u:zg}{i j:Nat}(hi:i<u.code.length)(h1:i<=j)(h2:j<zS (zl u.code) i):jQ (u.code.getD j zw)=true:=by
 have hfl:(zl u.code).length=u.code.length:=z_ u.code u.code.length;have hlt:zS (zl u.code) i<u.code.length:=by rw[<-hfl];exact vD (by rw[hfl];exact hi)
 have e:=Vb (fs:=zl u.code) (i:=i) (j:=zS (zl u.code) i) (by omega) (zI _) (by omega);exact Ar u.code u.code.length _ (zI _) hlt (by show 0<=(zl u.code).getD _ 0;omega) j (by show(zl u.code).getD _ 0<=_;omega) h2
theorem EU{x:zm}(h:jQ x=true):zc x= -1:=by
 unfold jQ at h;have h:x.op=19:=by simpa using h
 unfold zc;rw[zj (by rw[h];rfl)]
theorem Aj{u v:zg}{h t load later behind:List Int}{n:Nat}{m:List (Int×Int)}(hl:QK n load m)(hb:∀x,x∈later↔x∈behind){first i a:Nat}(hx:∀s∈zp (u.code.getD i zw),0<=s/\s<n)
  (hpl:∀p,zQ (u.code.getD i zw)=some p->0<=p/\p<t.length):
  VS u v h t load later first i a=(qW u v h t m behind first i a).bind fun b=>
   if 0<=zc (u.code.getD i zw)/\zh h (zc (u.code.getD i zw))<0 then jY v b (xx (-2-zh h (zc (u.code.getD i zw))) ((v.code.getD (b-1) zw).a))else some b:=by
 unfold VS qW
 cases hv:v.code[a]? with
 |none=>rfl
 |some x=>
  dsimp only;have hva:v.code.getD a zw=x:=by rw[jI,hv];rfl
  generalize hxu:u.code.getD i zw=y at *;by_cases h1:i≠first/\t.getD i 0≠(a:Int)
  ·rw[zj h1,zi (by rintro⟨g,_⟩;rcases g with g|g;exact h1.1 g;exact h1.2 g)]
   rfl
  ·rw[zi h1]
   have h1':i=first\/t.getD i 0=(a:Int):=by
    by_cases e:i=first
    ·exact .inl e
    ·exact .inr (Decidable.byContradiction fun e2=>h1 ⟨e,e2⟩)
   by_cases h2:((zp y).map (Yw h load)).contains (-1)=true
   ·rw[zj h2,zi (by rintro⟨_,g,_⟩;rw[(E6 hl hx).2 g]at h2;cases h2)]
    rfl
   ·rw[zi h2]
    have h2':I6 h m y=true:=(E6 hl hx).1 (by simpa using h2)
    have hmap:(zp y).map (Yw h load)=(zp y).map (fun s=>(xG h m s).getD 0):=List.map_congr_left fun s hs=>by
     have hs2:=(yL.1 (show(zp y).all (fun s=>(xG h m s).isSome)=true from h2')) s hs;obtain⟨r,hr⟩:=Option.isSome_iff_exists.1 hs2;rw[UL hl (hx s hs).1 (hx s hs).2,hr];rfl
    have htk:∀r,yS h r later=yS h r behind:=fun r=>AH hb
    rw[hmap];simp only[show ∀r,KC y ((zp y).map fun s=>(xG h m s).getD 0) r t=yK t (zY y (fun s=>(xG h m s).getD 0) fun _=>r)from fun r=>FQ (fun s hs=>(hx s hs).1) hpl];by_cases hw:0<=zc y
    ·have hwr1:(zM y.op).wr=1:=by
      rcases jf y with ⟨k1,_⟩|⟨_,k2⟩
      ·omega
      ·exact k2
     have hop:∀(r:Int),x=yK t (zY y (fun s=>(xG h m s).getD 0) fun _=>r)->zc x=x.a:=fun r e=>by
      have e2:x.op=y.op:=by rw[e,UQ,Y9]
      rcases jf x with ⟨_,k2⟩|⟨k1,_⟩
      ·rw[e2]at k2;omega
      ·exact k1
     have hxa:∀(r:Int),x=yK t (zY y (fun s=>(xG h m s).getD 0) fun _=>r)->x.a=r:=fun r e=>by
      rw[e,NF (by rw[Y9];exact UD hw),FN hw]
     have hcong:∀r,(0<=zc y->(qH v h behind x (zc y)).getD 0=r)->yK t (zY y (fun s=>(xG h m s).getD 0) (fun s=>(qH v h behind x s).getD 0))=yK t (zY y (fun s=>(xG h m s).getD 0) fun _=>r):=fun r e=>by
      rw[XR (wr':=fun _=>r) (fun s _=>rfl) e]
     unfold toR;rw[zj hw];by_cases hh:zh h (zc y)<0
     ·rw[zj hh]
      simp only[zj (show 0<=zc y/\zh h (zc y)<0 from⟨hw,hh⟩)]
      have hwc:qH v h behind x (zc y)=if (yr x.a 0 (v.slots-1)&& !yS h x.a behind)=true then some x.a else none:=by
       unfold qH;rw[zi (by omega)]
      rw[htk];by_cases hq:zc x=x.a
      ·rw[hq]
       by_cases hc:(yr x.a 0 (v.slots-1)&& !yS h x.a behind)=true
       ·rw[zj hc]at hwc ⊢
        dsimp only;rw[hcong x.a (fun _=>by rw[hwc];rfl)];by_cases e:x=yK t (zY y (fun s=>(xG h m s).getD 0) fun _=>x.a)
        ·rw[zj e,zj ⟨h1',h2',fun _=>by rw[hwc];rfl,e⟩]
         show _=jY v (a+1) (xx _ ((v.code.getD (a+1-1) zw).a));rw[Nat.add_sub_cancel,hva]
        ·rw[zi e,zi (fun g=>e g.2.2.2)]
         rfl
       ·rw[zi hc]at hwc ⊢
        rw[zi (fun g=>by have:=g.2.2.1 hw;rw[hwc]at this;cases this)];rfl
      ·have hno:∀r,¬x=yK t (zY y (fun s=>(xG h m s).getD 0) fun _=>r):=fun r e=>hq (hop r e)
       have hNEG:¬((i=first\/t.getD i 0=(a:Int))/\I6 h m y=true/\(0<=zc y->(qH v h behind x (zc y)).isSome=true)/\x=yK t (zY y (fun s=>(xG h m s).getD 0) (fun s=>(qH v h behind x s).getD 0))):=fun g=>by
        have h3:=g.2.2.1 hw;obtain⟨r,hr⟩:=Option.isSome_iff_exists.1 h3;refine hno r ?_;rw[<-hcong r (fun _=>by rw[hr];rfl)];exact g.2.2.2
       rw[zi hNEG];split
       ·rfl
       ·rw[zi (hno _)]
        rfl
     ·rw[zi hh]
      dsimp only
      have hwc:qH v h behind x (zc y)=some (zh h (zc y)):=by
       unfold qH;rw[zj (by omega)]
      rw[hcong (zh h (zc y)) (fun _=>by rw[hwc];rfl)];simp only[zi (show ¬(0<=zc y/\zh h (zc y)<0)from fun g=>hh g.2)];by_cases e:x=yK t (zY y (fun s=>(xG h m s).getD 0) fun _=>zh h (zc y))
      ·rw[zj e,zj ⟨h1',h2',fun _=>by rw[hwc];rfl,e⟩]
       rfl
      ·rw[zi e,zi (fun g=>e g.2.2.2)]
       rfl
    ·unfold toR
     rw[zi hw];dsimp only
     have hcong:yK t (zY y (fun s=>(xG h m s).getD 0) (fun s=>(qH v h behind x s).getD 0))=yK t (zY y (fun s=>(xG h m s).getD 0) fun _=>0):=by
      rw[XR (wr':=fun _=>0) (fun s _=>rfl) (fun e=>absurd e hw)]
     rw[hcong];simp only[zi (show ¬(0<=zc y/\zh h (zc y)<0)from fun g=>hw g.1)];by_cases e:x=yK t (zY y (fun s=>(xG h m s).getD 0) fun _=>0)
     ·rw[zj e,zj ⟨h1',h2',fun e2=>absurd e2 hw,e⟩]
      rfl
     ·rw[zi e,zi (fun g=>e g.2.2.2)]
      rfl
theorem Un{u v:zg}{h t load later behind:List Int}{n:Nat}{m:List (Int×Int)}(hl:QK n load m)(hb:∀x,x∈later↔x∈behind){first:Nat}:∀(c a:Nat),
  (∀i,first<=i->i<first+c->(∀s∈zp (u.code.getD i zw),0<=s/\s<n)/\(∀p,zQ (u.code.getD i zw)=some p->0<=p/\p<t.length)/\zc (u.code.getD i zw)= -1) ->
  jk u v h t load later first c a=jC u v h t m behind first c a
 |0,_,_=>rfl
 |c+1,a,H=>by
  unfold jk jC;rw[Un hl hb c a (fun i g1 g2=>H i g1 (by omega))];refine congrArg _ (funext fun b=> ?_);obtain⟨h1,h2,h3⟩:=H (first+c) (by omega) (by omega);rw[Aj hl hb h1 h2]
  cases qW u v h t m behind first (first+c) b with
  |none=>rfl
  |some e=>
   rw[xz,zi (by rw[h3];omega)]
theorem LL{u:zg}{i:Nat}(hi:i<u.code.length):zS (zl u.code) i<u.code.length:=by
 have hfl:(zl u.code).length=u.code.length:=z_ u.code u.code.length;rw[<-hfl];exact vD (by rw[hfl];exact hi)
theorem Nd{u v:zg}(hw:zC u=true){h t:List Int}(ht:t.length=u.code.length)(hok:∀s:Int,0<=s->s<u.slots->s∈yx u->0<=zh h s\/zh h s<= -2){i:Nat}(hi:i<u.code.length)(a:Nat):
  KI u v (zf u) h t i a=ql u v (zf u) h t a (Ym u.code (zl u.code) i):=by
 have ha:=zL hw;have hlt:=LL hi;have hge:=jp (zl u.code) i
 have hrd:∀j,j<u.code.length->∀s∈zp (u.code.getD j zw),0<=s/\s<((u.slots.toNat:Nat):Int):=fun j hj s hs=>by
  rw[zk hj]at hs;have:=qG hw hj s hs;omega
 have hpl:∀j,j<u.code.length->∀p,zQ (u.code.getD j zw)=some p->0<=p/\p<t.length:=fun j hj p hp=>by
  rw[zk hj]at hp;have:=jz (zH hw) hj hp;omega
 have hlat:∀x,x∈jJ u (zf u) (zS (zl u.code) i)↔x∈zU u (zf u) (Ym u.code (zl u.code) i):=Kn hw hlt (zf u)
 have hbus:∀x,x∈(zf u).getD i []++jJ u (zf u) (zS (zl u.code) i)↔x∈yj u (zf u) (Ym u.code (zl u.code) i):=fun x=>by
  unfold yj;rw[qs,qr,hlat];rfl
 have hreads:∀s∈yu u.code i (zS (zl u.code) i),0<=s/\s<((u.slots.toNat:Nat):Int):=fun s hs=>by
  obtain⟨y,hy,hs2⟩:=vV.1 hs;obtain⟨k,hk,rfl⟩:=List.getElem_of_mem (List.mem_of_mem_drop (List.mem_of_mem_take hy));have:=qG hw hk s hs2;omega
 have hld0:QK u.slots.toNat (List.replicate u.slots.toNat (-1)) []:=⟨by simp,fun s hs=>by
  rw[jI,List.getElem?_replicate,zj hs];rfl,fun x hx=>by cases hx⟩
 unfold KI ql;show(if t.getD i 0=(a:Int)then _ else _)=if t.getD i 0=(a:Int)then _ else _
 by_cases hat:t.getD i 0=(a:Int)
 ·rw[zj hat,zj hat]
  rcases Af (v:=v) (h:=h) (reads:=yu u.code i (zS (zl u.code) i)) (busy:=(zf u).getD i []++jJ u (zf u) (zS (zl u.code) i)) (needed:=yj u (zf u) (Ym u.code (zl u.code) i)) (n:=u.slots.toNat) hbus hreads (v.code.length+1) a [] (List.replicate u.slots.toNat (-1)) [] hld0 with ⟨h1,h2⟩|⟨a',m',load',h1,h2,h3⟩
  ·rw[h2]
   show _=Option.bind (vL v h (yu u.code i (zS (zl u.code) i)) _ _ a [] []) _;rw[h1];rfl
  ·rw[h2]
   show _=Option.bind (vL v h (yu u.code i (zS (zl u.code) i)) _ _ a [] []) _;rw[h1,xz,xz]
   show jk u v h t load' (jJ u (zf u) (zS (zl u.code) i)) i (zS (zl u.code) i+1-i) a' =
    Option.bind (jC u v h t m' (zU u (zf u) (Ym u.code (zl u.code) i)) i (zS (zl u.code) i+1-i) a') _
   obtain⟨c,hc⟩:∃c,zS (zl u.code) i=i+c:=⟨zS (zl u.code) i-i,by omega⟩
   have hwr:(Ym u.code (zl u.code) i).wr=zc (u.code.getD (i+c) zw):=by show zc (u.code.getD (zS (zl u.code) i) zw)=_;rw[hc]
   rw[hwr];have hargs:∀j,i<=j->j<i+c->zc (u.code.getD j zw)= -1:=fun j g1 g2=>EU (LN hi g1 (by omega))
   rw[show zS (zl u.code) i+1-i=c+1 by omega];unfold jk jC;rw[Un h3 hlat c a' (fun j g1 g2=>⟨hrd j (by omega),hpl j (by omega),hargs j g1 g2⟩),Option.bind_assoc];refine congrArg _ (funext fun b=> ?_);rw[Aj h3 hlat (hrd (i+c) (by omega)) (hpl (i+c) (by omega))];refine congrArg _ (funext fun d=> ?_)
   have hiff:(0<=zc (u.code.getD (i+c) zw)/\zh h (zc (u.code.getD (i+c) zw))<0)↔(0<=zc (u.code.getD (i+c) zw)/\zh h (zc (u.code.getD (i+c) zw))<= -2):=by
    constructor
    ·rintro⟨g1,g2⟩
     refine⟨g1,?_⟩;have hj:i+c<u.code.length:=by omega
     have e:u.code.getD (i+c) zw=u.code[i+c]:=zk hj;have hin:=(xA hw hj).2;rw[<-e]at hin;rcases hok _ g1 hin (Zw.2 (.inr ⟨_,yy hj,.inr (by rw[<-e];exact⟨g1,rfl⟩)⟩))with g|g
     ·omega
     ·exact g
    ·rintro⟨g1,g2⟩
     exact⟨g1,by omega⟩
   by_cases g:0<=zc (u.code.getD (i+c) zw)/\zh h (zc (u.code.getD (i+c) zw))<0
   ·rw[zj g,zj (hiff.1 g)]
   ·rw[zi g,zi (fun e=>g (hiff.2 e))]
 ·rw[zi hat,zi hat]
def XB(u v:zg)(live:List (List Int))(h t:List Int):List Nat->Nat->Option Nat
 | [],a=>some a
 |i::l,a=>if (zl u.code).getD i 0=(i:Int)then(KI u v live h t i a).bind (XB u v live h t l)else XB u v live h t l a
theorem G2{u v:zg}(hw:zC u=true){h t:List Int}(ht:t.length=u.code.length)(hok:∀s:Int,0<=s->s<u.slots->s∈yx u->0<=zh h s\/zh h s<= -2):∀(l:List Nat) (a:Nat),(∀i∈l,i<u.code.length) ->
  XB u v (zf u) h t l a=xr u v (zf u) h t ((l.filter fun i=>(zl u.code).getD i 0==(i:Int)).map (Ym u.code (zl u.code))) a
 | [],_,_=>rfl
 |i::l,a,hl=>by
  unfold XB;by_cases hi:(zl u.code).getD i 0=(i:Int)
  ·rw[zj hi,vH,zj (by rw[hi];simp),j9,Nd hw ht hok (hl i (by simp))]
   show _=(ql u v (zf u) h t a _).bind _;refine congrArg _ (funext fun b=> ?_);exact G2 hw ht hok l b (fun j hj=>hl j (by simp[hj]))
  ·rw[zi hi,vH,zi (by simpa using hi)]
   exact G2 hw ht hok l a (fun j hj=>hl j (by simp[hj]))
def YH(v:zg)(h:List Int)(i:Nat):Bool:=decide (zh h i<= -2)&&decide (-2-zh h i<v.frame)
def Ja(u:zg)(i:Nat):Bool:=decide ((i:Int)<u.args)||u.code.any fun x=>(zp x).contains (i:Int)||zc x==(i:Int)
def KD(u v:zg)(h l0:List Int)(cl:List (Int×Int))(i:Nat):Bool:=
 !(!YH v h i&& !yr (zh h i) 0 (v.slots-1)&&(zh h i != -1||Ja u i))&&(List.range i).all (fun k=> !(ZT cl i k&&zh h i==zh h k)) &&
 !(decide ((i:Int)<u.args)&&v.frame==0&&zh h i !=(i:Int))&& !(decide ((i:Int)<u.args)&&decide (0<v.frame)&&decide (zh h i<0)&&zh h i != -2-(i:Int)) &&
 !(YH v h i&&decide (-2-zh h i<u.args)&& -2-zh h i !=(i:Int)&&l0.contains (i:Int))
def Yb(u v:zg)(h l0:List Int)(cl:List (Int×Int)):Bool:=decide ((h.length:Int)=u.slots)&&(List.range u.slots.toNat).all (KD u v h l0 cl)
def JA(u v:zg)(t:List Int):Bool:=
 u.cls==v.cls&&u.name==v.name&&u.args==v.args&&yr v.frame 0 200&& !(decide (0<v.frame)&&decide (v.frame<u.args))&&yr v.slots 1 u.slots&&decide (v.code.length<=600)&&t.length==u.code.length
def Kl(v:zg)(h:List Int):Nat->Option Nat
 |0=>some 0
 |i+1=>(Kl v h i).bind fun a=>if 0<=zh h i then jY v a (qm (zh h i) i)else some a
def L_(u v:zg)(h t:List Int):Int:=
 if zC u=true then
  if JA u v t=true/\Yb u v h ((zf u).getD 0 []) (zZ u)=true then
   if ((if 0<v.frame then Kl v h u.args.toNat else some 0).bind (XB u v (zf u) h t (List.range u.code.length)))=some v.code.length/\jS u v t=true then 0 else 11
  else 11
 else 1
theorem Fx{u:zg}{i:Nat}:Ja u i=(yx u).contains (i:Int):=by
 rw[Bool.eq_iff_iff,xn,Zw];unfold Ja;rw[jV,yB,v_];refine or_congr ?_ ?_
 ·constructor
  ·intro h;exact⟨by omega,by omega⟩
  ·rintro⟨_,h⟩;omega
 ·constructor
  ·rintro⟨x,hx,h⟩
   rw[jV,xn,qE]at h;refine⟨x,hx,?_⟩;rcases h with h|h
   ·exact .inl h
   ·exact .inr ⟨by omega,h.symm⟩
  ·rintro⟨x,hx,h⟩
   refine⟨x,hx,?_⟩;rw[jV,xn,qE];rcases h with h|h
   ·exact .inl h
   ·exact .inr h.2.symm
theorem X0{u v:zg}{h l0:List Int}{cl:List (Int×Int)}{i:Nat}:KD u v h l0 cl i=true ↔
  (YH v h i=true\/yr (zh h i) 0 (v.slots-1)=true\/(zh h i= -1/\Ja u i=false))/\(∀k,k<i->¬(ZT cl i k=true/\zh h i=zh h k)) /\
  ((i:Int)<u.args->v.frame=0->zh h i=(i:Int))/\((i:Int)<u.args->0<v.frame->zh h i<0->zh h i= -2-(i:Int)) /\
  (YH v h i=true-> -2-zh h i<u.args-> -2-zh h i≠(i:Int)->(i:Int)∉l0):=by
 unfold KD;simp only[yi,yL,yR,and_assoc];refine and_congr ?_ (and_congr ?_ (and_congr ?_ (and_congr ?_ ?_)))
 ·cases YH v h i<;>cases yr (zh h i) 0 (v.slots-1)<;>cases Ja u i<;>simp
 ·refine forall_congr' fun k=>forall_congr' fun _=> ?_
  cases ZT cl i k<;>simp
 ·rw[jb,XI,XI,ZQ]
  simp only[yY,bne_eq_false_iff_eq,ne_eq];constructor
  ·rintro h h1 h2
   rcases h with (h|h)|h
   ·exact absurd h1 h
   ·exact absurd h2 h
   ·exact h
  ·intro h
   by_cases h1:(i:Int)<u.args
   ·by_cases h2:v.frame=0
    ·exact .inr (h h1 h2)
    ·exact .inl (.inr h2)
   ·exact .inl (.inl h1)
 ·rw[jb,XI,XI,XI,ZQ,ZQ,ZQ]
  simp only[bne_eq_false_iff_eq];constructor
  ·rintro h h1 h2 h3
   rcases h with ((h|h)|h)|h
   ·exact absurd h1 h
   ·exact absurd h2 h
   ·exact absurd h3 h
   ·exact h
  ·intro hq
   by_cases h1:(i:Int)<u.args
   ·by_cases h2:0<v.frame
    ·by_cases h3:zh h i<0
     ·exact .inr (hq h1 h2 h3)
     ·exact .inl (.inr h3)
    ·exact .inl (.inl (.inr h2))
   ·exact .inl (.inl (.inl h1))
 ·rw[jb,XI,XI,XI,ZQ]
  simp only[bne_eq_false_iff_eq];have hc:l0.contains (i:Int)=false↔(i:Int)∉l0:=by rw[<-Bool.not_eq_true,xn]
  rw[hc];constructor
  ·rintro h h1 h2 h3
   rcases h with ((h|h)|h)|h
   ·rw[h1]at h;cases h
   ·exact absurd h2 h
   ·exact absurd h h3
   ·exact h
  ·intro hq
   cases h1:YH v h i with
   |false=>exact .inl (.inl (.inl rfl))
   |true=>
    by_cases h2: -2-zh h i<u.args
    ·by_cases h3: -2-zh h i=(i:Int)
     ·exact .inl (.inr h3)
     ·exact .inr (hq h1 h2 h3)
    ·exact .inl (.inl (.inr h2))
theorem Xj{v:zg}{h:List Int}{cl:List (Int×Int)}{us:List Int}{s:Nat}:vr v h cl us s=true ↔
  ((zh h s= -1/\(s:Int)∉us)\/yr (zh h s) 0 (v.slots-1)=true\/(zh h s<= -2/\yr (-2-zh h s) 0 (v.frame-1)=true))/\∀t,t<s->ZT cl s t=true->zh h s≠zh h t:=by
 unfold vr;simp only[yi,yL,yR,jV,yB,qE,jb,or_assoc];refine and_congr (or_congr ?_ Iff.rfl) ?_
 ·rw[<-Bool.not_eq_true,xn]
 ·refine forall_congr' fun t=>forall_congr' fun _=> ?_
  cases ZT cl s t<;>simp
theorem Yd{v:zg}{h l0:List Int}{i:Nat}:jX v h l0 i=true ↔
  (v.frame=0->zh h i=(i:Int))/\(v.frame≠0->(i:Int)<v.frame/\(∀t:Nat,t<h.length->zh h t≠ -2-(i:Int)\/t=i\/(t:Int)∉l0)/\(0<=zh h i\/zh h i= -2-(i:Int))):=by
 unfold jX;by_cases hf:v.frame=0
 ·rw[zj hf,qE]
  exact⟨fun e=>⟨fun _=>e,fun e2=>absurd hf e2⟩,fun e=>e.1 hf⟩
 ·rw[zi hf]
  simp only[yi,yL,yR,jV,yB,qE,bne_iff_ne,ne_eq,jb,or_assoc,and_assoc];constructor
  ·rintro⟨h1,h2,h3⟩
   refine⟨fun e=>absurd e hf,fun _=>⟨h1,fun t ht=> ?_,h3⟩⟩;rcases h2 t ht with g|g|g
   ·exact .inl g
   ·exact .inr (.inl g)
   ·exact .inr (.inr (by rw[<-List.contains_iff_mem,g];exact Y7))
  ·rintro⟨_,h⟩
   obtain⟨h1,h2,h3⟩:=h hf;refine⟨h1,fun t ht=> ?_,h3⟩;rcases h2 t ht with g|g|g
   ·exact .inl g
   ·exact .inr (.inl g)
   ·exact .inr (.inr (by rw[<-Bool.not_eq_true,xn];exact g))
theorem GZ{u v:zg}(hw:zC u=true){h t:List Int}:(JA u v t=true/\Yb u v h ((zf u).getD 0 []) (zZ u)=true)↔qk u v h t=true:=by
 have ha:=zL hw;unfold JA Yb qk;simp only[yi,yL,yR,yB,jb,XI,ZQ];generalize (zf u).getD 0 []=l0;have hfr:∀x:Int,yr x 0 200=true->0<=x:=fun x h=>by unfold yr at h;simp at h;omega
 constructor
 ·rintro⟨⟨⟨⟨⟨⟨⟨⟨h1,h2⟩,h3⟩,h4⟩,h5⟩,h6⟩,h7⟩,h8⟩,h9,h10⟩
  have hf0:=hfr _ h4;refine⟨⟨⟨⟨⟨⟨⟨⟨⟨h9,h8⟩,h1⟩,h2⟩,h3⟩,h6⟩,h4⟩,h7⟩,fun s hs=> ?_⟩,fun i hi=> ?_⟩
  ·obtain⟨g1,g2,_⟩:=X0.1 (h10 s (by omega))
   refine Xj.2 ⟨?_,fun t ht hc e=>g2 t ht ⟨hc,e⟩⟩;rcases g1 with g|g|⟨g,g'⟩
   ·unfold YH at g
    simp only[yi,yB]at g;refine .inr (.inr ⟨g.1,?_⟩);unfold yr;simp only[yi,yB];omega
   ·exact .inr (.inl g)
   ·refine .inl ⟨g,fun e=> ?_⟩
    rw[Fx]at g';rw[<-List.contains_iff_mem,g']at e;cases e
  ·refine Yd.2 ⟨fun e=>(X0.1 (h10 i (by omega))).2.2.1 (by omega) e,fun e=>⟨?_,fun k hk=> ?_,?_⟩⟩
   ·rcases h5 with g|g
    ·omega
    ·omega
   ·by_cases e1:zh h k= -2-(i:Int)
    ·by_cases e2:k=i
     ·exact .inr (.inl e2)
     ·refine .inr (.inr ((X0.1 (h10 k (by omega))).2.2.2.2 ?_ (by omega) (by omega)))
      unfold YH;simp only[yi,yB];have:¬v.frame<u.args:=by rcases h5 with g|g<;>omega
      omega
    ·exact .inl e1
   ·by_cases e1:zh h i<0
    ·exact .inr ((X0.1 (h10 i (by omega))).2.2.2.1 (by omega) (by omega) e1)
    ·exact .inl (by omega)
 ·rintro⟨⟨⟨⟨⟨⟨⟨⟨⟨h9,h8⟩,h1⟩,h2⟩,h3⟩,h6⟩,h4⟩,h7⟩,h10⟩,h11⟩
  have hf0:=hfr _ h4
  have hfa:0<v.frame->u.args<=v.frame:=fun h0=>by
   by_cases e:u.args<=v.frame
   ·exact e
   ·have:=((Yd.1 (h11 v.frame.toNat (by omega))).2 (by omega)).1
    omega
  refine⟨⟨⟨⟨⟨⟨⟨⟨h1,h2⟩,h3⟩,h4⟩,?_⟩,h6⟩,h7⟩,h8⟩,h9,fun i hi=> ?_⟩
  ·by_cases e:0<v.frame
   ·exact .inr (by have:=hfa e;omega)
   ·exact .inl e
  ·obtain⟨g1,g2⟩:=Xj.1 (h10 i (by omega))
   refine X0.2 ⟨?_,fun k hk e=>g2 k hk e.1 e.2,fun e1 e2=>(Yd.1 (h11 i (by omega))).1 e2,fun e1 e2 e3=> ?_,fun e1 e2 e3 e4=> ?_⟩
   ·rcases g1 with ⟨g,g'⟩|g|⟨g,g'⟩
    ·refine .inr (.inr ⟨g,?_⟩)
     rw[Fx,<-Bool.not_eq_true,xn];exact g'
    ·exact .inr (.inl g)
    ·refine .inl ?_
     unfold YH;unfold yr at g';simp only[yi,yB]at g' ⊢;omega
   ·rcases((Yd.1 (h11 i (by omega))).2 (by omega)).2.2 with g|g
    ·omega
    ·exact g
   ·unfold YH at e1
    simp only[yi,yB]at e1;have h2:=((Yd.1 (h11 (-2-zh h i).toNat (by omega))).2 (by omega)).2.1 i (by omega);rcases h2 with g|g|g
    ·omega
    ·omega
    ·exact g e4
theorem PY{v:zg}{h:List Int}(hf:0<=v.frame)(n:Nat):(if 0<v.frame then Kl v h n else some 0)=vy v h n:=by
 by_cases e:0<v.frame
 ·rw[zj e]
  induction n with
  |zero=>rfl
  |succ n ih=>
   unfold Kl vy;rw[ih];refine congrArg _ (funext fun a=> ?_);by_cases h0:0<=zh h n
   ·rw[zj h0,zj ⟨by omega,h0⟩]
   ·rw[zi h0,zi (fun g=>h0 g.2)]
 ·rw[zi e]
  induction n with
  |zero=>rfl
  |succ n ih=>
   unfold vy;rw[<-ih,xz,zi (fun g=>by omega)]
theorem AB(u v:zg)(h t:List Int):L_ u v h t=qS u v h t:=by
 unfold L_ qS;by_cases hw:zC u=true
 ·rw[zj hw,zj hw]
  unfold vm;by_cases hh:qk u v h t=true
  ·rw[zj ((GZ hw).2 hh),hh,xk]
   have ha:=zL hw;have hh2:=hh;unfold qk at hh2;simp only[yi,yL,yR,yB,qE]at hh2;obtain⟨⟨⟨⟨⟨⟨⟨⟨⟨h9,h8⟩,_⟩,_⟩,_⟩,_⟩,h4⟩,_⟩,h10⟩,_⟩:=hh2;have hf0:0<=v.frame:=by unfold yr at h4;simp at h4;omega
   have hok:∀s:Int,0<=s->s<u.slots->s∈yx u->0<=zh h s\/zh h s<= -2:=fun s s0 s1 su=>by
    have e:((s.toNat:Nat):Int)=s:=by omega
    have g:=(Xj.1 (h10 s.toNat (by omega))).1;rw[e]at g;rcases g with ⟨_,g⟩|g|⟨g,_⟩
    ·exact absurd su g
    ·refine .inl ?_
     unfold yr at g;simp only[yi,yB]at g;exact g.1
    ·exact .inr g
   have e:(if 0<v.frame then Kl v h u.args.toNat else some 0).bind (XB u v (zf u) h t (List.range u.code.length))=(vy v h u.args.toNat).bind (xr u v (zf u) h t (yg u)):=by
    rw[PY hf0];refine congrArg _ (funext fun a=> ?_);rw[G2 hw h8 hok _ _ (fun i hi=>yR.1 hi),QE hw]
   rw[e];refine PK ?_ _ _;rw[yi,qE]
  ·rw[zi (fun g=>hh ((GZ hw).1 g))]
   have:qk u v h t=false:=by simpa using hh
   rw[this,Bool.false_and,Bool.false_and,zi (by simp)]
 ·rw[zi hw,zi hw]
theorem L7{v:zg}{a a':Nat}{x:zm}(e:jY v a x=some a'):a'<=v.code.length:=by
 unfold jY at e;split at e
 ·next h=>
  have:=(ZE.1 h).1;cases e;omega
 ·cases e
theorem Uy{v:zg}{h R BZ:List Int}:∀(f a:Nat) (TK LD:List Int) (r:Nat×List Int),a<=v.code.length->Z_ v h R BZ f a TK LD=some r->r.1<=v.code.length
 |0,_,_,_,_,_,e=>by cases e
 |f+1,a,TK,LD,r,ha,e=>by
  unfold Z_ at e;split at e
  ·cases e;exact ha
  ·next x hx=>
   have h1:=(ZE.1 hx).1;split at e
   ·cases e;exact ha
   ·split at e
    ·exact Uy f (a+1) _ _ r h1 e
    ·cases e
theorem L8{u v:zg}{h t load later:List Int}{first i a a':Nat}(e:VS u v h t load later first i a=some a'):a'<=v.code.length:=by
 unfold VS at e;split at e
 ·cases e
 ·next x hx=>
  have h1:=(ZE.1 hx).1;split at e
  ·cases e
  ·split at e
   ·cases e
   ·split at e
    ·cases e
    ·split at e
     ·split at e
      ·exact L7 e
      ·cases e;exact h1
     ·cases e
theorem EO{u v:zg}{h t load later:List Int}{first:Nat}:∀(n a a':Nat),a<=v.code.length->jk u v h t load later first n a=some a'->a'<=v.code.length
 |0,a,a',ha,e=>by cases e;exact ha
 |n+1,a,a',ha,e=>by
  unfold jk at e;obtain⟨b,_,hb⟩:=Option.bind_eq_some_iff.1 e;exact L8 hb
theorem L9{u v:zg}{live:List (List Int)}{h t:List Int}{i a a':Nat}(ha:a<=v.code.length)(e:KI u v live h t i a=some a'):a'<=v.code.length:=by
 unfold KI at e;split at e
 ·obtain⟨lm,h1,h2⟩:=Option.bind_eq_some_iff.1 e
  exact EO _ _ _ (Uy _ _ _ _ _ ha h1) h2
 ·cases e
def Vi(v:zg)(h:List Int)(i:Nat):Option Nat:=if 0<v.frame then Kl v h i else some 0
theorem UA{v:zg}{h:List Int}{i:Nat}(e:Kl v h i=none):∀k,Kl v h (i+k)=none
 |0=>e
 |k+1=>by
  rw[<-Nat.add_assoc];unfold Kl;rw[UA e k];rfl
theorem Fh{v:zg}{h:List Int}{i n:Nat}(hf:0<v.frame)(e:Kl v h i=none)(hn:i<=n):Vi v h n=none:=by
 unfold Vi;rw[zj hf,show n=i+(n-i) by omega];exact UA e _
theorem Fg{v:zg}{h:List Int}{i a:Nat}(hf:0<v.frame)(e:Vi v h i=some a):Vi v h (i+1)=if 0<=zh h i then jY v a (qm (zh h i) i)else some a:=by
 unfold Vi at e ⊢;rw[zj hf]at e ⊢;unfold Kl;rw[e];rfl
theorem Ez{u v:zg}{live:List (List Int)}{h t:List Int}{i n a:Nat}(hi:i<n):XB u v live h t (List.range' i (n-i)) a=if (zl u.code).getD i 0=(i:Int)then(KI u v live h t i a).bind (XB u v live h t (List.range' (i+1) (n-(i+1))))else XB u v live h t (List.range' (i+1) (n-(i+1))) a:=by
 rw[show n-i=(n-(i+1))+1 by omega,List.range'_succ];rfl
theorem Ix{u v:zg}{t:List Int}(h:JA u v t=true):(u.cls==v.cls)=true/\u.args=v.args/\0<=v.frame/\1<=v.slots/\v.slots<=u.slots/\v.code.length<=600/\t.length=u.code.length:=by
 unfold JA yr at h;simp only[yi,yB,qE]at h;obtain⟨⟨⟨⟨⟨⟨⟨h1,_⟩,h2⟩,h3⟩,_⟩,h4⟩,h5⟩,h6⟩:=h;exact⟨by rw[h1],h2,h3.1,h4.1,h4.2,h5,h6⟩
theorem PV{u v:zg}(hw:zC u=true){h t:List Int}(hh:JA u v t=true)(hm:Yb u v h ((zf u).getD 0 []) (zZ u)=true):(h.length:Int)=u.slots/\∀s:Int,0<=s->s<u.slots->s∈yx u->(0<=zh h s/\zh h s<200)\/zh h s<= -2:=by
 have ha:=zL hw;obtain⟨-,-,-,v1,v2,-,-⟩:=Ix hh;have hh2:=(GZ hw).1 ⟨hh,hm⟩;unfold qk at hh2;simp only[yi,yL,yR,yB,qE]at hh2;obtain⟨⟨⟨⟨⟨⟨⟨⟨⟨h9,h8⟩,_⟩,_⟩,_⟩,_⟩,h4⟩,_⟩,h10⟩,_⟩:=hh2;refine⟨by omega,fun s s0 s1 su=> ?_⟩;have e:((s.toNat:Nat):Int)=s:=by omega
 have g:=(Xj.1 (h10 s.toNat (by omega))).1;rw[e]at g;rcases g with ⟨_,g⟩|g|⟨g,_⟩
 ·exact absurd su g
 ·unfold yr at g
  simp only[yi,yB]at g;exact .inl ⟨g.1,by omega⟩
 ·exact .inr g
end Go.Proofs.YtgalekifgnecjaaGreat
