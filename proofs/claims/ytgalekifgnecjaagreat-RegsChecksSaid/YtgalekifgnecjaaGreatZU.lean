/- The reference of layer 16: place, guarded -/
import Derived.Test.YtgalekifgnecjaaGreatZO
import Derived.Test.YtgalekifgnecjaaGreatX6
import Derived.Test.YtgalekifgnecjaaGreatT10
namespace Go.Proofs.YtgalekifgnecjaaGreat
open Tryz Go.RowKit
open Go.RowKit Go.Shelf
set_option maxHeartbeats 40000000
set_option maxRecDepth 100000
attribute [local go_sem] Oper.semAt_some
attribute [local irreducible] wpStill
theorem Sw(x y:zm)(w:World):(binOp .neq 85 (vI x) (vI y)).run prog w= .ok (.bool (!VW x y)) w:=by
 rw[run_neq_struct,RY x y];rfl
theorem S8(x y:jR)(w:World):(binOp .neq 90 (vG x) (vG y)).run prog w= .ok (.bool (!Au x y)) w:=by
 rw[run_neq_struct,RW x y];rfl
theorem F_(t:List Int)(p:Int)(a:Option Addr)(c:Nat)(w:World)(hr:yC w a t)(_hlen:t.length<=1000000):Calls prog 181 #[.slice a t.length c,.int .i64 p] w (Q5 (.int .i64 (YL t p)) w):=by
 have HR:=za hr;have HP:Hid (YL t p=if p<0\/(t.length:Int)<=p then -1 else t.getD p.toNat 0):=za rfl;clear hr;generalize YL t p=q at *;go_enter func181,ntmps181;by_cases h0:p<0
 ·replace HP:=za (HP.out.trans (zj (.inl h0)))
  go_wp2;go_ret;exact⟨by rw[HP.out];rfl,rfl⟩
 ·by_cases h1:(t.length:Int)<=p
  ·replace HP:=za (HP.out.trans (zj (.inr h1)))
   go_wp2;go_ret;exact⟨by rw[HP.out];rfl,rfl⟩
  ·replace HP:=za (HP.out.trans (zi (by omega)))
   obtain⟨n,rfl⟩:∃n:Nat,p=n:=⟨p.toNat,by omega⟩
   have hn:n<t.length:=by omega
   have nn:(n:Int)<(t.length:Int):=by omega
   obtain⟨b,off,ha,hlt,hc⟩:=HR.out n hn;subst ha;rw[qQ,zk hn]at HP;generalize t[n]=x at *;go_wp2;go_ret;exact⟨by rw[HP.out];rfl,rfl⟩
theorem DJ(u v:zg)(t:List Int)(ca cc ga gc)(da dc ea ec)(ta:Option Addr)(tc:Nat)(w:World)(mu:jo w u ca cc ga gc)(mv:jo w v da dc ea ec)(mt:yC w ta t)
  (hp:zJ u=true) (ht:t.length=u.code.length) (_hvg:v.guards.length<=1000000) (_hvc:v.code.length<=1000000):
  Calls prog 60 #[vU u ca cc ga gc,vU v da dc ea ec,.slice ta t.length tc] w (zV (.bool (jS u v t)) w):=by
 obtain⟨hl0,hl6,hl4,_⟩:=z8 hp;have HPA:=za (fun g (hg:g<u.guards.length)=>Zv hp hg);have HT:=za ht;have HMU:=za mu;have HMV:=za mv;have HMT:=za mt;clear mu mv mt ht hp;have HLN:=za (fun(h:v.guards.length≠u.guards.length)=>Ao (t:=t) h);have HYS:=za (fun(h:v.guards.length=u.guards.length) h2=>Ic (u:=u) (v:=v) (t:=t) h h2);have HNO:=za (fun(k:Nat) (h1:k<v.guards.length) (h2:k<u.guards.length) (h:v.guards[k]≠x_ u t v.code.length u.guards[k])=>Id h1 h2 h);generalize jS u v t=rb at *
 have HI:=za (show Below w.heap.size w ((w.alloc (oU u ca cc ga gc)).alloc (oU v da dc ea ec))/\((w.alloc (oU u ca cc ga gc)).alloc (oU v da dc ea ec)).heap[w.heap.size]?=some (oU u ca cc ga gc)/\((w.alloc (oU u ca cc ga gc)).alloc (oU v da dc ea ec)).heap[w.heap.size+1]?=some (oU v da dc ea ec)from
  ⟨(zd _ _).step (zd _ _),zb (zd _ _) (zo _ _ _ rfl),zo _ _ _ (by simp)⟩)
 go_enter func60,ntmps60;go_upto_region 1 with fail;obtain⟨w1,hw1⟩:∃w1,w1=(w.alloc (oU u ca cc ga gc)).alloc (oU v da dc ea ec):=⟨_,rfl⟩
 rw[<-hw1]at HI;rw[<-hw1];clear hw1;have HUX:=za (fun wx (hb:Below w1.heap.size w1 wx)=>zb hb HI.out.2.1);have HVX:=za (fun wx (hb:Below w1.heap.size w1 wx)=>zb hb HI.out.2.2);have HB1:=za HI.out.1;clear HI;obtain⟨k0,k1,k2,k3,k4,k5,k6⟩:=zr (HUX.out _ (zG _ _));obtain⟨v0,v1,v2,v3,v4,v5,v6⟩:=zr (HVX.out _ (zG _ _));by_cases hlen:v.guards.length=u.guards.length
 case neg=>
  have HV:=za (HLN.out hlen);have d:((u.guards.length:Int) !=(v.guards.length:Int))=true:=by simp;omega
  clear hlen;go_wp2;go_ret;exact⟨by rw[HV.out];rfl,HB1.out⟩
 case pos=>
 have d:((u.guards.length:Int) !=(v.guards.length:Int))=false:=by simp;omega
 have HLEN:=za hlen;have hle:v.guards.length<=u.guards.length:=by omega
 have hge:u.guards.length<=v.guards.length:=by omega
 clear hlen;go_upto_region 4 with fail;clear d k0 k1 k2 k3 k4 k5 k6 v0 v1 v2 v3 v4 v5 v6;go_wp2;go_loopg [7] u.guards.length (fun gh s7 wr=>∃i:Nat,i<=u.guards.length/\gh=u.guards.length-i/\s7= .int .i64 i/\Hid (Below w1.heap.size w1 wr)/\Hid (∀k (hk:k<u.guards.length),k<i->v.guards[k]'(by omega)=x_ u t v.code.length u.guards[k]));case atStart=>exact⟨0,zE _,rfl,rfl,za (zG _ _),za (fun k hk h=>absurd h (y_ _))⟩
 case round=>
  obtain⟨i,hi,rfl,rfl,HB,HQ⟩:=hrel;obtain⟨k0,k1,k2,k3,k4,k5,k6⟩:=zr (HUX.out _ HB.out);by_cases hig:i<u.guards.length
  ·have ni:(i:Int)<(u.guards.length:Int):=by omega
   have hiv:i<v.guards.length:=by omega
   have niv:(i:Int)<(v.guards.length:Int):=by omega
   obtain⟨hat0,hat1,hf0,hf1⟩:=HPA.out i hig;have HGT:=za (show x_ u t v.code.length u.guards[i]=⟨t.getD u.guards[i].frm.toNat 0,if u.guards[i].til<u.code.length then t.getD u.guards[i].til.toNat 0 else v.code.length,t.getD u.guards[i].at'.toNat 0⟩from rfl);have HQF:=za (fun(h:v.guards[i]≠x_ u t v.code.length u.guards[i])=>HNO.out i hiv hig h)
   have HQ2:Hid (v.guards[i]=x_ u t v.code.length u.guards[i]->∀k (hk:k<u.guards.length),k<i+1->v.guards[k]'(by omega)=x_ u t v.code.length u.guards[k]):=za (fun e k hk hki=>by
    by_cases h:k<i
    ·exact HQ.out k hk h
    ·obtain rfl:k=i:=by omega
     exact e)
   obtain⟨bg,og,hga,-,-⟩:=(HMU.out.rg.below (HB1.out.step HB.out)) i hig;obtain⟨be,oe,hea,-,-⟩:=(HMV.out.rg.below (HB1.out.step HB.out)) i hiv;subst hga hea
   have HGC:=za (fun(w':World) (hb:Below w1.heap.size w1 w')=>(show w'.cell? ⟨bg,og+i*3,none⟩=some (.int .i64 u.guards[i].frm)/\w'.cell? ⟨bg,og+i*3+1,none⟩=some (.int .i64 u.guards[i].til)/\w'.cell? ⟨bg,og+i*3+2,none⟩=some (.int .i64 u.guards[i].at')from by
    obtain⟨b9,o9,e9,_,h9⟩:=(HMU.out.rg.below (HB1.out.step hb)) i hig;cases e9
    exact h9))
   have HVC:=za (fun(w':World) (hb:Below w1.heap.size w1 w')=>(show w'.cell? ⟨be,oe+i*3,none⟩=some (.int .i64 v.guards[i].frm)/\w'.cell? ⟨be,oe+i*3+1,none⟩=some (.int .i64 v.guards[i].til)/\w'.cell? ⟨be,oe+i*3+2,none⟩=some (.int .i64 v.guards[i].at')from by
    obtain⟨b9,o9,e9,_,h9⟩:=(HMV.out.rg.below (HB1.out.step hb)) i hiv;cases e9
    exact h9))
   generalize x_ u t v.code.length u.guards[i]=gt at *;generalize u.guards[i]=g at *;generalize v.guards[i]=y at *;have ht0:0<t.length:=by rw[HT.out];exact hl0
   obtain⟨bt,ot,hta,-,-⟩:=(HMT.out.below (HB1.out.step HB.out)) 0 ht0;subst hta
   have HTC:=za (fun(w':World) (hb:Below w1.heap.size w1 w') (j:Nat) (h1:j<u.code.length)=>(show w'.cell? ⟨bt,ot+j,none⟩=some (.int .i64 (t.getD j 0))from by
    have hj:j<t.length:=by rw[HT.out];omega
    obtain⟨b2,o2,e2,_,h2⟩:=(HMT.out.below (HB1.out.step hb)) j hj;cases e2;rw[zk hj]
    exact h2))
   obtain⟨gf,gl,gA⟩:=g;dsimp only at hat0 hat1 hf0 hf1 HGT HGC;obtain⟨kf,rfl⟩:∃n:Nat,gf=n:=⟨gf.toNat,by omega⟩
   obtain⟨ka,rfl⟩:∃n:Nat,gA=n:=⟨gA.toNat,by omega⟩
   rw[qQ,qQ]at HGT;have nkf:(kf:Int)<(t.length:Int):=by have:=HT.out;omega
   have nka:(ka:Int)<(t.length:Int):=by have:=HT.out;omega
   have hkf:kf<u.code.length:=by omega
   have hka:ka<u.code.length:=by omega
   have HTF:=za (fun w' hb=>HTC.out w' hb kf hkf);have HTA:=za (fun w' hb=>HTC.out w' hb ka hka);have heg:prog.eqGuardType prog.depth 90=false:=by kernel_rfl
   have HEQ:∀(tz:Int) (w:World),(binOp .neq 90 (.agg #[.int .i64 y.frm,.int .i64 y.til,.int .i64 y.at']) (.agg #[.int .i64 (t.getD kf 0),.int .i64 tz,.int .i64 (t.getD ka 0)])).run prog w= .ok (.bool (!Au y ⟨t.getD kf 0,tz,t.getD ka 0⟩)) w:=fun tz w=>S8 y ⟨_,tz,_⟩ w
   obtain⟨v0,v1,v2,v3,v4,v5,v6⟩:=zr (HVX.out _ HB.out);obtain⟨g0,g1,g2⟩:=HGC.out _ HB.out;go_upto_region 7 with fail;by_cases hti:gl<(u.code.length:Int)
   ·obtain⟨kt,rfl⟩:∃n:Nat,gl=n:=⟨gl.toNat,by omega⟩
    have hkt:kt<u.code.length:=by omega
    have nkt:(kt:Int)<(t.length:Int):=by have:=HT.out;omega
    rw[zj hti,qQ]at HGT;have HTT:=za (fun w' hb=>HTC.out w' hb kt hkt);generalize t.getD kf 0=tf at *;generalize t.getD ka 0=tA at *;generalize t.getD kt 0=tz at *;go_quiet (fail);have HB1q:=za (Km HB.out nq);generalize wr.drewN nq=wy at *;clear k0 k1 k2 k3 k4 k5 k6 v0 v1 v2 v3 v4 v5 v6 g0 g1 g2;obtain⟨k0,k1,k2,k3,k4,k5,k6⟩:=zr (HUX.out _ HB1q.out);obtain⟨v0,v1,v2,v3,v4,v5,v6⟩:=zr (HVX.out _ HB1q.out);obtain⟨g0,g1,g2⟩:=HGC.out _ HB1q.out;obtain⟨y0,y1,y2⟩:=HVC.out _ HB1q.out;have tf0:=HTF.out _ HB1q.out;have tA0:=HTA.out _ HB1q.out;have tz0:=HTT.out _ HB1q.out;have HEQ2:=HEQ tz;go_upto_region 9 with fail;obtain⟨bq,hbq⟩:∃bq,bq=Au y ⟨tf,tz,tA⟩:=⟨_,rfl⟩
    rw[<-hbq]at HEQ2;have HE1:=za (fun(h:bq=true)=>HQ2.out ((show y=⟨tf,tz,tA⟩from by unfold Au at hbq;rw[hbq]at h;exact Qi h).trans HGT.out.symm));have HE2:=za (fun(h:bq=false)=>HQF.out (fun e=>(show y≠⟨tf,tz,tA⟩from by unfold Au at hbq;rw[hbq]at h;exact of_decide_eq_false h) (e.trans HGT.out)));clear hbq HEQ
    cases bq with
    |false=>
     have HV:=za (HE2.out rfl);go_quiet (fail);go_wp2;go_ret
     exact⟨by rw[HV.out];rfl,Km (HB1.out.step HB1q.out) _⟩
    |true=>
     have HV:=za (HE1.out rfl);go_quiet (fail);go_wp2;go_roundg (u.guards.length-(i+1));case measure=>omega
     case rel=>exact⟨i+1,by omega,rfl,by go_num,za (Km HB1q.out _),HV⟩
   ·rw[zi hti]at HGT
    generalize t.getD kf 0=tf at *;generalize t.getD ka 0=tA at *;go_quiet (fail);have HB1q:=za (Km HB.out nq);generalize wr.drewN nq=wy at *;clear k0 k1 k2 k3 k4 k5 k6 v0 v1 v2 v3 v4 v5 v6 g0 g1 g2;obtain⟨k0,k1,k2,k3,k4,k5,k6⟩:=zr (HUX.out _ HB1q.out);obtain⟨v0,v1,v2,v3,v4,v5,v6⟩:=zr (HVX.out _ HB1q.out);obtain⟨g0,g1,g2⟩:=HGC.out _ HB1q.out;obtain⟨y0,y1,y2⟩:=HVC.out _ HB1q.out;have tf0:=HTF.out _ HB1q.out;have tA0:=HTA.out _ HB1q.out;have HEQ2:=HEQ (v.code.length:Int);go_upto_region 9 with fail;obtain⟨bq,hbq⟩:∃bq,bq=Au y ⟨tf,(v.code.length:Int),tA⟩:=⟨_,rfl⟩
    rw[<-hbq]at HEQ2;have HE1:=za (fun(h:bq=true)=>HQ2.out ((show y=⟨tf,(v.code.length:Int),tA⟩from by unfold Au at hbq;rw[hbq]at h;exact Qi h).trans HGT.out.symm));have HE2:=za (fun(h:bq=false)=>HQF.out (fun e=>(show y≠⟨tf,(v.code.length:Int),tA⟩from by unfold Au at hbq;rw[hbq]at h;exact of_decide_eq_false h) (e.trans HGT.out)));clear hbq HEQ
    cases bq with
    |false=>
     have HV:=za (HE2.out rfl);go_quiet (fail);go_wp2;go_ret
     exact⟨by rw[HV.out];rfl,Km (HB1.out.step HB1q.out) _⟩
    |true=>
     have HV:=za (HE1.out rfl);go_quiet (fail);go_wp2;go_roundg (u.guards.length-(i+1));case measure=>omega
     case rel=>exact⟨i+1,by omega,rfl,by go_num,za (Km HB1q.out _),HV⟩
  ·obtain rfl:i=u.guards.length:=by omega
   have ni:¬(u.guards.length:Int)<(u.guards.length:Int):=by omega
   have HV:=za (HYS.out HLEN.out (fun k hk=>HQ.out k hk hk));go_wp2;go_ret;exact⟨by rw[HV.out];rfl,HB1.out.step HB.out⟩
abbrev oI(x:zm):Obj:=.cells #[.int .i64 x.op,.int .i64 x.a,.int .i64 x.b,.int .i64 x.c] 85
structure IF(w:World)(y:zm)(wr:World):Prop where
 hb:Below w.heap.size w wr
 hx:wr.heap[w.heap.size]?=some (oI y)
 hz:wr.heap[w.heap.size+1]?=some (oI ⟨0,0,0,0⟩)
theorem IF.first(w:World)(x:zm):IF w x ((w.alloc (oI x)).alloc (oI ⟨0,0,0,0⟩)):=⟨(zd _ _).step (zd _ _),zb (zd _ _) (zo _ _ _ rfl),zo _ _ _ (by simp)⟩
theorem IF.below{w:World}{y:zm}{wr w':World}(h:IF w y wr)(hb:Below wr.heap.size wr w'):IF w y w':=⟨h.hb.step hb,zb hb h.hx,zb hb h.hz⟩
theorem IF.setA{w:World}{y:zm}{wr:World}(h:IF w y wr)(v:Int):IF w ⟨y.op,v,y.b,y.c⟩ (wr.setCell ⟨w.heap.size,1,none⟩ (.int .i64 v)):=
 ⟨h.hb.setCell (p:=⟨w.heap.size,1,none⟩) (zI _) _,yk _ _ 1 _ _ _ h.hx,(yF _ _ _ _ (by show w.heap.size+1≠w.heap.size;omega)).trans h.hz⟩
theorem IF.setB{w:World}{y:zm}{wr:World}(h:IF w y wr)(v:Int):IF w ⟨y.op,y.a,v,y.c⟩ (wr.setCell ⟨w.heap.size,2,none⟩ (.int .i64 v)):=
 ⟨h.hb.setCell (p:=⟨w.heap.size,2,none⟩) (zI _) _,yk _ _ 2 _ _ _ h.hx,(yF _ _ _ _ (by show w.heap.size+1≠w.heap.size;omega)).trans h.hz⟩
theorem IF.setC{w:World}{y:zm}{wr:World}(h:IF w y wr)(v:Int):IF w ⟨y.op,y.a,y.b,v⟩ (wr.setCell ⟨w.heap.size,3,none⟩ (.int .i64 v)):=
 ⟨h.hb.setCell (p:=⟨w.heap.size,3,none⟩) (zI _) _,yk _ _ 3 _ _ _ h.hx,(yF _ _ _ _ (by show w.heap.size+1≠w.heap.size;omega)).trans h.hz⟩
theorem FT{op a b c:Int}:
  ((rdB.contains op=true->b≠ -1->0<(zp ⟨op,a,b,c⟩).length)/\(Yy.contains op=true->b≠ -1\/c≠ -1->0<(zp ⟨op,a,b,c⟩).length)/\(V4.contains op=true->a≠ -1->0<(zp ⟨op,a,b,c⟩).length)):=by
 refine⟨fun h hb=> ?_,fun h hb=> ?_,fun h hb=> ?_⟩
 ·obtain⟨h0,_⟩:=NJ (x:=⟨op,a,b,c⟩) h
  unfold zp;rw[h0,vC (by decide),zj (show vP ⟨op,a,b,c⟩ ((2:Int)-1).toNat≠ -1 from hb)];simp
 ·obtain⟨h0,h1⟩:=L4 (x:=⟨op,a,b,c⟩) h
  unfold zp;rw[h0,h1,vC (by decide),vC (by decide)];rcases hb with hb|hb
  ·rw[zj (show vP ⟨op,a,b,c⟩ ((2:Int)-1).toNat≠ -1 from hb)];simp
  ·rw[zj (show vP ⟨op,a,b,c⟩ ((3:Int)-1).toNat≠ -1 from hb)];simp
 ·obtain⟨h0,_⟩:=NK (x:=⟨op,a,b,c⟩) h
  unfold zp;rw[h0,vC (by decide),zj (show vP ⟨op,a,b,c⟩ ((1:Int)-1).toNat≠ -1 from hb)];simp
theorem FH{w w1:World}(h:Below w.heap.size w w1)(y0 y1 y2 y3:Value):Below w.heap.size w ((((w1.setCell ⟨w.heap.size+1,0,none⟩ y0).setCell ⟨w.heap.size+1,1,none⟩ y1).setCell ⟨w.heap.size+1,2,none⟩ y2).setCell ⟨w.heap.size+1,3,none⟩ y3):=
 (((h.setCell (p:=⟨w.heap.size+1,0,none⟩) (xH _) _).setCell (p:=⟨w.heap.size+1,1,none⟩) (xH _) _).setCell (p:=⟨w.heap.size+1,2,none⟩) (xH _) _).setCell (p:=⟨w.heap.size+1,3,none⟩) (xH _) _
theorem MA(x:zm)(r:List Int):(Ji x r).op=x.op:=by
 unfold Ji;split
 ·split<;>rfl
 ·split
  ·rfl
  ·split
   ·split<;>rfl
   ·rfl
theorem I1(x:zm)(r:List Int)(wv:Int)(t:List Int)(ra:Option Addr)(rc:Nat)(ta:Option Addr)(tc:Nat)(w:World)(hr:yC w ra r)(ht:yC w ta t)(hl:r.length=(zp x).length)(htl:t.length<=1000000):
  Calls prog 128 #[vI x,.slice ra r.length rc,.int .i64 wv,.slice ta t.length tc] w (zV (vI (KC x r wv t)) w):=by
 have hr3:r.length<=2:=by rw[hl];exact xD x
 have HPL:=za (fun p wx (hb:Below w.heap.size w wx)=>F_ t p ta tc wx (ht.below hb) htl);have HWR:=za (fun y wx=>ZY y wx);have HR:=za hr;have HI0:=za (IF.first w x);obtain⟨op,a,b,c⟩:=x;have HLN:=za (FT (op:=op) (a:=a) (b:=b) (c:=c));rw[<-hl]at HLN;have HFIN:Hid (KC ⟨op,a,b,c⟩ r wv t=A3 t (I2 (Ji ⟨op,a,b,c⟩ r) wv)):=za rfl;have HOP:=za (MA ⟨op,a,b,c⟩ r)
 have HRA:Hid (Ji ⟨op,a,b,c⟩ r=if rdB.contains op=true then(if b≠ -1 then⟨op,a,r.getD 0 0,c⟩else⟨op,a,b,c⟩)else if Yy.contains op=true then⟨op,a,if b≠ -1 then r.getD 0 0 else b,if c≠ -1 then r.getD (r.length-1) 0 else c⟩
  else if V4.contains op=true then(if a≠ -1 then⟨op,r.getD 0 0,b,c⟩else⟨op,a,b,c⟩)else⟨op,a,b,c⟩):=za rfl
 clear hr ht hl htl;generalize KC ⟨op,a,b,c⟩ r wv t=z at *;generalize Ji ⟨op,a,b,c⟩ r=y at *;dsimp only at HOP
 have HF0:=za (fun wx (hb:Below w.heap.size w wx) (h:0<r.length)=>(show ∃b0 o0,ra=some ⟨b0,o0,none⟩/\wx.cell? ⟨b0,o0,none⟩=some (.int .i64 (r.getD 0 0))from by
  obtain⟨b0,o0,e,_,h0⟩:=(HR.out.below hb) 0 h
  exact⟨b0,o0,e,by rw[zk h];exact h0⟩))
 have HFL:=za (fun wx (hb:Below w.heap.size w wx) (k:Nat) (h:r.length=k+1)=>(show ∃b0 o0,ra=some ⟨b0,o0,none⟩/\wx.cell? ⟨b0,o0+k,none⟩=some (.int .i64 (r.getD (r.length-1) 0))from by
  obtain⟨b0,o0,e,_,h0⟩:=(HR.out.below hb) k (by omega)
  exact⟨b0,o0,e,by rw[show r.length-1=k by omega,zk (by omega)];exact h0⟩))
 clear HR;go_enter func128,ntmps128;go_upto_region 1 with fail;obtain⟨w1,hw1⟩:∃w1,w1=(w.alloc (oI ⟨op,a,b,c⟩)).alloc (oI ⟨0,0,0,0⟩):=⟨_,rfl⟩
 rw[<-hw1]at HI0;rw[<-hw1];clear hw1;obtain⟨x0,x1,x2,x3⟩:=zX HI0.out.hx;have f1:=zF 1 HI0.out.hx;have f2:=zF 2 HI0.out.hx;have f3:=zF 3 HI0.out.hx;go_upto_block 0 with fail;go_cut []from 12 to 68 (fun wy=>Hid (IF w y wy))
 case first=>
  by_cases hB:op=4\/op=11\/op=15\/op=16\/op=17\/op=20\/op=18\/op=19
  ·by_cases hb:b= -1
   ·have HY:Hid (y=⟨op,a,b,c⟩):=za (by rw[HRA.out,zj (by rcases hB with rfl|rfl|rfl|rfl|rfl|rfl|rfl|rfl<;>decide),zi (by simpa using hb)])
    have nb:(b != -1)=false:=by simpa using hb
    clear hb HRA HLN HF0 HFL;rcases hB with rfl|rfl|rfl|rfl|rfl|rfl|rfl|rfl
    all_goals as_aux_lemma=>
     go_wp2;go_meet;exact za (by rw[HY.out];exact HI0.out)
   ·have HY:Hid (y=⟨op,a,r.getD 0 0,c⟩):=za (by rw[HRA.out,zj (by rcases hB with rfl|rfl|rfl|rfl|rfl|rfl|rfl|rfl<;>decide),zj hb])
    have nb:(b != -1)=true:=by simpa using hb
    have hr0:=HLN.out.1 (by rcases hB with rfl|rfl|rfl|rfl|rfl|rfl|rfl|rfl<;>decide) hb;obtain⟨b0,o0,rfl,g0⟩:=HF0.out _ HI0.out.hb hr0;have nr:(0:Int)<(r.length:Int):=by omega
    clear hb HRA HLN HF0 HFL;generalize r.getD 0 0=q at *;have HN:=za (HI0.out.setB q);rcases hB with rfl|rfl|rfl|rfl|rfl|rfl|rfl|rfl
    all_goals as_aux_lemma=>
     go_wp2;go_meet;exact za (by rw[HY.out];exact HN.out)
  by_cases hBC:op=6\/op=7\/op=8\/op=9\/op=10\/op=12\/op=13\/op=14
  ·have HY:Hid (y=⟨op,a,if b≠ -1 then r.getD 0 0 else b,if c≠ -1 then r.getD (r.length-1) 0 else c⟩):=za (by rw[HRA.out,zi (by rcases hBC with rfl|rfl|rfl|rfl|rfl|rfl|rfl|rfl<;>decide),zj (by rcases hBC with rfl|rfl|rfl|rfl|rfl|rfl|rfl|rfl<;>decide)])
   have HBC:=za (HLN.out.2.1 (by rcases hBC with rfl|rfl|rfl|rfl|rfl|rfl|rfl|rfl<;>decide));clear hB HRA HLN;by_cases hb:b= -1
   ·have nb:(b != -1)=false:=by simpa using hb
    rw[zi (by simpa using hb)]at HY;by_cases hc:c= -1
    ·have nc:(c != -1)=false:=by simpa using hc
     rw[zi (by simpa using hc)]at HY;clear hb hc HF0 HFL HBC;rcases hBC with rfl|rfl|rfl|rfl|rfl|rfl|rfl|rfl
     all_goals as_aux_lemma=>
      go_wp2;go_meet;exact za (by rw[HY.out];exact HI0.out)
    ·have nc:(c != -1)=true:=by simpa using hc
     rw[zj hc]at HY;obtain⟨k,hk⟩:∃k,r.length=k+1:=⟨r.length-1,by have:=HBC.out (.inr hc);omega⟩
     obtain⟨b0,o0,rfl,g0⟩:=HFL.out _ HI0.out.hb k hk;have e1:(r.length:Int)-1=(k:Int):=by omega
     have nk:(k:Int)<(r.length:Int):=by omega
     clear hb hc HF0 HFL HBC hk;generalize r.getD (r.length-1) 0=q at *;have HN:=za (HI0.out.setC q);rcases hBC with rfl|rfl|rfl|rfl|rfl|rfl|rfl|rfl
     all_goals as_aux_lemma=>
      go_wp2;go_meet;exact za (by rw[HY.out];exact HN.out)
   ·have nb:(b != -1)=true:=by simpa using hb
    rw[zj hb]at HY;have hr0:=HBC.out (.inl hb);obtain⟨b0,o0,rfl,g0⟩:=HF0.out _ HI0.out.hb hr0;have nr:(0:Int)<(r.length:Int):=by omega
    have HN:=za (HI0.out.setB (r.getD 0 0));obtain⟨y0,y1,y2,y3⟩:=zX HN.out.hx;have h3:=zF 3 HN.out.hx;by_cases hc:c= -1
    ·have nc:(c != -1)=false:=by simpa using hc
     rw[zi (by simpa using hc)]at HY;clear hb hc HF0 HFL HBC;generalize r.getD 0 0=q at *;rcases hBC with rfl|rfl|rfl|rfl|rfl|rfl|rfl|rfl
     all_goals as_aux_lemma=>
      go_wp2;go_meet;exact za (by rw[HY.out];exact HN.out)
    ·have nc:(c != -1)=true:=by simpa using hc
     rw[zj hc]at HY;obtain⟨k,hk⟩:∃k,r.length=k+1:=⟨r.length-1,by omega⟩
     obtain⟨b9,o9,e9,g9⟩:=HFL.out _ HN.out.hb k hk;cases e9;have e1:(r.length:Int)-1=(k:Int):=by omega
     have nk:(k:Int)<(r.length:Int):=by omega
     clear hb hc HF0 HFL HBC hk;generalize r.getD (r.length-1) 0=q2 at *;generalize r.getD 0 0=q at *;have HN2:=za (HN.out.setC q2);rcases hBC with rfl|rfl|rfl|rfl|rfl|rfl|rfl|rfl
     all_goals as_aux_lemma=>
      go_wp2;go_meet;exact za (by rw[HY.out];exact HN2.out)
  by_cases hA:op=22\/op=25\/op=29\/op=30\/op=32\/op=23\/op=28
  ·by_cases ha:a= -1
   ·have HY:Hid (y=⟨op,a,b,c⟩):=za (by rw[HRA.out,zi (by rcases hA with rfl|rfl|rfl|rfl|rfl|rfl|rfl<;>decide),zi (by rcases hA with rfl|rfl|rfl|rfl|rfl|rfl|rfl<;>decide),zj (by rcases hA with rfl|rfl|rfl|rfl|rfl|rfl|rfl<;>decide),zi (by simpa using ha)])
    have nb:(a != -1)=false:=by simpa using ha
    clear ha HRA HLN HF0 HFL hB hBC;rcases hA with rfl|rfl|rfl|rfl|rfl|rfl|rfl
    all_goals as_aux_lemma=>
     go_wp2;go_meet;exact za (by rw[HY.out];exact HI0.out)
   ·have HY:Hid (y=⟨op,r.getD 0 0,b,c⟩):=za (by rw[HRA.out,zi (by rcases hA with rfl|rfl|rfl|rfl|rfl|rfl|rfl<;>decide),zi (by rcases hA with rfl|rfl|rfl|rfl|rfl|rfl|rfl<;>decide),zj (by rcases hA with rfl|rfl|rfl|rfl|rfl|rfl|rfl<;>decide),zj ha])
    have nb:(a != -1)=true:=by simpa using ha
    have hr0:=HLN.out.2.2 (by rcases hA with rfl|rfl|rfl|rfl|rfl|rfl|rfl<;>decide) ha;obtain⟨b0,o0,rfl,g0⟩:=HF0.out _ HI0.out.hb hr0;have nr:(0:Int)<(r.length:Int):=by omega
    clear ha HRA HLN HF0 HFL hB hBC;generalize r.getD 0 0=q at *;have HN:=za (HI0.out.setA q);rcases hA with rfl|rfl|rfl|rfl|rfl|rfl|rfl
    all_goals as_aux_lemma=>
     go_wp2;go_meet;exact za (by rw[HY.out];exact HN.out)
  ·have HY:Hid (y=⟨op,a,b,c⟩):=za (by
    rw[HRA.out,zi (fun h=>hB (by have h9:=xn.1 h;simp only[rdB,xK,List.not_mem_nil,or_false]at h9;omega)),zi (fun h=>hBC (by have h9:=xn.1 h;simp only[Yy,xK,List.not_mem_nil,or_false]at h9;omega)),zi (fun h=>hA (by have h9:=xn.1 h;simp only[V4,xK,List.not_mem_nil,or_false]at h9;omega))])
   simp only[not_or]at hB hBC hA;obtain⟨n4,n11,n15,n16,n17,n20,n18,n19⟩:=hB;obtain⟨n6,n7,n8,n9,n10,n12,n13,n14⟩:=hBC;obtain⟨n22,n25,n29,n30,n32,n23,n28⟩:=hA;clear HRA HLN HF0 HFL;go_wp2;go_meet;exact za (by rw[HY.out];exact HI0.out)
 case rest=>
  have HJ:=za hcut.out;clear hcut HI0 HRA HLN HF0 HFL x0 x1 x2 x3 f1 f2 f3;obtain⟨yo,ya,yb,yc⟩:=y;dsimp only at HOP;obtain rfl:=HOP.out;clear HOP;have HRW:Hid (I2 ⟨yo,ya,yb,yc⟩ wv=if 0<=zc ⟨yo,ya,yb,yc⟩then⟨yo,wv,yb,yc⟩else⟨yo,ya,yb,yc⟩):=za rfl;have HWC:=za (fun wx=>HWR.out ⟨yo,ya,yb,yc⟩ wx);obtain⟨x0,x1,x2,x3⟩:=zX HJ.out.hx;obtain⟨w2,rfl⟩:∃w2,w2=wc:=⟨_,rfl⟩
  generalize zc ⟨yo,ya,yb,yc⟩=W at *;go_upto_region 34 with (go_at_call 82;(with_reducible refine(HWC.out _).mono ?_);rintro e w3 ⟨rfl,hb3⟩;have HJ3:=za (HJ.out.below hb3);clear hb3);clear HJ HWR HWC x0 x1 x2 x3;obtain⟨x0,x1,x2,x3⟩:=zX HJ3.out.hx;have f1:=zF 1 HJ3.out.hx;by_cases hW:0<=W
  case' pos=>
   replace HRW:=za (HRW.out.trans (zj hW));have HN:=za (HJ3.out.setA wv);go_upto_region 36 with fail;obtain⟨w4,hw4⟩:∃W,W=w3.setCell ⟨w.heap.size,1,none⟩ (.int .i64 wv):=⟨_,rfl⟩
   rw[<-hw4]at HN ⊢;clear hw4
  case' neg=>
   replace HRW:=za (HRW.out.trans (zi hW));have HN:=HJ3;go_upto_region 36 with fail;obtain⟨w4,rfl⟩:∃W,W=w3:=⟨_,rfl⟩
  all_goals
   rw[HRW.out]at HFIN;clear HRW HJ3 x0 x1 x2 x3 f1 hW
   try dsimp only at HN
  case' pos=>generalize wv=q1 at *
  case' neg=>generalize ya=q1 at *
  all_goals
   obtain⟨x0,x1,x2,x3⟩:=zX HN.out.hx;have f1:=zF 1 HN.out.hx;have f2:=zF 2 HN.out.hx;obtain⟨z0,z1,z2,z3⟩:=zX HN.out.hz;have e0:=zF 0 HN.out.hz;have e1:=zF 1 HN.out.hz;have e2:=zF 2 HN.out.hz;have e3:=zF 3 HN.out.hz;by_cases h24:yo=24
   ·subst h24
    have HZ:Hid (z=⟨24,YL t q1,yb,yc⟩):=za (by rw[HFIN.out];rfl);have HP:=za (HPL.out q1 _ HN.out.hb);generalize YL t q1=q at *;have HN2:=za (HN.out.setA q);obtain⟨y0,y1,y2,y3⟩:=zX HN2.out.hx;obtain⟨z0',z1',z2',z3'⟩:=zX HN2.out.hz;have e0':=zF 0 HN2.out.hz;have e1':=zF 1 HN2.out.hz;have e2':=zF 2 HN2.out.hz;have e3':=zF 3 HN2.out.hz;go_wp2_with (go_at_call 181;(with_reducible refine HP.out.mono ?_);rintro e w5 ⟨rfl,rfl⟩);exact xJ (v:=vI ⟨24,q,yb,yc⟩) (results_cell_row rfl _ _ (w.heap.size+1) 85 _ (0,0) _ rfl (VO HN2.out.hz _ _ _ _) Tryz.underlying85 rfl ZF) rfl ⟨by rw[HZ.out],FH HN2.out.hb _ _ _ _⟩
   by_cases h25:yo=25\/yo=32
   ·have HZ:Hid (z=⟨yo,q1,YL t yb,yc⟩):=za (by rw[HFIN.out];unfold A3;rw[zi h24,zj h25])
    have HP:=za (HPL.out yb _ HN.out.hb);generalize YL t yb=q at *;have HN2:=za (HN.out.setB q);obtain⟨y0,y1,y2,y3⟩:=zX HN2.out.hx;obtain⟨z0',z1',z2',z3'⟩:=zX HN2.out.hz;have e0':=zF 0 HN2.out.hz;have e1':=zF 1 HN2.out.hz;have e2':=zF 2 HN2.out.hz;have e3':=zF 3 HN2.out.hz;clear h24;rcases h25 with rfl|rfl
    all_goals
     go_wp2_with (go_at_call 181;(with_reducible refine HP.out.mono ?_);rintro e w5 ⟨rfl,rfl⟩);exact xJ (v:=vI ⟨_,q1,q,yc⟩) (results_cell_row rfl _ _ (w.heap.size+1) 85 _ (0,0) _ rfl (VO HN2.out.hz _ _ _ _) Tryz.underlying85 rfl ZF) rfl ⟨by rw[HZ.out],FH HN2.out.hb _ _ _ _⟩
   have HZ:Hid (z=⟨yo,q1,yb,yc⟩):=za (by rw[HFIN.out];unfold A3;rw[zi h24,zi h25]);obtain⟨n25,n32⟩:=not_or.1 h25;clear h25;go_wp2;exact xJ (v:=vI ⟨yo,q1,yb,yc⟩) (results_cell_row rfl _ _ (w.heap.size+1) 85 _ (0,0) _ rfl (VO HN.out.hz _ _ _ _) Tryz.underlying85 rfl ZF) rfl ⟨by rw[HZ.out],FH HN.out.hb _ _ _ _⟩
end Go.Proofs.YtgalekifgnecjaaGreat
