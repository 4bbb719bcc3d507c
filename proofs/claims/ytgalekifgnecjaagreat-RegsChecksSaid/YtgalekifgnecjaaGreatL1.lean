/- The chapter's example, by the plain words -/
import Derived.Test.YtgalekifgnecjaaGreatN1
import Derived.Test.YtgalekifgnecjaaGreatT6
import Derived.ChangeKeysEq
import Derived.Laws.StructEq
namespace Go.Proofs.YtgalekifgnecjaaGreat
open Tryz Go.RowKit
open Go.RowKit Go.Shelf
set_option maxHeartbeats 4000000
set_option maxRecDepth 100000
theorem PK{α: Type}{p q:Prop}[Decidable p][Decidable q](h:p↔q)(x y:α):(if p then x else y)=if q then x else y:=by
 by_cases hp:p
 ·rw[zj hp,zj (h.1 hp)]
 ·rw[zi hp,zi (fun hq=>hp (h.2 hq))]
def U3(x y:zm):Bool:=x.op==y.op&&x.a==y.a&&x.b==y.b&&x.c==y.c
theorem Kb{x y:zm}:U3 x y=true↔x=y:=by
 obtain⟨a,b,c,d⟩:=x;obtain⟨a',b',c',d'⟩:=y;simp[U3,and_assoc]
def UR(u v:zg)(h at':List Int)(m:List (Int×Int))(behind:List Int)(frm i a:Nat):Option Nat:=
 match v.code[a]? with
 |none=>none
 |some x=>
  if ((decide (i=frm)||at'.getD i 0==(a:Int))&&I6 h m (u.code.getD i zw)&&(decide (zc (u.code.getD i zw)<0)||(qH v h behind x (zc (u.code.getD i zw))).isSome) &&
   U3 x (yK at' (zY (u.code.getD i zw) (fun s=>(xG h m s).getD 0) (fun s=>(qH v h behind x s).getD 0))))=true then some (a+1)else none
theorem Eo(u v:zg)(h at':List Int)(m:List (Int×Int))(behind:List Int)(frm i a:Nat):qW u v h at' m behind frm i a=UR u v h at' m behind frm i a:=by
 unfold qW UR
 cases v.code[a]? with
 |none=>rfl
 |some x=>
  simp only;refine PK ?_ _ _;rw[yi,yi,yi,jV,jV,Kb,yB,yB,qE];constructor
  ·rintro⟨h1,h2,h3,h4⟩
   refine⟨⟨⟨h1,h2⟩,?_⟩,h4⟩;by_cases hw:0<=zc (u.code.getD i zw)
   ·exact .inr (h3 hw)
   ·exact .inl (by omega)
  ·rintro⟨⟨⟨h1,h2⟩,h3⟩,h4⟩
   exact⟨h1,h2,fun hw=>h3.resolve_left (by omega),h4⟩
def US(u v:zg)(h at':List Int)(m:List (Int×Int))(behind:List Int)(frm:Nat):Nat->Nat->Option Nat
 |0,a=>some a
 |n+1,a=>(US u v h at' m behind frm n a).bind fun a=>UR u v h at' m behind frm (frm+n) a
theorem Uo(u v:zg)(h at':List Int)(m:List (Int×Int))(behind:List Int)(frm:Nat):∀n a,jC u v h at' m behind frm n a=US u v h at' m behind frm n a
 |0,_=>rfl
 |n+1,a=>by
  unfold jC US;rw[Uo u v h at' m behind frm n a];congr 1;funext b;exact Eo ..
def ML(v:zg)(at':Nat)(x:zm):Option Nat:=match v.code[at']? with|none=>none|some y=>if U3 y x=true then some (at'+1)else none
theorem Ad(v:zg)(a:Nat)(x:zm):jY v a x=ML v a x:=by
 unfold jY ML
 cases v.code[a]? with
 |none=>rfl
 |some y=>
  refine PK ?_ _ _;rw[Kb];simp
def Nv(v:zg)(h:List Int):Nat->Option Nat
 |0=>some 0
 |i+1=>(Nv v h i).bind fun at'=>if v.frame≠0/\0<=zh h i then ML v at' (qm (zh h i) i)else some at'
theorem AF(v:zg)(h:List Int):∀n,vy v h n=Nv v h n
 |0=>rfl
 |n+1=>by
  unfold vy Nv;rw[AF v h n];congr 1;funext b;rw[Ad]
def UY(u v:zg)(live:List (List Int))(h at':List Int)(a:Nat)(g:xd):Option Nat:=
 if at'.getD g.frm 0=(a:Int)then
  (vL v h g.reads (yj u live g) (v.code.length+1) a [] []).bind fun lm=>
  (US u v h at' lm.2 (zU u live g) g.frm (g.til+1-g.frm) lm.1).bind fun b=>
  if 0<=g.wr/\zh h g.wr<= -2 then ML v b (xx (-2-zh h g.wr) ((v.code.getD (b-1) zw).a))else some b
 else none
theorem EC(u v:zg)(live:List (List Int))(h at':List Int)(a:Nat)(g:xd):ql u v live h at' a g=UY u v live h at' a g:=by
 unfold ql UY;congr 1;congr 1;funext lm;rw[Uo];congr 1;funext b;rw[Ad]
def X_(u v:zg)(live:List (List Int))(h at':List Int):List xd->Nat->Option Nat
 | [],a=>some a
 |g::l,a=>(UY u v live h at' a g).bind (X_ u v live h at' l)
theorem VB(u v:zg)(live:List (List Int))(h at':List Int):∀l a,xr u v live h at' l a=X_ u v live h at' l a
 | [],_=>rfl
 |g::l,a=>by
  unfold xr X_;rw[EC];congr 1;funext b;exact VB u v live h at' l b
def R0(u v:zg)(h at':List Int):Int:=
 if zC u=true then(if (qk u v h at'&&(((Nv v h u.args.toNat).bind (X_ u v (zf u) h at' (yg u)))==some v.code.length)&&jS u v at')=true then 0 else 11)else 1
theorem AC(u v:zg)(h at':List Int):qS u v h at'=R0 u v h at':=by
 unfold qS R0 vm;rw[AF]
 have e:xr u v (zf u) h at' (yg u)=X_ u v (zf u) h at' (yg u):=by
  funext a;exact VB ..
 rw[e]
def VV:zg:=⟨⟨#[65]⟩,⟨#[]⟩,1,4,0,[⟨1,1,5,0⟩,⟨6,2,0,1⟩,⟨8,3,2,0⟩,⟨29,3,0,0⟩,⟨29,1,0,0⟩,⟨28,-1,0,0⟩],[]⟩
def SW:zg:=⟨⟨#[65]⟩,⟨#[]⟩,1,3,0,[⟨1,1,5,0⟩,⟨6,2,0,1⟩,⟨8,0,2,0⟩,⟨29,0,0,0⟩,⟨29,1,0,0⟩,⟨28,-1,0,0⟩],[]⟩
def SV:zg:=⟨⟨#[65]⟩,⟨#[]⟩,1,3,0,[⟨1,1,5,0⟩,⟨6,2,0,1⟩,⟨8,1,2,0⟩,⟨29,1,0,0⟩,⟨29,1,0,0⟩,⟨28,-1,0,0⟩],[]⟩
theorem Xp:zC VV=true:=by decide +kernel
theorem LR:yd VV=2:=by decide +kernel
theorem LQ:F5 VV=3:=by decide +kernel
theorem LU:zZ VV= [(0,1),(0,2),(1,2),(1,3)]:=by decide +kernel
theorem PT:qS VV SW [0,1,2,0] [0,1,2,3,4,5]=0:=by
 rw[AC];decide +kernel
theorem PS:qS VV SV [0,1,2,1] [0,1,2,3,4,5]=11:=by
 rw[AC];decide +kernel
attribute [local go_sem] Oper.semAt_some
def Vd(u:zg):Bool:=
 (decide (u.code.length<=60)||(decide (600<u.code.length)&&decide (u.code.length<=610)))&&(decide (u.guards.length<=10)||(decide (40<u.guards.length)&&decide (u.guards.length<=50))) &&
 (decide (u.slots<=20)||(decide (200<u.slots)&&decide (u.slots<=210)))
theorem U2(u:zg)(ca cc ga gc)(w:World):Calls prog 11 #[vU u ca cc ga gc] w (zV (.bool (Vd u)) w):=by
 have HB:=za (zd w (oU u ca cc ga gc));obtain⟨c1,c2,c3,c4,c5,c6,c7⟩:=zr (zo w (oU u ca cc ga gc) _ rfl);have HF:Hid (Vd u=((decide (u.code.length<=60)||(decide (600<u.code.length)&&decide (u.code.length<=610)))&&(decide (u.guards.length<=10)||(decide (40<u.guards.length)&&decide (u.guards.length<=50)))&&(decide (u.slots<=20)||(decide (200<u.slots)&&decide (u.slots<=210))))):=za rfl;generalize Vd u=fb at *;generalize u.code.length=n at *;generalize u.guards.length=g at *;generalize u.slots=s at *;rcases(show(n:Int)<=60\/(¬(n:Int)<=60/\¬600<(n:Int))\/(¬(n:Int)<=60/\600<(n:Int)/\(n:Int)<=610)\/(¬(n:Int)<=60/\600<(n:Int)/\¬(n:Int)<=610) by omega)with n1|⟨n1,n2⟩|⟨n1,n2,n3⟩|⟨n1,n2,n3⟩
 ·
  rcases(show(g:Int)<=10\/(¬(g:Int)<=10/\¬40<(g:Int))\/(¬(g:Int)<=10/\40<(g:Int)/\(g:Int)<=50)\/(¬(g:Int)<=10/\40<(g:Int)/\¬(g:Int)<=50) by omega)with g1|⟨g1,g2⟩|⟨g1,g2,g3⟩|⟨g1,g2,g3⟩
  ·
   rcases(show(s:Int)<=20\/(¬(s:Int)<=20/\¬200<(s:Int))\/(¬(s:Int)<=20/\200<(s:Int)/\(s:Int)<=210)\/(¬(s:Int)<=20/\200<(s:Int)/\¬(s:Int)<=210) by omega)with s1|⟨s1,s2⟩|⟨s1,s2,s3⟩|⟨s1,s2,s3⟩
   ·
    have HV:Hid (fb=true):=za (by rw[HF.out];simp;omega);clear HF;go_enter func11,ntmps11;go_wp2;go_ret;exact⟨zn HV.out.symm,HB.out⟩
   ·
    have HV:Hid (fb=false):=za (by rw[HF.out];simp;omega);clear HF;go_enter func11,ntmps11;go_wp2;go_ret;exact⟨zn HV.out.symm,HB.out⟩
   ·
    have HV:Hid (fb=true):=za (by rw[HF.out];simp;omega);clear HF;go_enter func11,ntmps11;go_wp2;go_ret;exact⟨zn HV.out.symm,HB.out⟩
   ·
    have HV:Hid (fb=false):=za (by rw[HF.out];simp;omega);clear HF;go_enter func11,ntmps11;go_wp2;go_ret;exact⟨zn HV.out.symm,HB.out⟩
  ·
   have HV:Hid (fb=false):=za (by rw[HF.out];simp;omega);clear HF;go_enter func11,ntmps11;go_wp2;go_ret;exact⟨zn HV.out.symm,HB.out⟩
  ·
   rcases(show(s:Int)<=20\/(¬(s:Int)<=20/\¬200<(s:Int))\/(¬(s:Int)<=20/\200<(s:Int)/\(s:Int)<=210)\/(¬(s:Int)<=20/\200<(s:Int)/\¬(s:Int)<=210) by omega)with s1|⟨s1,s2⟩|⟨s1,s2,s3⟩|⟨s1,s2,s3⟩
   ·
    have HV:Hid (fb=true):=za (by rw[HF.out];simp;omega);clear HF;go_enter func11,ntmps11;go_wp2;go_ret;exact⟨zn HV.out.symm,HB.out⟩
   ·
    have HV:Hid (fb=false):=za (by rw[HF.out];simp;omega);clear HF;go_enter func11,ntmps11;go_wp2;go_ret;exact⟨zn HV.out.symm,HB.out⟩
   ·
    have HV:Hid (fb=true):=za (by rw[HF.out];simp;omega);clear HF;go_enter func11,ntmps11;go_wp2;go_ret;exact⟨zn HV.out.symm,HB.out⟩
   ·
    have HV:Hid (fb=false):=za (by rw[HF.out];simp;omega);clear HF;go_enter func11,ntmps11;go_wp2;go_ret;exact⟨zn HV.out.symm,HB.out⟩
  ·
   have HV:Hid (fb=false):=za (by rw[HF.out];simp;omega);clear HF;go_enter func11,ntmps11;go_wp2;go_ret;exact⟨zn HV.out.symm,HB.out⟩
 ·
  have HV:Hid (fb=false):=za (by rw[HF.out];simp;omega);clear HF;go_enter func11,ntmps11;go_wp2;go_ret;exact⟨zn HV.out.symm,HB.out⟩
 ·
  rcases(show(g:Int)<=10\/(¬(g:Int)<=10/\¬40<(g:Int))\/(¬(g:Int)<=10/\40<(g:Int)/\(g:Int)<=50)\/(¬(g:Int)<=10/\40<(g:Int)/\¬(g:Int)<=50) by omega)with g1|⟨g1,g2⟩|⟨g1,g2,g3⟩|⟨g1,g2,g3⟩
  ·
   rcases(show(s:Int)<=20\/(¬(s:Int)<=20/\¬200<(s:Int))\/(¬(s:Int)<=20/\200<(s:Int)/\(s:Int)<=210)\/(¬(s:Int)<=20/\200<(s:Int)/\¬(s:Int)<=210) by omega)with s1|⟨s1,s2⟩|⟨s1,s2,s3⟩|⟨s1,s2,s3⟩
   ·
    have HV:Hid (fb=true):=za (by rw[HF.out];simp;omega);clear HF;go_enter func11,ntmps11;go_wp2;go_ret;exact⟨zn HV.out.symm,HB.out⟩
   ·
    have HV:Hid (fb=false):=za (by rw[HF.out];simp;omega);clear HF;go_enter func11,ntmps11;go_wp2;go_ret;exact⟨zn HV.out.symm,HB.out⟩
   ·
    have HV:Hid (fb=true):=za (by rw[HF.out];simp;omega);clear HF;go_enter func11,ntmps11;go_wp2;go_ret;exact⟨zn HV.out.symm,HB.out⟩
   ·
    have HV:Hid (fb=false):=za (by rw[HF.out];simp;omega);clear HF;go_enter func11,ntmps11;go_wp2;go_ret;exact⟨zn HV.out.symm,HB.out⟩
  ·
   have HV:Hid (fb=false):=za (by rw[HF.out];simp;omega);clear HF;go_enter func11,ntmps11;go_wp2;go_ret;exact⟨zn HV.out.symm,HB.out⟩
  ·
   rcases(show(s:Int)<=20\/(¬(s:Int)<=20/\¬200<(s:Int))\/(¬(s:Int)<=20/\200<(s:Int)/\(s:Int)<=210)\/(¬(s:Int)<=20/\200<(s:Int)/\¬(s:Int)<=210) by omega)with s1|⟨s1,s2⟩|⟨s1,s2,s3⟩|⟨s1,s2,s3⟩
   ·
    have HV:Hid (fb=true):=za (by rw[HF.out];simp;omega);clear HF;go_enter func11,ntmps11;go_wp2;go_ret;exact⟨zn HV.out.symm,HB.out⟩
   ·
    have HV:Hid (fb=false):=za (by rw[HF.out];simp;omega);clear HF;go_enter func11,ntmps11;go_wp2;go_ret;exact⟨zn HV.out.symm,HB.out⟩
   ·
    have HV:Hid (fb=true):=za (by rw[HF.out];simp;omega);clear HF;go_enter func11,ntmps11;go_wp2;go_ret;exact⟨zn HV.out.symm,HB.out⟩
   ·
    have HV:Hid (fb=false):=za (by rw[HF.out];simp;omega);clear HF;go_enter func11,ntmps11;go_wp2;go_ret;exact⟨zn HV.out.symm,HB.out⟩
  ·
   have HV:Hid (fb=false):=za (by rw[HF.out];simp;omega);clear HF;go_enter func11,ntmps11;go_wp2;go_ret;exact⟨zn HV.out.symm,HB.out⟩
 ·
  have HV:Hid (fb=false):=za (by rw[HF.out];simp;omega);clear HF;go_enter func11,ntmps11;go_wp2;go_ret;exact⟨zn HV.out.symm,HB.out⟩
def QV(h t:List Int):Bool:=decide (h.length<=220)&&decide (t.length<=620)
theorem Dz(h t:List Int)(ha:Option Addr)(hc:Nat)(ta:Option Addr)(tc:Nat)(w:World):Calls prog 17 #[.agg #[.slice ha h.length hc,.slice ta t.length tc]] w (zV (.bool (QV h t)) w):=by
 have HB:=za (zd w (.cells #[.slice ha h.length hc,.slice ta t.length tc] 30));obtain⟨c0,c1,_,_⟩:=qe (zo w (.cells #[.slice ha h.length hc,.slice ta t.length tc] 30) _ rfl);have HF:Hid (QV h t=(decide (h.length<=220)&&decide (t.length<=620))):=za rfl;generalize QV h t=fb at *;generalize h.length=n at *;generalize t.length=g at *;rcases(show((n:Int)<=220/\(g:Int)<=620)\/((n:Int)<=220/\¬(g:Int)<=620)\/¬(n:Int)<=220 by omega)with ⟨a1,a2⟩|⟨a1,a2⟩|a1
 ·have HV:Hid (fb=true):=za (by rw[HF.out];simp;omega)
  clear HF;go_enter func17,ntmps17;go_wp2;go_ret;exact⟨zn HV.out.symm,HB.out⟩
 ·have HV:Hid (fb=false):=za (by rw[HF.out];simp;omega)
  clear HF;go_enter func17,ntmps17;go_wp2;go_ret;exact⟨zn HV.out.symm,HB.out⟩
 ·have HV:Hid (fb=false):=za (by rw[HF.out];simp;omega)
  clear HF;go_enter func17,ntmps17;go_wp2;go_ret;exact⟨zn HV.out.symm,HB.out⟩
theorem Rl:(prog.info? 25).map (·.size)=some 7:=by kernel_rfl
theorem LZ{W:World}{g:Nat}{c:Array Value}{l:List zm}(h:W.heap[g]?=some (.cells c 85 (0,0)))(hc:∀i (hi:i<l.length),c[i*4]?=some (.int .i64 l[i].op)/\c[i*4+1]?=some (.int .i64 l[i].a)/\c[i*4+2]?=some (.int .i64 l[i].b)/\c[i*4+3]?=some (.int .i64 l[i].c)):Qz W (some ⟨g,0,none⟩) l:=by
 intro i hi;obtain⟨h0,h1,h2,h3⟩:=hc i hi;refine⟨g,0,rfl,ze h,?_,?_,?_,?_⟩<;>rw[jU]
 ·exact jP h h0
 ·exact jP h h1
 ·exact jP h h2
 ·exact jP h h3
def R2(w:World)(e:Ending)(w':World):Prop:=Below w.heap.size w w'/\∃ca cc,e= .returned (vU VV ca cc none 0)/\jo w' VV ca cc none 0
theorem FA(w:World):Calls prog 41 #[] w (R2 w):=by
 go_enter func41,ntmps41;go_wp2;have hz:((w.alloc (Obj.cells #[.string ⟨#[65]⟩,.string ⟨#[]⟩,.int .i64 1,.int .i64 4,.int .i64 0,.slice (some ⟨w.heap.size+1,0,none⟩) 6 6,.slice none 0 0] 25)).alloc (Obj.cells #[.int .i64 1,.int .i64 1,.int .i64 5,.int .i64 0,.int .i64 6,.int .i64 2,.int .i64 0,.int .i64 1,.int .i64 8,.int .i64 3,.int .i64 2,.int .i64 0,.int .i64 29,.int .i64 3,.int .i64 0,.int .i64 0,.int .i64 29,.int .i64 1,.int .i64 0,.int .i64 0,.int .i64 28,.int .i64 (-1),.int .i64 0,.int .i64 0] 85)).heap[w.heap.size+1]?=some (Obj.cells #[.int .i64 1,.int .i64 1,.int .i64 5,.int .i64 0,.int .i64 6,.int .i64 2,.int .i64 0,.int .i64 1,.int .i64 8,.int .i64 3,.int .i64 2,.int .i64 0,.int .i64 29,.int .i64 3,.int .i64 0,.int .i64 0,.int .i64 29,.int .i64 1,.int .i64 0,.int .i64 0,.int .i64 28,.int .i64 (-1),.int .i64 0,.int .i64 0] 85):=zo _ _ _ (by simp);refine xJ (v:=vU VV (some ⟨w.heap.size+1,0,none⟩) 6 none 0) (results_cell_row rfl _ _ w.heap.size 25 _ (0,0) _ rfl (zb (zd _ _) (zo _ _ _ rfl)) Tryz.underlying25 rfl Rl) rfl ⟨(zd _ _).step (zd _ _),_,_,rfl,⟨?_,?_,zI _,zI _⟩⟩
 ·exact LZ hz (fun i hi=>by
   have hi6:i<6:=hi
   match i,hi6 with
   |0,_=>exact⟨rfl,rfl,rfl,rfl⟩
   |1,_=>exact⟨rfl,rfl,rfl,rfl⟩
   |2,_=>exact⟨rfl,rfl,rfl,rfl⟩
   |3,_=>exact⟨rfl,rfl,rfl,rfl⟩
   |4,_=>exact⟨rfl,rfl,rfl,rfl⟩
   |5,_=>exact⟨rfl,rfl,rfl,rfl⟩)
 ·exact fun i hi=>absurd hi (y_ i)
theorem JY(l m:List (Int))(a b:Option Addr)(c d:Nat)(w:World)(hl:yC w a l)(hm:yC w b m)(hll:l.length<=1000000)(hml:m.length<=1000000):
  Calls prog 34 #[.slice a l.length c,.slice b m.length d] w (zV (.bool (decide (l=m))) w):=by
 have HL:=za hl;have HM:=za hm;clear hl hm;by_cases hlen:l.length=m.length
 ·have HLN:=za hlen
  have d1:((l.length:Int) !=(m.length:Int))=false:=by rw[hlen];simp
  clear hlen;go_enter func34,ntmps34;go_wp2;go_loopg [5] l.length (fun gh s5 wr=>∃k:Nat,k<=l.length/\gh=l.length-k/\s5= .int .i64 k/\Hid (∀i (h:i<l.length) (h2:i<m.length),i<k->l[i]=m[i])/\Hid (Below w.heap.size w wr));case atStart=>exact⟨0,zE _,rfl,rfl,za (fun i _ _ h=>absurd h (y_ i)),za (zG _ _)⟩
  case round=>
   obtain⟨k,hk,rfl,rfl,HE,HB⟩:=hrel;by_cases hkl:k<l.length
   ·have nk:(k:Int)<(l.length:Int):=by omega
    have hkm:k<m.length:=by rw[<-HLN.out];exact hkl
    have nm:(k:Int)<(m.length:Int):=by omega
    obtain⟨b2,o2,ha,_,h0⟩:=HL.out.below HB.out k hkl;obtain⟨b3,o3,hb,_,h1⟩:=HM.out.below HB.out k hkm;subst ha;subst hb
    have HX:Hid (l[k]=m[k]->∀i (h:i<l.length) (h2:i<m.length),i<k+1->l[i]=m[i]):=za (fun e i h h2 hi=>by
     by_cases hik:i=k
     ·subst hik;exact e
     ·exact HE.out i h h2 (by omega))
    have HNE:Hid (l[k]≠m[k]->l≠m):=za (fun e h=>e (by subst h;rfl));generalize l[k]=x at *;generalize m[k]=y at *;by_cases hxy:x=y
    ·have HX2:=za (HX.out hxy)
     have e1:(x !=y)=false:=by rw[hxy];simp
     clear hxy HX;go_upto_region 6 with fail;go_quiet (fail);go_wp2;go_roundg (l.length-(k+1));case measure=>omega
     case rel=>exact⟨k+1,by omega,rfl,by go_num,HX2,za (xR HB.out _)⟩
    ·have HN2:=za (HNE.out hxy)
     have e1:(x !=y)=true:=by simpa using hxy
     clear hxy HX;go_upto_region 6 with fail;go_quiet (fail);go_wp2;go_ret;exact⟨zn (yn HN2.out).symm,xR HB.out _⟩
   ·obtain rfl:k=l.length:=by omega
    have nk:¬(l.length:Int)<(l.length:Int):=by omega
    go_wp2;go_ret;exact⟨zn (zP (List.ext_getElem HLN.out fun i h h2=>HE.out i h h2 h)).symm,HB.out⟩
 ·have HN:Hid (l≠m):=za (fun e=>hlen (by rw[e]))
  have d1:((l.length:Int) !=(m.length:Int))=true:=by simp;omega
  clear hlen;go_enter func34,ntmps34;go_wp2;go_ret;exact⟨zn (yn HN.out).symm,zG _ _⟩
theorem Rk:prog.underlying 48=some (.array 2 3):=by kernel_rfl
theorem Ns:prog.cellsOf 3=1:=by kernel_rfl
theorem OF(x y:Int)(w:World):(part 3 #[.int .i64 x,.int .i64 y] (0*1)).run prog w= .ok (.int .i64 x) w:=by
 have a3:=Tryz.isAgg3;have z3:=Tryz.sizeOf3;simp[part,go_sem]
theorem OE(x y:Int)(w:World):(part 3 #[.int .i64 x,.int .i64 y] (1*1)).run prog w= .ok (.int .i64 y) w:=by
 have a3:=Tryz.isAgg3;have z3:=Tryz.sizeOf3;simp[part,go_sem]
theorem SO(p q:Int×Int)(w:World):(Op.equalIn 10000 48 (.agg #[.int .i64 p.1,.int .i64 p.2]) (.agg #[.int .i64 q.1,.int .i64 q.2])).run prog w= .ok (decide (p=q)) w:=by
 obtain⟨i,hi,_⟩:=info_parts GV;rw[show(10000:Nat)=9998+2 from rfl,run_equalIn_array w (9998+1) _ _ Rk hi,Ns];have h0:=OF p.1 p.2 w;have h1:=OE p.1 p.2 w;have g0:=OF q.1 q.2 w;have g1:=OE q.1 q.2 w;have e0:=run_equalIn_int (P:=prog) w 9998 3 .i64 .i64 p.1 q.1 Tryz.underlying3;have e1:=run_equalIn_int (P:=prog) w 9998 3 .i64 .i64 p.2 q.2 Tryz.underlying3;obtain⟨a,b⟩:=p;obtain⟨c,d⟩:=q;show(Op.eqItems (9998+1) 3 1 _ _ [0,1]).run prog w=_;simp only[Op.eqItems,Sem.run_bind,h0,g0,e0,Result.andThen_ok];by_cases hac:a=c
 ·subst hac
  simp only[beq_self_eq_true,Bool.not_true,XH,if_false,Sem.run_bind,h1,g1,e1,Result.andThen_ok];by_cases hbd:b=d
  ·subst hbd
   simp[Sem.run_pure]
  ·have:(b==d)=false:=by simpa using hbd
   simp[this,Sem.run_pure,hbd]
 ·have:(a==c)=false:=by simpa using hac
  simp[this,Sem.run_pure,hac]
theorem Sv(p q:Int×Int)(w:World):(binOp .neq 48 (.agg #[.int .i64 p.1,.int .i64 p.2]) (.agg #[.int .i64 q.1,.int .i64 q.2])).run prog w= .ok (.bool (!decide (p=q))) w:=by
 rw[run_neq_struct,SO p q w];rfl
theorem A2(l m:List (Int×Int))(a b:Option Addr)(c d:Nat)(w:World)(hl:VJ ZD w a l)(hm:VJ ZD w b m)(hll:l.length<=1000000)(hml:m.length<=1000000):
  Calls prog 35 #[.slice a l.length c,.slice b m.length d] w (zV (.bool (decide (l=m))) w):=by
 have HL:=za hl;have HM:=za hm;clear hl hm;by_cases hlen:l.length=m.length
 ·have HLN:=za hlen
  have d1:((l.length:Int) !=(m.length:Int))=false:=by rw[hlen];simp
  clear hlen;go_enter func35,ntmps35;go_wp2;go_loopg [5] l.length (fun gh s5 wr=>∃k:Nat,k<=l.length/\gh=l.length-k/\s5= .int .i64 k/\Hid (∀i (h:i<l.length) (h2:i<m.length),i<k->l[i]=m[i])/\Hid (Below w.heap.size w wr));case atStart=>exact⟨0,zE _,rfl,rfl,za (fun i _ _ h=>absurd h (y_ i)),za (zG _ _)⟩
  case round=>
   obtain⟨k,hk,rfl,rfl,HE,HB⟩:=hrel;by_cases hkl:k<l.length
   ·have nk:(k:Int)<(l.length:Int):=by omega
    have hkm:k<m.length:=by rw[<-HLN.out];exact hkl
    have nm:(k:Int)<(m.length:Int):=by omega
    obtain⟨b2,o2,ha,_,h0⟩:=HL.out.below HB.out k hkl;obtain⟨b3,o3,hb,_,h1⟩:=HM.out.below HB.out k hkm;have q0:wr.cell? ⟨b2,o2+k*2,none⟩=some (.int .i64 l[k].1):=h0 0 _ rfl;have q1:wr.cell? ⟨b2,o2+k*2+1,none⟩=some (.int .i64 l[k].2):=h0 1 _ rfl;have q2:wr.cell? ⟨b3,o3+k*2,none⟩=some (.int .i64 m[k].1):=h1 0 _ rfl;have q3:wr.cell? ⟨b3,o3+k*2+1,none⟩=some (.int .i64 m[k].2):=h1 1 _ rfl;subst ha;subst hb;clear h0 h1
    have HX:Hid (l[k]=m[k]->∀i (h:i<l.length) (h2:i<m.length),i<k+1->l[i]=m[i]):=za (fun e i h h2 hi=>by
     by_cases hik:i=k
     ·subst hik;exact e
     ·exact HE.out i h h2 (by omega))
    have HNE:Hid (l[k]≠m[k]->l≠m):=za (fun e h=>e (by subst h;rfl));generalize l[k]=x at *;generalize m[k]=y at *;have HNQ:=fun w=>Sv x y w
    obtain⟨e,he⟩:∃e,e=decide (x=y):=⟨_,rfl⟩
    rw[<-he]at HNQ;have hg48:prog.eqGuardType prog.depth 48=false:=by kernel_rfl
    cases e with
    |true=>
     have HX2:=za (HX.out (Qi he.symm));clear he HX;go_upto_region 6 with fail;go_quiet (fail);go_wp2;go_roundg (l.length-(k+1));case measure=>omega
     case rel=>exact⟨k+1,by omega,rfl,by go_num,HX2,za (xR HB.out _)⟩
    |false=>
     have HN2:=za (HNE.out (of_decide_eq_false he.symm));clear he HX;go_upto_region 6 with fail;go_quiet (fail);go_wp2;go_ret;exact⟨zn (yn HN2.out).symm,xR HB.out _⟩
   ·obtain rfl:k=l.length:=by omega
    have nk:¬(l.length:Int)<(l.length:Int):=by omega
    go_wp2;go_ret;exact⟨zn (zP (List.ext_getElem HLN.out fun i h h2=>HE.out i h h2 h)).symm,HB.out⟩
 ·have HN:Hid (l≠m):=za (fun e=>hlen (by rw[e]))
  have d1:((l.length:Int) !=(m.length:Int))=true:=by simp;omega
  clear hlen;go_enter func35,ntmps35;go_wp2;go_ret;exact⟨zn (yn HN.out).symm,zG _ _⟩
end Go.Proofs.YtgalekifgnecjaaGreat
