/- Units that are written anew: the plain words of package regs -/
import Derived.Test.YtgalekifgnecjaaGreatB1
namespace Go.Proofs.YtgalekifgnecjaaGreat
open Go.RowKit
def ID(n:Int)(i:zm):Bool:=i.op==n
def qq(i:zm):Bool:=i.op==24||i.op==26||i.op==27||i.op==28
def ZN(i:zm):Bool:=i.op==20||i.op==22
def jQ(i:zm):Bool:=i.op==19
def zQ(i:zm):Option Int:=if i.op==24 then some i.a else if i.op==25||i.op==32 then some i.b else none
def XT:List Int:=[6,7,8,9,10,17,20,21,22,23,26,27,30,32]
def yZ(i:zm):Bool:=XT.contains i.op
def ye(i:zm)(k:Int):List Int:=if 0<k/\vP i (k-1).toNat≠ -1 then [vP i (k-1).toNat]else []
def zp(i:zm):List Int:=ye i (zM i.op).r0++ye i (zM i.op).r1
def zc(i:zm):Int:=if (zM i.op).wr=0 then -1 else vP i ((zM i.op).wr-1).toNat
def xf(n:Nat)(i:zm):Bool:=jA i.op&&(qR i).all fun p=>yr p 0 ((n:Int)-1)
def xF(n:Nat)(g:jR):Bool:=decide (0<=g.frm)&&decide (g.frm<g.til)&&decide (g.til<=n)&&yr g.at' 0 ((n:Int)-1)
def zJ(u:zg):Bool:=yr u.code.length 1 600&&decide (u.guards.length<=40)&&yr u.slots 0 200&&yr u.frame 0 200&&u.code.all (xf u.code.length)&&u.guards.all (xF u.code.length)
def QA(code:List zm)(i:Nat):Nat:=((code.take i).reverse.takeWhile jQ).length
def jv(l:List zm):Bool:=(List.range l.length).all fun k=>(l.getD k zw).a==(k:Int)
def Zy(code:List zm)(i:Nat):Nat->Nat
 |0=>0
 |n+1=>if jv ((code.drop (i-(n+1))).take (n+1))=true then n+1 else Zy code i n
def xW(code:List zm)(i:Nat):Nat:=Zy code i (QA code i)
def xQ(l:List Int)(a:Nat)(v:Int):Nat->List Int
 |0=>l
 |n+1=>(xQ l a v n).set (a+n) v
def qi(code:List zm)(out:List Int)(i:Nat):List Int:=out.set i (if jQ (code.getD i zw)=true then -1 else i)
def vX(code:List zm)(out:List Int)(i:Nat):List Int:=
 if ZN (code.getD i zw)=true/\0<xW code i then xQ (qi code out i) (i-xW code i) (i-xW code i:Nat) (xW code i+1)else qi code out i
def qh(code:List zm):Nat->List Int
 |0=>List.replicate code.length 0
 |k+1=>vX code (qh code k) k
def zl(code:List zm):List Int:=qh code code.length
def jt(fs:List Int)(p:Int):Bool:=fs.getD p.toNat 0 !=p
def qx(u:zg)(fs:List Int)(k:Nat):Bool:=
 (zp (u.code.getD k zw)).all (fun s=>yr s 0 (u.slots-1))&&(zc (u.code.getD k zw)== -1||yr (zc (u.code.getD k zw)) 0 (u.slots-1)) &&
 !decide (fs.getD k 0<0)&& !((u.code.getD k zw).op==33)&& !((u.code.getD k zw).op==34) &&
 !(match zQ (u.code.getD k zw)with|some p=>jt fs p|none=>false) &&
 !(decide (0<=zD u k)&&yZ (u.code.getD k zw)&&jt fs (u.guards.getD (zD u k).toNat jF).at')
def zC(u:zg):Bool:=
 zJ u&&u.frame==0&&decide (1<=u.slots)&&yr u.args 0 u.slots&&qq (u.code.getD (u.code.length-1) zw) &&
 (List.range u.code.length).all (qx u (zl u.code))
def yG(l more:List Int):List Int:=more.foldl (fun l n=>if l.contains n=true then l else l++ [n]) l
structure xd where
 frm:Nat
 til:Nat
 reads:List Int
 wr:Int
def zS(fs:List Int)(i:Nat):Nat:=i+((fs.drop (i+1)).takeWhile (· ==(i:Int))).length
def yu(code:List zm)(i j:Nat):List Int:=((code.drop i).take (j+1-i)).foldl (fun l x=>yG l (zp x)) []
def Ym(code:List zm)(fs:List Int)(i:Nat):xd:=⟨i,zS fs i,yu code i (zS fs i),zc (code.getD (zS fs i) zw)⟩
def jE(code:List zm)(fs:List Int):Nat->Nat->List xd
 |0,_=> []
 |f+1,i=>if i<code.length then Ym code fs i::jE code fs f (zS fs i+1)else []
def yg(u:zg):List xd:=jE u.code (zl u.code) u.code.length 0
def Zi(l:List xd):Nat:=l.foldl (fun n g=>max n g.reads.length) 1
def yd(u:zg):Nat:=Zi (yg u)
def yU(u:zg)(t:Nat):List Int:=
 yG (if (!(qq (u.code.getD t zw))&&decide (t+1<u.code.length))=true then [((t:Int)+1)]else []) (zQ (u.code.getD t zw)).toList
def qV(live:List (List Int))(l:List Int):List Int:=l.foldl (fun out p=>yG out (live.getD p.toNat [])) []
def Zc(u:zg)(t:Nat):List Int:=
 yG (yU u t) (if (decide (0<=zD u t)&&yZ (u.code.getD t zw))=true then [(u.guards.getD (zD u t).toNat jF).at']else [])
def xB(x:Int):List Int->List Int
 | []=> [x]
 |y::l=>if x<y then x::y::l else if x=y then y::l else y::xB x l
def jl(u:zg)(ahead:List (List Int))(t:Nat):List Int:=
 (zp (u.code.getD t zw)).foldl (fun s n=>xB n s)
  ((xp u t).foldl (fun s x=>((ahead.getD x.1.toNat []).filter fun n=>x.2==2||n !=zc (u.code.getD t zw)).foldl (fun s n=>xB n s) s) [])
def yQ(u:zg):Nat->List (List Int)×Bool->List (List Int)×Bool
 |0,s=>s
 |t+1,s=>yQ u t (if (jl u s.1 t).length≠(s.1.getD t []).length then(s.1.set t (jl u s.1 t),true)else s)
def ZH(u:zg):Nat->List (List Int)->List (List Int)
 |0,s=>s
 |f+1,s=>if (yQ u u.code.length (s,false)).2=true then ZH u f (yQ u u.code.length (s,false)).1 else(yQ u u.code.length (s,false)).1
def zf(u:zg):List (List Int):=ZH u (2*u.code.length*u.code.length+1) (List.replicate u.code.length [])
def IE(x y:Int×Int):Bool:=decide (x.1<y.1)||(x.1==y.1&&decide (x.2<y.2))
def XL(x:Int×Int):List (Int×Int)->List (Int×Int)
 | []=> [x]
 |y::l=>if IE x y=true then x::y::l else if x=y then y::l else y::XL x l
def qU(a b:Int):Int×Int:=(min a b,max a b)
def xu(l:List (Int×Int))(a b:Int):List (Int×Int):=if a=b then l else XL (qU a b) l
def yT(l:List (Int×Int)):Nat->List (Int×Int)
 |0=>l
 |n+1=>(List.range n).foldl (fun l (b:Nat)=>xu l n b) (yT l n)
def qd(l:List (Int×Int))(s0:List Int):Nat->List (Int×Int)
 |0=>l
 |n+1=>s0.foldl (fun l s=>xu l n s) (qd l s0 n)
def ZM(u:zg)(live:List (List Int))(l:List (Int×Int))(t:Nat):List (Int×Int):=
 if 0<=zc (u.code.getD t zw)then(qV live (yU u t)).foldl (fun l s=>xu l (zc (u.code.getD t zw)) s) l else l
def zZ(u:zg):List (Int×Int):=
 (List.range u.code.length).foldl (ZM u (zf u)) (qd (yT [] u.args.toNat) ((zf u).getD 0 []) u.args.toNat)
def ZT(cl:List (Int×Int))(a b:Int):Bool:=cl.contains (qU a b)
def vw(cl had:List (Int×Int))(s:Int)(n:Nat):Bool:=had.any fun x=>x.2==(n:Int)&&ZT cl s x.1
def Iu(cl had:List (Int×Int))(s:Int):Nat->Nat->Nat
 |0,n=>n
 |f+1,n=>if vw cl had s n=true then Iu cl had s f (n+1)else n
def Zj(cl had:List (Int×Int))(s:Int):Nat:=Iu cl had s (had.length+1) 0
def yl(cl:List (Int×Int)):Nat->List (Int×Int)
 |0=> []
 |n+1=>yl cl n++ [((n:Int),(Zj cl (yl cl n) n:Int))]
def YW(l:List (Int×Int)):Int:=l.foldl (fun m x=>max m (x.2+1)) 0
def yx(u:zg):List Int:=
 u.code.foldl (fun l x=>if 0<=zc x then xB (zc x) ((zp x).foldl (fun l s=>xB s l) l)else(zp x).foldl (fun l s=>xB s l) l) ((List.range u.args.toNat).map Int.ofNat)
structure KQ where
 had:List (Int×Int)
 out:List Int
 cells:Int
def Xi(cl:List (Int×Int))(us:List Int)(keep args:Int)(h:KQ)(s:Nat):KQ:=
 if us.contains (s:Int)=true then
  if (Zj cl h.had s:Int)<keep then⟨h.had++ [((s:Int),(Zj cl h.had s:Int))],h.out++ [(Zj cl h.had s:Int)],h.cells⟩
  else if (s:Int)<args then⟨h.had,h.out++ [-2-(s:Int)],h.cells⟩
  else⟨h.had,h.out++ [-2-h.cells],h.cells+1⟩
 else⟨h.had,h.out++ [-1],h.cells⟩
def zW(u:zg)(k:Int):KQ:=(List.range u.slots.toNat).foldl (Xi (zZ u) (yx u) (k-yd u) u.args) ⟨[],[],u.args⟩
def zh(h:List Int)(s:Int):Int:=h.getD s.toNat 0
def yS(h:List Int)(reg:Int)(l:List Int):Bool:=l.any fun s=>zh h s==reg
def yv(h:List Int)(k:Nat)(l:List Int):List Int:=((List.range k).filter fun(r:Nat)=> !(yS h r l)).map Int.ofNat
def rdB:List Int:=[4,11,15,16,17,18,19,20]
def Yy:List Int:=[6,7,8,9,10,12,13,14]
def V4:List Int:=[22,23,28,29,25,30,32]
def qg(x:Int)(f:Int->Int):Int:=if 0<=x then f x else x
def zY(x:zm)(rd wr:Int->Int):zm:=
 if V4.contains x.op=true then { x with a:=qg x.a rd }
 else if Yy.contains x.op=true then { x with a:=if 0<=zc x then qg x.a wr else x.a,b:=qg x.b rd,c:=qg x.c rd }
 else if rdB.contains x.op=true then { x with a:=if 0<=zc x then qg x.a wr else x.a,b:=qg x.b rd }
 else { x with a:=if 0<=zc x then qg x.a wr else x.a }
def yK(at':List Int)(x:zm):zm:=if x.op==24 then { x with a:=at'.getD x.a.toNat 0 }else if x.op==25||x.op==32 then { x with b:=at'.getD x.b.toNat 0 }else x
def qm(a b:Int):zm:=⟨33,a,b,0⟩
def xx(a b:Int):zm:=⟨34,a,b,0⟩
structure xN where
 code:List zm
 ats:List Int
def zU(u:zg)(live:List (List Int))(g:xd):List Int:=qV live (Zc u g.til)
def yj(u:zg)(live:List (List Int))(g:xd):List Int:=yG (live.getD g.frm []) (zU u live g)
def zx(h:List Int)(g:xd):List Int:=g.reads.filter fun s=>decide (zh h s<= -2)
def qX(loads temps:List Int)(s:Int):Int:=temps.getD (loads.idxOf s) 0
def Yx(h loads temps:List Int)(s:Int):Int:=if 0<=zh h s then zh h s else qX loads temps s
def q_(h fr:List Int)(s:Int):Int:=if 0<=zh h s then zh h s else fr.getD 0 0
def vu(u:zg)(h loads temps fr:List Int)(w:xN)(i:Nat):xN:=
 ⟨w.code++ [zY (u.code.getD i zw) (Yx h loads temps) (q_ h fr)],w.ats.set i w.code.length⟩
def qY(u:zg)(live:List (List Int))(h:List Int)(k:Nat)(w:xN)(g:xd):xN:=
 let loads:=zx h g
 let temps:=yv h k (yj u live g)
 let fr:=yv h k (zU u live g)
 let w1:xN:=⟨w.code++loads.map (fun s=>qm (qX loads temps s) (-2-zh h s)),w.ats.set g.frm w.code.length⟩
 let w2:xN:=⟨w1.code++ [zY (u.code.getD g.frm zw) (Yx h loads temps) (q_ h fr)],w1.ats⟩
 let w3:=((List.range (g.til-g.frm)).map (g.frm+1+ ·)).foldl (vu u h loads temps fr) w2
 if 0<=g.wr/\zh h g.wr<= -2 then⟨w3.code++ [xx (-2-zh h g.wr) (q_ h fr g.wr)],w3.ats⟩else w3
def yp(h:List Int)(args:Nat):List zm:=((List.range args).filter fun(s:Nat)=>decide (0<=zh h s)).map fun(s:Nat)=>qm (zh h s) s
def xM(u:zg)(k:Nat):xN:=
 (yg u).foldl (qY u (zf u) (zW u k).out k) ⟨yp (zW u k).out u.args.toNat,List.replicate u.code.length 0⟩
def x_(u:zg)(ats:List Int)(n:Nat)(g:jR):jR:=⟨ats.getD g.frm.toNat 0,if g.til<u.code.length then ats.getD g.til.toNat 0 else n,ats.getD g.at'.toNat 0⟩
structure SQ where
 v:zg
 hs:List Int
 at':List Int
 e:Int
def NX:zg:=⟨⟨#[]⟩,⟨#[]⟩,0,0,0,[],[]⟩
def VP(u:zg)(k:Nat)(w:xN):zg:=⟨u.cls,u.name,u.args,k,(zW u k).cells,w.code.map (yK w.ats),u.guards.map (x_ u w.ats w.code.length)⟩
def SU(u:zg)(k:Int):SQ:=
 if zC u=true/\yr k 1 200=true then
  if u.slots<=k then⟨u,(List.range u.slots.toNat).map Int.ofNat,(List.range u.code.length).map Int.ofNat,0⟩
  else if k<yd u then⟨NX,[],[],14⟩
  else if 600<(xM u k.toNat).code.length\/200<(zW u k).cells then⟨NX,[],[],14⟩
  else⟨VP u k.toNat (xM u k.toNat),(zW u k).out,(xM u k.toNat).ats,0⟩
 else⟨NX,[],[],1⟩
def vr(v:zg)(h:List Int)(cl:List (Int×Int))(us:List Int)(s:Nat):Bool:=
 ((zh h s== -1&& !us.contains (s:Int))||yr (zh h s) 0 (v.slots-1)||(decide (zh h s<= -2)&&yr (-2-zh h s) 0 (v.frame-1))) &&
 (List.range s).all fun t=> !ZT cl s t||zh h s !=zh h t
def jX(v:zg)(h:List Int)(l0:List Int)(i:Nat):Bool:=
 if v.frame=0 then zh h i==(i:Int)
 else decide ((i:Int)<v.frame)&&((List.range h.length).all fun t=>zh h t != -2-(i:Int)||t==i|| !l0.contains (t:Int))&&(decide (0<=zh h i)||zh h i== -2-(i:Int))
def qk(u v:zg)(h at':List Int):Bool:=
 decide ((h.length:Int)=u.slots)&&at'.length==u.code.length&&u.cls==v.cls&&u.name==v.name&&u.args==v.args&&yr v.slots 1 u.slots&&yr v.frame 0 200&&decide (v.code.length<=600) &&
 (List.range h.length).all (vr v h (zZ u) (yx u))&&(List.range u.args.toNat).all (jX v h ((zf u).getD 0 []))
instance:DecidableEq zm:=fun x y=>by
 cases x;cases y;simp only[zm.mk.injEq];exact inferInstance
instance:DecidableEq jR:=fun x y=>by
 cases x;cases y;simp only[jR.mk.injEq];exact inferInstance
def jY(v:zg)(at':Nat)(x:zm):Option Nat:=if v.code[at']?=some x then some (at'+1)else none
def vy(v:zg)(h:List Int):Nat->Option Nat
 |0=>some 0
 |i+1=>(vy v h i).bind fun at'=>if v.frame≠0/\0<=zh h i then jY v at' (qm (zh h i) i)else some at'
def XA(v:zg)(h reads needed:List Int)(x:zm)(had:List Int):Bool:=
 x.c==0&&yr x.a 0 (v.slots-1)&& !had.contains x.a&& !yS h x.a needed&&decide (0<=x.b)&&reads.any fun s=>zh h s== -2-x.b
def GQ(h reads:List Int)(x:zm)(m:List (Int×Int)):List (Int×Int):=m++(reads.filter fun s=>zh h s== -2-x.b).map fun s=>(s,x.a)
def vL(v:zg)(h reads needed:List Int):Nat->Nat->List Int->List (Int×Int)->Option (Nat×List (Int×Int))
 |0,_,_,_=>none
 |f+1,at',had,m=>
  match v.code[at']? with
  |none=>some (at',m)
  |some x=>if x.op≠33 then some (at',m)else if XA v h reads needed x had=true then vL v h reads needed f (at'+1) (had++ [x.a]) (GQ h reads x m)else none
def ZL(m:List (Int×Int))(s:Int):Option Int:=(m.reverse.find? fun x=>x.1==s).map (·.2)
def xG(h:List Int)(m:List (Int×Int))(s:Int):Option Int:=if 0<=zh h s then some (zh h s)else ZL m s
def qH(v:zg)(h behind:List Int)(x:zm)(s:Int):Option Int:=if 0<=zh h s then some (zh h s)else if (yr x.a 0 (v.slots-1)&& !yS h x.a behind)=true then some x.a else none
def I6(h:List Int)(m:List (Int×Int))(x:zm):Bool:=(zp x).all fun s=>(xG h m s).isSome
def qW(u v:zg)(h at':List Int)(m:List (Int×Int))(behind:List Int)(frm i a:Nat):Option Nat:=
 match v.code[a]? with
 |none=>none
 |some x=>
  if (i=frm\/at'.getD i 0=(a:Int))/\I6 h m (u.code.getD i zw)=true/\(0<=zc (u.code.getD i zw)->(qH v h behind x (zc (u.code.getD i zw))).isSome=true) /\
   x=yK at' (zY (u.code.getD i zw) (fun s=>(xG h m s).getD 0) (fun s=>(qH v h behind x s).getD 0))then some (a+1)else none
def jC(u v:zg)(h at':List Int)(m:List (Int×Int))(behind:List Int)(frm:Nat):Nat->Nat->Option Nat
 |0,a=>some a
 |n+1,a=>(jC u v h at' m behind frm n a).bind fun a=>qW u v h at' m behind frm (frm+n) a
def ql(u v:zg)(live:List (List Int))(h at':List Int)(a:Nat)(g:xd):Option Nat:=
 if at'.getD g.frm 0=(a:Int)then
  (vL v h g.reads (yj u live g) (v.code.length+1) a [] []).bind fun lm=>
  (jC u v h at' lm.2 (zU u live g) g.frm (g.til+1-g.frm) lm.1).bind fun b=>
  if 0<=g.wr/\zh h g.wr<= -2 then jY v b (xx (-2-zh h g.wr) ((v.code.getD (b-1) zw).a))else some b
 else none
def xr(u v:zg)(live:List (List Int))(h at':List Int):List xd->Nat->Option Nat
 | [],a=>some a
 |g::l,a=>(ql u v live h at' a g).bind (xr u v live h at' l)
def jS(u v:zg)(at':List Int):Bool:=decide (v.guards=u.guards.map (x_ u at' v.code.length))
def vm(u v:zg)(h at':List Int):Bool:=
 qk u v h at'&&(((vy v h u.args.toNat).bind (xr u v (zf u) h at' (yg u)))==some v.code.length)&&jS u v at'
def qS(u v:zg)(h at':List Int):Int:=if zC u=true then(if vm u v h at'=true then 0 else 11)else 1
end Go.Proofs.YtgalekifgnecjaaGreat
