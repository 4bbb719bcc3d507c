/- The reference of layer 16: free, loaded -/
import Derived.Test.YtgalekifgnecjaaGreatZJ
import Derived.Test.YtgalekifgnecjaaGreatX6
import Derived.Test.YtgalekifgnecjaaGreatZU
import Derived.BigQuiet
namespace Go.Proofs.YtgalekifgnecjaaGreat
open Tryz Go.RowKit
open Go.RowKit Go.Shelf
set_option maxHeartbeats 60000000
set_option maxRecDepth 100000
attribute [local go_sem] Oper.semAt_some
attribute [local irreducible] wpStill
theorem AV{h:List Int}{r:Int}{l:List Int}{j:Nat}(hj:j<l.length)(e:zh h l[j]=r):yS h r l=true:=by
 unfold yS;exact v_.2 ⟨_,yy hj,by simp[e]⟩
theorem AU{h:List Int}{r:Int}{l:List Int}(e:∀x∈l,zh h x≠r):yS h r l=false:=by
 unfold yS;exact List.any_eq_false.2 (fun x hx=>by simpa using e x hx)
theorem At(h:List Int)(r:Int)(l:List Int)(ha:Option Addr)(hc:Nat)(la:Option Addr)(lc:Nat)(w:World)(hh:yC w ha h)(hl:yC w la l)(hin:∀x∈l,0<=x/\x<h.length)(hlen:l.length<=1000000):
  Calls prog 126 #[.slice ha h.length hc,.int .i64 r,.slice la l.length lc] w (Q5 (.bool (!yS h r l)) w):=by
 have HH:=za hh;have HL:=za hl;have HIN:=za hin;have HY:=za (fun j hj e=>AV (h:=h) (r:=r) (l:=l) (j:=j) hj e);have HN:=za (fun e=>AU (h:=h) (r:=r) (l:=l) e);clear hh hl hin;generalize yS h r l=q at *;go_enter func126,ntmps126;go_wp2;go_loopg [7] l.length (fun gh s7 wr=>∃j:Nat,j<=l.length/\gh=l.length-j/\s7= .int .i64 j/\Hid (wr=w/\∀x∈l.take j,zh h x≠r));case atStart=>exact⟨0,zE _,rfl,rfl,za ⟨rfl,by simp⟩⟩
 case round=>
  obtain⟨j,hj,rfl,rfl,HK⟩:=hrel;obtain⟨rfl,hni⟩:=HK.out;have HNI:=za hni;clear HK hni;by_cases hlj:j<l.length
  ·obtain⟨b,off,hla,hlt,h0⟩:=HL.out j hlj
   subst hla;have nj:(j:Int)<(l.length:Int):=by omega
   have HT:Hid (l.take (j+1)=l.take j++ [l[j]]):=za (zO hlj);have hx:=HIN.out l[j] (yy hlj);have HYJ:=za (HY.out j hlj);generalize l[j]=x at *;obtain⟨n,rfl⟩:∃n:Nat,x=n:=⟨x.toNat,by omega⟩
   have hn:n<h.length:=by omega
   have nn:(n:Int)<(h.length:Int):=by omega
   obtain⟨b2,off2,hha,hlt2,h2⟩:=HH.out n hn;subst hha;have HHN:Hid (zh h (n:Int)=h[n]):=za (by unfold zh;simp[hn]);rw[HHN.out]at HYJ
   have HNX:Hid (h[n]≠r->∀x∈l.take (j+1),zh h x≠r):=za (fun e x hx=>by
    rw[HT.out,qr,qf]at hx;rcases hx with hx|rfl
    ·exact HNI.out x hx
    ·rw[HHN.out];exact e)
   clear hx HHN;generalize h[n]=y at *
   cases hyr:(y==r)with
   |true=>
    have HQ:Hid (q=true):=za (HYJ.out (by simpa using hyr));clear HNX HYJ;go_wp2;go_ret
    exact⟨zn (by rw[HQ.out];rfl),rfl⟩
   |false=>
    have HN2:=za (HNX.out (by simpa using hyr));clear HNX HYJ;go_wp2;go_roundg (l.length-(j+1));case measure=>omega
    case rel=>exact⟨j+1,by omega,rfl,by go_num,za ⟨rfl,HN2.out⟩⟩
  ·obtain rfl:j=l.length:=by omega
   have nj:¬(l.length:Int)<(l.length:Int):=by omega
   have HQ:Hid (q=false):=za (HN.out (by have h:=HNI.out;rwa [xL]at h));go_wp2;go_ret;exact⟨zn (by rw[HQ.out];rfl),rfl⟩
theorem UK(h d l:List Int)(ha:Option Addr)(hc:Nat)(da:Option Addr)(dc:Nat)(la:Option Addr)(lc:Nat)(w:World)(hh:yC w ha h)(hd:yC w da d)(hl:yC w la l)(hin:∀x∈l,0<=x/\x<h.length)(hdl:d.length=h.length)(hlen:l.length<=100000):
  Calls prog 127 #[.slice ha h.length hc,.slice da d.length dc,.slice la l.length lc] w (Za (l.map (Yw h d)) w):=by
 have HH:=za hh;have HD:=za hd;have HL:=za hl;have HIN:=za hin;have HDL:=za hdl;clear hh hd hl hin hdl;go_enter func127,ntmps127;go_wp2;go_loopg [7,8] l.length (fun gh s7 s8 wr=>∃j:Nat,j<=l.length/\gh=l.length-j/\s8= .int .i64 j/\Hid (zu wr w.heap.size s7 ((l.take j).map (Yw h d))/\Below w.heap.size w wr));case atStart=>exact⟨0,zE _,rfl,rfl,za ⟨jd _ _ _ _,zG _ _⟩⟩
 case round=>
  obtain⟨j,hj,rfl,rfl,HK⟩:=hrel;have hsz:=HK.out.2.size;by_cases hlj:j<l.length
  ·obtain⟨b,off,hla,hlt,h0⟩:=(HL.out.below HK.out.2) j hlj
   subst hla;have nj:(j:Int)<(l.length:Int):=by omega
   have HT:Hid (l.take (j+1)=l.take j++ [l[j]]):=za (zO hlj);have HSN:Hid ((l.take (j+1)).map (Yw h d)=(l.take j).map (Yw h d)++ [Yw h d l[j]]):=za (by rw[HT.out,q8];rfl);have hlc:((l.take j).map (Yw h d)).length=j:=by rw[ym,xm];omega
   have hx:=HIN.out l[j] (yy hlj);generalize l[j]=x at *;obtain⟨n,rfl⟩:∃n:Nat,x=n:=⟨x.toNat,by omega⟩
   have hn:n<h.length:=by omega
   have nn:(n:Int)<(h.length:Int):=by omega
   have hnd:n<d.length:=by have:=HDL.out;omega
   have nd:(n:Int)<(d.length:Int):=by omega
   obtain⟨b2,off2,hha,hlt2,h2⟩:=(HH.out.below HK.out.2) n hn;subst hha;obtain⟨b3,off3,hda,hlt3,h3⟩:=(HD.out.below HK.out.2) n hnd;subst hda
   have HRG:Hid (Yw h d (n:Int)=if h[n]<0 then d[n]else h[n]):=za (by
    unfold Yw zh
    simp[hn,hnd])
   clear hx;generalize h[n]=y at *;generalize d[n]=z at *;generalize Yw h d (n:Int)=q at *;obtain⟨A',hA'⟩:∃A',A'=(l.take (j+1)).map (Yw h d):=⟨_,rfl⟩
   rw[<-hA']at HSN;have HA':=za hA';clear hA';generalize (l.take j).map (Yw h d)=A at *;by_cases hy:y<0
   ·have dy:decide (y<0)=true:=zP hy
    rw[zj hy]at HRG;clear hy;go_wp2_with (at_builtin;refine zv _ rfl _ _ rfl w.heap.size _ A [z] rfl (zu.later HK.out.1 (zd _ _)) (some ⟨_,0,none⟩) 1 rfl (yJ _ _ _) (by simp;omega) (by simp;omega) ?_;intro v' w8 hown' hgrow hat;have HOW:=za hown';have HGR:=za hgrow;clear hown' hgrow hat);go_roundg (l.length-(j+1));case measure=>omega
    case rel=>exact⟨j+1,by omega,rfl,by go_num,za ⟨by rw[<-HA'.out,HSN.out,HRG.out];exact HOW.out,xX (HK.out.2.step (zd _ _)) HGR.out (by simp;omega) (zy HK.out.1)⟩⟩
   ·have dy:decide (y<0)=false:=yn hy
    rw[zi hy]at HRG;clear hy;go_wp2_with (at_builtin;refine zv _ rfl _ _ rfl w.heap.size _ A [y] rfl (zu.later HK.out.1 (zd _ _)) (some ⟨_,0,none⟩) 1 rfl (yJ _ _ _) (by simp;omega) (by simp;omega) ?_;intro v' w8 hown' hgrow hat;have HOW:=za hown';have HGR:=za hgrow;clear hown' hgrow hat);go_roundg (l.length-(j+1));case measure=>omega
    case rel=>exact⟨j+1,by omega,rfl,by go_num,za ⟨by rw[<-HA'.out,HSN.out,HRG.out];exact HOW.out,xX (HK.out.2.step (zd _ _)) HGR.out (by simp;omega) (zy HK.out.1)⟩⟩
  ·obtain rfl:j=l.length:=by omega
   have nj:¬(l.length:Int)<(l.length:Int):=by omega
   rw[xL]at HK;go_wp2;go_ret;exact⟨HK.out.2,_,rfl,HK.out.1⟩
def XD(h l:List Int)(d:Int):List Int:=l.filter fun s=>zh h s==d
theorem EQ(h l:List Int)(x d:Int):XD h (l++ [x]) d=if (zh h x==d)=true then XD h l d++ [x]else XD h l d:=by
 unfold XD;rw[List.filter_append,vH];split
 ·rfl
 ·simp
theorem Fd(h l:List Int)(d:Int):(XD h l d).length<=l.length:=ZP _ _
theorem Ef(h:List Int)(c d:Int)(l:List Int)(ha:Option Addr)(hc:Nat)(la:Option Addr)(lc:Nat)(w:World)(hh:yC w ha h)(hl:yC w la l)(hin:∀x∈l,0<=x/\x<h.length)(hlen:l.length<=100000)(hwr:IntKind.i64.wrap (-2-c)=d):
  Calls prog 125 #[.slice ha h.length hc,.slice la l.length lc,.int .i64 c] w (Za (XD h l d) w):=by
 have HH:=za hh;have HL:=za hl;have HIN:=za hin;clear hh hl hin;go_enter func125,ntmps125;go_wp2;go_loopg [7,8] l.length (fun gh s7 s8 wr=>∃j:Nat,j<=l.length/\gh=l.length-j/\s8= .int .i64 j/\Hid (zu wr w.heap.size s7 (XD h (l.take j) d)/\Below w.heap.size w wr));case atStart=>exact⟨0,zE _,rfl,rfl,za ⟨jd _ _ _ _,zG _ _⟩⟩
 case round=>
  obtain⟨j,hj,rfl,rfl,HK⟩:=hrel;have hsz:=HK.out.2.size;by_cases hlj:j<l.length
  ·obtain⟨b,off,hla,hlt,h0⟩:=(HL.out.below HK.out.2) j hlj
   subst hla;have nj:(j:Int)<(l.length:Int):=by omega
   have HT:Hid (l.take (j+1)=l.take j++ [l[j]]):=za (zO hlj);have HSN:=za (EQ h (l.take j) l[j] d);rw[<-HT.out]at HSN;have hlc:=Fd h (l.take j) d;rw[xm,Nat.min_eq_left hj]at hlc;have hx:=HIN.out l[j] (yy hlj);generalize l[j]=x at *;obtain⟨n,rfl⟩:∃n:Nat,x=n:=⟨x.toNat,by omega⟩
   have hn:n<h.length:=by omega
   have nn:(n:Int)<(h.length:Int):=by omega
   obtain⟨b2,off2,hha,hlt2,h2⟩:=(HH.out.below HK.out.2) n hn;subst hha;have HHN:Hid (zh h (n:Int)=h[n]):=za (by unfold zh;simp[hn]);rw[HHN.out]at HSN;clear hx HHN;generalize h[n]=y at *;obtain⟨A',hA'⟩:∃A',A'=XD h (l.take (j+1)) d:=⟨_,rfl⟩
   rw[<-hA']at HSN;have HA':=za hA';clear hA';generalize XD h (l.take j) d=A at *
   cases hyr:(y==d)with
   |true=>
    rw[hyr,zj rfl]at HSN;go_wp2_with (at_builtin;refine zv _ rfl _ _ rfl w.heap.size _ A [(n:Int)] rfl (zu.later HK.out.1 (zd _ _)) (some ⟨_,0,none⟩) 1 rfl (yJ _ _ _) (by simp;omega) (by simp;omega) ?_;intro v' w8 hown' hgrow hat;have HOW:=za hown';have HGR:=za hgrow;clear hown' hgrow hat);go_roundg (l.length-(j+1));case measure=>omega
    case rel=>exact⟨j+1,by omega,rfl,by go_num,za ⟨by rw[<-HA'.out,HSN.out];exact HOW.out,xX (HK.out.2.step (zd _ _)) HGR.out (by simp;omega) (zy HK.out.1)⟩⟩
   |false=>
    rw[hyr,zi (by simp)]at HSN;go_wp2;go_roundg (l.length-(j+1));case measure=>omega
    case rel=>exact⟨j+1,by omega,rfl,by go_num,za ⟨by rw[<-HA'.out,HSN.out];exact HK.out.1,HK.out.2⟩⟩
  ·obtain rfl:j=l.length:=by omega
   have nj:¬(l.length:Int)<(l.length:Int):=by omega
   rw[xL]at HK;go_wp2;go_ret;exact⟨HK.out.2,_,rfl,HK.out.1⟩
theorem Ma{h l:List Int}{c:Int}(hl:∀s∈l,-9223372036854775808<=zh h s/\zh h s<=200)(hb: -9223372036854775808<=c/\c<=9223372036854775807):∃d,IntKind.i64.wrap (-2-c)=d/\XD h l d=Zk h l c:=by
 by_cases h1:c<=9223372036854775806
 ·exact⟨-2-c,ju (by omega),rfl⟩
 ·have e:c=9223372036854775807:=by omega
  subst e;refine⟨9223372036854775807,by decide,?_⟩
  have e1:XD h l 9223372036854775807= []:=by
   unfold XD;rw[List.filter_eq_nil_iff];intro s hs;have:=hl s hs;simp only[qE];omega
  have e2:Zk h l 9223372036854775807= []:=by
   unfold Zk;rw[List.filter_eq_nil_iff];intro s hs;have:=hl s hs;simp only[qE];omega
  rw[e1,e2]
abbrev Fm(a:Int)(b:Bool):Value:=.agg #[.int .i64 a,.bool b]
abbrev Su(a:Int)(b:Bool):Obj:=.cells #[.int .i64 a,.bool b] 114
def Sm:Option Nat->Value
 |none=>Fm 0 false
 |some a=>Fm a true
theorem Zp:(prog.info? 114).map (·.size)=some 2:=by kernel_rfl
theorem QH{w:World}{g:Nat}{x0 x1:Value}{T:TypeId}(h:w.heap[g]?=some (.cells #[x0,x1] T (0,0)))(y0 y1:Value):
  ((w.setCell ⟨g,0,none⟩ y0).setCell ⟨g,1,none⟩ y1).heap[g]?=some (.cells #[y0,y1] T (0,0)):=by
 have h0:(w.setCell ⟨g,0,none⟩ y0).heap[g]?=some (.cells #[y0,x1] T (0,0)):=yk _ _ 0 _ _ _ h;clear h;generalize w.setCell ⟨g,0,none⟩ y0=w at h0 ⊢;exact yk _ _ 1 _ _ _ h0
structure Ra(u v:zg)(h t:List Int)(ca cc ga gc)(da dc ea ec)(ha hc ta tc)(w wr:World):Prop where
 hb:Below w.heap.size w wr
 hu:wr.heap[w.heap.size]?=some (oU u ca cc ga gc)
 hv:wr.heap[w.heap.size+1]?=some (oU v da dc ea ec)
 hh:wr.heap[w.heap.size+2]?=some (.cells #[.slice ha h.length hc,.slice ta t.length tc] 30)
 hr:wr.heap[w.heap.size+3]?=some (Su 0 false)
theorem Ra.below{u v:zg}{h t:List Int}{ca cc ga gc}{da dc ea ec}{ha hc ta tc}{w wr w':World}(s:Ra u v h t ca cc ga gc da dc ea ec ha hc ta tc w wr)(hb:Below wr.heap.size wr w'):
  Ra u v h t ca cc ga gc da dc ea ec ha hc ta tc w w':=⟨s.hb.step hb,zb hb s.hu,zb hb s.hv,zb hb s.hh,zb hb s.hr⟩
theorem Ra.far{u v:zg}{h t:List Int}{ca cc ga gc}{da dc ea ec}{ha hc ta tc}{w wr w':World}(s:Ra u v h t ca cc ga gc da dc ea ec ha hc ta tc w wr)(hb:Below (w.heap.size+4) wr w'):
  Ra u v h t ca cc ga gc da dc ea ec ha hc ta tc w w':=by
 have k:∀j o,j<4->wr.heap[w.heap.size+j]?=some o->w'.heap[w.heap.size+j]?=some o:=fun j o hj e=>(hb.block _ (by omega)).trans e
 exact⟨s.hb.trans (hb.mono (by omega)),k 0 _ (by omega) s.hu,k 1 _ (by omega) s.hv,k 2 _ (by omega) s.hh,k 3 _ (by omega) s.hr⟩
theorem Vx{u v:zg}{h t load later:List Int}{first a:Nat}{n:Nat}(e:jk u v h t load later first n a=none):∀k,jk u v h t load later first (n+k) a=none
 |0=>e
 |k+1=>by
  rw[<-Nat.add_assoc];unfold jk;rw[Vx e k];rfl
structure Fk(w4:World)(bL:Nat)(LD TK:List Int)(s21:Value)(wr:World):Prop where
 hb:Below w4.heap.size w4 wr
 bi:BI wr bL LD
 tk:zu wr (bL+1) s21 TK
 ge:w4.heap.size<=bL
theorem Fk.below{w4:World}{bL:Nat}{LD TK:List Int}{s21:Value}{wr w':World}(s:Fk w4 bL LD TK s21 wr)(hb:Below wr.heap.size wr w'):Fk w4 bL LD TK s21 w':=⟨s.hb.step hb,s.bi.below hb,s.tk.later hb,s.ge⟩
theorem Fk.set{w4:World}{bL:Nat}{LD TK:List Int}{s21:Value}{wr:World}(s:Fk w4 bL LD TK s21 wr){k:Nat}(hk:k<LD.length)(x:Int):Fk w4 bL (LD.set k x) TK s21 (wr.setCell ⟨bL,k,none⟩ (.int .i64 x)):=
 ⟨s.hb.setCell (p:=⟨bL,k,none⟩) s.ge _,s.bi.set hk x,yA s.tk (fun b e _=>yF _ _ _ _ (by have:=zy s.tk b e;show b≠bL;omega)),s.ge⟩
theorem Fk.push{w4:World}{bL:Nat}{LD TK TK':List Int}{s21 v':Value}{wr w8:World}(s:Fk w4 bL LD TK s21 wr)(ho:zu w8 (bL+1) v' TK')(hg:wr.grownBy w8 s21.ownBlock):Fk w4 bL LD TK' v' w8:=
 ⟨xX s.hb hg s.hb.size (fun r e=>by have:=zy s.tk r e;have:=s.ge;omega),s.bi.keep (hg.block bL s.bi.lt (fun e=>by have:=zy s.tk bL e.symm;omega)),ho,s.ge⟩
theorem MH{w:World}{b k:Nat}{v:Value}{a:Option Addr}{l:List Int}(h:yC w a l)(hn:∀b' o,a=some ⟨b',o,none⟩->b'≠b):yC (w.setCell ⟨b,k,none⟩ v) a l:=by
 intro i hi;obtain⟨b',o,e,hlt,hc⟩:=h i hi;refine⟨b',o,e,?_,(vY (p:=⟨b,k,none⟩) (hn b' o e)).trans hc⟩;rw[World.size_setCell];exact hlt
theorem Li(n:Nat):xQ (List.replicate n 0) 0 (-1) n=List.replicate n (-1):=by
 apply List.ext_getElem
 ·rw[xZ];simp
 ·intro j h1 h2
  have hj:j<n:=by simpa using h2
  have h3:=jg (List.replicate n 0) 0 (-1) n j (by simp);rw[zj ⟨zE _,by omega⟩,zk h1]at h3;rw[h3];simp
theorem Y4{h:List Int}{s:Nat}(hs:s<h.length):zh h (s:Int)=h[s]:=zk hs
def MY(v:zg)(a:Nat):Bool:=match v.code[a]? with|some x=>x.op==33|none=>false
theorem Uk(LD:List Int)(r:Int):∀S:List Int,(vT LD S r).length=LD.length:=by
 intro S;unfold vT
 induction S generalizing LD with
 |nil=>rfl
 |cons s S ih=>rw[qP,ih,List.length_set]
theorem Dp{v:zg}{h R BZ:List Int}{f a:Nat}{TK LD:List Int}(hf:0<f)(e:∀x,v.code[a]?=some x->x.op≠33):Z_ v h R BZ f a TK LD=some (a,LD):=by
 obtain⟨g,rfl⟩:∃g,f=g+1:=⟨f-1,by omega⟩
 unfold Z_
 cases hx:v.code[a]? with
 |none=>rfl
 |some x=>exact zj (e x hx)
theorem Dq{v:zg}{h R BZ:List Int}{f a:Nat}{TK LD:List Int}(ha:a<v.code.length)(e:v.code[a].op=33):Z_ v h R BZ (f+1) a TK LD=if J8 v h R BZ v.code[a] TK=true then Z_ v h R BZ f (a+1) (TK++ [v.code[a].a]) (vT LD (Zk h R v.code[a].b) v.code[a].a)else none:=by
 rw[Z_,q9 ha];show(if v.code[a].op≠33 then _ else _)=_;rw[zi (fun h=>h e)]
theorem Nf(u v:zg)(h t:List Int)(ca cc ga gc)(da dc ea ec)(ha:Option Addr)(hc:Nat)(ta:Option Addr)(tc:Nat)(fa:Option Addr)(fc:Nat)(la:Option Addr)(lc:Nat)(w:World)
  (mu:jo w u ca cc ga gc) (mv:jo w v da dc ea ec) (mh:yC w ha h) (mt:yC w ta t) (mf:yC w fa (zl u.code)) (ml:Kt w la (zf u)) (hw:zC u=true) (ht:t.length=u.code.length) (hh:(h.length:Int)=u.slots)
  (hwf:∀x∈h,-9223372036854775808<=x/\x<=9223372036854775807) (hok:∀s:Int,0<=s->s<u.slots->s∈yx u->(0<=zh h s/\zh h s<200)\/zh h s<= -2) (hvs:1<=v.slots/\v.slots<=200) (hvc:v.code.length<=600)
  (hvb:∀y∈v.code,-9223372036854775808<=y.b/\y.b<=9223372036854775807) (i:Nat) (hi:i<u.code.length) (a0:Nat) (ha0:a0<=v.code.length):
  Calls prog 59 #[vU u ca cc ga gc,vU v da dc ea ec,.agg #[.slice ha h.length hc,.slice ta t.length tc],.slice fa u.code.length fc,.slice la u.code.length lc,.int .i64 i,.int .i64 a0] w (zV (Sm (KI u v (zf u) h t i a0)) w):=by
 obtain⟨hn0,hn6,hg4,-⟩:=z8 (zH hw);obtain⟨hs0,hs1,hs2,hs3⟩:=zL hw;have HFL:Hid ((zl u.code).length=u.code.length):=za (z_ _ _);have HLL:Hid ((zf u).length=u.code.length):=za (yq u).len
 have HRW:Hid (∀r∈zf u,r.length<=10000):=za (fun r hr=>by
  obtain⟨t,ht,rfl⟩:=List.getElem_of_mem hr;have h1:=yz (xP ((yq u).so t)) (fun x hx=>(yq u).un t x hx);have h2:=Z0 u;rw[zk ht]at h1
  omega)
 obtain⟨J,hJ⟩:∃J,J=zS (zl u.code) i:=⟨_,rfl⟩
 have hJl:J<u.code.length:=by rw[hJ];exact LL hi
 have hJi:i<=J:=by rw[hJ];exact jp _ _
 have HLA:=za (fun wx (hb:Below w.heap.size w wx)=>Ag (zl u.code) i fa fc wx (mf.below hb) (by rw[HFL.out];exact hi) (by rw[HFL.out];omega));have HRE:=za (fun wx (hb:Below w.heap.size w wx)=>E7 u (zl u.code) i fa fc ca cc ga gc wx (hm:=mu.rc.below hb) (mf.below hb) hi HFL.out hn6);have HAF:=za (fun wx (hb:Below w.heap.size w wx)=>Md u (zf u) J hJl (zH hw) ca cc ga gc la lc wx (mu.below hb) (ml.below hb) HRW.out (fun p hp=>by rw[HLL.out];exact Zm (zH hw) hJl p ((Qp hw hJl p).1 hp)) (fun g hg=>by rw[HLL.out];exact Vt (zH hw) hg) hn6 hg4);rw[HFL.out]at HLA HRE;rw[HLL.out]at HAF;rw[<-hJ]at HLA HRE
 have HGP:Hid (KI u v (zf u) h t i a0=if t.getD i 0=(a0:Int)then
   (Z_ v h (yu u.code i J) ((zf u).getD i []++jJ u (zf u) J) (v.code.length+1) a0 [] (List.replicate u.slots.toNat (-1))).bind fun lm=>
   jk u v h t lm.2 (jJ u (zf u) J) i (J+1-i) lm.1 else none):=za (by rw[hJ];rfl)
 have HRI:=za (fun s (hs:s∈yu u.code i J)=>(show(0<=s/\s<h.length)/\s∈yx u from by
  obtain⟨y,hy,hs2⟩:=vV.1 hs;obtain⟨k,hk,rfl⟩:=List.getElem_of_mem (List.mem_of_mem_drop (List.mem_of_mem_take hy));have h9:=qG hw hk s hs2
  exact⟨by omega,Zw.2 (.inr ⟨_,yy hk,.inl hs2⟩)⟩))
 have HRH:=za (fun s (hs:s∈yu u.code i J)=>(show -9223372036854775808<=zh h s/\zh h s<=200 from by
  obtain⟨⟨h1,h2⟩,h3⟩:=HRI.out s hs
  have h4: -9223372036854775808<=zh h s:=by
   unfold zh;rw[zk (by omega)];exact(hwf _ (yy _)).1
  rcases hok s h1 (by omega) h3 with h5|h5<;>omega))
 have HLI:=za (fun x (hx:x∈jJ u (zf u) J)=>(show 0<=x/\x<h.length from by
  rw[Kn hw hJl,Zh]at hx;obtain⟨p,_,hp⟩:=hx;have:=ZR hw _ x hp
  omega))
 have HL0:=za (fun x (hx:x∈(zf u).getD i [])=>(show 0<=x/\x<h.length from by have:=ZR hw i x hx;omega))
 have HLN0:Hid (((zf u).getD i []).length<=1200):=za (by
  have h1:=yz (xP ((yq u).so i)) (fun x hx=>(yq u).un i x hx);have h2:=Z0 u
  omega)
 have HLTL:Hid ((jJ u (zf u) J).length<=30000):=za (by
  have h1:=Qy (zf u) HRW.out (js (u.code.getD J zw) J);have h2:=Xe (u.code.getD J zw) J;have h3:xV u (zf u) J=XG (zf u) (js (u.code.getD J zw) J):=rfl;unfold jJ;split
  ·have h5:=Xa (xV u (zf u) J) ((zf u).getD (u.guards.getD (zD u J).toNat jF).at'.toNat [])
   have h6:((zf u).getD (u.guards.getD (zD u J).toNat jF).at'.toNat []).length<=10000:=by
    by_cases e:(u.guards.getD (zD u J).toNat jF).at'.toNat<(zf u).length
    ·rw[zk e];exact HRW.out _ (yy e)
    ·rw[jI,YJ (by omega)];simp
   rw[h3]at h5 ⊢;omega
  ·rw[h3];omega)
 have HRL:Hid ((yu u.code i J).length<=1200):=za (by have h1:=Ga u.code i (J+1-i);rw[show i+(J+1-i)=J+1 by omega]at h1;have h2:Fo u.code i (J+1)=yu u.code i J:=rfl;rw[h2]at h1;omega);obtain⟨n,hn⟩:∃n:Nat,u.slots.toNat=n:=⟨_,rfl⟩
 have HSN:Hid (u.slots=(n:Int)):=za (by omega);have hn200:n<=200:=by omega
 have HHN:Hid (h.length=n):=za (by omega);rw[hn]at HGP;obtain⟨T0,hT0⟩:∃T,T=t.getD i 0:=⟨_,rfl⟩
 rw[<-hT0]at HGP
 have HT0:=za (fun(wx:World) (hb:Below w.heap.size w wx)=>(show ∃bt ot,ta=some ⟨bt,ot,none⟩/\wx.cell? ⟨bt,ot+i,none⟩=some (.int .i64 T0)from by
  have hit:i<t.length:=by omega
  obtain⟨b9,o9,e9,_,h9⟩:=(mt.below hb) i hit
  exact⟨b9,o9,e9,by rw[hT0,zk hit];exact h9⟩))
 have hmk:=fun w=>run_make_row' (P:=prog) 28 3 (.int .i64 0) 8 Tryz.underlying28 GV rfl .i64 .i64 n (by omega) (by omega) w
 simp only[<-HSN.out]at hmk;have HMD:=za (fun w=>Gc w n);obtain⟨M,hM⟩:∃M,M=madeCells #[.int .i64 0] n:=⟨_,rfl⟩
 rw[<-hM]at HMD;simp only[<-hM]at hmk;have HROW:=za (fun(wx:World) (hb:Below w.heap.size w wx)=>Kt.row (ml.below hb) (i:=i) (by rw[HLL.out];exact hi));have HMU:=za mu;have HMV:=za mv;have HMH:=za mh;have HMT:=za mt;have HT:=za ht;have HVB:=za hvb;have HOK:=za hok;have HWF:=za hwf;have HWRI:=za (fun(k:Nat) (hk:k<u.code.length)=>xA hw hk);have HUWR:=za (fun(k:Nat) (hk:k<u.code.length) (h0:0<=zc u.code[k])=>(show zc u.code[k]∈yx u from Zw.2 (.inr ⟨_,yy hk,.inr ⟨h0,rfl⟩⟩)));have HRIN:=za (fun(k:Nat) (hk:k<u.code.length)=>qG hw hk);have hvs1:IntKind.i64.wrap (v.slots-1)=v.slots-1:=ju (by omega)
 have HGB:=za (show Ra u v h t ca cc ga gc da dc ea ec ha hc ta tc w ((((w.alloc (oU u ca cc ga gc)).alloc (oU v da dc ea ec)).alloc (.cells #[.slice ha h.length hc,.slice ta t.length tc] 30)).alloc (Su 0 false))from
  ⟨(((zd _ _).step (zd _ _)).step (zd _ _)).step (zd _ _),zb (zd _ _) (zb (zd _ _) (zb (zd _ _) (zo _ _ _ rfl))),zb (zd _ _) (zb (zd _ _) (zo _ _ _ (by simp))),zb (zd _ _) (zo _ _ _ (by simp)),zo _ _ _ (by simp)⟩)
 clear hM hn hT0 mu mv mh mt mf ml hw ht hh hwf hok hvb hs0 hs1 hs2 hs3 hJ HRW;generalize KI u v (zf u) h t i a0=Q at *;generalize yu u.code i J=R at *;generalize jJ u (zf u) J=LT at *;generalize (zf u).getD i []=L0 at *;go_enter func59,ntmps59;go_upto_region 1 with fail;obtain⟨w1,hw1⟩:∃w1,w1=(((w.alloc (oU u ca cc ga gc)).alloc (oU v da dc ea ec)).alloc (.cells #[.slice ha h.length hc,.slice ta t.length tc] 30)).alloc (Su 0 false):=⟨_,rfl⟩
 rw[<-hw1]at HGB;rw[<-hw1];clear hw1;have HGX:=za (fun wx (hb:Below w1.heap.size w1 wx)=>HGB.out.below hb);clear HGB;obtain⟨k0,k1,k2,k3,k4,k5,k6⟩:=zr (HGX.out _ (zG _ _)).hu;obtain⟨b1,o1,hla1,-,ra1,rc1,hc1,hr1⟩:=HROW.out _ (HGX.out _ (zG _ _)).hb;subst hla1
 go_upto_region 4 with (first
  |(go_at_call 118;(with_reducible refine(HLA.out _ (HGX.out _ (zG _ _)).hb).mono ?_);rintro e w2 ⟨rfl,rfl⟩)
  |(go_at_call 55;(with_reducible refine(HRE.out _ (HGX.out _ (zG _ _)).hb).mono ?_);rintro e w2 ⟨hb2,v2,rfl,ho2⟩;have HB2:=za hb2;have HO2:=za ho2;obtain⟨l0,l1,l2,l3,l4,l5,l6⟩:=zr (HGX.out _ hb2).hu;clear hb2 ho2)
  |(go_at_call 124;(with_reducible refine(HAF.out _ (HGX.out _ HB2.out).hb).mono ?_);rintro e w3 ⟨hb3,v3,rfl,hv3⟩;have HB3:=za (HB2.out.step hb3);have HC3:=za hb3;have HV3:=za hv3;clear hb3 hv3))
 clear k0 k1 k2 k3 k4 k5 k6 l0 l1 l2 l3 l4 l5 l6 hc1 hr1 HLA HRE HAF;obtain⟨pr,pc,rfl,hrr⟩:=HO2.out.rd;have HRR3:=za (hrr.below HC3.out);clear hrr HO2;obtain⟨pl,plc,rfl,hrl,-,-⟩:=HV3.out.ex;have HLR3:=za hrl;clear hrl HV3;obtain⟨b9,o9,e9,-,ra1,rc1,hc1,hr1⟩:=HROW.out _ (HGX.out _ HB3.out).hb;cases e9;have hc1a:=zK (zd w3 (.cells #[] 3)) hc1;have nil:(i:Int)<(u.code.length:Int):=by omega
 go_upto_region 5 with (first
  |(at_builtin;refine zv _ rfl _ _ rfl w3.heap.size _ [] L0 rfl (zu.none (zI _) (zo _ _ _ rfl)) ra1 rc1 rfl (hr1.below (zd _ _)) (by have:=HLN0.out;simp;omega) (by simp) ?_;intro v4 w4 hown1 hg1 hat1;have HO4:Hid (zu w4 w3.heap.size v4 L0):=za (by simpa using hown1);have HB4:Hid (Below w3.heap.size w3 w4):=za (xX (zd _ _) hg1 (by simp) (zy (zu.none (base:=w3.heap.size) (w:=w3.alloc (.cells #[] 3)) (zI _) (zo _ _ _ rfl))));clear hown1 hg1 hat1)
  |(at_builtin;refine zv _ rfl _ _ rfl w3.heap.size _ L0 LT rfl HO4.out pl plc rfl (HLR3.out.below HB4.out) (by have:=HLN0.out;have:=HLTL.out;omega) HB4.out.size ?_;intro v5 w5 hown2 hg2 hat2;have HO5:=za hown2;have HB5:=za (xX HB4.out hg2 HB4.out.size (zy HO4.out));clear hown2 hg2 hat2))
 clear hc1 hc1a hr1 HROW;obtain⟨pb,pbc,rfl,hrb⟩:=HO5.out.rd;have HBZ5:=za hrb;have HLT5:=za (HLR3.out.below HB5.out);have HR5:=za (HRR3.out.below HB5.out);have HBW:=za (HB3.out.step HB5.out);obtain⟨BZ,hBZ⟩:∃B,B=L0++LT:=⟨_,rfl⟩
 have HBI2:Hid (∀x∈BZ,0<=x/\x<h.length):=za (fun x hx=>by
  rw[hBZ,qr]at hx;rcases hx with hx|hx
  ·exact HL0.out x hx
  ·exact HLI.out x hx)
 have HBZL:Hid (BZ.length<=100000):=za (by rw[hBZ,yV];have:=HLN0.out;have:=HLTL.out;omega);rw[<-hBZ]at HBZ5 HGP;rw[<-hBZ];clear hBZ hrb HB2 HB3 HC3 HRR3 HLR3 HO4 HB4 HO5 HB5 HL0 HLN0;obtain⟨k0,k1,k2,k3,k4,k5,k6⟩:=zr (HGX.out _ HBW.out).hu;go_upto_region 6 with fail;have HLD0:Hid (BI (w5.alloc (.cells M 3)) w5.heap.size (xQ (List.replicate n 0) 0 (-1) 0)):=za (HMD.out w5);obtain⟨bL,hbL⟩:∃b,b=w5.heap.size:=⟨_,rfl⟩
 have HGL:Hid (w5.heap.size<=bL):=za (by omega);have HB6:=za (zd w5 (.cells M 3));obtain⟨w6,hw6⟩:∃W,W=w5.alloc (.cells M 3):=⟨_,rfl⟩
 rw[<-hbL,<-hw6]at HLD0;rw[<-hw6]at HB6;rw[<-hbL,<-hw6];clear hbL hw6 hmk HMD k0 k1 k2 k3 k4 k5 k6;go_wp2;go_loopg [20] n (fun gh s20 wr=>∃k:Nat,k<=n/\gh=n-k/\s20= .int .i64 k/\Hid (BI wr bL (xQ (List.replicate n 0) 0 (-1) k)/\Below w5.heap.size w5 wr));case atStart=>exact⟨0,zE _,rfl,rfl,za ⟨HLD0.out,HB6.out⟩⟩
 case round=>
  clear HLD0 HB6;obtain⟨k,hk,rfl,rfl,HK⟩:=hrel;by_cases hkn:k<n
  ·have nk:(k:Int)<(n:Int):=by omega
   have lk:k<(xQ (List.replicate n 0) 0 (-1) k).length:=by rw[xZ];simpa using hkn
   obtain⟨old,hold⟩:∃v,wr.cell? ⟨bL,k,none⟩=some v:=⟨_,HK.out.1.at lk⟩
   have hfr:=HK.out.1.frozen k;have HNX:=za (HK.out.1.set lk (-1));go_wp2;go_roundg (n-(k+1));case measure=>omega
   case rel=>exact⟨k+1,by omega,rfl,by go_num,za ⟨by have h2:=HNX.out;rw[show k=0+k by omega]at h2;rw[show(0+k)=k by omega]at h2;show BI _ _ ((xQ (List.replicate n 0) 0 (-1) k).set (0+k) (-1));rw[jU];exact h2,HK.out.2.setCell (p:=⟨bL,k,none⟩) HGL.out _⟩⟩
  ·obtain rfl:k=n:=by omega
   have nk:¬(k:Int)<(k:Int):=by omega
   rw[Li]at HK;obtain⟨w7,rfl⟩:∃W,W=wr:=⟨_,rfl⟩
   have HLW0:Hid (Fk w5 bL (List.replicate k (-1)) [] (.slice none 0 0) w7):=za ⟨HK.out.2,HK.out.1,jd _ _ _ _,HGL.out⟩;have HBX:=za (fun wx (hb:Below w5.heap.size w5 wx)=>HGX.out wx (HBW.out.step hb));obtain⟨h0,h1,-,-⟩:=qe (HBX.out _ HK.out.2).hh;obtain⟨bt,ot,hta,ht0⟩:=HT0.out _ (HBX.out _ HK.out.2).hb;subst hta;have nit:(i:Int)<(t.length:Int):=by have:=HT.out;omega
   clear HK
   cases hT:(T0 !=(a0:Int))with
   |true=>
    have HQN:Hid (Q=none):=za (by rw[HGP.out,zi (by simpa using hT)]);obtain⟨r0,r1,-,-⟩:=qe (HBX.out _ HLW0.out.hb).hr;have e0:=zF 0 (HBX.out _ HLW0.out.hb).hr;have e1:=zF 1 (HBX.out _ HLW0.out.hb).hr;go_wp2
    exact xJ (v:=Fm 0 false) (results_cell_row rfl _ _ (w.heap.size+3) 114 _ (0,0) _ rfl (QH (HBX.out _ HLW0.out.hb).hr _ _) Tryz.underlying114 rfl Zp) rfl ⟨by rw[HQN.out];rfl,((HBX.out _ HLW0.out.hb).hb.setCell (p:=⟨w.heap.size+3,0,none⟩) (by show w.heap.size<=w.heap.size+3;omega) _).setCell (p:=⟨w.heap.size+3,1,none⟩) (by show w.heap.size<=w.heap.size+3;omega) _⟩
   |false=>
    replace HGP:=za (HGP.out.trans (zj (by simpa using hT)));go_wp2;clear hT h0 h1 ht0 nk nit;obtain⟨P,hP⟩:∃P,P=Z_ v h R BZ (v.code.length+1) a0 [] (List.replicate k (-1)):=⟨_,rfl⟩
    rw[<-hP]at HGP;have HP0:=za hP.symm;clear hP;go_loopg [6,21] (v.code.length+1) (fun gh s6 s21 wr=>∃(a f:Nat) (TK LD:List Int),a<=v.code.length/\a0<=a/\gh=0+f/\f+a=v.code.length+1+a0/\s6= .int .i64 a/\Hid (Fk w5 bL LD TK s21 wr/\LD.length=k/\TK.length<=a)/\Hid (Z_ v h R BZ f a TK LD=P));case atStart=>exact⟨a0,v.code.length+1,[],List.replicate k (-1),ha0,zI _,by omega,rfl,rfl,za ⟨HLW0.out,by simp,zE _⟩,HP0⟩
    case round=>
     clear HLW0 HP0;obtain⟨a,f,TK,LD,hav,haa,rfl,hfa,rfl,HL,HP⟩:=hrel;obtain⟨v0,v1,v2,v3,v4,v5,v6⟩:=zr (HBX.out _ HL.out.1.hb).hv;have HEXIT:=za (fun(e:∀x,v.code[a]?=some x->x.op≠33)=>HP.out.symm.trans (Dp (by omega) e));go_upto_region 13 with fail;go_cut [84]from 71 to 83 (fun s84 wy=>s84= .bool (MY v a)/\Hid (wr=wy))
     case first=>as_aux_lemma=>
      by_cases hac:a<v.code.length
      ·have nac:(a:Int)<(v.code.length:Int):=by omega
       obtain⟨b2,off,hda,hlt2,c0,c1,c2,c3⟩:=(HMV.out.rc.below (HBX.out _ HL.out.1.hb).hb) a hac;subst hda;have HV:Hid (MY v a=(v.code[a].op==33)):=za (by unfold MY;rw[q9 hac]);clear HP HEXIT;generalize v.code[a]=x at *;go_wp2;go_meet;exact⟨by rw[HV.out],za rfl⟩
      ·have nac:¬(a:Int)<(v.code.length:Int):=by omega
       have HV:Hid (MY v a=false):=za (by unfold MY;rw[YJ (by omega)]);go_wp2;go_meet;exact⟨by rw[HV.out],za rfl⟩
     case rest=>
     obtain⟨rfl,HW⟩:=hcut;obtain rfl:=HW.out;clear HW
     cases hlb:MY v a with
     |true=>
      have hac:a<v.code.length:=by
       by_cases e:a<v.code.length
       ·exact e
       ·unfold MY at hlb;rw[YJ (by omega)]at hlb;cases hlb
      have h33:v.code[a].op=33:=by unfold MY at hlb;rw[q9 hac]at hlb;simpa using hlb
      have nac:(a:Int)<(v.code.length:Int):=by omega
      obtain⟨b2,off,hda,hlt2,c0,c1,c2,c3⟩:=(HMV.out.rc.below (HBX.out _ HL.out.1.hb).hb) a hac;subst hda;obtain⟨f',rfl⟩:∃f',f=f'+1:=⟨f-1,by omega⟩
      have HPN:=za (HP.out.symm.trans (Dq hac h33));have hvb:=HVB.out v.code[a] (yy hac);clear HEXIT hlb;generalize v.code[a]=x at *;have hop:=h33;obtain⟨xo,xa,xb,xc⟩:=x;dsimp only at hop hvb c0 c1 c2 c3 HPN;subst hop;clear h33;go_upto_region 15 with fail;obtain⟨b22,hb22⟩:∃b,b=wr.heap.size:=⟨_,rfl⟩
      obtain⟨wx,hwx⟩:∃W,W=wr.alloc (.cells #[.int .i64 33,.int .i64 xa,.int .i64 xb,.int .i64 xc] 85):=⟨_,rfl⟩
      have HX22:Hid (wx.heap[b22]?=some (.cells #[.int .i64 33,.int .i64 xa,.int .i64 xb,.int .i64 xc] 85)):=za (by rw[hwx];exact zo _ _ _ hb22);have HLX:Hid (Fk w5 bL LD TK u21 wx):=za (by rw[hwx];exact HL.out.1.below (zd _ _));have hb22L:bL<b22:=by rw[hb22];exact HL.out.1.bi.lt
      rw[<-hb22,<-hwx];have HLL2:=za HL.out.2;clear hwx hb22 HL v0 v1 v2 v3 v4 v5 v6 c0 c1 c2 c3 hlt2;have HB2L:=za hb22L;clear hb22L;obtain⟨h0,h1,-,-⟩:=qe (HBX.out _ HLX.out.hb).hh;obtain⟨x0,x1,x2,x3⟩:=zX HX22.out;obtain⟨d,hd,hcd⟩:=Ma (h:=h) (l:=R) (c:=xb) HRH.out hvb;have HLDD:=za (fun wz (hz:Below w5.heap.size w5 wz)=>Ef h xb d R ha hc pr pc wz ((HMH.out.below (HBX.out _ hz).hb)) (HR5.out.below hz) (fun s hs=>(HRI.out s hs).1) (by have:=HRL.out;omega) hd);rw[hcd]at HLDD;have HFR:=za (fun wz (hz:Below w5.heap.size w5 wz)=>At h xa BZ ha hc pb pbc wz ((HMH.out.below (HBX.out _ hz).hb)) (HBZ5.out.below hz) HBI2.out (by have:=HBZL.out;omega));have HSI:=za (fun s (hs:s∈Zk h R xb)=>(HRI.out s (jn.1 hs).1).1);have HSL:Hid ((Zk h R xb).length<=1200):=za (yP (ZP _ _) HRL.out);have H1:Hid (J8 v h R BZ ⟨33,xa,xb,xc⟩ TK=(!((Zk h R xb).isEmpty)&& !decide (xb<0)&&(xc==0)&& !yS h xa BZ&&yr xa 0 (v.slots-1)&& !TK.contains xa)):=za rfl;clear hd hcd hvb;generalize Zk h R xb=S at *;generalize yS h xa BZ=tk at *;generalize J8 v h R BZ ⟨33,xa,xb,xc⟩ TK=ok at *
      go_upto_region 17 with (first
       |(go_at_call 125;(with_reducible refine(HLDD.out _ HLX.out.hb).mono ?_);rintro e w8 ⟨hb8,v8,rfl,ho8⟩;have HL8:=za (HLX.out.below hb8);have HX8:=za (zb hb8 HX22.out);have HO8:=za (zu.mono ho8 (show bL+1<=wx.heap.size from by have:=HLX.out.bi.lt;omega));obtain⟨y0,y1,y2,y3⟩:=zX HX8.out;obtain⟨g0,g1,-,-⟩:=qe (HBX.out _ HL8.out.hb).hh;clear hb8 ho8)
       |(go_at_call 126;(with_reducible refine(HFR.out _ HL8.out.hb).mono ?_);rintro e w9 ⟨rfl,rfl⟩))
      clear HLX HX22 HLDD HFR h0 h1 x0 x1 x2 x3 y0 y1 y2 y3 g0 g1;obtain⟨sa,sc,rfl,hsr⟩:=HO8.out.rd;have HSR:=za hsr
      have HSNE:=za (fun b o (e:sa=some ⟨b,o,none⟩)=>(show b≠bL from by
       have h9:=zy HO8.out b (by rw[e];rfl)
       omega))
      clear hsr HO8;obtain⟨y0,y1,y2,y3⟩:=zX HX8.out;obtain⟨v0,v1,v2,v3,v4,v5,v6⟩:=zr (HBX.out _ HL8.out.hb).hv;obtain⟨tka,tkc,htv,htr⟩:=HL8.out.tk.rd;have HIN:=za (fun wz=>UT xa 0 (v.slots-1) wz);have HHS:=za (O9 TK xa tka tkc w8 htr (by have:=HLL2.out.2;omega));rw[<-htv]at HHS;clear htv htr;generalize yr xa 0 (v.slots-1)=iB at *;generalize TK.contains xa=cB at *;go_cut [133]from 102 to 132 (fun s133 wy=>s133= .bool (!ok)/\Hid (w8=wy))
      case first=>as_aux_lemma=>
       clear HPN
       cases hS:S.isEmpty with
       |true=>
        have hl0:(S.length:Int)=0:=by rw[List.isEmpty_iff.1 hS];rfl
        have HV:Hid (ok=false):=za (by rw[H1.out,hS];rfl);have hl1:((S.length:Int)==0)=true:=by rw[hl0];rfl
        clear hl0 hS;go_wp2;go_meet
        exact⟨by rw[HV.out];rfl,za rfl⟩
       |false=>
       have hl1:((S.length:Int)==0)=false:=by
        have h9:S≠ []:=fun e=>by rw[e]at hS;cases hS
        have h8:=List.length_pos_iff.2 h9;simp;omega
       rw[hS,Bool.not_false,xk]at H1;clear hS;by_cases hx0:xb<0
       ·have d0:decide (xb<0)=true:=zP hx0
        have HV:Hid (ok=false):=za (by rw[H1.out,d0];rfl);go_wp2;go_meet;exact⟨by rw[HV.out];rfl,za rfl⟩
       rw[yn hx0,Bool.not_false,xk]at H1;by_cases hc0:xc=0
       case neg=>
        have d0:(xc==0)=false:=by simpa using hc0
        have d1:(xc !=0)=true:=by simpa using hc0
        have HV:Hid (ok=false):=za (by rw[H1.out,d0];rfl);clear d0;go_wp2;go_meet;exact⟨by rw[HV.out];rfl,za rfl⟩
       case pos=>
       rw[show(xc==0)=true by simpa using hc0,xk]at H1;subst hc0
       cases tk with
       |true=>
        have HV:Hid (ok=false):=za (by rw[H1.out];rfl);go_wp2;go_meet
        exact⟨by rw[HV.out];rfl,za rfl⟩
       |false=>
       cases iB with
       |false=>
        have HV:Hid (ok=false):=za (by rw[H1.out];rfl);go_wp2_with (go_at_call 56;(with_reducible refine(HIN.out _).mono ?_);rintro e wz ⟨rfl,rfl⟩);go_meet
        exact⟨by rw[HV.out];rfl,za rfl⟩
       |true=>
       have HV:Hid (ok= !cB):=za (by rw[H1.out];rfl)
       go_wp2_with (first
        |(go_at_call 56;(with_reducible refine(HIN.out _).mono ?_);rintro e wz ⟨rfl,rfl⟩)
        |(go_at_call 85;(with_reducible refine HHS.out.mono ?_);rintro e wz ⟨rfl,rfl⟩))
       go_meet;exact⟨by rw[HV.out,Bool.not_not],za rfl⟩
      case rest=>
      obtain⟨rfl,HW⟩:=hcut;obtain rfl:=HW.out;clear HW HIN HHS H1 v0 v1 v2 v3 v4 v5 v6
      cases ok with
      |false=>
       have HQN:Hid (Q=none):=za (by rw[HGP.out,HPN.out];rfl);obtain⟨r0,r1,-,-⟩:=qe (HBX.out _ HL8.out.hb).hr;have e0:=zF 0 (HBX.out _ HL8.out.hb).hr;have e1:=zF 1 (HBX.out _ HL8.out.hb).hr;go_wp2
       exact xJ (v:=Fm 0 false) (results_cell_row rfl _ _ (w.heap.size+3) 114 _ (0,0) _ rfl (QH (HBX.out _ HL8.out.hb).hr _ _) Tryz.underlying114 rfl Zp) rfl ⟨by rw[HQN.out];rfl,((HBX.out _ HL8.out.hb).hb.setCell (p:=⟨w.heap.size+3,0,none⟩) (by show w.heap.size<=w.heap.size+3;omega) _).setCell (p:=⟨w.heap.size+3,1,none⟩) (by show w.heap.size<=w.heap.size+3;omega) _⟩
      |true=>
       replace HPN:=za (HPN.out.trans (zj rfl));clear y0 y1 y2 y3;go_wp2;go_loopg [25] S.length (fun gh s25 wr=>∃j:Nat,j<=S.length/\gh=S.length-j/\s25= .int .i64 j/\Hid (Fk w5 bL (vT LD (S.take j) xa) TK u21 wr/\yC wr sa S/\wr.heap[b22]?=some (.cells #[.int .i64 33,.int .i64 xa,.int .i64 xb,.int .i64 xc] 85)));case atStart=>exact⟨0,zE _,rfl,rfl,za ⟨HL8.out,HSR.out,HX8.out⟩⟩
       case round=>
        clear HL8 HSR HX8;obtain⟨j,hj,rfl,rfl,HJ⟩:=hrel;obtain⟨y0,y1,y2,y3⟩:=zX HJ.out.2.2;have hsl9:=HSL.out;by_cases hjl:j<S.length
        ·have nj:(j:Int)<(S.length:Int):=by omega
         obtain⟨sb,so,hsa,-,hx⟩:=HJ.out.2.1 j hjl;subst hsa;have hsi:=HSI.out S[j] (yy hjl);have HPT:Hid (vT LD (S.take (j+1)) xa=(vT LD (S.take j) xa).set S[j].toNat xa):=za (by rw[zO hjl];unfold vT;rw[jc];rfl);have HLL3:Hid ((vT LD (S.take j) xa).length=k):=za (by rw[Uk];exact HLL2.out.1);generalize S[j]=s at *;obtain⟨sn,rfl⟩:∃m:Nat,s=m:=⟨s.toNat,by omega⟩
         rw[qQ]at HPT;have hsn:sn<k:=by have:=HHN.out;omega
         have nsn:(sn:Int)<(k:Int):=by omega
         generalize vT LD (S.take j) xa=LD' at *;have hsl:sn<LD'.length:=by rw[HLL3.out];exact hsn
         go_upto_region 22 with fail;have HJd:=za (And.intro (HJ.out.1.below (zt wr)) (And.intro (HJ.out.2.1.below (zt wr)) (zb (zt wr) HJ.out.2.2)));go_still_tail 8,(by kernel_rfl)
         repeat still_step
         change wpList _ _ _ _ _ wr.drew;obtain⟨wd,hwd⟩:∃wd,wd=wr.drew:=⟨_,rfl⟩
         rw[<-hwd]at HJd ⊢;clear hwd HJ hx y0 y1 y2 y3;obtain⟨old,hold⟩:∃v,wd.cell? ⟨bL,sn,none⟩=some v:=⟨_,HJd.out.1.bi.at hsl⟩
         have hfr:=HJd.out.1.bi.frozen sn;have HN:=za (And.intro (HJd.out.1.set hsl xa) (And.intro (MH (k:=sn) (v:=.int .i64 xa) HJd.out.2.1 (fun b' o e=>HSNE.out b' o e)) (show(wd.setCell ⟨bL,sn,none⟩ (.int .i64 xa)).heap[b22]?=some (.cells #[.int .i64 33,.int .i64 xa,.int .i64 xb,.int .i64 xc] 85)from(yF _ _ _ _ (by have:=HB2L.out;show b22≠bL;omega)).trans HJd.out.2.2)));go_wp2;go_roundg (S.length-(j+1));case measure=>omega
         case rel=>exact⟨j+1,by omega,rfl,by go_num,za (by rw[HPT.out];exact HN.out)⟩
        ·obtain rfl:j=S.length:=by omega
         have nj:¬(S.length:Int)<(S.length:Int):=by omega
         rw[xL]at HJ;have HLL3:Hid ((vT LD S xa).length=k):=za (by rw[Uk];exact HLL2.out.1);generalize vT LD S xa=LD' at *;go_wp2_with (at_builtin;refine zv _ rfl _ _ rfl (bL+1) _ TK [xa] rfl (zu.later HJ.out.1.tk (zd _ _)) (some ⟨_,0,none⟩) 1 rfl (yJ _ _ _) (by have:=HLL2.out.2;simp;omega) (by have:=HJ.out.1.bi.lt;simp;omega) ?_;intro v' w9 hown' hgrow hat;have HL9:=za ((HJ.out.1.below (zd _ _)).push hown' hgrow);clear hown' hgrow hat);go_roundg (0+f');case measure=>omega
         case rel=>exact⟨a+1,f',TK++ [xa],LD',by omega,by omega,rfl,by omega,by go_num,za ⟨HL9.out,HLL3.out,by have:=HLL2.out.2;simp;omega⟩,za HPN.out.symm⟩
     |false=>
      have HPX:=za (HEXIT.out (fun x hx=>by unfold MY at hlb;rw[hx]at hlb;simpa using hlb));clear hlb HP HEXIT;obtain⟨A,rfl⟩:∃A,A=a:=⟨_,rfl⟩
      obtain⟨wA,rfl⟩:∃W,W=wr:=⟨_,rfl⟩
      have HQ2:Hid (Q=jk u v h t LD LT i (J+1-i) A):=za (by rw[HGP.out,HPX.out];rfl);have HLA:=za HL.out.1;have HLDL:=za HL.out.2.1;clear HL HPX HGP v0 v1 v2 v3 v4 v5 v6 hfa;have HAX:=za (fun wx (hb:Below wA.heap.size wA wx)=>HLA.out.below hb);have HDX:=za (fun wx (hb:Below wA.heap.size wA wx)=>HBX.out wx (HLA.out.hb.step hb));have HDL:=za (fun wx (hb:Below wA.heap.size wA wx)=>HLT5.out.below (HLA.out.hb.step hb))
      have HNONE:=za (fun(p a:Nat) (hp1:i<=p) (hp2:p<=J) (e:jk u v h t LD LT i (p-i) A=some a) (e2:VS u v h t LD LT i p a=none)=>(show Q=none from by
       rw[HQ2.out,show J+1-i=(p-i+1)+(J-p) by omega];refine Vx ?_ _;unfold jk
       rw[e,xz,show i+(p-i)=p by omega,e2]))
      have HSOME:=za (fun(p a a':Nat) (hp1:i<=p) (e:jk u v h t LD LT i (p-i) A=some a) (e2:VS u v h t LD LT i p a=some a')=>(show jk u v h t LD LT i (p+1-i) A=some a' from by
       rw[show p+1-i=(p-i)+1 by omega];unfold jk
       rw[e,xz,show i+(p-i)=p by omega,e2]))
      go_wp2;go_loopg [6,26] (J+1-i) (fun gh s6 s26 wr=>∃p a:Nat,(i<=p/\p<=J+1/\a<=v.code.length)/\gh=J+1-p/\s6= .int .i64 a/\s26= .int .i64 p/\Hid (Below wA.heap.size wA wr)/\Hid (jk u v h t LD LT i (p-i) A=some a));case atStart=>exact⟨i,A,⟨zI _,by omega,hav⟩,rfl,rfl,rfl,za (zG _ _),za (by rw[Nat.sub_self];rfl)⟩
      case round=>
       obtain⟨p,a,⟨hp1,hp2,hpa⟩,rfl,rfl,rfl,HB,HE⟩:=hrel;by_cases hpJ:p<=J
       ·have npJ:(p:Int)<=(J:Int):=by omega
        have hpn:p<u.code.length:=by omega
        have npn:(p:Int)<(u.code.length:Int):=by omega
        have HN2:=za (fun e2=>HNONE.out p a hp1 hpJ HE.out e2);have HS2:=za (fun a' e2=>HSOME.out p a a' hp1 HE.out e2)
        have HIR:Hid (VS u v h t LD LT i p a=match v.code[a]? with
         |none=>none
         |some x=>if p≠i/\t.getD p 0≠(a:Int)then none
          else if ((zp u.code[p]).map (Yw h LD)).contains (-1)=true then none
          else match toR v h LT x (zc u.code[p])with
           |none=>none
           |some r=>if x=KC u.code[p] ((zp u.code[p]).map (Yw h LD)) r t then(if 0<=zc u.code[p]/\zh h (zc u.code[p])<0 then jY v (a+1) (xx (-2-zh h (zc u.code[p])) r)else some (a+1))else none):=za (by unfold VS;rw[zk hpn];rfl)
        clear HE;obtain⟨h0,h1,-,-⟩:=qe (HDX.out _ HB.out).hh;obtain⟨v0,v1,v2,v3,v4,v5,v6⟩:=zr (HDX.out _ HB.out).hv;obtain⟨k0,k1,k2,k3,k4,k5,k6⟩:=zr (HDX.out _ HB.out).hu;have hpt:p<t.length:=by have:=HT.out;omega
        have npt:(p:Int)<(t.length:Int):=by omega
        have HTP:=za (fun wx (hb:Below wA.heap.size wA wx)=>(show wx.cell? ⟨bt,ot+p,none⟩=some (.int .i64 (t.getD p 0))from by
         obtain⟨b9,o9,e9,_,h9⟩:=(HMT.out.below (HDX.out _ hb).hb) p hpt;cases e9;rw[zk hpt]
         exact h9))
        have htp:=HTP.out _ HB.out;obtain⟨b28,hb28⟩:∃b,b=(decide (v.code.length<=a)||(decide (i<p)&&t.getD p 0 !=(a:Int))):=⟨_,rfl⟩
        have HB28:=za hb28;clear hb28
        have HBN:Hid (b28=true->VS u v h t LD LT i p a=none):=za (fun e=>by
         rw[HIR.out];by_cases e1:v.code.length<=a
         ·rw[YJ e1]
         ·rw[q9 (by omega)]
          rw[HB28.out,yn e1,Bool.false_or,yi,yB,bne_iff_ne]at e
          exact zj ⟨by omega,e.2⟩)
        have HBY:Hid (b28=false->a<v.code.length/\¬(p≠i/\t.getD p 0≠(a:Int))):=za (fun e=>by
         rw[HB28.out,Bool.or_eq_false_iff,ZQ,XI,ZQ,bne_eq_false_iff_eq]at e;refine⟨by omega,fun h9=> ?_⟩;rcases e.2 with e3|e3
         ·omega
         ·exact h9.2 e3)
        generalize t.getD p 0=tp at *;go_upto_region 28 with fail;go_cut [180]from 162 to 179 (fun s180 wy=>s180= .bool b28/\Hid (wr=wy))
        case first=>as_aux_lemma=>
         by_cases e1:v.code.length<=a
         ·have HV:Hid (b28=true):=za (by rw[HB28.out,zP e1];rfl)
          have n1:(v.code.length:Int)<=(a:Int):=by omega
          go_wp2;go_meet;exact⟨by rw[HV.out],za rfl⟩
         ·have n1:¬(v.code.length:Int)<=(a:Int):=by omega
          by_cases e2:i<p
          ·have HV:Hid (b28=(tp !=(a:Int))):=za (by rw[HB28.out,yn e1,zP e2];rfl)
           have n2:(i:Int)<(p:Int):=by omega
           go_wp2;go_meet;exact⟨by rw[HV.out],za rfl⟩
          ·have HV:Hid (b28=false):=za (by rw[HB28.out,yn e1,yn e2];rfl)
           have n2:¬(i:Int)<(p:Int):=by omega
           go_wp2;go_meet;exact⟨by rw[HV.out],za rfl⟩
        case rest=>
        obtain⟨rfl,HW⟩:=hcut;obtain rfl:=HW.out;clear HW HB28 htp
        cases b28 with
        |true=>
         have HQN:=za (HN2.out (HBN.out rfl));obtain⟨r0,r1,-,-⟩:=qe (HDX.out _ HB.out).hr;have e0:=zF 0 (HDX.out _ HB.out).hr;have e1:=zF 1 (HDX.out _ HB.out).hr;go_wp2
         exact xJ (v:=Fm 0 false) (results_cell_row rfl _ _ (w.heap.size+3) 114 _ (0,0) _ rfl (QH (HDX.out _ HB.out).hr _ _) Tryz.underlying114 rfl Zp) rfl ⟨by rw[HQN.out];rfl,((HDX.out _ HB.out).hb.setCell (p:=⟨w.heap.size+3,0,none⟩) (by show w.heap.size<=w.heap.size+3;omega) _).setCell (p:=⟨w.heap.size+3,1,none⟩) (by show w.heap.size<=w.heap.size+3;omega) _⟩
        |false=>
        obtain⟨hac,hcnd⟩:=HBY.out rfl;have nac:(a:Int)<(v.code.length:Int):=by omega
        rw[q9 hac]at HIR;replace HIR:=za (HIR.out.trans (zi hcnd));clear HBN HBY hcnd;have HRDS:=za (fun wx=>XS u.code[p] wx);have HWR2:=za (fun wx=>ZY u.code[p] wx);have HRN:=za (fun(r:List Int) (wv:Int) ra rc wz (hr:yC wz ra r) (hb:Below wA.heap.size wA wz) (hl:r.length=(zp u.code[p]).length)=>I1 u.code[p] r wv t ra rc (some ⟨bt,ot,none⟩) tc wz hr (HMT.out.below (HDX.out _ hb).hb) hl (by have:=HT.out;omega));have HREG:=za (fun qa qc wz (hq:yC wz qa (zp u.code[p])) (hb:Below wA.heap.size wA wz)=>UK h LD (zp u.code[p]) ha hc (some ⟨bL,0,none⟩) k qa qc wz (HMH.out.below (HDX.out _ hb).hb) (HAX.out _ hb).bi.rd hq (fun x hx=>by have h8:=HRIN.out p hpn x hx;have:=HSN.out;have:=HHN.out;omega) (by rw[HLDL.out,HHN.out]) (by have:=xD u.code[p];omega));rw[HLDL.out]at HREG;have HWB:=za (HWRI.out p hpn);have HUW:=za (HUWR.out p hpn);have HR2L:=za (xD u.code[p]);have HLR:=za (show(List.map (Yw h LD) (zp u.code[p])).length=(zp u.code[p]).length from ym _);obtain⟨b3,o3,e3,hl3,d0,d1,d2,d3⟩:=(HMU.out.rc.below (HDX.out _ HB.out).hb) p hpn;subst e3;have HVC:=za (fun wx (hb:Below wA.heap.size wA wx)=>(HMV.out.rc.below (HDX.out _ hb).hb) a hac);have HYB:=za (fun wx=>ZY v.code[a] wx);generalize u.code[p]=x at *;generalize v.code[a]=y at *;generalize List.map (Yw h LD) (zp x)=RL at *;generalize zp x=RX at *;generalize zc x=W at *;go_upto_region 31 with fail;obtain⟨b27,hb27⟩:∃b,b=wr.heap.size:=⟨_,rfl⟩
        obtain⟨wx,hwx⟩:∃W,W=wr.alloc (.cells #[.int .i64 x.op,.int .i64 x.a,.int .i64 x.b,.int .i64 x.c] 85):=⟨_,rfl⟩
        have HX27:Hid (wx.heap[b27]?=some (.cells #[.int .i64 x.op,.int .i64 x.a,.int .i64 x.b,.int .i64 x.c] 85)):=za (by rw[hwx];exact zo _ _ _ hb27);have HCX:Hid (Below wA.heap.size wA wx):=za (by rw[hwx];exact HB.out.step (zd _ _));rw[<-hb27,<-hwx];clear hwx hb27 HB h0 h1 v0 v1 v2 v3 v4 v5 v6 k0 k1 k2 k3 k4 k5 k6 d0 d1 d2 d3 hl3;go_cut [28]from 182 to 192 (fun s28 wy=>∃ra rc,s28= .slice ra RL.length rc/\Hid (yC wy ra RL/\Below wx.heap.size wx wy))
        case first=>as_aux_lemma=>
         have HBd:=za (HCX.out.step (zt wx));have HXd:=za (zb (zt wx) HX27.out);have HBw:=za (zt wx);obtain⟨h0,h1,-,-⟩:=qe (HDX.out _ HBd.out).hh;obtain⟨x0,x1,x2,x3⟩:=zX HXd.out
         go_region_with (first
          |(go_at_call 115;(with_reducible refine(HRDS.out _).mono ?_);rintro e w4 ⟨hb4,v4,rfl,ho4⟩;obtain⟨qa,qc,rfl,hqr⟩:=ho4.rd;have HB4:=za (HBw.out.step hb4);have HR4:=za (HREG.out qa qc _ hqr (HBd.out.step hb4));obtain⟨g0,g1,-,-⟩:=qe (HDX.out _ (HBd.out.step hb4)).hh;clear hb4 ho4 hqr)
          |(go_at_call 127;(with_reducible refine HR4.out.mono ?_);rintro e w5 ⟨hb5,v5,rfl,ho5⟩;obtain⟨ra,rc,rfl,hrr⟩:=ho5.rd;have HRR:=za (And.intro hrr (HB4.out.step hb5));clear hb5 ho5 hrr))
         all_goals (go_wp2_with fail;go_meet;exact⟨_,_,rfl,HRR⟩)
        case rest=>
        obtain⟨ra,rc,rfl,HRR⟩:=hcut;obtain⟨wy,rfl⟩:∃W,W=wc:=⟨_,rfl⟩
        have HBy:=za (HCX.out.step HRR.out.2);have HX6:=za (zb HRR.out.2 HX27.out);have HHS:=za (O9 RL (-1) ra rc wy HRR.out.1 (by have:=HLR.out;have:=HR2L.out;omega));clear HCX HX27 HRDS HREG
        cases hcR:RL.contains (-1)with
        |true=>
         have HQN:=za (HN2.out (HIR.out.trans (zj hcR)));go_upto_region 33 with (go_at_call 85;(with_reducible refine HHS.out.mono ?_);rintro e wz ⟨rfl,rfl⟩;rw[hcR]);obtain⟨r0,r1,-,-⟩:=qe (HDX.out _ HBy.out).hr;have e0:=zF 0 (HDX.out _ HBy.out).hr;have e1:=zF 1 (HDX.out _ HBy.out).hr;go_wp2
         exact xJ (v:=Fm 0 false) (results_cell_row rfl _ _ (w.heap.size+3) 114 _ (0,0) _ rfl (QH (HDX.out _ HBy.out).hr _ _) Tryz.underlying114 rfl Zp) rfl ⟨by rw[HQN.out];rfl,((HDX.out _ HBy.out).hb.setCell (p:=⟨w.heap.size+3,0,none⟩) (by show w.heap.size<=w.heap.size+3;omega) _).setCell (p:=⟨w.heap.size+3,1,none⟩) (by show w.heap.size<=w.heap.size+3;omega) _⟩
        |false=>
        replace HIR:=za (HIR.out.trans (zi (by rw[hcR];simp)));obtain⟨x0,x1,x2,x3⟩:=zX HX6.out
        go_upto_region 35 with (first
         |(go_at_call 85;(with_reducible refine HHS.out.mono ?_);rintro e wz ⟨rfl,rfl⟩;rw[hcR])
         |(go_at_call 82;(with_reducible refine(HWR2.out _).mono ?_);rintro e w8 ⟨rfl,hb8⟩;have HC8:=za (HBy.out.step hb8);have HR8:=za (HRR.out.1.below hb8);have HX8:=za (zb hb8 HX6.out);clear hb8))
        clear x0 x1 x2 x3 HBy HX6 HRR HHS hcR HWR2;have HTO:Hid (toR v h LT y W=if 0<=W then(if zh h W<0 then(if (yr (zc y) 0 (v.slots-1)&& !yS h (zc y) LT)=true then some (zc y)else none)else some (zh h W))else some 0):=za rfl;have HIN:=za (fun wz=>UT (zc y) 0 (v.slots-1) wz);have HFR:=za (fun wz (hz:Below wA.heap.size wA wz)=>At h (zc y) LT ha hc pl plc wz (HMH.out.below (HDX.out _ hz).hb) (HDL.out _ hz) HLI.out (by have:=HLTL.out;omega));have HWH:Hid (0<=W->∃wn:Nat,W=wn/\wn<h.length):=za (fun h0=>⟨W.toNat,by omega,by have:=HWB.out;have:=HSN.out;have:=HHN.out;omega⟩);have HHW:=za (fun(wn:Nat) (hw:wn<h.length) wz (hz:Below wA.heap.size wA wz)=>(HMH.out.below (HDX.out _ hz).hb) wn hw);generalize yr (zc y) 0 (v.slots-1)=iB at *;generalize yS h (zc y) LT=tk at *
        cases hT:toR v h LT y W with
        |none=>
         rw[hT]at HIR HTO;have HQN:=za (HN2.out HIR.out)
         have h0:0<=W:=by
          by_cases e:0<=W
          ·exact e
          ·have e9:=HTO.out;rw[zi e]at e9;cases e9
         replace HTO:=za (HTO.out.trans (zj h0));obtain⟨wn,rfl,hwn⟩:=HWH.out h0;obtain⟨h0',h1,-,-⟩:=qe (HDX.out _ HC8.out).hh;obtain⟨hb9,ho9,hha,hl9,z0⟩:=HHW.out wn hwn _ HC8.out;subst hha;have hhw:zh h (wn:Int)=h[wn]:=Y4 hwn;rw[hhw]at HTO;have nwn:(wn:Int)<(h.length:Int):=by omega
         generalize h[wn]=z at *
         have hz0:z<0:=by
          by_cases e:z<0
          ·exact e
          ·have e9:=HTO.out;rw[zi e]at e9;cases e9
         replace HTO:=za (HTO.out.trans (zj hz0));obtain⟨v0,v1,v2,v3,v4,v5,v6⟩:=zr (HDX.out _ HC8.out).hv;obtain⟨b4,o4,e4,hl4,c0,c1,c2,c3⟩:=HVC.out _ HC8.out;subst e4;clear hT h0 hhw
         cases iB with
         |false=>
          go_upto_region 42 with (first
           |(go_at_call 82;(with_reducible refine(HYB.out _).mono ?_);rintro e w9 ⟨rfl,hb9⟩;have HC9:=za (HC8.out.step hb9);obtain⟨h2,h3,-,-⟩:=qe (HDX.out _ HC9.out).hh;obtain⟨u0,u1,u2,u3,u4,u5,u6⟩:=zr (HDX.out _ HC9.out).hv;clear hb9)
           |(go_at_call 126;(with_reducible refine(HFR.out _ HC9.out).mono ?_);rintro e wz ⟨rfl,rfl⟩)
           |(go_at_call 56;(with_reducible refine(HIN.out _).mono ?_);rintro e wz ⟨rfl,rfl⟩))
          clear u0 u1 u2 u3 u4 u5 u6 h2 h3;obtain⟨r0,r1,-,-⟩:=qe (HDX.out _ HC9.out).hr;have e0:=zF 0 (HDX.out _ HC9.out).hr;have e1:=zF 1 (HDX.out _ HC9.out).hr;go_wp2
          exact xJ (v:=Fm 0 false) (results_cell_row rfl _ _ (w.heap.size+3) 114 _ (0,0) _ rfl (QH (HDX.out _ HC9.out).hr _ _) Tryz.underlying114 rfl Zp) rfl ⟨by rw[HQN.out];rfl,((HDX.out _ HC9.out).hb.setCell (p:=⟨w.heap.size+3,0,none⟩) (by show w.heap.size<=w.heap.size+3;omega) _).setCell (p:=⟨w.heap.size+3,1,none⟩) (by show w.heap.size<=w.heap.size+3;omega) _⟩
         |true=>
         cases tk with
         |true=>
          go_upto_region 42 with (first
           |(go_at_call 82;(with_reducible refine(HYB.out _).mono ?_);rintro e w9 ⟨rfl,hb9⟩;have HC9:=za (HC8.out.step hb9);obtain⟨h2,h3,-,-⟩:=qe (HDX.out _ HC9.out).hh;obtain⟨u0,u1,u2,u3,u4,u5,u6⟩:=zr (HDX.out _ HC9.out).hv;clear hb9)
           |(go_at_call 126;(with_reducible refine(HFR.out _ HC9.out).mono ?_);rintro e wz ⟨rfl,rfl⟩)
           |(go_at_call 56;(with_reducible refine(HIN.out _).mono ?_);rintro e wz ⟨rfl,rfl⟩))
          clear u0 u1 u2 u3 u4 u5 u6 h2 h3;obtain⟨r0,r1,-,-⟩:=qe (HDX.out _ HC9.out).hr;have e0:=zF 0 (HDX.out _ HC9.out).hr;have e1:=zF 1 (HDX.out _ HC9.out).hr;go_wp2
          exact xJ (v:=Fm 0 false) (results_cell_row rfl _ _ (w.heap.size+3) 114 _ (0,0) _ rfl (QH (HDX.out _ HC9.out).hr _ _) Tryz.underlying114 rfl Zp) rfl ⟨by rw[HQN.out];rfl,((HDX.out _ HC9.out).hb.setCell (p:=⟨w.heap.size+3,0,none⟩) (by show w.heap.size<=w.heap.size+3;omega) _).setCell (p:=⟨w.heap.size+3,1,none⟩) (by show w.heap.size<=w.heap.size+3;omega) _⟩
         |false=>exact absurd HTO.out (by simp)
        |some r=>
        rw[hT]at HIR HTO;replace HIR:Hid (VS u v h t LD LT i p a=if y=KC x RL r t then(if 0<=W/\zh h W<0 then jY v (a+1) (xx (-2-zh h W) r)else some (a+1))else none):=za HIR.out;clear hT;go_upto_region 36 with fail;go_upto_if 199 with fail;go_cut [30,31]from 199 to 227 (fun s30 s31 wy=>s30= .int .i64 r/\Hid (Below w8.heap.size w8 wy))
        case first=>as_aux_lemma=>
         by_cases h0:0<=W
         ·replace HTO:=za (HTO.out.trans (zj h0))
          obtain⟨wn,rfl,hwn⟩:=HWH.out h0;obtain⟨h0',h1,-,-⟩:=qe (HDX.out _ HC8.out).hh;obtain⟨hb9,ho9,hha,hl9,z0⟩:=HHW.out wn hwn _ HC8.out;subst hha;have hhw:zh h (wn:Int)=h[wn]:=Y4 hwn;rw[hhw]at HTO;have nwn:(wn:Int)<(h.length:Int):=by omega
          generalize h[wn]=z at *;by_cases hz0:z<0
          ·replace HTO:=za (HTO.out.trans (zj hz0))
           obtain⟨v0,v1,v2,v3,v4,v5,v6⟩:=zr (HDX.out _ HC8.out).hv;obtain⟨b4,o4,e4,hl4,c0,c1,c2,c3⟩:=HVC.out _ HC8.out;subst e4
           cases iB with
           |false=>exact absurd HTO.out (by simp)
           |true=>
           cases tk with
           |true=>exact absurd HTO.out (by simp)
           |false=>
           have HRW:Hid (r=zc y):=za (by have e9:=HTO.out;simpa using e9);clear h0 hhw
           go_wp2_with (first
            |(go_at_call 82;(with_reducible refine(HYB.out _).mono ?_);rintro e w9 ⟨rfl,hb9⟩;have HC9:=za (HC8.out.step hb9);obtain⟨h2,h3,-,-⟩:=qe (HDX.out _ HC9.out).hh;obtain⟨u0,u1,u2,u3,u4,u5,u6⟩:=zr (HDX.out _ HC9.out).hv;have HB9:=za hb9;clear hb9)
            |(go_at_call 126;(with_reducible refine(HFR.out _ HC9.out).mono ?_);rintro e wz ⟨rfl,rfl⟩)
            |(go_at_call 56;(with_reducible refine(HIN.out _).mono ?_);rintro e wz ⟨rfl,rfl⟩))
           go_meet;exact⟨by rw[HRW.out],HB9⟩
          ·have HRW:Hid (r=z):=za (by have e9:=HTO.out;rw[zi hz0]at e9;exact Option.some.inj e9)
           go_wp2;go_meet;exact⟨by rw[HRW.out],za (zG _ _)⟩
         ·have HRW:Hid (r=0):=za (by have e9:=HTO.out;rw[zi h0]at e9;exact Option.some.inj e9)
          go_wp2;go_meet;exact⟨by rw[HRW.out],za (zG _ _)⟩
        case rest=>
        obtain⟨rfl,HB9⟩:=hcut;obtain⟨w9,rfl⟩:∃W,W=wc:=⟨_,rfl⟩
        have HC9:=za (HC8.out.step HB9.out);have HR9:=za (HR8.out.below HB9.out);have HX9:=za (zb HB9.out HX8.out);clear HC8 HR8 HX8 HB9 HTO HIN HFR HYB;have HRNM:=za (HRN.out RL r ra rc (w9.drew) (HR9.out.below (zt _)) (HC9.out.step (zt _)) HLR.out);clear HRN;generalize KC x RL r t=z at *;have HEQ:∀w:World,(binOp .neq 85 (.agg #[.int .i64 y.op,.int .i64 y.a,.int .i64 y.b,.int .i64 y.c]) (vI z)).run prog w= .ok (.bool (!VW y z)) w:=fun w=>Sw y z w
        obtain⟨be,hbe⟩:∃b,b=VW y z:=⟨_,rfl⟩
        rw[<-hbe]at HEQ;have HET:Hid (be=true->y=z):=za (fun e=>by rw[hbe]at e;exact Qi e);have HEF:Hid (be=false->y≠z):=za (fun e=>by rw[hbe]at e;exact of_decide_eq_false e);clear hbe;go_upto_region 43 with fail;go_cut [240]from 229 to 240 (fun s240 wy=>s240= .bool (!be)/\Hid (Below w9.heap.size w9 wy))
        case first=>as_aux_lemma=>
         have HCd:=za (HC9.out.step (zt w9));have HXd:=za (zb (zt w9) HX9.out);have HBd:=za (zt w9);obtain⟨h0,h1,-,-⟩:=qe (HDX.out _ HCd.out).hh;obtain⟨v0,v1,v2,v3,v4,v5,v6⟩:=zr (HDX.out _ HCd.out).hv;obtain⟨b4,o4,e4,hl4,c0,c1,c2,c3⟩:=HVC.out _ HCd.out;subst e4;obtain⟨x0,x1,x2,x3⟩:=zX HXd.out;go_region_with (go_at_call 128;(with_reducible refine HRNM.out.mono ?_);rintro e w4 ⟨rfl,hb4⟩;have HB4:=za (HBd.out.step hb4);obtain⟨h2,h3,-,-⟩:=qe (HDX.out _ (HCd.out.step hb4)).hh;obtain⟨u0,u1,u2,u3,u4,u5,u6⟩:=zr (HDX.out _ (HCd.out.step hb4)).hv;obtain⟨b5,o5,e5,hl5,y0,y1,y2,y3⟩:=HVC.out _ (HCd.out.step hb4);cases e5;clear hb4)
         all_goals (go_wp2_with fail;go_meet;exact⟨rfl,HB4⟩)
        case rest=>
        obtain⟨rfl,HB10⟩:=hcut;obtain⟨w10,rfl⟩:∃W,W=wc:=⟨_,rfl⟩
        have HC10:=za (HC9.out.step HB10.out);clear HC9 HR9 HX9 HB10 HRNM HEQ
        cases be with
        |false=>
         have HQN:=za (HN2.out (HIR.out.trans (zi (HEF.out rfl))));obtain⟨r0,r1,-,-⟩:=qe (HDX.out _ HC10.out).hr;have e0:=zF 0 (HDX.out _ HC10.out).hr;have e1:=zF 1 (HDX.out _ HC10.out).hr;go_wp2
         exact xJ (v:=Fm 0 false) (results_cell_row rfl _ _ (w.heap.size+3) 114 _ (0,0) _ rfl (QH (HDX.out _ HC10.out).hr _ _) Tryz.underlying114 rfl Zp) rfl ⟨by rw[HQN.out];rfl,((HDX.out _ HC10.out).hb.setCell (p:=⟨w.heap.size+3,0,none⟩) (by show w.heap.size<=w.heap.size+3;omega) _).setCell (p:=⟨w.heap.size+3,1,none⟩) (by show w.heap.size<=w.heap.size+3;omega) _⟩
        |true=>
        replace HIR:=za (HIR.out.trans (zj (HET.out rfl)));clear HET HEF HVC HLR HR2L;go_upto_region 45 with fail;go_cut [6]from 242 to 243 (fun s6 wy=>s6= .int .i64 ((a+1:Nat):Int)/\Hid (w10=wy))
        case first=>as_aux_lemma=>
         go_wp2;go_meet;exact⟨by go_num,za rfl⟩
        case rest=>
        obtain⟨rfl,HW⟩:=hcut;obtain rfl:=HW.out;clear HW;obtain⟨a1,ha1⟩:∃m,m=a+1:=⟨_,rfl⟩
        rw[<-ha1]at HIR;rw[<-ha1];have ha1v:a1<=v.code.length:=by omega
        clear ha1 hac nac hpa;by_cases h0:0<=W
        case neg=>
         replace HIR:=za (HIR.out.trans (zi (fun h=>h0 h.1)));have HRS:=za (HS2.out _ HIR.out);go_wp2;go_roundg (J+1-(p+1));case measure=>omega
         case rel=>exact⟨p+1,a1,⟨by omega,by omega,ha1v⟩,rfl,rfl,by go_num,HC10,HRS⟩
        obtain⟨wn,rfl,hwn⟩:=HWH.out h0
        have HZB:Hid (zh h (wn:Int)<0-> -9223372036854775808<=zh h (wn:Int)/\zh h (wn:Int)<= -2):=za (fun e=>⟨by
         rw[Y4 hwn]
         exact(HWF.out _ (yy hwn)).1,by
         rcases HOK.out wn h0 HWB.out.2 (HUW.out h0)with h5|h5<;>omega⟩)
        obtain⟨h0',h1,-,-⟩:=qe (HDX.out _ HC10.out).hh;obtain⟨hb9,ho9,hha,hl9,z0⟩:=HHW.out wn hwn _ HC10.out;subst hha;have hhw:zh h (wn:Int)=h[wn]:=Y4 hwn;rw[hhw]at HIR HZB;have nwn:(wn:Int)<(h.length:Int):=by omega
        clear hhw
        have HHZ:=za (fun wz (hz:Below wA.heap.size wA wz)=>(show wz.cell? ⟨hb9,ho9+wn,none⟩=some (.int .i64 h[wn])from by
         obtain⟨b8,o8,e8,_,h8⟩:=(HMH.out.below (HDX.out _ hz).hb) wn hwn;cases e8
         exact h8))
        generalize h[wn]=z at *;by_cases hz0:z<0
        case neg=>
         replace HIR:=za (HIR.out.trans (zi (fun h=>hz0 h.2)));have HRS:=za (HS2.out _ HIR.out);go_wp2;go_roundg (J+1-(p+1));case measure=>omega
         case rel=>exact⟨p+1,a1,⟨by omega,by omega,ha1v⟩,rfl,rfl,by go_num,HC10,HRS⟩
        replace HIR:=za (HIR.out.trans (zj ⟨h0,hz0⟩));have hzb:=HZB.out hz0;have e2:IntKind.i64.wrap (-2-z)= -2-z:=ju (by omega);clear hzb HZB HUW HWB HWH HHW;obtain⟨v0,v1,v2,v3,v4,v5,v6⟩:=zr (HDX.out _ HC10.out).hv;go_upto_region 47 with fail;by_cases hav1:a1<v.code.length
        case neg=>
         have nav:(v.code.length:Int)<=(a1:Int):=by omega
         have HQN:=za (HN2.out (HIR.out.trans (by unfold jY;rw[YJ (by omega)];rfl)));go_quiet (fail);have HCq:=za (Km HC10.out nq);generalize w10.drewN nq=wq at *;clear h0' h1 v0 v1 v2 v3 v4 v5 v6;obtain⟨r0,r1,-,-⟩:=qe (HDX.out _ HCq.out).hr;have e0:=zF 0 (HDX.out _ HCq.out).hr;have e1:=zF 1 (HDX.out _ HCq.out).hr;go_wp2;exact xJ (v:=Fm 0 false) (results_cell_row rfl _ _ (w.heap.size+3) 114 _ (0,0) _ rfl (QH (HDX.out _ HCq.out).hr _ _) Tryz.underlying114 rfl Zp) rfl ⟨by rw[HQN.out];rfl,((HDX.out _ HCq.out).hb.setCell (p:=⟨w.heap.size+3,0,none⟩) (by show w.heap.size<=w.heap.size+3;omega) _).setCell (p:=⟨w.heap.size+3,1,none⟩) (by show w.heap.size<=w.heap.size+3;omega) _⟩
        have nav:¬(v.code.length:Int)<=(a1:Int):=by omega
        have nav2:(a1:Int)<(v.code.length:Int):=by omega
        obtain⟨b4,o4,e4,hl4,c0,c1,c2,c3⟩:=(HMV.out.rc.below (HDX.out _ HC10.out).hb) a1 hav1;subst e4;unfold jY at HIR;rw[q9 hav1]at HIR;generalize v.code[a1]=y2 at *;have HEQ:∀w:World,(binOp .neq 85 (.agg #[.int .i64 y2.op,.int .i64 y2.a,.int .i64 y2.b,.int .i64 y2.c]) (.agg #[.int .i64 34,.int .i64 (-2-z),.int .i64 r,.int .i64 0])).run prog w= .ok (.bool (!VW y2 (xx (-2-z) r))) w:=fun w=>Sw y2 (xx (-2-z) r) w
        have HIR2:Hid (VS u v h t LD LT i p a=if VW y2 (xx (-2-z) r)=true then some (a1+1)else none):=za (HIR.out.trans (by
         unfold VW;by_cases e:y2=xx (-2-z) r
         ·rw[zj (by rw[e]),zj (zP e)]
         ·rw[zi (fun h=>e (Option.some.inj h)),zi (by simpa using e)]))
        clear HIR;generalize VW y2 (xx (-2-z) r)=b2 at *;go_quiet (fail);have HCq:=za (Km HC10.out nq);generalize w10.drewN nq=wq at *;clear h0' h1 v0 v1 v2 v3 v4 v5 v6 c0 c1 c2 c3 hl4 HEQ
        cases b2 with
        |false=>
         have HQN:=za (HN2.out HIR2.out);obtain⟨r0,r1,-,-⟩:=qe (HDX.out _ HCq.out).hr;have e0:=zF 0 (HDX.out _ HCq.out).hr;have e1:=zF 1 (HDX.out _ HCq.out).hr;go_wp2
         exact xJ (v:=Fm 0 false) (results_cell_row rfl _ _ (w.heap.size+3) 114 _ (0,0) _ rfl (QH (HDX.out _ HCq.out).hr _ _) Tryz.underlying114 rfl Zp) rfl ⟨by rw[HQN.out];rfl,((HDX.out _ HCq.out).hb.setCell (p:=⟨w.heap.size+3,0,none⟩) (by show w.heap.size<=w.heap.size+3;omega) _).setCell (p:=⟨w.heap.size+3,1,none⟩) (by show w.heap.size<=w.heap.size+3;omega) _⟩
        |true=>
         have HRS:=za (HS2.out _ HIR2.out);go_wp2;go_roundg (J+1-(p+1));case measure=>omega
         case rel=>exact⟨p+1,a1+1,⟨by omega,by omega,by omega⟩,rfl,by go_num,by go_num,HCq,HRS⟩
       ·obtain rfl:p=J+1:=by omega
        have npJ:¬(((J+1:Nat):Int))<=(J:Int):=by omega
        have HQS:Hid (Q=some a):=za (by rw[HQ2.out];exact HE.out);obtain⟨r0,r1,-,-⟩:=qe (HDX.out _ HB.out).hr;have e0:=zF 0 (HDX.out _ HB.out).hr;have e1:=zF 1 (HDX.out _ HB.out).hr;go_wp2;exact xJ (v:=Fm a true) (results_cell_row rfl _ _ (w.heap.size+3) 114 _ (0,0) _ rfl (QH (HDX.out _ HB.out).hr _ _) Tryz.underlying114 rfl Zp) rfl ⟨by rw[HQS.out];rfl,((HDX.out _ HB.out).hb.setCell (p:=⟨w.heap.size+3,0,none⟩) (by show w.heap.size<=w.heap.size+3;omega) _).setCell (p:=⟨w.heap.size+3,1,none⟩) (by show w.heap.size<=w.heap.size+3;omega) _⟩
end Go.Proofs.YtgalekifgnecjaaGreat
