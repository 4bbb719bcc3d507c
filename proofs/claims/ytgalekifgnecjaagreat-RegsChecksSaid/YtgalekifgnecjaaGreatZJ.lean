/- The reference of layer 8: Sorted, plainly -/
import Derived.Test.YtgalekifgnecjaaGreatZ7
import Derived.BigRegion
namespace Go.Proofs.YtgalekifgnecjaaGreat
open Tryz Go.RowKit
open Go.RowKit Go.Shelf
set_option maxHeartbeats 8000000
set_option maxRecDepth 100000
structure Ku(l c:List Int)(i:Nat)(A:List Int)(x:Int)(B R:List Int):Prop where
 eq:c=A++x::B++R
 perm:c.Perm l
 len:A.length+B.length=i
 srt:(A++B).Pairwise (· < ·)
 lt:∀b∈B,x<b
theorem Ku.step{l c:List Int}{i:Nat}{A:List Int}{x y:Int}{B R:List Int}(h:Ku l c i (A++ [y]) x B R)(hxy:x<y):
  Ku l ((c.set (A.length+1) y).set A.length x) i A x (y::B) R:=by
 have e:(c.set (A.length+1) y).set A.length x=A++x::(y::B)++R:=by
  rw[h.eq];simp
 refine⟨e,?_,?_,?_,?_⟩
 ·rw[e]
  refine List.Perm.trans ?_ h.perm;rw[h.eq];simp only[Yr,Y6,Zd];exact List.Perm.append_left A (List.Perm.swap y x (B++R))
 ·have:=h.len
  simp only[yV,xv,List.length_nil]at this ⊢;omega
 ·have:=h.srt
  simpa using this
 ·intro b hb
  rcases xK.1 hb with rfl|hb
  ·exact hxy
  ·exact h.lt b hb
structure AM(l c:List Int)(i:Nat):Prop where
 perm:c.Perm l
 srt:(c.take i).Pairwise (· < ·)
theorem AM.start{l c:List Int}{i:Nat}(h:AM l c i)(hi:i<c.length):Ku l c i (c.take i) c[i] [] (c.drop (i+1)):=by
 refine⟨?_,h.perm,?_,by simpa using h.srt,by simp⟩
 ·simp only[Yr,Y6,Zd]
  rw[List.getElem_cons_drop,List.take_append_drop]
 ·rw[xm]
  simp;omega
theorem Ku.stop{l c:List Int}{i:Nat}{A:List Int}{x:Int}{B R:List Int}(h:Ku l c i A x B R)(hnd:l.Nodup)(hA:∀a,A.getLast?=some a->¬x<a):AM l c (i+1):=by
 have hnc:c.Nodup:=h.perm.nodup_iff.2 hnd
 have hle:∀a∈A,a<x:=by
  intro a ha;rcases List.eq_nil_or_concat A with rfl|⟨A',y,rfl⟩
  ·cases ha
  ·rw[List.concat_eq_append]at ha h
   have hy:=hA y (by simp)
   have hne:y≠x:=by
    rintro rfl;rw[h.eq]at hnc;simp[List.nodup_append,List.nodup_cons]at hnc
   have hyx:y<x:=by omega
   rcases qr.1 ha with ha|ha
   ·have hs:=h.srt
    simp only[List.pairwise_append]at hs;have:=hs.1.2.2 a ha y (by simp);omega
   ·have:a=y:=by simpa using ha
    omega
 refine⟨h.perm,?_⟩
 have e:c.take (i+1)=A++x::B:=by
  rw[h.eq,List.take_append_of_le_length (by have:=h.len;simp only[yV,xv];omega),List.take_of_length_le (by have:=h.len;simp only[yV,xv];omega)]
 rw[e];have hs:=h.srt;simp only[List.pairwise_append,jW]at hs ⊢
 exact⟨hs.1,⟨h.lt,hs.2.1⟩,fun a ha b hb=>by
  rcases xK.1 hb with rfl|hb
  ·exact hle a ha
  ·exact hs.2.2 a ha b hb⟩
attribute [local go_sem] Oper.semAt_some
attribute [local irreducible] wpStill
def PZ(l:List Int)(w:World)(e:Ending)(w':World):Prop:=Below w.heap.size w w'/\∃v s,e= .returned v/\Vj w' v s/\s.Perm l/\s.Pairwise (· < ·)
theorem AY(l:List Int)(hnd:l.Nodup)(a:Option Addr)(c:Nat)(w:World)(hr:yC w a l)(hlen:l.length<=100000):Calls prog 123 #[.slice a l.length c] w (PZ l w):=by
 by_cases hne:l= []
 ·subst hne
  clear hr hnd hlen
  cases a with
  |none=>
   go_enter func123,ntmps123;go_wp2;go_loopg [4] 0 (fun gh s4 wr=>gh=0/\s4= .int .i64 1/\Hid (Below w.heap.size w wr));case atStart=>exact⟨rfl,rfl,za (by first|exact zG _ _|exact zd _ _)⟩
   case round=>
    obtain⟨rfl,rfl,HK⟩:=hrel;go_wp2;go_ret
    exact⟨HK.out,_,[],rfl,by first|exact Vj.nilP _|exact⟨_,_,rfl,fun _ h=>absurd h (y_ _),zE _,.inr ⟨_,_,rfl⟩⟩,List.Perm.refl _,List.Pairwise.nil⟩
  |some a=>
   have HR:Hid (yC w (some a) []):=za (fun _ h=>absurd h (y_ _));go_enter func123,ntmps123;go_wp2_with (at_builtin;refine zv _ rfl _ _ rfl w.heap.size _ [] [] rfl (zu.none (zI _) (zo _ _ _ rfl)) (some a) c rfl (HR.out.below (zd _ _)) (by simp;try omega) (by simp) ?_;intro v1 w1 hown1 hg1 hat1;have HOW:Hid (zu w1 w.heap.size v1 []):=za (by simpa using hown1);have HB1:Hid (Below w.heap.size w w1):=za (xX (zd _ _) hg1 (by simp) (zy (zu.none (base:=w.heap.size) (w:=w.alloc (.cells #[] 3)) (zI _) (zo _ _ _ rfl))));clear hown1 hg1 hat1);obtain⟨a1,c1,rfl,hr1⟩:=HOW.out.rd;have HV:=za (YU HOW.out);clear hr1;go_loopg [4] 0 (fun gh s4 wr=>gh=0/\s4= .int .i64 1/\Hid (wr=w1));case atStart=>exact⟨rfl,rfl,za rfl⟩
   case round=>
    obtain⟨rfl,rfl,HK⟩:=hrel;obtain rfl:=HK.out;go_wp2;go_ret;exact⟨HB1.out,_,[],rfl,HV.out,List.Perm.refl _,List.Pairwise.nil⟩
 ·obtain⟨a,rfl⟩:∃b,a=some b:=by
   cases l with
   |nil=>exact absurd rfl hne
   |cons x l=>
    obtain⟨b,off,e,_⟩:=hr 0 (Nat.succ_pos _);exact⟨_,e⟩
  have HR:=za hr;have HND:=za hnd;clear hr hnd;go_enter func123,ntmps123;go_wp2_with (at_builtin;refine zv _ rfl _ _ rfl w.heap.size _ [] l rfl (zu.none (zI _) (zo _ _ _ rfl)) (some a) c rfl (HR.out.below (zd _ _)) (by simp;try omega) (by simp) ?_;intro v1 w1 hown1 hg1 hat1;have HOW:Hid (zu w1 w.heap.size v1 l):=za (by simpa using hown1);have HB1:Hid (Below w.heap.size w w1):=za (xX (zd _ _) hg1 (by simp) (zy (zu.none (base:=w.heap.size) (w:=w.alloc (.cells #[] 3)) (zI _) (zo _ _ _ rfl))));clear hown1 hg1 hat1);obtain⟨g,cap,rfl,hg,hbi⟩:=BI.of_own HOW.out hne
  have hcap:l.length<=cap:=by
   obtain⟨a9,c9,e9,-,h9,-⟩:=(YU HOW.out).ex;cases e9;exact h9
  have HCAP:=za hcap;have HBI:=za hbi;have hn0:0<l.length:=List.length_pos_iff.2 hne;clear hbi hcap hne HR HOW;have HGW:=za hg;clear hg;go_loopg [4] (l.length-1) (fun gh s4 wr=>∃i s,1<=i/\i<=l.length/\gh=l.length-i/\s4= .int .i64 (i:Nat)/\Hid (AM l s i/\BI wr g s/\Below w.heap.size w wr))
  case atStart=>exact⟨1,l,zI _,hn0,rfl,rfl,za ⟨⟨List.Perm.refl _,by
   cases l with
   |nil=>exact absurd hn0 (by simp)
   |cons x l=>simp⟩,HBI.out,HB1.out⟩⟩
  case round=>
   clear HBI HB1;obtain⟨i,s,hi1,hin,rfl,rfl,HK⟩:=hrel;have hsl:s.length=l.length:=HK.out.1.perm.length_eq;by_cases hlt:i<l.length
   ·have ni:(i:Int)<(l.length:Int):=by omega
    have HIN:=za (HK.out.1.start (by omega:i<s.length));go_wp2;go_loopg [5] (i+1) (fun gh s5 w5=>∃j A x B R s',gh=j+1/\j<=i/\List.length A=j/\s5= .int .i64 (j:Nat)/\Hid (Ku l s' i A x B R/\BI w5 g s'/\Below w.heap.size w w5));case atStart=>exact⟨i,_,_,_,_,s,rfl,zI _,by rw[xm];omega,rfl,za ⟨HIN.out,HK.out.2.1,HK.out.2.2⟩⟩
    case round=>
     clear HIN HK hsl;obtain⟨j,A,x,B,R,s',rfl,hji,hAl,rfl,HJ⟩:=hrel;have hsl:s'.length=l.length:=HJ.out.1.perm.length_eq;rcases List.eq_nil_or_concat A with rfl|⟨A',y,hA⟩
     ·obtain rfl:j=0:=by simpa using hAl.symm
      have HST:=za (HJ.out.1.stop HND.out (fun a e=>by cases e));clear hAl hji;go_upto_region 6 with fail;go_quiet (fail);go_wp2;go_roundg (l.length-(i+1));case measure=>omega
      case rel=>exact⟨i+1,s',by omega,by omega,rfl,by go_num,za ⟨HST.out,HJ.out.2.1.below (xR (zG _ _) _),xR HJ.out.2.2 _⟩⟩
     ·rw[List.concat_eq_append]at hA
      subst hA;obtain rfl:j=A'.length+1:=by simpa using hAl.symm
      have hl1:A'.length+1<s'.length:=by omega
      have e1:s'[A'.length+1]=x:=by
       have h:=HJ.out.1.eq;simp[h]
      have e0:s'[A'.length]=y:=by
       have h:=HJ.out.1.eq;simp[h]
      have q1:=HJ.out.2.1.at hl1;have q0:=HJ.out.2.1.at (by omega:A'.length<s'.length);rw[e1]at q1;rw[e0]at q0;have n1:((A'.length+1:Nat):Int)<(l.length:Int):=by omega
      have n2:(0:Int)<((A'.length+1:Nat):Int):=by omega
      have n3:IntKind.i64.wrap (((A'.length+1:Nat):Int)-1)=(A'.length:Int):=by rw[ju ⟨by omega,by omega⟩];omega
      have n4:(A'.length:Int)<(l.length:Int):=by omega
      clear e1 e0 hAl;by_cases hxy:x<y
      ·have HST:=za (HJ.out.1.step hxy)
       go_upto_region 6 with fail;go_quiet (fail);have HBd:=za (xR (zG wr.heap.size wr) nq);have p1:=zK HBd.out q1;have p0:=zK HBd.out q0;have HBI:=za (HJ.out.2.1.below HBd.out);have HBW:=za (HJ.out.2.2.step HBd.out);clear q1 q0;generalize wr.drewN nq=wd at *;have z1:=HBI.out.frozen (A'.length+1);have z0:=HBI.out.frozen A'.length;go_upto_region 8 with fail;go_region;go_wp2;go_roundg (A'.length+1);case measure=>omega
       case rel=>
        refine⟨A'.length,A',x,y::B,R,_,rfl,by omega,rfl,by go_num,za ⟨HST.out,((HBI.out.set hl1 y).set (by simp;omega) x).below (zt _),?_⟩⟩;refine yX ?_
        repeat (refine Below.setCell ?_ (by have:=HGW.out;show w.heap.size<=g;omega) _)
        exact HBW.out
      ·have d:decide (x<y)=false:=yn hxy
       have HST:=za (HJ.out.1.stop HND.out (fun a e=>by
        have:y=a:=by simpa using e
        rw[<-this]
        exact hxy))
       clear hxy;go_upto_region 6 with fail;go_quiet (fail);go_wp2;go_roundg (l.length-(i+1));case measure=>omega
       case rel=>exact⟨i+1,s',by omega,by omega,rfl,by go_num,za ⟨HST.out,HJ.out.2.1.below (xR (zG _ _) _),xR HJ.out.2.2 _⟩⟩
   ·obtain rfl:i=l.length:=by omega
    have ni:¬(l.length:Int)<(l.length:Int):=by omega
    go_wp2;go_ret;refine⟨HK.out.2.2,_,s,rfl,⟨some ⟨g,0,none⟩,cap,by rw[hsl];rfl,HK.out.2.1.rd,by rw[hsl];exact HCAP.out,.inr ⟨_,_,rfl⟩⟩,HK.out.1.perm,?_⟩;have h:=HK.out.1.srt
    rwa [List.take_of_length_le (by omega)]at h
def IH(w:World)(b:Nat)(s:List (List Int)):Prop:=∃cur,w.heap[b]?=some (.cells cur 28 (0,0))/\cur.size=s.length/\∀i (h:i<s.length),∃v,cur[i]?=some v/\Vj w v s[i]
theorem IH.below{w w':World}{b:Nat}{s:List (List Int)}(h:IH w b s)(hb:Below w.heap.size w w'):IH w' b s:=by
 obtain⟨cur,h1,h2,h3⟩:=h;refine⟨cur,zb hb h1,h2,fun i hi=> ?_⟩;obtain⟨v,h4,h5⟩:=h3 i hi;exact⟨v,h4,h5.below hb⟩
theorem IH.rdm{w:World}{b:Nat}{s:List (List Int)}(h:IH w b s):Kt w (some ⟨b,0,none⟩) s:=by
 obtain⟨cur,h1,h2,h3⟩:=h;intro i hi;obtain⟨v,h4,h5⟩:=h3 i hi;obtain⟨a,c,rfl,hr,-,-⟩:=h5.ex;exact⟨b,0,rfl,ze h1,a,c,(zA _ _ _ _ _ _ h1).trans (by rw[jU];exact h4),hr⟩
theorem vY{w:World}{p:Addr}{v:Value}{b o:Nat}(h:b≠p.block):(w.setCell p v).cell? ⟨b,o,none⟩=w.cell? ⟨b,o,none⟩:=
 ZO (w:=w) (yF _ _ _ _ h)
theorem IH.keepV{w:World}{b:Nat}{s:List (List Int)}(h:IH w b s){k:Nat}{v u:Value}{T:List Int}(hu:Vj w u T):Vj (w.setCell ⟨b,k,none⟩ v) u T:=by
 obtain⟨a,c,e,hr,hl,hn⟩:=hu.ex;refine⟨a,c,e,fun i hi=> ?_,hl,hn⟩;obtain⟨b2,off,ha,hlt,hc⟩:=hr i hi
 have hne:b2≠b:=by
  rintro rfl;obtain⟨cur,h1,h2,h3⟩:=h;rw[zA _ _ _ _ _ _ h1]at hc;have hlt2:off+i<s.length:=by rw[<-h2];exact(qM.1 hc).1
  obtain⟨v,h4,h5⟩:=h3 _ hlt2;obtain⟨a5,c5,e5,_⟩:=h5.ex;rw[hc]at h4;cases h4;cases e5
 refine⟨b2,off,ha,?_,(vY (p:=⟨b,k,none⟩) hne).trans hc⟩;rw[World.size_setCell];exact hlt
theorem IH.set{w:World}{b:Nat}{s:List (List Int)}(h:IH w b s){k:Nat}(hk:k<s.length){v:Value}{S:List Int}(hv:Vj w v S):IH (w.setCell ⟨b,k,none⟩ v) b (s.set k S):=by
 have hkeep:=fun {u:Value} {T:List Int} (hu:Vj w u T)=>IH.keepV h (k:=k) (v:=v) hu
 obtain⟨cur,h1,h2,h3⟩:=h;refine⟨_,yk _ _ k _ _ _ h1,by simp[h2],fun i hi=> ?_⟩;by_cases e:i=k
 ·subst e
  exact⟨v,by simp[h2,hk],by rw[List.getElem_set_self];exact hkeep hv⟩
 ·obtain⟨v1,h4,h5⟩:=h3 i (by simpa using hi)
  refine⟨v1,by rw[Array.getElem?_setIfInBounds_ne (fun e2=>e e2.symm)];exact h4,?_⟩;rw[List.getElem_set_ne (fun e2=>e e2.symm)];exact hkeep h5
theorem MO(w:World)(n:Nat):IH (w.alloc (.cells (madeCells #[.slice none 0 0] n) 28)) w.heap.size (List.replicate n []):=by
 refine⟨_,zo _ _ _ rfl,by simp[madeCells],fun i hi=> ?_⟩;rw[List.length_replicate]at hi;refine⟨.slice none 0 0,?_,?_⟩
 ·simp[madeCells,hi,Nat.mod_one]
 ·have e:(List.replicate n ([]:List Int))[i]'(by simpa using hi)= []:=by simp
  rw[e];exact Vj.nilP _
structure Of(base:Nat)(ra:Option Addr)(R:List Int)(w:World)(v:Value)(l:List Int):Prop where
 own:zu w base v l
 rd:yC w ra R
 ne:∀b off,ra=some ⟨b,off,none⟩->b<w.heap.size/\some b≠v.ownBlock
theorem Of.add{base:Nat}{ra:Option Addr}{R:List Int}{w w':World}{v:Value}{l m:List Int}{e:Ending}(h:Of base ra R w v l)(hA:Og v base m w e w'):∃v',e= .returned v'/\Of base ra R w' v' m/\w.grownBy w' v.ownBlock:=by
 obtain⟨v',e',ho,hg,hb⟩:=hA;refine⟨v',e',⟨ho,yC.grown h.rd hg (fun b off e=>(h.ne b off e).2),fun b off e=> ?_⟩,hg⟩;obtain⟨h1,h2⟩:=h.ne b off e;refine⟨xh h1 hg.size,fun h3=> ?_⟩;rcases hb with h4|⟨b',h4,h5⟩
 ·exact h2 (h3.trans h4)
 ·rw[h4]at h3
  cases h3;omega
theorem Of.below{base:Nat}{ra:Option Addr}{R:List Int}{w w':World}{v:Value}{l:List Int}(h:Of base ra R w v l)(hb:Below w.heap.size w w'):Of base ra R w' v l:=
 ⟨h.own.later hb,h.rd.below hb,fun b off e=>⟨xh (h.ne b off e).1 hb.size,(h.ne b off e).2⟩⟩
theorem Of.of{base base2:Nat}{w w':World}{v u:Value}{l R:List Int}(h:zu w base v l)(hb:Below w.heap.size w w')(ho:zu w' base2 u R)(hb2:w.heap.size<=base2):∃ra rc,u= .slice ra R.length rc/\Of base ra R w' v l:=by
 obtain⟨ra,rc,rfl,hr⟩:=ho.rd;refine⟨ra,rc,rfl,h.later hb,hr,fun b off e=> ?_⟩;subst e;have h1:=zy ho b rfl;have h2:=Xd ho b rfl;refine⟨h2,fun e=> ?_⟩;have h3:=Xd h b e.symm;omega
theorem Of.grown{base:Nat}{ra:Option Addr}{R:List Int}{w0 w w':World}{v:Value}{l:List Int}(h:Of base ra R w v l)(hb:Below w0.heap.size w0 w)(hbase:w0.heap.size<=base)(hg:w.grownBy w' v.ownBlock):Below w0.heap.size w0 w':=
 xX hb hg hb.size (fun k e=>by have:=zy h.own k e;omega)
end Go.Proofs.YtgalekifgnecjaaGreat
