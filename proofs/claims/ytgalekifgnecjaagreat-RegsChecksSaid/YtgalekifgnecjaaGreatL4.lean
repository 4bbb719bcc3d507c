/- The chapter's example, walked -/
import Derived.Test.YtgalekifgnecjaaGreatL1
import Derived.Test.YtgalekifgnecjaaGreatT4
import Derived.Test.YtgalekifgnecjaaGreatT7
import Derived.Test.YtgalekifgnecjaaGreatN6
import Derived.Test.YtgalekifgnecjaaGreatT24
namespace Go.Proofs.YtgalekifgnecjaaGreat
open Tryz Go.RowKit Go.Shelf
set_option maxHeartbeats 8000000
set_option maxRecDepth 100000
attribute [local go_sem] Oper.semAt_some
theorem Nk:YW (yl (zZ VV) VV.slots.toNat)=3:=by decide +kernel
theorem LS:JG (zZ VV) VV.slots.toNat= [0,1,2,0]:=by decide +kernel
def Vf(u:zg)(i:Nat):List zm:=(u.code.set 2 ⟨8,i,2,0⟩).set 3 ⟨29,i,0,0⟩
theorem JH{W:World}{g i:Nat}{l:List zm}(h:Qz W (some ⟨g,0,none⟩) l)(hi:i<l.length)(v:Int):Qz (W.setCell ⟨g,i*4+1,none⟩ (.int .i64 v)) (some ⟨g,0,none⟩) (l.set i { l[i]with a:=v }):=by
 intro j hj;rw[List.length_set]at hj;obtain⟨b,off,e,hlt,h0,h1,h2,h3⟩:=h j hj;cases e;have hn:∀k,k≠i*4+1->(W.setCell ⟨g,i*4+1,none⟩ (.int .i64 v)).cell? ⟨g,k,none⟩=W.cell? ⟨g,k,none⟩:=fun k hk=>World.cell?_setCell_other _ _ _ _ (fun e=>hk (by cases e;rfl))
 by_cases e:i=j
 ·subst e
  rw[List.getElem_set_self];refine⟨g,0,rfl,by simpa using hlt,(hn _ (by omega)).trans h0,?_,(hn _ (by omega)).trans h2,(hn _ (by omega)).trans h3⟩;rw[jU]at h1 ⊢;exact World.cell?_setCell_same _ _ _ h1
 ·rw[List.getElem_set_ne e]
  exact⟨g,0,rfl,by simpa using hlt,(hn _ (by omega)).trans h0,(hn _ (by omega)).trans h1,(hn _ (by omega)).trans h2,(hn _ (by omega)).trans h3⟩
theorem OI{W:World}{base n:Nat}{v:Value}{l:List zm}(h:y9 Yo 85 W base v l)(hl:l.length=n)(hn:0<n):∃g c cur,v= .slice (some ⟨g,0,none⟩) n c/\n<=c/\base<=g/\W.heap[g]?=some (.cells cur 85 (0,0))/\Qz W (some ⟨g,0,none⟩) l:=by
 obtain⟨a,cap,rfl,hr,hlc,_⟩:=h.rdB;obtain⟨b,off,e,_⟩:=hr 0 (by omega);rcases h.2 with ⟨h1,_⟩|⟨g,cap2,cur,h1,hg,hh,_⟩
 ·rw[e]at h1;cases h1
 ·injection h1 with h2 h3 h4
  subst h2;subst h4;exact⟨g,cap,cur,by rw[hl],by omega,hg,hh,Jm.1 hr⟩
theorem Nj{u:zg}(hu:u=VV){W:World}{g:Nat}(h:Qz W (some ⟨g,0,none⟩) u.code):Qz ((W.setCell ⟨g,9,none⟩ (.int .i64 0)).setCell ⟨g,13,none⟩ (.int .i64 0)) (some ⟨g,0,none⟩) (Vf u 0):=by
 subst hu;exact JH (i:=3) (JH (i:=2) h (by decide) 0) (by decide) 0
theorem Ni{u:zg}(hu:u=VV){W:World}{g:Nat}(h:Qz W (some ⟨g,0,none⟩) (Vf u 0)):Qz ((W.setCell ⟨g,9,none⟩ (.int .i64 1)).setCell ⟨g,13,none⟩ (.int .i64 1)) (some ⟨g,0,none⟩) (Vf u 1):=by
 subst hu;exact JH (i:=3) (JH (i:=2) h (by decide) 1) (by decide) 1
theorem E_{W:World}{g:Nat}{l:List zm}(h:Qz W (some ⟨g,0,none⟩) l){i:Nat}(hi:i<l.length):∃v,W.cell? ⟨g,i*4+1,none⟩=some v:=by
 obtain⟨b,off,e,_,_,h1,_⟩:=h i hi;cases e;rw[jU]at h1;exact⟨_,h1⟩
theorem Qz.setOther{W:World}{g b k:Nat}{v:Value}{l:List zm}(h:Qz W (some ⟨g,0,none⟩) l)(hn:g≠b):Qz (W.setCell ⟨b,k,none⟩ v) (some ⟨g,0,none⟩) l:=by
 intro j hj;obtain⟨b2,off,e,hlt,h0,h1,h2,h3⟩:=h j hj;cases e;have hk:∀m,(W.setCell ⟨b,k,none⟩ v).cell? ⟨g,m,none⟩=W.cell? ⟨g,m,none⟩:=fun m=>World.cell?_setCell_other _ _ _ _ (fun e=>hn (by cases e;rfl))
 exact⟨g,0,rfl,by simpa using hlt,(hk _).trans h0,(hk _).trans h1,(hk _).trans h2,(hk _).trans h3⟩
theorem E9{W:World}{g:Nat}{c:Array Value}{T:TypeId}{l:List Int}(h:W.heap[g]?=some (.cells c T (0,0)))(hc:∀i (hi:i<l.length),c[i]?=some (.int .i64 l[i])):yC W (some ⟨g,0,none⟩) l:=
 fun i hi=>⟨g,0,rfl,ze h,by rw[jU];exact jP h (hc i hi)⟩
theorem MI{W:World}{g:Nat}{T:TypeId}{a b c d:Int}(h:W.heap[g]?=some (.cells #[.int .i64 a,.int .i64 b,.int .i64 c,.int .i64 d] T (0,0))):yC W (some ⟨g,0,none⟩) [a,b,c,d]:=
 E9 h (fun i hi=>by
  have hi4:i<4:=hi
  match i,hi4 with
  |0,_=>rfl
  |1,_=>rfl
  |2,_=>rfl
  |3,_=>rfl)
theorem St{W:World}{g:Nat}{T:TypeId}{a b c d e f:Int}(h:W.heap[g]?=some (.cells #[.int .i64 a,.int .i64 b,.int .i64 c,.int .i64 d,.int .i64 e,.int .i64 f] T (0,0))):yC W (some ⟨g,0,none⟩) [a,b,c,d,e,f]:=
 E9 h (fun i hi=>by
  have hi4:i<6:=hi
  match i,hi4 with
  |0,_=>rfl
  |1,_=>rfl
  |2,_=>rfl
  |3,_=>rfl
  |4,_=>rfl
  |5,_=>rfl)
theorem Ss{W:World}{g:Nat}{T:TypeId}{a b c d e f i j:Int}(h:W.heap[g]?=some (.cells #[.int .i64 a,.int .i64 b,.int .i64 c,.int .i64 d,.int .i64 e,.int .i64 f,.int .i64 i,.int .i64 j] T (0,0))):VJ ZD W (some ⟨g,0,none⟩) [(a,b),(c,d),(e,f),(i,j)]:=by
 intro k hk;refine⟨g,0,rfl,ze h,fun m v hv=> ?_⟩;have hk4:k<4:=hk;have hm:m<2:=(ZE.1 hv).1;rw[jU];refine jP h ?_
 match k,hk4,m,hm with
 |0,_,0,_=>exact hv
 |0,_,1,_=>exact hv
 |1,_,0,_=>exact hv
 |1,_,1,_=>exact hv
 |2,_,0,_=>exact hv
 |2,_,1,_=>exact hv
 |3,_,0,_=>exact hv
 |3,_,1,_=>exact hv
structure Se(w:World)(u:zg)(ca:Option Addr)(cc bu b1 b2:Nat)(pa la ha ta:Option Addr)(hc tc:Nat)(da ea:Option Addr)(dc ec:Nat)(W:World):Prop where
 hb:Below w.heap.size w W
 hx:W.heap[bu]?=some (oU u ca cc none 0)
 hm:jo W u ca cc none 0
 hp:VJ ZD W pa [(0,1),(0,2),(1,2),(1,3)]
 hl:yC W la [0,1,2,0]
 hh:yC W ha [0,1,2,3]
 ht:yC W ta [0,1,2,3,4,5]
 hv:W.heap[b1]?=some (.cells #[.string u.cls,.string u.name,.int .i64 u.args,.int .i64 4,.int .i64 u.frame,.slice da 6 dc,.slice ea 0 ec] 25)
 hg:W.heap[b2]?=some (.cells #[.slice ha 4 hc,.slice ta 6 tc] 30)
theorem Se.below{w:World}{u:zg}{ca:Option Addr}{cc bu b1 b2:Nat}{pa la ha ta:Option Addr}{hc tc:Nat}{da ea:Option Addr}{dc ec:Nat}{W W':World}(h:Se w u ca cc bu b1 b2 pa la ha ta hc tc da ea dc ec W)(hb:Below W.heap.size W W'):Se w u ca cc bu b1 b2 pa la ha ta hc tc da ea dc ec W':=
 ⟨h.hb.step hb,zb hb h.hx,h.hm.below hb,h.hp.below hb,h.hl.below hb,h.hh.below hb,h.ht.below hb,zb hb h.hv,zb hb h.hg⟩
structure Ti(u:zg)(ca:Option Addr)(cc:Nat):Prop where
 c24:∀w,jo w u ca cc none 0->Calls prog 24 #[vU u ca cc none 0] w (zV (.tuple #[.int .i64 2,.int .i64 0]) w)
 c26:∀w,jo w u ca cc none 0->Calls prog 26 #[vU u ca cc none 0] w (zV (.tuple #[.int .i64 3,.int .i64 0]) w)
 c19:∀w,jo w u ca cc none 0->Calls prog 19 #[vU u ca cc none 0] w fun e w'=>Below w.heap.size w w'/\∃a c,e= .returned (.tuple #[.slice a 4 c,.int .i64 0])/\VJ ZD w' a [(0,1),(0,2),(1,2),(1,3)]
 c20:∀w,jo w u ca cc none 0->Calls prog 20 #[vU u ca cc none 0] w fun e w'=>Below w.heap.size w w'/\∃a c,e= .returned (.tuple #[.slice a 4 c,.int .i64 3,.int .i64 0])/\yC w' a [0,1,2,0]
 c13:∀w,jo w u ca cc none 0->Calls prog 13 #[vU u ca cc none 0,.int .i64 4] w fun e w'=>Below w.heap.size w w'/\∃da dc ea ec ha hc ta tc,e= .returned (.tuple #[.agg #[.string u.cls,.string u.name,.int .i64 u.args,.int .i64 4,.int .i64 u.frame,.slice da 6 dc,.slice ea 0 ec],.agg #[.slice ha 4 hc,.slice ta 6 tc],.int .i64 0])/\yC w' ha [0,1,2,3]/\yC w' ta [0,1,2,3,4,5]
 c13b:∀w,jo w u ca cc none 0->Calls prog 13 #[vU u ca cc none 0,.int .i64 1] w (zV (.tuple #[.agg #[.string ⟨#[]⟩,.string ⟨#[]⟩,.int .i64 0,.int .i64 0,.int .i64 0,.slice none 0 0,.slice none 0 0],.agg #[.slice none 0 0,.slice none 0 0],.int .i64 14]) w)
 c18:∀(w:World) (i:Nat) (g c gs gt:Nat) (A:Option Addr),i<2->6<=c->A=some ⟨g,0,none⟩->jo w u ca cc none 0->Qz w A (Vf u i)->yC w (some ⟨gs,0,none⟩) [0,1,2,(i:Int)]->yC w (some ⟨gt,0,none⟩) [0,1,2,3,4,5] ->
  Calls prog 18 #[vU u ca cc none 0,.agg #[.string u.cls,.string u.name,.int .i64 u.args,.int .i64 3,.int .i64 u.frame,.slice A 6 c,.slice none u.guards.length 0],.agg #[.slice (some ⟨gs,0,none⟩) 4 4,.slice (some ⟨gt,0,none⟩) 6 6]] w (zV (.int .i64 (if i=0 then 0 else 11)) w)
theorem SM(ca:Option Addr)(cc:Nat):Ti VV ca cc:=by
 refine⟨fun w h=> ?_,fun w h=> ?_,fun w h=> ?_,fun w h=> ?_,fun w h=> ?_,fun w h=> ?_,fun w i g c gs gt A hi hcap hA h hc hs ht=> ?_⟩
 ·have:=OT VV ca cc none 0 w h (by decide) (by decide)
  rwa [zj Xp,zj Xp,LR]at this
 ·have:=A_ VV ca cc none 0 w h (by decide) (by decide) Xp
  rwa [LQ]at this
 ·refine(KN VV ca cc none 0 w h (by decide) (by decide) Xp).mono ?_
  rintro e w' ⟨hb,v,rfl,ho⟩;rw[LU]at ho;obtain⟨a,c,rfl,hr,_⟩:=ho.rdB;exact⟨hb,a,c,rfl,hr⟩
 ·refine(It VV ca cc none 0 w h (by decide) (by decide) Xp).mono ?_
  rintro e w' ⟨hb,v,rfl,ho⟩;rw[LS]at ho;rw[Nk];obtain⟨a,c,rfl,hr⟩:=ho.rd;exact⟨hb,a,c,rfl,hr⟩
 ·refine(KZ VV 4 ca cc none 0 w h (by decide) (by decide) Xp (by decide) (by decide)).mono ?_
  rintro e w' ⟨hb,da,dc,ea,ec,hs,ats,rfl,h1,h2,h3,h4⟩;obtain⟨a1,c1,rfl,hr1⟩:=h3.rd;obtain⟨a2,c2,rfl,hr2⟩:=h4.rd;exact⟨hb,da,dc,ea,ec,a1,c1,a2,c2,rfl,hr1,hr2⟩
 ·exact K1 VV 1 ca cc none 0 w h (by decide) (by decide) Xp (by decide) (by decide) (by decide +kernel)
 ·subst hA
  match i,hi with
  |0,_=>
   have:=YP VV SW [0,1,2,0] [0,1,2,3,4,5] ca cc none 0 (some ⟨g,0,none⟩) c none 0 (some ⟨gs,0,none⟩) 4 (some ⟨gt,0,none⟩) 6 w h ⟨hc,h.rg,hcap,h.lg⟩ hs ht (by decide) (by decide) (by decide) (by decide) (by decide) (by decide) (by decide) (by decide)
   rwa [PT]at this
  |1,_=>
   have:=YP VV SV [0,1,2,1] [0,1,2,3,4,5] ca cc none 0 (some ⟨g,0,none⟩) c none 0 (some ⟨gs,0,none⟩) 4 (some ⟨gt,0,none⟩) 6 w h ⟨hc,h.rg,hcap,h.lg⟩ hs ht (by decide) (by decide) (by decide) (by decide) (by decide) (by decide) (by decide) (by decide)
   rwa [PS]at this
theorem jh(w:World):Calls prog 12 #[] w (zV (.bool true) w):=by
 have HUN:=za (FA w);go_enter func12,ntmps12
 go_upto_region 2 with (first
  |(go_at_call 41;(with_reducible refine HUN.out.mono ?_);rintro e w1 ⟨hb,ca,cc,rfl,hm⟩;have HB1:=za hb;have HM1:=za hm;have HC:=za (SM ca cc);clear hb hm))
 obtain⟨u,hu⟩:∃u,u=VV:=⟨_,rfl⟩
 have HUE:=za hu;rw[<-hu]at HM1 HC;rw[<-hu];have HX:=za (zo w1 (oU u ca cc none 0) _ rfl);have HB:=za (HB1.out.step (zd w1 (oU u ca cc none 0)));have HM:=za (HM1.out.below (zd w1 (oU u ca cc none 0)));have HL:=za HB1.out.size;clear hu HUN HB1 HM1;obtain⟨bu,hbu⟩:∃b,b=w1.heap.size:=⟨_,rfl⟩
 obtain⟨wa,hwa⟩:∃wa,wa=w1.alloc (oU u ca cc none 0):=⟨_,rfl⟩
 rw[<-hwa,<-hbu]at HX;rw[<-hwa]at HB HM;rw[<-hbu]at HL;rw[<-hbu,<-hwa];clear hbu hwa;obtain⟨k0,k1,k2,k3,k4,k5,k6⟩:=zr HX.out
 go_upto_region 3 with (first
  |(go_at_call 24;(with_reducible refine(HC.out.c24 _ HM.out).mono ?_);rintro e w2 ⟨rfl,hb⟩;have HX2:=za (zb hb HX.out);have HB2:=za (HB.out.step hb);have HM2:=za (HM.out.below hb);clear hb))
 clear k0 k1 k2 k3 k4 k5 k6 HX HB HM;obtain⟨k0,k1,k2,k3,k4,k5,k6⟩:=zr HX2.out
 go_upto_region 4 with (first
  |(go_at_call 26;(with_reducible refine(HC.out.c26 _ HM2.out).mono ?_);rintro e w3 ⟨rfl,hb⟩;have HX3:=za (zb hb HX2.out);have HB3:=za (HB2.out.step hb);have HM3:=za (HM2.out.below hb);clear hb))
 clear k0 k1 k2 k3 k4 k5 k6 HX2 HB2 HM2;obtain⟨k0,k1,k2,k3,k4,k5,k6⟩:=zr HX3.out
 go_upto_region 5 with (first
  |(go_at_call 19;(with_reducible refine(HC.out.c19 _ HM3.out).mono ?_);rintro e w4 ⟨hb,pa,pc,rfl,hp⟩;have HX4:=za (zb hb HX3.out);have HB4:=za (HB3.out.step hb);have HM4:=za (HM3.out.below hb);have HP:=za hp;clear hp;clear hb))
 clear k0 k1 k2 k3 k4 k5 k6 HX3 HB3 HM3;obtain⟨k0,k1,k2,k3,k4,k5,k6⟩:=zr HX4.out
 go_upto_region 6 with (first
  |(go_at_call 20;(with_reducible refine(HC.out.c20 _ HM4.out).mono ?_);rintro e w5 ⟨hb,la,lc,rfl,hl⟩;have HX5:=za (zb hb HX4.out);have HB5:=za (HB4.out.step hb);have HM5:=za (HM4.out.below hb);have HPn:=za (HP.out.below hb);have HLc:=za hl;clear hl;clear hb))
 clear k0 k1 k2 k3 k4 k5 k6 HX4 HB4 HM4 HP;have HP:=za HPn.out;clear HPn;obtain⟨k0,k1,k2,k3,k4,k5,k6⟩:=zr HX5.out
 go_upto_region 7 with (first
  |(go_at_call 13;(with_reducible refine(HC.out.c13 _ HM5.out).mono ?_);rintro e w6 ⟨hb,da,dc,ea,ec,ha,hc,ta,tc,rfl,hh,ht⟩;have HX6:=za (zb hb HX5.out);have HB6:=za (HB5.out.step hb);have HM6:=za (HM5.out.below hb);have HPn:=za (HP.out.below hb);have HLcn:=za (HLc.out.below hb);have HH:=za hh;have HT:=za ht;clear hh ht;clear hb))
 clear k0 k1 k2 k3 k4 k5 k6 HX5 HB5 HM5 HP HLc;have HP:=za HPn.out;clear HPn;have HLc:=za HLcn.out;clear HLcn;obtain⟨b1,hb1⟩:∃b,b=w6.heap.size:=⟨_,rfl⟩
 rw[<-hb1]
 have HE6:=za (show Se w u ca cc bu b1 (b1+1) pa la ha ta hc tc da ea dc ec ((w6.alloc (.cells #[.string u.cls,.string u.name,.int .i64 u.args,.int .i64 4,.int .i64 u.frame,.slice da 6 dc,.slice ea 0 ec] 25)).alloc (.cells #[.slice ha 4 hc,.slice ta 6 tc] 30))from by
  rw[hb1];have hb:=(zd w6 (.cells #[.string u.cls,.string u.name,.int .i64 u.args,.int .i64 4,.int .i64 u.frame,.slice da 6 dc,.slice ea 0 ec] 25)).step (zd _ (.cells #[.slice ha 4 hc,.slice ta 6 tc] 30))
  exact⟨HB6.out.step hb,zb hb HX6.out,HM6.out.below hb,HP.out.below hb,HLc.out.below hb,HH.out.below hb,HT.out.below hb,zb (zd _ _) (zo _ _ _ rfl),zo _ _ _ (by simp)⟩)
 clear HX6 HB6 HM6 HP HLc HH HT hb1;obtain⟨w7,hw7⟩:∃W,W=(w6.alloc (.cells #[.string u.cls,.string u.name,.int .i64 u.args,.int .i64 4,.int .i64 u.frame,.slice da 6 dc,.slice ea 0 ec] 25)).alloc (.cells #[.slice ha 4 hc,.slice ta 6 tc] 30):=⟨_,rfl⟩
 rw[<-hw7]at HE6;rw[<-hw7];clear hw7;obtain⟨k0,k1,k2,k3,k4,k5,k6⟩:=zr HE6.out.hx
 go_upto_region 8 with (first
  |(go_at_call 13;(with_reducible refine(HC.out.c13b _ HE6.out.hm).mono ?_);rintro e w8 ⟨rfl,hb⟩;have HE8:=za ((HE6.out.below hb).below ((zd _ (.cells #[.string ⟨#[]⟩,.string ⟨#[]⟩,.int .i64 0,.int .i64 0,.int .i64 0,.slice none 0 0,.slice none 0 0] 25)).step (zd _ (.cells #[.slice none 0 0,.slice none 0 0] 30))));clear hb))
 obtain⟨w9,hw9⟩:∃W,W=(w8.alloc (.cells #[.string ⟨#[]⟩,.string ⟨#[]⟩,.int .i64 0,.int .i64 0,.int .i64 0,.slice none 0 0,.slice none 0 0] 25)).alloc (.cells #[.slice none 0 0,.slice none 0 0] 30):=⟨_,rfl⟩
 rw[<-hw9]at HE8;clear k0 k1 k2 k3 k4 k5 k6 HE6;obtain⟨b7,hb7⟩:∃b,b=w8.heap.size:=⟨_,rfl⟩
 rw[<-hw9,<-hb7];clear hw9 hb7;obtain⟨k0,k1,k2,k3,k4,k5,k6⟩:=zr HE8.out.hx;have HQ:=za (zo w9 (oU u ca cc none 0) _ rfl);have HBW:=za (zd w9 (oU u ca cc none 0));go_upto_region 9 with fail;obtain⟨w10,hw10⟩:∃W,W=w9.alloc (oU u ca cc none 0):=⟨_,rfl⟩
 rw[<-hw10]at HQ HBW;rw[<-hw10];clear hw10 k0 k1 k2 k3 k4 k5 k6;obtain⟨q0,q1,q2,q3,q4,q5,q6⟩:=zr HQ.out;have f3:=Kj HQ.out 3;have HQ2:Hid ((w10.setCell ⟨w9.heap.size,3,none⟩ (.int .i64 3)).heap[w9.heap.size]?=some (.cells #[.string u.cls,.string u.name,.int .i64 u.args,.int .i64 3,.int .i64 u.frame,.slice ca u.code.length cc,.slice none u.guards.length 0] 25)):=za (yk _ _ 3 _ _ _ HQ.out);have HBW2:=za (HBW.out.setCell (p:=⟨w9.heap.size,3,none⟩) (zI _) (.int .i64 3));go_upto_region 10 with fail;obtain⟨b9,hb9⟩:∃b,b=w9.heap.size:=⟨_,rfl⟩
 rw[<-hb9]at HQ2 HBW2;have HLB:=za (Nat.le_of_eq hb9.symm);rw[<-hb9];obtain⟨w11,hw11⟩:∃W,W=w10.setCell ⟨b9,3,none⟩ (.int .i64 3):=⟨_,rfl⟩
 rw[<-hw11]at HQ2 HBW2;rw[<-hw11];replace HBW2:=za (show Below w9.heap.size w9 w11 by rw[<-hb9];exact HBW2.out);clear hw11 hb9 q0 q1 q2 q3 q4 q5 q6 f3 HQ HBW;have HE9:=za HE8.out;have HE11:=za (HE8.out.below HBW2.out);clear HE8;have k5:=(zA _ _ 5 _ _ _ (zb (zd w11 (.cells #[] 85)) HE11.out.hx)).trans rfl;have H6:Hid (u.code.length=6):=za (by rw[HUE.out];rfl);have HB9:=za (ze HQ2.out)
 go_upto_region 11 with (first
  |(at_builtin;refine qj Mu _ rfl _ _ rfl w11.heap.size _ [] u.code rfl (y9.none (zI _) (zo _ _ _ rfl)) ca cc rfl (Jm.2 (HE11.out.hm.rc.below (zd _ _))) (by simp[H6.out]) (by simp) ?_;intro v' w12 hown' hgrow hnil;obtain⟨g,c,cur,rfl,hc6,hgb,hgh,hgr⟩:=OI hown' (n:=6) (by simpa using H6.out) (by omega);have HGW:Hid ((w11.alloc (.cells #[] 85)).grownBy w12 (some w11.heap.size)):=za hgrow;have HQ12:=za (Ye HGW.out (zb (zd _ _) HQ2.out) (fun e=>by have:=HB9.out;omega));have f5:=Kj HQ12.out 5;have q5:w12.cell? ⟨b9,5,none⟩=some (.slice ca u.code.length cc):=(zA _ _ 5 _ _ _ HQ12.out).trans rfl;have HGB:=za hgb;have HC6:=za hc6;have HGH:=za hgh;have HGR:=za hgr;clear hown' hgrow hnil hgb hgh hgr hc6))
 have HNG:Hid (b9<g):=za (by have:=HB9.out;have:=HGB.out;omega);have HQ13:Hid ((w12.setCell ⟨b9,5,none⟩ (.slice (some ⟨g,0,none⟩) 6 c)).heap[b9]?=some (.cells #[.string u.cls,.string u.name,.int .i64 u.args,.int .i64 3,.int .i64 u.frame,.slice (some ⟨g,0,none⟩) 6 c,.slice none u.guards.length 0] 25)):=za (yk _ _ 5 _ _ _ HQ12.out);have HB13:Hid (Below w9.heap.size w9 (w12.setCell ⟨b9,5,none⟩ (.slice (some ⟨g,0,none⟩) 6 c))):=za ((((HBW2.out.step (zd _ _)).grown HGW.out (HBW2.out.step (zd _ _)).size (fun r e=>by cases e;exact HBW2.out.size))).setCell (p:=⟨b9,5,none⟩) HLB.out _);have HR13:=za (HGR.out.setOther (b:=b9) (k:=5) (v:=.slice (some ⟨g,0,none⟩) 6 c) (by have:=HNG.out;omega));have HH13:Hid ((w12.setCell ⟨b9,5,none⟩ (.slice (some ⟨g,0,none⟩) 6 c)).heap[g]?=some (.cells cur 85 (0,0))):=za ((yF _ _ _ _ (by have:=HNG.out;show g≠b9;omega)).trans HGH.out);obtain⟨w13,hw13⟩:∃W,W=w12.setCell ⟨b9,5,none⟩ (.slice (some ⟨g,0,none⟩) 6 c):=⟨_,rfl⟩
 rw[<-hw13]at HQ13 HB13 HR13 HH13;rw[<-hw13];clear hw13 f5 q5 HQ12 HGR HGH HGW HQ2 HBW2 k5;have HE13:=za (show Se w u ca cc bu b1 (b1+1) pa la ha ta hc tc da ea dc ec w13 from HE9.out.below HB13.out);clear HE11;have c5:w13.cell? ⟨b9,5,none⟩=some (.slice (some ⟨g,0,none⟩) 6 c):=(zA _ _ 5 _ _ _ HQ13.out).trans rfl;have f9:=Kj HH13.out 9;obtain⟨x9,cg9⟩:∃v,w13.cell? ⟨g,9,none⟩=some v:=E_ (i:=2) HR13.out (by simp[H6.out]);obtain⟨x13,cg13⟩:∃v,w13.cell? ⟨g,13,none⟩=some v:=E_ (i:=3) HR13.out (by simp[H6.out]);have HGL:Hid (w9.heap.size<=g):=za (Nat.le_of_lt (Nat.lt_of_le_of_lt HLB.out HNG.out));go_upto_region 12 with fail;have c5b:(w13.setCell ⟨g,9,none⟩ (.int .i64 0)).cell? ⟨b9,5,none⟩=some (.slice (some ⟨g,0,none⟩) 6 c):=(World.cell?_setCell_other _ _ _ _ (by simp)).trans c5;have cg13b:(w13.setCell ⟨g,9,none⟩ (.int .i64 0)).cell? ⟨g,13,none⟩=some x13:=(World.cell?_setCell_other _ _ _ _ (by simp)).trans cg13;have f13:=Kj (yk w13 g 9 _ _ (.int .i64 0) HH13.out) 13;go_upto_region 13 with fail;have HR15:=za (Nj HUE.out (W:=w13) (g:=g) HR13.out);have HB15:=za ((HB13.out.setCell (p:=⟨g,9,none⟩) HGL.out (.int .i64 0)).setCell (p:=⟨g,13,none⟩) HGL.out (.int .i64 0));have HQ15:Hid (((w13.setCell ⟨g,9,none⟩ (.int .i64 0)).setCell ⟨g,13,none⟩ (.int .i64 0)).heap[b9]?=some (.cells #[.string u.cls,.string u.name,.int .i64 u.args,.int .i64 3,.int .i64 u.frame,.slice (some ⟨g,0,none⟩) 6 c,.slice none u.guards.length 0] 25)):=za ((yF _ _ _ _ (by have:=HNG.out;show b9≠g;omega)).trans ((yF _ _ _ _ (by have:=HNG.out;show b9≠g;omega)).trans HQ13.out));obtain⟨w15,hw15⟩:∃W,W=(w13.setCell ⟨g,9,none⟩ (.int .i64 0)).setCell ⟨g,13,none⟩ (.int .i64 0):=⟨_,rfl⟩
 rw[<-hw15]at HR15 HB15 HQ15;rw[<-hw15];clear hw15 f9 f13 cg9 cg13 cg13b c5 c5b HH13 HR13 HB13 HQ13 HE13;go_upto_region 14 with fail;have HT16:=za (St (zo w15 (.cells #[.int .i64 0,.int .i64 1,.int .i64 2,.int .i64 3,.int .i64 4,.int .i64 5] 3) _ rfl));have HBN:=za (zd w15 (.cells #[.int .i64 0,.int .i64 1,.int .i64 2,.int .i64 3,.int .i64 4,.int .i64 5] 3));obtain⟨bt,hbt⟩:∃b,b=w15.heap.size:=⟨_,rfl⟩
 obtain⟨w16,hw16⟩:∃W,W=w15.alloc (.cells #[.int .i64 0,.int .i64 1,.int .i64 2,.int .i64 3,.int .i64 4,.int .i64 5] 3):=⟨_,rfl⟩
 rw[<-hw16]at HBN;rw[<-hw16,<-hbt]at HT16;rw[<-hbt,<-hw16];clear hw16 hbt;have HR16:=za (HR15.out.below HBN.out);have HB16:=za (HB15.out.step HBN.out);have HQ16:=za (zb HBN.out HQ15.out);have HE16:=za (HE9.out.below HB16.out);clear HR15 HB15 HQ15 HBN;obtain⟨k0,k1,k2,k3,k4,k5,k6⟩:=zr HE16.out.hx;obtain⟨q0,q1,q2,q3,q4,q5,q6⟩:=zr HQ16.out
 have HS18:Hid (Calls prog 18 #[vU u ca cc none 0,.agg #[.string u.cls,.string u.name,.int .i64 u.args,.int .i64 3,.int .i64 u.frame,.slice (some ⟨g,0,none⟩) 6 c,.slice none u.guards.length 0],.agg #[.slice (some ⟨w16.heap.size,0,none⟩) 4 4,.slice (some ⟨bt,0,none⟩) 6 6]] (w16.alloc (.cells #[.int .i64 0,.int .i64 1,.int .i64 2,.int .i64 0] 3)) (zV (.int .i64 0) (w16.alloc (.cells #[.int .i64 0,.int .i64 1,.int .i64 2,.int .i64 0] 3)))):=
  za (HC.out.c18 _ 0 g c w16.heap.size bt (some ⟨g,0,none⟩) (by decide) HC6.out rfl (HE16.out.hm.below (zd _ _)) (HR16.out.below (zd _ _)) (MI (zo _ _ _ rfl)) (HT16.out.below (zd _ _)))
 go_upto_region 15 with (first
  |(go_at_call 18;(with_reducible refine HS18.out.mono ?_);rintro e w17 ⟨rfl,hb⟩;have HBN:=za ((zd w16 (.cells #[.int .i64 0,.int .i64 1,.int .i64 2,.int .i64 0] 3)).step hb);clear hb))
 have HR17:=za (HR16.out.below HBN.out);have HB17:=za (HB16.out.step HBN.out);have HQ17:=za (zb HBN.out HQ16.out);have HE17:=za (HE16.out.below HBN.out);have HT17:=za (HT16.out.below HBN.out);clear k0 k1 k2 k3 k4 k5 k6 q0 q1 q2 q3 q4 q5 q6 HS18 HR16 HB16 HQ16 HE16 HT16 HBN HE9 HB9 HLB HGL HGB HNG;obtain⟨q0,q1,q2,q3,q4,q5,q6⟩:=zr HQ17.out;go_upto_region 16 with fail;have HY18:=za (zo w17 (.cells #[.string u.cls,.string u.name,.int .i64 u.args,.int .i64 3,.int .i64 u.frame,.slice (some ⟨g,0,none⟩) 6 c,.slice none u.guards.length 0] 25) _ rfl);have HBN:=za (zd w17 (.cells #[.string u.cls,.string u.name,.int .i64 u.args,.int .i64 3,.int .i64 u.frame,.slice (some ⟨g,0,none⟩) 6 c,.slice none u.guards.length 0] 25));obtain⟨by',hby⟩:∃b,b=w17.heap.size:=⟨_,rfl⟩
 obtain⟨w18,hw18⟩:∃W,W=w17.alloc (.cells #[.string u.cls,.string u.name,.int .i64 u.args,.int .i64 3,.int .i64 u.frame,.slice (some ⟨g,0,none⟩) 6 c,.slice none u.guards.length 0] 25):=⟨_,rfl⟩
 rw[<-hw18]at HBN;rw[<-hw18,<-hby]at HY18;rw[<-hby,<-hw18];have HLY:=za (Nat.le_of_eq hby.symm);clear hw18 hby q0 q1 q2 q3 q4 q5 q6;have HR18:=za (HR17.out.below HBN.out);have HQ18:=za (zb HBN.out HQ17.out);have HBY:=za (ze HY18.out);have q5:(w18.alloc (.cells #[] 85)).cell? ⟨b9,5,none⟩=some (.slice (some ⟨g,0,none⟩) 6 c):=(zA _ _ 5 _ _ _ (zb (zd _ _) HQ18.out)).trans rfl;have HXL:Hid ((Vf u 0).length=6):=za (by rw[HUE.out];rfl)
 go_upto_region 17 with (first
  |(at_builtin;refine qj Mu _ rfl _ _ rfl w18.heap.size _ [] (Vf u 0) rfl (y9.none (zI _) (zo _ _ _ rfl)) (some ⟨g,0,none⟩) c (Eq.trans rfl (congrArg (fun n=>Value.slice (some ⟨g,0,none⟩) n c) HXL.out.symm)) (Jm.2 (HR18.out.below (zd _ _))) (by simp[HXL.out]) (by simp) ?_;intro v' w19 hown' hgrow hnil;obtain⟨g2,cz,cur2,rfl,hc6,hgb,hgh,hgr⟩:=OI hown' (n:=6) (by simpa using HXL.out) (by omega);have HGW2:Hid ((w18.alloc (.cells #[] 85)).grownBy w19 (some w18.heap.size)):=za hgrow;have HY19:=za (Ye HGW2.out (zb (zd _ _) HY18.out) (fun e=>by have:=HBY.out;omega));have f5:=Kj HY19.out 5;have q5':w19.cell? ⟨by',5,none⟩=some (.slice (some ⟨g,0,none⟩) 6 c):=(zA _ _ 5 _ _ _ HY19.out).trans rfl;have HGB2:=za hgb;have HC62:=za hc6;have HGH2:=za hgh;have HGR2:=za hgr;clear hown' hgrow hnil hgb hgh hgr hc6))
 have HNG2:Hid (by'<g2):=za (by have:=HBY.out;have:=HGB2.out;omega);have HY20:Hid ((w19.setCell ⟨by',5,none⟩ (.slice (some ⟨g2,0,none⟩) 6 cz)).heap[by']?=some (.cells #[.string u.cls,.string u.name,.int .i64 u.args,.int .i64 3,.int .i64 u.frame,.slice (some ⟨g2,0,none⟩) 6 cz,.slice none u.guards.length 0] 25)):=za (yk _ _ 5 _ _ _ HY19.out);have HB20:Hid (Below w17.heap.size w17 (w19.setCell ⟨by',5,none⟩ (.slice (some ⟨g2,0,none⟩) 6 cz))):=za ((((HBN.out.step (zd _ _)).grown HGW2.out (HBN.out.step (zd _ _)).size (fun r e=>by cases e;exact HBN.out.size))).setCell (p:=⟨by',5,none⟩) HLY.out _);have HR20:=za (HGR2.out.setOther (b:=by') (k:=5) (v:=.slice (some ⟨g2,0,none⟩) 6 cz) (by have:=HNG2.out;omega));have HH20:Hid ((w19.setCell ⟨by',5,none⟩ (.slice (some ⟨g2,0,none⟩) 6 cz)).heap[g2]?=some (.cells cur2 85 (0,0))):=za ((yF _ _ _ _ (by have:=HNG2.out;show g2≠by';omega)).trans HGH2.out);obtain⟨w20,hw20⟩:∃W,W=w19.setCell ⟨by',5,none⟩ (.slice (some ⟨g2,0,none⟩) 6 cz):=⟨_,rfl⟩
 rw[<-hw20]at HY20 HB20 HR20 HH20;rw[<-hw20];clear hw20 f5 q5' q5 HY19 HGR2 HGH2 HGW2 HY18 HR18 HQ18 HQ17 HR17;have c5:w20.cell? ⟨by',5,none⟩=some (.slice (some ⟨g2,0,none⟩) 6 cz):=(zA _ _ 5 _ _ _ HY20.out).trans rfl;have f9:=Kj HH20.out 9;obtain⟨z9,cg9⟩:∃v,w20.cell? ⟨g2,9,none⟩=some v:=E_ (i:=2) HR20.out (by simp[HXL.out]);obtain⟨z13,cg13⟩:∃v,w20.cell? ⟨g2,13,none⟩=some v:=E_ (i:=3) HR20.out (by simp[HXL.out]);have HGL2:Hid (w17.heap.size<=g2):=za (Nat.le_of_lt (Nat.lt_of_le_of_lt HLY.out HNG2.out));go_upto_region 18 with fail;have c5b:(w20.setCell ⟨g2,9,none⟩ (.int .i64 1)).cell? ⟨by',5,none⟩=some (.slice (some ⟨g2,0,none⟩) 6 cz):=(World.cell?_setCell_other _ _ _ _ (by simp)).trans c5;have cg13b:(w20.setCell ⟨g2,9,none⟩ (.int .i64 1)).cell? ⟨g2,13,none⟩=some z13:=(World.cell?_setCell_other _ _ _ _ (by simp)).trans cg13;have f13:=Kj (yk w20 g2 9 _ _ (.int .i64 1) HH20.out) 13;go_upto_region 19 with fail;have HR22:=za (Ni HUE.out (W:=w20) (g:=g2) HR20.out);have HB22:=za ((HB20.out.setCell (p:=⟨g2,9,none⟩) HGL2.out (.int .i64 1)).setCell (p:=⟨g2,13,none⟩) HGL2.out (.int .i64 1));have HY22:Hid (((w20.setCell ⟨g2,9,none⟩ (.int .i64 1)).setCell ⟨g2,13,none⟩ (.int .i64 1)).heap[by']?=some (.cells #[.string u.cls,.string u.name,.int .i64 u.args,.int .i64 3,.int .i64 u.frame,.slice (some ⟨g2,0,none⟩) 6 cz,.slice none u.guards.length 0] 25)):=za ((yF _ _ _ _ (by have:=HNG2.out;show by'≠g2;omega)).trans ((yF _ _ _ _ (by have:=HNG2.out;show by'≠g2;omega)).trans HY20.out));obtain⟨w22,hw22⟩:∃W,W=(w20.setCell ⟨g2,9,none⟩ (.int .i64 1)).setCell ⟨g2,13,none⟩ (.int .i64 1):=⟨_,rfl⟩
 rw[<-hw22]at HR22 HB22 HY22;rw[<-hw22];clear hw22 f9 f13 cg9 cg13 cg13b c5 c5b HH20 HR20 HB20 HY20;have HE22:=za (HE17.out.below HB22.out);have HT22:=za (HT17.out.below HB22.out);clear HE17 HT17;obtain⟨k0,k1,k2,k3,k4,k5,k6⟩:=zr HE22.out.hx;obtain⟨q0,q1,q2,q3,q4,q5,q6⟩:=zr HY22.out
 have HS19:Hid (Calls prog 18 #[vU u ca cc none 0,.agg #[.string u.cls,.string u.name,.int .i64 u.args,.int .i64 3,.int .i64 u.frame,.slice (some ⟨g2,0,none⟩) 6 cz,.slice none u.guards.length 0],.agg #[.slice (some ⟨w22.heap.size,0,none⟩) 4 4,.slice (some ⟨bt,0,none⟩) 6 6]] (w22.alloc (.cells #[.int .i64 0,.int .i64 1,.int .i64 2,.int .i64 1] 3)) (zV (.int .i64 11) (w22.alloc (.cells #[.int .i64 0,.int .i64 1,.int .i64 2,.int .i64 1] 3)))):=
  za (HC.out.c18 _ 1 g2 cz w22.heap.size bt (some ⟨g2,0,none⟩) (by decide) HC62.out rfl (HE22.out.hm.below (zd _ _)) (HR22.out.below (zd _ _)) (MI (zo _ _ _ rfl)) (HT22.out.below (zd _ _)))
 go_upto_region 20 with (first
  |(go_at_call 18;(with_reducible refine HS19.out.mono ?_);rintro e w23 ⟨rfl,hb⟩;have HBM:=za ((zd w22 (.cells #[.int .i64 0,.int .i64 1,.int .i64 2,.int .i64 1] 3)).step hb);clear hb))
 clear k0 k1 k2 k3 k4 k5 k6 q0 q1 q2 q3 q4 q5 q6 HS19 HR22 HY22;have HE23:=za (HE22.out.below HBM.out);have HT23:=za (HT22.out.below HBM.out);clear HE22 HT22 HBM HB22 HBN HBY HXL HGB2 HC62 HNG2 HGL2 HLY HC HUE H6 HL HC6;go_upto_region 22 with fail
 have HS35:Hid (Calls prog 35 #[.slice pa 4 pc,.slice (some ⟨w23.heap.size,0,none⟩) 4 4] (w23.alloc (.cells #[.int .i64 0,.int .i64 1,.int .i64 0,.int .i64 2,.int .i64 1,.int .i64 2,.int .i64 1,.int .i64 3] 48)) (zV (.bool true) (w23.alloc (.cells #[.int .i64 0,.int .i64 1,.int .i64 0,.int .i64 2,.int .i64 1,.int .i64 2,.int .i64 1,.int .i64 3] 48)))):=
  za (A2 [(0,1),(0,2),(1,2),(1,3)] [(0,1),(0,2),(1,2),(1,3)] pa (some ⟨w23.heap.size,0,none⟩) pc 4 _ (HE23.out.hp.below (zd _ _)) (Ss (zo _ _ _ rfl)) (by decide) (by decide))
 have HSL:Hid (∀W,yC W la [0,1,2,0]->Calls prog 34 #[.slice la 4 lc,.slice (some ⟨W.heap.size,0,none⟩) 4 4] (W.alloc (.cells #[.int .i64 0,.int .i64 1,.int .i64 2,.int .i64 0] 3)) (zV (.bool true) (W.alloc (.cells #[.int .i64 0,.int .i64 1,.int .i64 2,.int .i64 0] 3)))):=
  za (fun W h=>JY [0,1,2,0] [0,1,2,0] la (some ⟨W.heap.size,0,none⟩) lc 4 _ (h.below (zd _ _)) (MI (zo _ _ _ rfl)) (by decide) (by decide))
 have HSH:Hid (∀W,yC W ha [0,1,2,3]->Calls prog 34 #[.slice ha 4 hc,.slice (some ⟨W.heap.size,0,none⟩) 4 4] (W.alloc (.cells #[.int .i64 0,.int .i64 1,.int .i64 2,.int .i64 3] 3)) (zV (.bool true) (W.alloc (.cells #[.int .i64 0,.int .i64 1,.int .i64 2,.int .i64 3] 3)))):=
  za (fun W h=>JY [0,1,2,3] [0,1,2,3] ha (some ⟨W.heap.size,0,none⟩) hc 4 _ (h.below (zd _ _)) (MI (zo _ _ _ rfl)) (by decide) (by decide))
 have HST:Hid (∀W,yC W ta [0,1,2,3,4,5]->yC W (some ⟨bt,0,none⟩) [0,1,2,3,4,5]->Calls prog 34 #[.slice ta 6 tc,.slice (some ⟨bt,0,none⟩) 6 6] W (zV (.bool true) W)):=
  za (fun W h h2=>JY [0,1,2,3,4,5] [0,1,2,3,4,5] ta (some ⟨bt,0,none⟩) tc 6 _ h h2 (by decide) (by decide))
 go_upto_region 23 with (first
  |(go_at_call 35;(with_reducible refine HS35.out.mono ?_);rintro e wa ⟨rfl,hb⟩;have HEa:=za (HE23.out.below ((zd _ _).step hb));have HTa:=za (HT23.out.below ((zd _ _).step hb));clear hb)
  |(go_at_call 34;(with_reducible refine(HSL.out wa HEa.out.hl).mono ?_);rintro e wb ⟨rfl,hb⟩;have HEb:=za (HEa.out.below ((zd _ _).step hb));have HTb:=za (HTa.out.below ((zd _ _).step hb));have g0:wb.cell? ⟨b1+1,0,none⟩=some (.slice ha 4 hc):=(zA _ _ 0 _ _ _ HEb.out.hg).trans rfl;clear hb)
  |(go_at_call 34;(with_reducible refine(HSH.out wb HEb.out.hh).mono ?_);rintro e wc ⟨rfl,hb⟩;have HEc:=za (HEb.out.below ((zd _ _).step hb));have HTc:=za (HTb.out.below ((zd _ _).step hb));have g1:wc.cell? ⟨b1+1,1,none⟩=some (.slice ta 6 tc):=(zA _ _ 1 _ _ _ HEc.out.hg).trans rfl;clear hb)
  |(go_at_call 34;(with_reducible refine(HST.out wc HEc.out.ht HTc.out).mono ?_);rintro e wd ⟨rfl,hb⟩;have HEd:=za (HEc.out.below hb);have g3:wd.cell? ⟨b1,3,none⟩=some (.int .i64 4):=(zA _ _ 3 _ _ _ HEd.out.hv).trans rfl;have g5:wd.cell? ⟨b1,5,none⟩=some (.slice da 6 dc):=(zA _ _ 5 _ _ _ HEd.out.hv).trans rfl;clear hb))
 go_wp2;go_ret;exact⟨rfl,HEd.out.hb⟩
end Go.Proofs.YtgalekifgnecjaaGreat
