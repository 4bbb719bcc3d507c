/- The reference of layer 8: Reads -/
import Derived.Test.YtgalekifgnecjaaGreatZ1
import Derived.Test.YtgalekifgnecjaaGreatN1
namespace Go.Proofs.YtgalekifgnecjaaGreat
open Tryz Go.RowKit
open Go.RowKit Go.Shelf
set_option maxHeartbeats 8000000
set_option maxRecDepth 100000
attribute [local go_sem] Oper.semAt_some
attribute [local irreducible] wpStill
theorem XS(i:zm)(w:World):Calls prog 115 #[vI i] w (Za (zp i) w):=by
  have HF:=za (Qm i.op);have HP:=za (Aa i);obtain⟨-,hr0,hr1,-⟩:=Ou i.op;obtain⟨hs0,hs1,-⟩:=ZB i.op;rw[<-hr0]at hs0;rw[<-hr1]at hs1;obtain⟨RU,hru⟩:∃RU:Nat->List Int,RU=K4 (zM i.op) i:=⟨_,rfl⟩
  have HR0:Hid (RU 0= []):=za (by rw[hru];rfl);have HR1:Hid (RU 1=ye i (Yv i.op).r0):=za (by rw[hru,hr0];rfl);have HR2:Hid (RU 2=RU 1++ye i (Yv i.op).r1):=za (by rw[hru,hr1];rfl);have HPL:Hid (zp i=RU 2):=za (by rw[hru];rfl);have HLN:=za (fun k=>(by rw[hru];exact E8 _ _ k:(RU k).length<=2));have H0:=za hs0;have H1:=za hs1;clear hru hr0 hr1 hs0 hs1;generalize Yv i.op=r at *;obtain⟨h0,h1,h2,wr',r0,r1,rs⟩:=r;dsimp only at HR1 HR2 H0 H1;have HX0:=za (zo w (.cells #[.int .i64 i.op,.int .i64 i.a,.int .i64 i.b,.int .i64 i.c] 85) _ rfl);have HB:=za (zd w (.cells #[.int .i64 i.op,.int .i64 i.a,.int .i64 i.b,.int .i64 i.c] 85));go_enter func115,ntmps115;go_upto_region 4 with (go_at_call 130;(with_reducible refine(HF.out _).mono ?_);rintro e w1 ⟨rfl,hb⟩;have HX1:=za (zo w1 (.cells (cR ⟨h0,h1,h2,wr',r0,r1,rs⟩) 169) _ rfl);replace HX0:=za (zb (hb.step (zd w1 (.cells (cR ⟨h0,h1,h2,wr',r0,r1,rs⟩) 169))) HX0.out);replace HB:=za (HB.out.step (hb.step (zd w1 (.cells (cR ⟨h0,h1,h2,wr',r0,r1,rs⟩) 169))));clear hb);obtain⟨bx,hbx⟩:∃bx,bx=w1.heap.size:=⟨_,rfl⟩
  rw[<-hbx]at HX1;rw[<-hbx];obtain⟨w2,hw2⟩:∃w2,w2=w1.alloc (.cells (cR ⟨h0,h1,h2,wr',r0,r1,rs⟩) 169):=⟨_,rfl⟩
  rw[<-hw2]at HX1 HX0 HB
  try rw[<-hw2]
  clear hw2 hbx;go_loopg [5,6] 2 (fun gh s5 s6 wr=>∃k:Nat,k<=2/\gh=2-k/\s6= .int .i64 k/\Hid (zu wr w2.heap.size s5 (RU k)/\Below w2.heap.size w2 wr));case atStart=>exact⟨0,zE _,rfl,rfl,za ⟨by rw[HR0.out];exact jd _ _ _ _,zG _ _⟩⟩
  case round=>
    obtain⟨k,hk,rfl,rfl,HK⟩:=hrel;have hlen:=HLN.out k;have hsz:=HK.out.2.size;have HXW:=za (zb HK.out.2 HX0.out);have HYW:=za (zb HK.out.2 HX1.out);obtain⟨k0,k1,k2,k3⟩:=zX HXW.out;obtain⟨-,z0,z1,-⟩:=JJ HYW.out;have HBD:=za hsz;by_cases hlt:k<2
    · rcases(show k=0\/k=1 by omega)with rfl|rfl
      · rw[show((0:Nat):Int)=0 from rfl]
        have HQ:=za H0.out;have HE:Hid (RU (0+1)=RU 0++ye i r0):=za (by rw[HR0.out];exact HR1.out);have z:=z0;clear z0 z1;rcases HQ.out with e|e|e
        · have HS:Hid (RU (0+1)=RU 0++ye i 0):=za (by rw[HE.out,e])
          have zq:wr.cell? ⟨bx,4,none⟩=some (.int .i64 0):=by rw[z,e]
          have HSK:Hid (∀W,Below w2.heap.size w2 W->W.cell? ⟨w.heap.size,0,none⟩=some (.int .i64 i.op)/\W.cell? ⟨w.heap.size,1,none⟩=some (.int .i64 i.a)/\W.cell? ⟨w.heap.size,2,none⟩=some (.int .i64 i.b)/\W.cell? ⟨w.heap.size,3,none⟩=some (.int .i64 i.c)/\W.cell? ⟨bx,4,none⟩=some (.int .i64 0)):=za (fun W hW=>by
            obtain⟨a0,a1,a2,a3⟩:=zX (zb hW HX0.out);obtain⟨-,y0,y1,-⟩:=JJ (zb hW HX1.out)
            exact⟨a0,a1,a2,a3,by rw[y0,e]⟩)
          clear e z;have HT:Hid (RU (0+1)=RU 0):=za (by rw[HS.out,xS (.inl (by omega)),qO]);go_upto_region 6 with fail;go_quiet (fail);go_wp2_with fail;go_roundg (2-(0+1));case measure=>omega
          case rel=>exact⟨0+1,by omega,rfl,rfl,za ⟨by rw[HT.out];exact HK.out.1.later (xR (zG _ _) _),xR HK.out.2 _⟩⟩
        · have HS:Hid (RU (0+1)=RU 0++ye i 1):=za (by rw[HE.out,e])
          have zq:wr.cell? ⟨bx,4,none⟩=some (.int .i64 1):=by rw[z,e]
          have HSK:Hid (∀W,Below w2.heap.size w2 W->W.cell? ⟨w.heap.size,0,none⟩=some (.int .i64 i.op)/\W.cell? ⟨w.heap.size,1,none⟩=some (.int .i64 i.a)/\W.cell? ⟨w.heap.size,2,none⟩=some (.int .i64 i.b)/\W.cell? ⟨w.heap.size,3,none⟩=some (.int .i64 i.c)/\W.cell? ⟨bx,4,none⟩=some (.int .i64 1)):=za (fun W hW=>by
            obtain⟨a0,a1,a2,a3⟩:=zX (zb hW HX0.out);obtain⟨-,y0,y1,-⟩:=JJ (zb hW HX1.out)
            exact⟨a0,a1,a2,a3,by rw[y0,e]⟩)
          clear e z;have q0:=fun d os=>cell_regrown k0 d os
          have q1:=fun d os=>cell_regrown k1 d os
          have q2:=fun d os=>cell_regrown k2 d os
          have q3:=fun d os=>cell_regrown k3 d os
          have q4:=fun d os=>cell_regrown zq d os
          have HPQ:Hid (∀w,Calls prog 146 #[vI i,.int .i64 1] w (zV (.int .i64 i.a) w)):=za (fun w=>HP.out 1 (by omega) w);go_upto_region 6 with fail;refine wp_region_quiet_below (by kernel_rfl) (by kernel_rfl) ?_
          repeat (go_big_quiet_step ((go_at_call 146;exact Calls.regrown_of (HPQ.out _))))
          refine wpQuiet_nil ?_;rintro _ ⟨p9,rfl⟩;have hb9:=below_regrown wr p9.d p9.os;generalize Go.Sort.grow (redrawn wr p9.d) p9.os=wq at *;have HK2:Hid (zu wq w2.heap.size u5 (RU 0)/\Below w2.heap.size w2 wq):=za ⟨HK.out.1.later hb9,HK.out.2.step hb9⟩;replace hsz:=HK2.out.2.size;obtain⟨k0,k1,k2,k3⟩:=zX (zb HK2.out.2 HX0.out);obtain⟨-,z0,z1,-⟩:=JJ (zb HK2.out.2 HX1.out);replace zq:=(zK hb9 zq)
          clear q0 q1 q2 q3 q4 z0 z1 HK hb9;by_cases hn:i.a= -1
          · have d:(i.a != -1)=false:=by rw[hn];rfl
            have HT:Hid (RU (0+1)=RU 0):=za (by rw[HS.out,xS (i:=i) (k:=1) (.inr hn),qO]);clear hn;go_wp2_with fail;go_roundg (2-(0+1));case measure=>omega
            case rel=>exact⟨0+1,by omega,rfl,rfl,za ⟨by rw[HT.out];exact HK2.out.1,HK2.out.2⟩⟩
          · have d:(i.a != -1)=true:=by simpa using hn
            have HT:Hid (RU (0+1)=RU 0++ [i.a]):=za (by rw[HS.out,jM (i:=i) (k:=1) (by omega) hn];rfl);clear hn;go_upto_region 7 with fail
            go_region_held_law (fun W=>W.cell? ⟨w.heap.size,0,none⟩=some (.int .i64 i.op)/\W.cell? ⟨w.heap.size,1,none⟩=some (.int .i64 i.a)/\W.cell? ⟨w.heap.size,2,none⟩=some (.int .i64 i.b)/\W.cell? ⟨w.heap.size,3,none⟩=some (.int .i64 i.c)/\W.cell? ⟨bx,4,none⟩=some (.int .i64 1))
              (first|exact HSK.out _ HK2.out.2|exact HSK.out _ (HK2.out.2.step (zt _))|exact HSK.out _ HA5.out.2|exact HSK.out _ (HA5.out.2.drew)|exact HSK.out _ (HK2.out.2.step (HB4.out.step (by repeat (first|exact zG _ _|refine yX ?_|refine qD ?_ _)))))
              (first
              | (refine zT _ rfl (.tmp 31) (.tmp 38) rfl w2.heap.size u5 (RU 0) [i.a] (by rfl) (by exact HK2.out.1.later (HB4.out.step (by repeat (first|exact zG _ _|refine yX ?_|refine qD ?_ _)))) (some ⟨w4.heap.size,0,none⟩) 1 1 rfl (by rfl) (by first|exact yJ _ _ _|exact(yJ _ _ _).below (zt _)) (by simp;omega) (by have:=HB4.out.size;simp;try omega) ?_
                 intro v5 w5 hown5 hg5 hat5;have HA5:Hid (zu w5 w2.heap.size v5 (RU 0++ [i.a])/\Below w2.heap.size w2 w5):=za ⟨hown5,xX (HK2.out.2.step (HB4.out.step (by repeat (first|exact zG _ _|refine yX ?_|refine qD ?_ _)))) hg5 (by have:=HB4.out.size;simp;try omega) (zy HK2.out.1)⟩
                 clear hown5 hg5 hat5)
              | (go_at_call 146;refine(HPQ.out _).mono ?_;rintro e w4 ⟨rfl,hb4⟩;(have HB4:Hid (Below wq.heap.size wq w4):=za (by first|exact hb4|exact(zt _).step hb4));clear hb4))
            all_goals
              go_wp2_with fail;go_roundg (2-(0+1));case measure=>omega
              case rel=>exact⟨0+1,by omega,rfl,rfl,za ⟨by rw[HT.out];exact HA5.out.1,HA5.out.2⟩⟩
        · have HS:Hid (RU (0+1)=RU 0++ye i 2):=za (by rw[HE.out,e])
          have zq:wr.cell? ⟨bx,4,none⟩=some (.int .i64 2):=by rw[z,e]
          have HSK:Hid (∀W,Below w2.heap.size w2 W->W.cell? ⟨w.heap.size,0,none⟩=some (.int .i64 i.op)/\W.cell? ⟨w.heap.size,1,none⟩=some (.int .i64 i.a)/\W.cell? ⟨w.heap.size,2,none⟩=some (.int .i64 i.b)/\W.cell? ⟨w.heap.size,3,none⟩=some (.int .i64 i.c)/\W.cell? ⟨bx,4,none⟩=some (.int .i64 2)):=za (fun W hW=>by
            obtain⟨a0,a1,a2,a3⟩:=zX (zb hW HX0.out);obtain⟨-,y0,y1,-⟩:=JJ (zb hW HX1.out)
            exact⟨a0,a1,a2,a3,by rw[y0,e]⟩)
          clear e z;have q0:=fun d os=>cell_regrown k0 d os
          have q1:=fun d os=>cell_regrown k1 d os
          have q2:=fun d os=>cell_regrown k2 d os
          have q3:=fun d os=>cell_regrown k3 d os
          have q4:=fun d os=>cell_regrown zq d os
          have HPQ:Hid (∀w,Calls prog 146 #[vI i,.int .i64 2] w (zV (.int .i64 i.b) w)):=za (fun w=>HP.out 2 (by omega) w);go_upto_region 6 with fail;refine wp_region_quiet_below (by kernel_rfl) (by kernel_rfl) ?_
          repeat (go_big_quiet_step ((go_at_call 146;exact Calls.regrown_of (HPQ.out _))))
          refine wpQuiet_nil ?_;rintro _ ⟨p9,rfl⟩;have hb9:=below_regrown wr p9.d p9.os;generalize Go.Sort.grow (redrawn wr p9.d) p9.os=wq at *;have HK2:Hid (zu wq w2.heap.size u5 (RU 0)/\Below w2.heap.size w2 wq):=za ⟨HK.out.1.later hb9,HK.out.2.step hb9⟩;replace hsz:=HK2.out.2.size;obtain⟨k0,k1,k2,k3⟩:=zX (zb HK2.out.2 HX0.out);obtain⟨-,z0,z1,-⟩:=JJ (zb HK2.out.2 HX1.out);replace zq:=(zK hb9 zq)
          clear q0 q1 q2 q3 q4 z0 z1 HK hb9;by_cases hn:i.b= -1
          · have d:(i.b != -1)=false:=by rw[hn];rfl
            have HT:Hid (RU (0+1)=RU 0):=za (by rw[HS.out,xS (i:=i) (k:=2) (.inr hn),qO]);clear hn;go_wp2_with fail;go_roundg (2-(0+1));case measure=>omega
            case rel=>exact⟨0+1,by omega,rfl,rfl,za ⟨by rw[HT.out];exact HK2.out.1,HK2.out.2⟩⟩
          · have d:(i.b != -1)=true:=by simpa using hn
            have HT:Hid (RU (0+1)=RU 0++ [i.b]):=za (by rw[HS.out,jM (i:=i) (k:=2) (by omega) hn];rfl);clear hn;go_upto_region 7 with fail
            go_region_held_law (fun W=>W.cell? ⟨w.heap.size,0,none⟩=some (.int .i64 i.op)/\W.cell? ⟨w.heap.size,1,none⟩=some (.int .i64 i.a)/\W.cell? ⟨w.heap.size,2,none⟩=some (.int .i64 i.b)/\W.cell? ⟨w.heap.size,3,none⟩=some (.int .i64 i.c)/\W.cell? ⟨bx,4,none⟩=some (.int .i64 2))
              (first|exact HSK.out _ HK2.out.2|exact HSK.out _ (HK2.out.2.step (zt _))|exact HSK.out _ HA5.out.2|exact HSK.out _ (HA5.out.2.drew)|exact HSK.out _ (HK2.out.2.step (HB4.out.step (by repeat (first|exact zG _ _|refine yX ?_|refine qD ?_ _)))))
              (first
              | (refine zT _ rfl (.tmp 31) (.tmp 38) rfl w2.heap.size u5 (RU 0) [i.b] (by rfl) (by exact HK2.out.1.later (HB4.out.step (by repeat (first|exact zG _ _|refine yX ?_|refine qD ?_ _)))) (some ⟨w4.heap.size,0,none⟩) 1 1 rfl (by rfl) (by first|exact yJ _ _ _|exact(yJ _ _ _).below (zt _)) (by simp;omega) (by have:=HB4.out.size;simp;try omega) ?_
                 intro v5 w5 hown5 hg5 hat5;have HA5:Hid (zu w5 w2.heap.size v5 (RU 0++ [i.b])/\Below w2.heap.size w2 w5):=za ⟨hown5,xX (HK2.out.2.step (HB4.out.step (by repeat (first|exact zG _ _|refine yX ?_|refine qD ?_ _)))) hg5 (by have:=HB4.out.size;simp;try omega) (zy HK2.out.1)⟩
                 clear hown5 hg5 hat5)
              | (go_at_call 146;refine(HPQ.out _).mono ?_;rintro e w4 ⟨rfl,hb4⟩;(have HB4:Hid (Below wq.heap.size wq w4):=za (by first|exact hb4|exact(zt _).step hb4));clear hb4))
            all_goals
              go_wp2_with fail;go_roundg (2-(0+1));case measure=>omega
              case rel=>exact⟨0+1,by omega,rfl,rfl,za ⟨by rw[HT.out];exact HA5.out.1,HA5.out.2⟩⟩
      · rw[show((1:Nat):Int)=1 from rfl]
        have HQ:=za H1.out;have HE:Hid (RU (1+1)=RU 1++ye i r1):=za (by exact HR2.out);have z:=z1;clear z0 z1;rcases HQ.out with e|e
        · have HS:Hid (RU (1+1)=RU 1++ye i 0):=za (by rw[HE.out,e])
          have zq:wr.cell? ⟨bx,5,none⟩=some (.int .i64 0):=by rw[z,e]
          have HSK:Hid (∀W,Below w2.heap.size w2 W->W.cell? ⟨w.heap.size,0,none⟩=some (.int .i64 i.op)/\W.cell? ⟨w.heap.size,1,none⟩=some (.int .i64 i.a)/\W.cell? ⟨w.heap.size,2,none⟩=some (.int .i64 i.b)/\W.cell? ⟨w.heap.size,3,none⟩=some (.int .i64 i.c)/\W.cell? ⟨bx,5,none⟩=some (.int .i64 0)):=za (fun W hW=>by
            obtain⟨a0,a1,a2,a3⟩:=zX (zb hW HX0.out);obtain⟨-,y0,y1,-⟩:=JJ (zb hW HX1.out)
            exact⟨a0,a1,a2,a3,by rw[y1,e]⟩)
          clear e z;have HT:Hid (RU (1+1)=RU 1):=za (by rw[HS.out,xS (.inl (by omega)),qO]);go_upto_region 6 with fail;go_quiet (fail);go_wp2_with fail;go_roundg (2-(1+1));case measure=>omega
          case rel=>exact⟨1+1,by omega,rfl,rfl,za ⟨by rw[HT.out];exact HK.out.1.later (xR (zG _ _) _),xR HK.out.2 _⟩⟩
        · have HS:Hid (RU (1+1)=RU 1++ye i 3):=za (by rw[HE.out,e])
          have zq:wr.cell? ⟨bx,5,none⟩=some (.int .i64 3):=by rw[z,e]
          have HSK:Hid (∀W,Below w2.heap.size w2 W->W.cell? ⟨w.heap.size,0,none⟩=some (.int .i64 i.op)/\W.cell? ⟨w.heap.size,1,none⟩=some (.int .i64 i.a)/\W.cell? ⟨w.heap.size,2,none⟩=some (.int .i64 i.b)/\W.cell? ⟨w.heap.size,3,none⟩=some (.int .i64 i.c)/\W.cell? ⟨bx,5,none⟩=some (.int .i64 3)):=za (fun W hW=>by
            obtain⟨a0,a1,a2,a3⟩:=zX (zb hW HX0.out);obtain⟨-,y0,y1,-⟩:=JJ (zb hW HX1.out)
            exact⟨a0,a1,a2,a3,by rw[y1,e]⟩)
          clear e z;have q0:=fun d os=>cell_regrown k0 d os
          have q1:=fun d os=>cell_regrown k1 d os
          have q2:=fun d os=>cell_regrown k2 d os
          have q3:=fun d os=>cell_regrown k3 d os
          have q4:=fun d os=>cell_regrown zq d os
          have HPQ:Hid (∀w,Calls prog 146 #[vI i,.int .i64 3] w (zV (.int .i64 i.c) w)):=za (fun w=>HP.out 3 (by omega) w);go_upto_region 6 with fail;refine wp_region_quiet_below (by kernel_rfl) (by kernel_rfl) ?_
          repeat (go_big_quiet_step ((go_at_call 146;exact Calls.regrown_of (HPQ.out _))))
          refine wpQuiet_nil ?_;rintro _ ⟨p9,rfl⟩;have hb9:=below_regrown wr p9.d p9.os;generalize Go.Sort.grow (redrawn wr p9.d) p9.os=wq at *;have HK2:Hid (zu wq w2.heap.size u5 (RU 1)/\Below w2.heap.size w2 wq):=za ⟨HK.out.1.later hb9,HK.out.2.step hb9⟩;replace hsz:=HK2.out.2.size;obtain⟨k0,k1,k2,k3⟩:=zX (zb HK2.out.2 HX0.out);obtain⟨-,z0,z1,-⟩:=JJ (zb HK2.out.2 HX1.out);replace zq:=(zK hb9 zq)
          clear q0 q1 q2 q3 q4 z0 z1 HK hb9;by_cases hn:i.c= -1
          · have d:(i.c != -1)=false:=by rw[hn];rfl
            have HT:Hid (RU (1+1)=RU 1):=za (by rw[HS.out,xS (i:=i) (k:=3) (.inr hn),qO]);clear hn;go_wp2_with fail;go_roundg (2-(1+1));case measure=>omega
            case rel=>exact⟨1+1,by omega,rfl,rfl,za ⟨by rw[HT.out];exact HK2.out.1,HK2.out.2⟩⟩
          · have d:(i.c != -1)=true:=by simpa using hn
            have HT:Hid (RU (1+1)=RU 1++ [i.c]):=za (by rw[HS.out,jM (i:=i) (k:=3) (by omega) hn];rfl);clear hn;go_upto_region 7 with fail
            go_region_held_law (fun W=>W.cell? ⟨w.heap.size,0,none⟩=some (.int .i64 i.op)/\W.cell? ⟨w.heap.size,1,none⟩=some (.int .i64 i.a)/\W.cell? ⟨w.heap.size,2,none⟩=some (.int .i64 i.b)/\W.cell? ⟨w.heap.size,3,none⟩=some (.int .i64 i.c)/\W.cell? ⟨bx,5,none⟩=some (.int .i64 3))
              (first|exact HSK.out _ HK2.out.2|exact HSK.out _ (HK2.out.2.step (zt _))|exact HSK.out _ HA5.out.2|exact HSK.out _ (HA5.out.2.drew)|exact HSK.out _ (HK2.out.2.step (HB4.out.step (by repeat (first|exact zG _ _|refine yX ?_|refine qD ?_ _)))))
              (first
              | (refine zT _ rfl (.tmp 31) (.tmp 38) rfl w2.heap.size u5 (RU 1) [i.c] (by rfl) (by exact HK2.out.1.later (HB4.out.step (by repeat (first|exact zG _ _|refine yX ?_|refine qD ?_ _)))) (some ⟨w4.heap.size,0,none⟩) 1 1 rfl (by rfl) (by first|exact yJ _ _ _|exact(yJ _ _ _).below (zt _)) (by simp;omega) (by have:=HB4.out.size;simp;try omega) ?_
                 intro v5 w5 hown5 hg5 hat5;have HA5:Hid (zu w5 w2.heap.size v5 (RU 1++ [i.c])/\Below w2.heap.size w2 w5):=za ⟨hown5,xX (HK2.out.2.step (HB4.out.step (by repeat (first|exact zG _ _|refine yX ?_|refine qD ?_ _)))) hg5 (by have:=HB4.out.size;simp;try omega) (zy HK2.out.1)⟩
                 clear hown5 hg5 hat5)
              | (go_at_call 146;refine(HPQ.out _).mono ?_;rintro e w4 ⟨rfl,hb4⟩;(have HB4:Hid (Below wq.heap.size wq w4):=za (by first|exact hb4|exact(zt _).step hb4));clear hb4))
            all_goals
              go_wp2_with fail;go_roundg (2-(1+1));case measure=>omega
              case rel=>exact⟨1+1,by omega,rfl,rfl,za ⟨by rw[HT.out];exact HA5.out.1,HA5.out.2⟩⟩
    · obtain rfl:k=2:=by omega
      go_wp2_with fail;go_ret;exact⟨HB.out.step HK.out.2,_,rfl,by rw[HPL.out];exact HK.out.1.mono HB.out.size⟩
theorem R1(u:zg)(t:Nat)(ht:t<u.code.length)(hlen:u.code.length<=600)(ca cc ga gc)(w:World)(hm:Qz w ca u.code):
  Calls prog 120 #[vU u ca cc ga gc,.int .i64 t] w (Za (yU u t) w):=by
 have HBS:=za (Zn u t);have HB1:Hid (XF u t=if (!(qq (u.code.getD t zw))&&decide (t+1<u.code.length))=true then [((t:Int)+1)]else []):=za rfl;rw[zk ht]at HBS HB1;have HB0:=za (zd w (oU u ca cc ga gc));have HX0:=za (zo w (oU u ca cc ga gc) _ rfl);obtain⟨bc,oc,hca,hlc2,c0,c1,c2,c3⟩:=hm.below HB0.out t ht;subst hca;have HEN:=za (fun w=>Av u.code[t] w);obtain⟨k0,k1,k2,k3,k4,k5,k6⟩:=zr HX0.out;have nt:(t:Int)<(u.code.length:Int):=by omega
 have nt1:(t:Int)+1<=600:=by omega
 have HM:=za hm;clear hm;generalize u.code[t]=i at *;go_enter func120,ntmps120;go_upto_region 2 with fail;obtain⟨w1,hw1⟩:∃w1,w1=w.alloc (oU u (some ⟨bc,oc,none⟩) cc ga gc):=⟨_,rfl⟩
 rw[<-hw1]at HB0 HX0;rw[<-hw1];have HS1:Hid (w1.heap.size=w.heap.size+1):=za (by rw[hw1];simp);clear hw1 k0 k1 k2 k3 k4 k5 k6 c0 c1 c2 c3 hlc2;obtain⟨w2,hw2⟩:∃w2,w2=w1.alloc (.cells #[.int .i64 i.op,.int .i64 i.a,.int .i64 i.b,.int .i64 i.c] 85):=⟨_,rfl⟩
 have HX2:Hid (w2.heap[w.heap.size+1]?=some (.cells #[.int .i64 i.op,.int .i64 i.a,.int .i64 i.b,.int .i64 i.c] 85)):=za (by rw[hw2];exact zo _ _ _ HS1.out.symm);have HF2:Hid (w2.heap[w.heap.size]?=some (oU u (some ⟨bc,oc,none⟩) cc ga gc)):=za (by rw[hw2];exact zb (zd _ _) HX0.out);have HB2:Hid (Below w.heap.size w w2):=za (by rw[hw2];exact HB0.out.step (zd _ _));rw[<-hw2];clear hw2 HX0 HB0;obtain⟨L1,hL1⟩:∃L,L=XF u t:=⟨_,rfl⟩
 rw[<-hL1]at HBS HB1;clear hL1;obtain⟨q0,q1,q2,q3⟩:=zX HX2.out
 have hsplit:(L1= []/\(qq i=true\/(qq i=false/\¬t+1<u.code.length)))\/(L1= [((t:Int)+1)]/\qq i=false/\t+1<u.code.length):=by
  have h:=HB1.out;by_cases hl:t+1<u.code.length
  ·cases he:qq i with
   |true=>rw[he]at h;exact .inl ⟨h,.inl rfl⟩
   |false=>rw[he]at h;exact .inr ⟨by rw[h];simp[hl],rfl,hl⟩
  ·cases he:qq i with
   |true=>rw[he]at h;exact .inl ⟨h,.inl rfl⟩
   |false=>rw[he]at h;exact .inl ⟨by rw[h];simp[hl],.inr ⟨rfl,hl⟩⟩
 clear HB1;have hl1:L1.length<=1:=by rcases hsplit with ⟨rfl,_⟩|⟨rfl,_⟩<;>simp
 have HJ:=za (fun w=>Ai i w);rcases hsplit with ⟨hL,he|⟨he,hl⟩⟩|⟨hL,he,hl⟩
 case' inl.inl=>
  rw[he]at HEN;clear he
  go_upto_region 5 with (first
   |(go_at_call 117;(with_reducible refine(HEN.out _).mono ?_);rintro e wc ⟨rfl,hb⟩;have HW:=za hb;clear hb))
  have HO:Hid (zu wc (w.heap.size+2) (.slice none 0 0) L1):=za (by rw[hL];exact jd _ _ _ _)
 case' inl.inr=>
  rw[he]at HEN;clear he;have hl2:¬(t:Int)+1<(u.code.length:Int):=by omega
  go_upto_region 5 with (first
   |(go_at_call 117;(with_reducible refine(HEN.out _).mono ?_);rintro e wc ⟨rfl,hb⟩;obtain⟨j0,j1,j2,j3,j4,j5,j6⟩:=zr (zb hb HF2.out);have HW:=za hb;clear hb))
  clear j0 j1 j2 j3 j4 j5 j6;have HO:Hid (zu wc (w.heap.size+2) (.slice none 0 0) L1):=za (by rw[hL];exact jd _ _ _ _)
 case' inr=>
  rw[he]at HEN;clear he;have hl2:(t:Int)+1<(u.code.length:Int):=by omega
  go_upto_region 5 with (first
   |(go_at_call 117;(with_reducible refine(HEN.out _).mono ?_);rintro e w3 ⟨rfl,hb⟩;obtain⟨j0,j1,j2,j3,j4,j5,j6⟩:=zr (zb hb HF2.out);have HB3:=za hb;have hsz:=ze (zb hb HX2.out);clear hb)
   |(at_builtin;refine zv _ rfl _ _ rfl (w.heap.size+2) _ [] [((t:Int)+1)] rfl (show zu _ (w.heap.size+2) (.slice none 0 0) []from jd _ _ _ _) (some ⟨_,0,none⟩) 1 rfl (yJ _ _ _) (by simp) (by simp;omega) ?_;intro v' wc hown' hgrow hnil))
  clear j0 j1 j2 j3 j4 j5 j6;have HO:Hid (zu wc (w.heap.size+2) v' L1):=za (by rw[hL];exact hown');have HW:Hid (Below w2.heap.size w2 wc):=za ((HB3.out.step (zd _ _)).trans ⟨hgrow.os,hgrow.tape,hgrow.output,hgrow.size,fun k hk=>hgrow.block k (by have:=HB3.out.size;simp;omega) (show some k≠(Value.slice none 0 0).ownBlock from by simp[Value.ownBlock])⟩);clear hown' hgrow hnil
 all_goals
  have HBW:=za (HB2.out.step HW.out);obtain⟨r0,r1,r2,r3⟩:=zX (zb HW.out HX2.out);have HOB:=za (zy HO.out);have HSZ:=za (ze (zb HW.out HX2.out));have HJV:Hid (OY i= .tuple #[.int .i64 ((zQ i).getD 0),.bool (zQ i).isSome]):=za rfl;obtain⟨po,hpo⟩:∃p,p=zQ i:=⟨_,rfl⟩
  rw[<-hpo]at HJV HBS;rw[HJV.out]at HJ;clear hpo HEN HJV q0 q1 q2 q3
  cases po with
  |none=>
   go_wp2_with (go_at_call 131;(with_reducible refine(HJ.out _).mono ?_);rintro e w4 ⟨rfl,hb4⟩;have HB4:=za hb4;clear hb4);go_ret
   exact⟨HBW.out.step HB4.out,_,rfl,by rw[HBS.out];exact zu.mono (zu.later HO.out HB4.out) (by omega)⟩
  |some x=>
   have HAD:=za (fun(wx:World) (hb:Below wc.heap.size wc wx)=>Oa (w.heap.size+2) _ L1 x wx (zu.later HO.out hb) (by omega) (by have h1:=HSZ.out;have h2:=hb.size;omega))
   go_wp2_with (first
    |(go_at_call 131;(with_reducible refine(HJ.out _).mono ?_);rintro e w4 ⟨rfl,hb4⟩;have HB4:=za hb4;clear hb4)
    |(go_at_call 119;(with_reducible refine(HAD.out _ HB4.out).mono ?_);rintro e w9 ⟨v3,rfl,ho3,hg3,_⟩;have HO3:=za ho3;have HG3:=za hg3;clear ho3 hg3))
   go_ret;refine⟨(HBW.out.step HB4.out).grown HG3.out (by have:=HBW.out.size;have:=HB4.out.size;omega) (fun r e=>by have:=HOB.out r e;omega),_,rfl,by rw[HBS.out];exact zu.mono HO3.out (by omega)⟩
end Go.Proofs.YtgalekifgnecjaaGreat
