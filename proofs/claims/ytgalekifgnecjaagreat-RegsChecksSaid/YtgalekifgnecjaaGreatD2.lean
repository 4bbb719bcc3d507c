/- A loop over an iterator that hands facts on with each element, and whose round may panic;  -/
import Derived.Test.YtgalekifgnecjaaGreatB4
import Derived.Test.YtgalekifgnecjaaGreatC9
import Derived.Sort.CutIn
import Derived.Deep.RegionWith
namespace Go.Proofs.YtgalekifgnecjaaGreat
open Tryz Go.RowKit
open Go.RowKit Go.Shelf
set_option maxHeartbeats 8000000
set_option maxRecDepth 100000
section
variable {P:Program} {f n:Nat} {Q:Exit->Act->World->Prop} {a:Act} {w:World}
def xy(P:Program)(f _n:Nat)(c:Code)(Q:Exit->Act->World->Prop)(a:Act)(w:World):Prop:=
 ∀(b:Frame) (k:List Item) (cs:List Frame),b.fn=f->b.roundOf=none ->
  ∃e a' w',Q e a' w'/\ArrivesIn (Machine.fenced P Fence.wide) P (lone (b.atR a (.code c::k)) cs w) b k cs e a' w'
theorem xy.of{c:Code}(h:c.wpIn Fence.wide n P Q a w):xy P f n c Q a w:=fun b k cs _ hr=>h b k cs hr trivial (room_wide _)
theorem xy.seq{x y:Code}(h:xy P f n x (Exit.then (xy P f n y Q) Q) a w):xy P f n (.seq x y) Q a w:=by
 intro b k cs hb hr;obtain⟨e,a1,w1,hq,harr⟩:=h b (.code y::k) cs hb hr;have s0:=fun m (hm:step P (lone (b.atR a (.code (.seq x y)::k)) cs w)= .next m)=>StepsIn.one (I:=Machine.fenced P Fence.wide) (fenced_wide P _) hm
 cases e with
 |normal=>
  obtain⟨e2,a2,w2,hq2,harr2⟩:=hq b k cs hb hr
  exact⟨e2,a2,w2,hq2,.of_steps (.trans (s0 _ stepR_seq) harr) harr2⟩
 |_=>exact⟨_,a1,w1,hq,.of_steps (s0 _ stepR_seq) (.pass (x:=.code y) rfl (fun _ _=> .inl (by simp)) harr)⟩
def PD(Q:Exit->Act->World->Prop):Exit->Act->World->Prop
 |.exit _,_,_=>False
 |.goto _,_,_=>False
 |e,a,w=>Q e a w
theorem xy.block{id:Nat}{c:Code}(h:xy P f n c (PD Q) a w):xy P f n (.block id c) Q a w:=by
 intro b k cs hb hr;obtain⟨e,a1,w1,hq,harr⟩:=h b (.inBlock id::k) cs hb hr;have s0:StepsIn (Machine.fenced P Fence.wide) P (lone (b.atR a (.code (.block id c)::k)) cs w) (lone (b.atR a (.code c:: .inBlock id::k)) cs w):=.one (fenced_wide P _) stepR_block
 cases e with
 |normal=>exact⟨.normal,a1,w1,hq,.trans s0 (.trans harr (.one (fenced_wide P _) stepR_inBlock))⟩
 |exit id'=>exact hq.elim
 |goto l=>exact hq.elim
 |ret=>exact⟨_,a1,w1,hq,.of_steps s0 harr⟩
 |panic ch=>exact⟨_,a1,w1,hq,.of_steps s0 harr⟩
 |outgrown=>exact⟨_,a1,w1,hq,.of_steps s0 harr⟩
theorem xy.mono{c:Code}{Q':Exit->Act->World->Prop}(h:xy P f n c Q a w)(hq:∀e a w,Q e a w->Q' e a w):xy P f n c Q' a w:=
 fun b k cs hb hr=>let ⟨e,a',w',q,r⟩:=h b k cs hb hr;⟨e,a',w',hq _ _ _ q,r⟩
theorem ZJ{fn:Func}{c:Code}{args:Array Value}{R:Ending->World->Prop}(hf:P.funcs[f]?=some fn)(hb:fn.body=some c)
  (h:xy P f n c (bodyPostM Fence.wide n P fn R) { tmps:=args++Array.replicate (fn.ntmps-args.size) undef,defers:=[] } w):CallsIn Fence.wide n P f args w R:=by
 refine⟨trivial,fun cs hr=> ?_⟩
 let b:Frame:={ (default:Frame)with fn:=f,kind:=.normal,roundOf:=none }
 have henter:Frame.enter P f args .normal=b.atR { tmps:=args++Array.replicate (fn.ntmps-args.size) undef,defers:=[] } [.code c]:=by
  simp[Frame.enter,Frame.atR,hf,hb,b]
 obtain⟨e,a',w',hq,harr⟩:=h b [] cs rfl rfl;rw[<-henter]at harr
 cases e with
 |normal=>
  obtain⟨e',w'',fr',hR,hs,hfn,hl⟩:=leaves_stepsInM a'.defers .returning w' { b.atR a' []with mode:=.returning } cs rfl rfl rfl hf rfl trivial hr hq
  exact⟨e',w'',fr',hR,ComesIn.of_steps (StepsIn.trans harr (.one (fenced_wide P _) (stepR_end rfl))) hs,hfn,hl⟩
 |ret=>
  obtain⟨todo,hs0⟩:=harr.1 rfl;obtain⟨e',w'',fr',hR,hs,hfn,hl⟩:=leaves_stepsInM a'.defers .returning w' { b.atR a' todo with mode:=.returning } cs rfl rfl rfl hf rfl trivial hr hq
  exact⟨e',w'',fr',hR,ComesIn.of_steps hs0 hs,hfn,hl⟩
 |panic chain=>
  obtain⟨todo,hs0⟩:=harr;obtain⟨e',w'',fr',hR,hs,hfn,hl⟩:=leaves_stepsInM a'.defers (.panicking chain) w' { b.atR a' todo with mode:=.panicking chain } cs rfl rfl rfl hf rfl trivial hr hq
  exact⟨e',w'',fr',hR,ComesIn.of_steps hs0 hs,hfn,hl⟩
 |exit id=>exact hq.elim
 |goto l=>exact hq.elim
 |outgrown=>exact⟨.outgrown,w',b,hq,harr.resolve_left (by simp[b]),rfl,trivial⟩
def IV(P:Program)(l:Nat)(R:Ending->World->Prop):Exit->Act->World->Prop
 |.normal,_,w=>∃v w',(Instr.endRound l none).run P w= .ok v w'/\R (.returned v) w'
 |.panic ch,a,w=>a.defers= []/\R (.panicked ch) w
 |_,_,_=>False
theorem Gt{l g:Nat}{fn:Func}{tmps:Array Value}{assign body:Code}{R:Ending->World->Prop}(hf:P.funcs[g]?=some fn)
  (h:assign.wpIn (Fence.wide.inRound l) n P (Exit.then (fun a1 w1=>∃w2,(Instr.beginRound l).run P w1= .ok () w2/\body.wpIn (Fence.wide.inRound l) n P (IV P l R) a1 w2) (fun _ _ _=>False)) { tmps:=tmps,defers:=[] } w):
  RoundIn Fence.wide n P l g tmps assign body w R:=by
 refine⟨trivial,fun c cs hr=> ?_⟩
 let b:Frame:={ (default:Frame)with fn:=g,kind:=.normal,roundOf:=some l }
 have hb0:Frame.round l g tmps assign body .normal=b.atR { tmps:=tmps,defers:=[] } [.code assign,.beginRound,.code body]:=by
  simp[Frame.round,Frame.atR,b]
 have hr':(Fence.wide.inRound l).room ((c::cs).length+1+n):=hr;have hF':(Fence.wide.inRound l).fn b.fn:=trivial;obtain⟨e,a1,w1,hq,harr⟩:=h b [.beginRound,.code body] (c::cs) rfl hF' hr';rw[<-hb0]at harr
 cases e with
 |normal=>
  obtain⟨w2,hbr,hbody⟩:=hq
  have s1:StepsIn (Machine.fenced P (Fence.wide.inRound l)) P (lone (b.atR a1 [.beginRound,.code body]) (c::cs) w1) (lone (b.atR a1 [.code body]) (c::cs) w2):=
   .one (fenced_calm (fr:=b.atR a1 [.beginRound,.code body]) hF' hr' rfl) (stepR_beginRound rfl hbr)
  obtain⟨e2,a2,w3,hq2,harr2⟩:=hbody b [] (c::cs) rfl hF' hr'
  cases e2 with
  |normal=>
   obtain⟨v,w4,hend,hR⟩:=hq2
   exact⟨.returned v,w4,hR,(StepsIn.trans harr s1).trans (StepsIn.trans harr2 (.one (fenced_calm (fr:=b.atR a2 []) hF' hr' rfl) (stepR_round_end rfl rfl hend)))⟩
  |panic ch=>
   obtain⟨hd,hR⟩:=hq2;obtain⟨todo,hs⟩:=harr2
   exact⟨.panicked ch,w3,hR,(StepsIn.trans harr s1).trans (StepsIn.trans hs (.one (fenced_wide P _) (step_leave_panicked ⟨rfl,hd,fn,hf⟩)))⟩
  |_=>exact hq2.elim
 |_=>exact hq.elim
def OJ{α: Type}(B:Nat)(Kp:World->World->Prop)(I:List α-> World->Prop)(Ip:List PanicEntry->List α-> World->Prop)(xs:List α)(W:World):Exit->Act->World->Prop
 |.normal,_,W'=>KeepsFrom B W W'/\Kp W W'/\I xs W'
 |.panic ch,a,W'=>a.defers= []/\KeepsFrom B W W'/\Ip ch xs W'
 |_,_,_=>False
def R3{α: Type}(n:Nat)(P:Program)(g:Nat)(lb:Array Value)(encs:α-> Array Value)(Fact:α-> World->Prop)(Kp:World->World->Prop)(S Sp:List α-> Prop)(w:World):Prop:=
 ∀(l:Nat) (J:List α-> World->Prop) (Jp:List PanicEntry->List α-> World->Prop) (W:World),Below w.heap.size w W->AbidesFrom W.heap.size J ->
  (∀pre x W1,J pre W1->Sp (pre++ [x])->Fact x W1->YieldAt Fence.wide (n-1) P l (encs x) W1 fun e W'=>(e= .returned (.bool true)/\J (pre++ [x]) W'/\Kp W1 W')\/∃ch,e= .panicked ch/\Jp ch (pre++ [x]) W') ->
  J [] W ->
  CallsIn Fence.wide n P g (#[.func (.yield l) #[] #[]]++lb) W fun e W'=>((∃v,e= .returned v)/\∃xs,S xs/\J xs W')\/∃ch pre,e= .panicked ch/\Sp pre/\Jp ch pre W'
theorem QM{α: Type}{g:Operand}{ps:Array Tmp}{assign body:Code}{fn:Func}(hf:P.funcs[f]?=some fn)
  (_h1:1<=n) {gf:Nat} {lb:Array Value} (hg:a.eval g= .func (.func gf) #[] lb) (eg:∀args w,(callFunc gf args).run P w= .ok (.enter gf args) w)
  {encs:α-> Array Value} {Fact:α-> World->Prop} {Kp:World->World->Prop} {S Sp:List α-> Prop} {w0:World} (hseq:R3 (n-1) P gf lb encs Fact Kp S Sp w0)
  (hKt:∀ {A B C:World},Kp A B->Kp B C->Kp A C) (hKb:∀(W:World) (l:Nat) (o o':Obj),w.heap.size<=l->W.heap[l]?=some o->o.isCells=false->o.isWalk=false->Kp W (W.putObj l o')) (hb0:Below w0.heap.size w0 w) (hps:∀x,(encs x).size=ps.size)
  (I:List α-> World->Prop) (Ip:List PanicEntry->List α-> World->Prop) (hI:OwnFrom w.heap.size I) (h0:I [] w) (Ax:α-> Act->World->Prop) (hAx:∀x a',OwnFrom w.heap.size (fun(_:Unit) W=>Ax x a' W))
  (hassign:∀(l:Nat) (pre:List α) (x:α) (W:World) (K:Act->World->Prop),I pre W->Fact x W->(∀a' W',KeepsFrom w.heap.size W W'->Kp W W'->I pre W'->Ax x a' W'->K a' W') ->
   assign.wpIn (Fence.wide.inRound l) (n-1-1) P (Exit.then K (fun _ _ _=>False)) { tmps:=(ps.zip (encs x)).foldl (fun t (p,v)=>t.setIfInBounds p v) a.tmps,defers:=[] } W)
  (hbody:∀(l:Nat) (pre:List α) (x:α) (a':Act) (W:World),I pre W->Ax x a' W->Sp (pre++ [x])->body.wpIn (Fence.wide.inRound l) (n-1-1) P (OJ w.heap.size Kp I Ip (pre++ [x]) W) a' W)
  (hdone:∀(D:Nat) (xs:List α) (W:World),w.heap.size<=D->S xs->I xs W->W.heap[D]?=some (.deferred (some []))->Q .normal { a with defers:=QI D::a.defers } W)
  (hpanic:∀(D:Nat) (ch:List PanicEntry) (pre:List α) (W:World),w.heap.size<=D->Sp pre->Ip ch pre W->W.heap[D]?=some (.deferred (some []))->Q (.panic ch) { a with defers:=QI D::a.defers } W):
  xy P f n (.rangeFunc g ps assign body) Q a w:=by
 intro b k cs hbf hro;obtain⟨rec,hrec⟩:∃rec:LoopState->Option Code->Loop,rec=fun st pe=> { state:=st,pending:=pe,fn:=f,tmps:=a.tmps,params:=ps,assign,body,defers:=w.heap.size }:=⟨_,rfl⟩
 obtain⟨W1,hW1⟩:∃W1,(w.alloc (.deferred (some []))).alloc (.loop (rec .ready none))=W1:=⟨_,rfl⟩
 have hL1:W1.heap[w.heap.size+1]?=some (.loop (rec .ready none)):=by
  rw[<-hW1];have:=World.alloc_heap_new (w.alloc (.deferred (some []))) (.loop (rec .ready none));rwa [vJ]at this
 have hK1:W1.heap[w.heap.size]?=some (.deferred (some [])):=by
  rw[<-hW1];exact(Below.heap_alloc _ _ _ (by simp)).trans (World.alloc_heap_new w _)
 have hI1:I [] W1:=by rw[<-hW1];exact hI.alloc _ (hI.alloc _ h0)
 have hb1:Below w0.heap.size w0 W1:=by
  rw[<-hW1];exact hb0.trans ((((zG _ w).alloc (zI _) _).alloc (by simp) _).mono hb0.size)
 have he:(Instr.enterLoop b.fn a.tmps ps assign body b.roundOf).run P w= .ok (w.heap.size+1,[QI w.heap.size]) W1:=by
  rw[hbf,hro,<-hW1,hrec];exact run_enterLoop_outer _ _ _ _ _
 have hres:(resolve a.eval (rangeCall g (w.heap.size+1)) 0).run P W1= .ok { target:=.fn (.func gf) lb,args:=#[.func (.yield (w.heap.size+1)) #[] #[]] } W1:=by
  simp only[resolve,hg];simp[go_sem]
 have hinv:(invoke (.fn (.func gf) lb) #[.func (.yield (w.heap.size+1)) #[] #[]]).run P W1= .ok (.enter gf (#[.func (.yield (w.heap.size+1)) #[] #[]]++lb)) W1:=by
  simp[invoke,go_sem,eg]
 have henter:=stepR_rangeFunc (P:=P) (b:=b) (a:=a) (k:=k) (cs:=cs) (w:=w) he hres hinv
 have hnw:∀ {A B:World} {row:Option Nat},(∀r,row=some r->W1.heap.size<=r/\∃o:Obj,A.heap[r]?=some o/\o.isWalk=true)->(∀r,row=some r->w.heap.size<=r/\∃o:Obj,A.heap[r]?=some o/\o.isCells=false):=
  fun hr r e=>by obtain⟨hB,o,ho,hw⟩:=hr r e;exact⟨by rw[<-hW1]at hB;simp at hB;omega,o,ho,Obj.not_cells_of_walk hw⟩
 have hcall:=hseq (w.heap.size+1)
  (fun pre W=>I pre W/\W.heap[w.heap.size+1]?=some (.loop (rec .ready none))/\W.heap[w.heap.size]?=some (.deferred (some [])))
  (fun ch pre W=>Ip ch pre W/\W.heap[w.heap.size]?=some (.deferred (some [])))
  W1 hb1
  (fun s A B row hs hg' hr=>⟨hI s A B row hs.1 hg' (hnw (B:=B) hr),(grownBy_keeps hg' (fun r e=>(hr r e).2) hs.2.1 rfl).trans hs.2.1,(grownBy_keeps hg' (fun r e=>(hr r e).2) hs.2.2 rfl).trans hs.2.2⟩)
  (by
   rintro pre x W ⟨hi,hl,hk⟩ hlen hfact;have hy:=run_yield (P:=P) (args:=encs x) hl (by rw[hrec];exact hps x);rw[hrec]at hy;refine⟨f,_,assign,body,hy,Gt hf (hassign _ pre x W _ hi hfact ?_)⟩;clear hy;intro a' Wa hkfa hkpa hia hax;have hl':=hkfa.same _ _ (by omega) hl rfl;have hk':=hkfa.same _ _ (zI _) hk rfl;have hlt:w.heap.size+1<Wa.heap.size:=(qM.1 hl').1;refine⟨_,run_beginRound hl' (by rw[hrec]),?_⟩;have hl2:(Wa.putObj (w.heap.size+1) (.loop { rec .ready none with state:=.busy })).heap[w.heap.size+1]?=some (.loop { rec .ready none with state:=.busy }):=World.putObj_heap_same hlt;have hk2:(Wa.putObj (w.heap.size+1) (.loop { rec .ready none with state:=.busy })).heap[w.heap.size]?=some (.deferred (some [])):=(World.putObj_heap_other (by omega)).trans hk';have hw2:Kp Wa (Wa.putObj (w.heap.size+1) (.loop { rec .ready none with state:=.busy })):=hKb _ _ _ _ (by omega) hl' rfl rfl;refine wpIn_mono (hbody _ pre x a' _ (hI.putObj _ hia (by omega) hl' rfl) ((hAx x a').putObj (s:=()) _ hax (by omega) hl' rfl) hlen) ?_;rintro e a3 W3 hp
   cases e with
   |normal=>
    obtain⟨hk3,hkp3,hi3⟩:=hp;have hl3:=hk3.same _ _ (by omega) hl2 rfl;have hr3:=run_endRound (P:=P) none hl3;rw[hrec]at hr3;refine⟨_,_,hr3,.inl ⟨rfl,⟨hI.putObj _ hi3 (by omega) hl3 rfl,?_,(World.putObj_heap_other (by omega)).trans (hk3.same _ _ (zI _) hk2 rfl)⟩,hKt hkpa (hKt (hKt hw2 hkp3) (hKb _ _ _ _ (by omega) hl3 rfl rfl))⟩⟩;rw[hrec]
    exact World.putObj_heap_same (qM.1 hl3).1
   |panic ch=>
    obtain⟨hd,hk3,hi3⟩:=hp
    exact⟨hd,.inr ⟨ch,rfl,hi3,hk3.same _ _ (zI _) hk2 rfl⟩⟩
   |_=>exact hp.elim)
  ⟨hI1,hL1,hK1⟩
 obtain⟨e,w3,fr,hR,hsteps,hfn,hleave⟩:=hcall.2 (b.atR { a with defers:=[QI w.heap.size]++a.defers } (.inRangeFunc (w.heap.size+1)::k)::cs) (room_wide _);rcases hR with ⟨⟨v,rfl⟩,xs,hS,hi,hl,hk⟩|⟨ch,pre,rfl,hSp,hi,hk⟩
 ·obtain⟨o,hend⟩:∃o,(Instr.endLoop (w.heap.size+1)).run P w3= .ok none (w3.putObj (w.heap.size+1) o):=by
   have:=run_endLoop (P:=P) hl (by rw[hrec];simp);rw[hrec]at this;exact⟨_,this⟩
  refine⟨.normal,_,w3.putObj (w.heap.size+1) o,hdone _ xs _ (zI _) hS (hI.putObj o hi (by omega) hl rfl) ((World.putObj_heap_other (by omega)).trans hk),?_⟩;refine .head (fenced_wide P _) henter (StepsIn.trans hsteps (.head (fenced_wide P _) ?_ (.one (fenced_wide P _) (stepR_endRangeFunc hend))));rw[<-finish_atR_inRangeFunc (w.heap.size+1) v];exact step_leave_returned hleave
 ·refine⟨.panic ch,_,w3,hpanic _ ch pre w3 (zI _) hSp hi hk,.inRangeFunc (w.heap.size+1)::k,.head (fenced_wide P _) henter (StepsIn.trans hsteps (.one (fenced_wide P _) ?_))⟩
  rw[<-Frame.raise_atR];exact step_leave_panicked hleave
end
attribute [local go_sem] Oper.semAt_some
structure YK where
 g:xd
 a:Option Addr
 c:Nat
abbrev NV(x:YK):Value:=.agg #[.int .i64 x.g.frm,.int .i64 x.g.til,.slice x.a x.g.reads.length x.c,.int .i64 x.g.wr]
def EX(Mi:World->Nat->Prop)(x:YK)(w:World):Prop:=yC w x.a x.g.reads/\x.g.reads.length<=x.c/\∀b off,x.a=some ⟨b,off,none⟩->b<w.heap.size/\Mi w b
theorem jp(fs:List Int)(i:Nat):i<=zS fs i:=Nat.le_add_right ..
theorem vD{fs:List Int}{i:Nat}(h:i<fs.length):zS fs i<fs.length:=by
 unfold zS;have:=Gm (· ==(i:Int)) (fs.drop (i+1));rw[jH]at this;omega
theorem Xm{fs:List Int}{i e:Nat}(h1:i<=e)(h2:e<=zS fs i)(h3:e+1<fs.length):((fs[e+1]==(i:Int))=true↔e<zS fs i):=by
 unfold zS at *;have hl:e-i<(fs.drop (i+1)).length:=by rw[jH];omega
 have:=JV (p:=(· ==(i:Int))) (fs.drop (i+1)) (e-i) (by omega) hl;rw[List.getElem_drop]at this;have e1:i+1+(e-i)=e+1:=by omega
 simp only[e1]at this;rw[this];omega
theorem KG(code:List zm)(i j k:Nat)(hk:k<j+1-i)(hl:j<code.length):
  (((code.drop i).take (j+1-i)).take (k+1)).foldl (fun l x=>yG l (zp x)) []=yG ((((code.drop i).take (j+1-i)).take k).foldl (fun l x=>yG l (zp x)) []) (zp (code.getD (i+k) zw)):=by
 have hlt:k<((code.drop i).take (j+1-i)).length:=by rw[xm,jH];omega
 rw[zO hlt,jc,List.getElem_take,List.getElem_drop,zk (by omega)];rfl
theorem xD(x:zm):(zp x).length<=2:=by
 unfold zp;rw[yV];have:=ji x (zM x.op).r0;have:=ji x (zM x.op).r1;omega
theorem KM(l:List zm):∀s:List Int,(l.foldl (fun l x=>yG l (zp x)) s).length<=s.length+2*l.length:=by
 induction l with
 |nil=>intro s;simp
 |cons x l ih=>
  intro s;rw[qP,xv];have h1:=ih (yG s (zp x));have h2:=qt s (zp x);have h3:=xD x;omega
def NS(bG:Nat)(s e:Nat)(L:List Int)(wa wx:World):Prop:=∃v,wx.heap[bG]?=some (.cells #[.int .i64 s,.int .i64 e,v,.int .i64 0] 107)/\zu wx (bG+1) v L/\Below wa.heap.size wa wx
theorem DU{bG s e:Nat}{L:List Int}{wa w7 w8 w9:World}{v v':Value}{M:List Int}(hG:bG=wa.heap.size)(hX:w7.heap[bG]?=some (.cells #[.int .i64 s,.int .i64 e,v,.int .i64 0] 107))(hO:zu w7 (bG+1) v L)(hB:Below wa.heap.size wa w7)(h8:Below w7.heap.size w7 w8)
  (ho:zu w9 (bG+1) v' M) (hg:w8.grownBy w9 v.ownBlock):NS bG s e M wa (w9.setCell ⟨bG,2,none⟩ v'):=by
 have hn:∀b,v.ownBlock=some b->bG+1<=b:=zy hO;have hn':∀b,v'.ownBlock=some b->bG+1<=b:=zy ho;have x8:=zb h8 hX;have x9:w9.heap[bG]?=some (.cells #[.int .i64 s,.int .i64 e,v,.int .i64 0] 107):=(hg.block bG (ze x8) (fun e=>by have:=hn bG e.symm;omega)).trans x8;refine⟨v',yk _ _ 2 _ _ _ x9,yA ho (fun b hb _=>yF _ _ _ _ (by have:=hn' b hb;show b≠bG;omega)),?_⟩;have hb8:=hB.step h8;have hb9:Below wa.heap.size wa w9:=ZU hb8 hg hb8.size (fun r e=>by have:=hn r e;omega);exact hb9.setCell (p:=⟨bG,2,none⟩) (by show wa.heap.size<=bG;omega) _
theorem DT{bG s e:Nat}{L:List Int}{w7 w8 w9:World}{v:Value}(hX:w7.heap[bG]?=some (.cells #[.int .i64 s,.int .i64 e,v,.int .i64 0] 107))(hO:zu w7 (bG+1) v L)(h8:Below w7.heap.size w7 w8)(hg:w8.grownBy w9 v.ownBlock):w9.heap[bG]?=some (.cells #[.int .i64 s,.int .i64 e,v,.int .i64 0] 107):=
 (hg.block bG (ze (zb h8 hX)) (fun e=>by have:=zy hO bG e.symm;omega)).trans (zb h8 hX)
theorem V6{w:World}{base b:Nat}{v:Value}{l:List Int}(h:zu w base v l)(hb:w.heap.size<=b):some b≠v.ownBlock:=by
 intro e;rcases h.2 with ⟨rfl,_⟩|⟨g,cap,cur,rfl,_,hg,_⟩
 ·cases e
 ·cases e
  have h2:=ze hg;exact absurd h2 (Nat.not_lt.2 hb)
theorem X8{code:List zm}{fs:List Int}{f s:Nat}(h:s<code.length):jE code fs (f+1) s=Ym code fs s::jE code fs f (zS fs s+1):=zj h
theorem vt{code:List zm}{fs:List Int}{f s:Nat}(h:¬s<code.length):jE code fs f s= []:=by
 cases f with
 |zero=>rfl
 |succ f=>exact zi h
def jm(code:List zm)(fs:List Int)(s:Nat):List xd:=jE code fs (code.length-s) s
theorem VA(code:List zm)(fs:List Int):∀(f g s:Nat),code.length<=s+f->code.length<=s+g->jE code fs f s=jE code fs g s
 |0,g,s,h1,_=>by rw[vt (by omega),vt (by omega)]
 |f+1,0,s,_,h2=>by rw[vt (by omega),vt (by omega)]
 |f+1,g+1,s,h1,h2=>by
  by_cases h:s<code.length
  ·rw[X8 h,X8 h]
   have:=jp fs s;rw[VA code fs f g (zS fs s+1) (by omega) (by omega)]
  ·rw[vt h,vt h]
theorem KF{code:List zm}{fs:List Int}{s:Nat}(h:s<code.length):jm code fs s=Ym code fs s::jm code fs (zS fs s+1):=by
 unfold jm;obtain⟨f,hf⟩:∃f,code.length-s=f+1:=⟨code.length-s-1,by omega⟩
 rw[hf,X8 h];have:=jp fs s;rw[VA code fs f (code.length-(zS fs s+1)) _ (by omega) (by omega)]
theorem ED(n:Nat)(hn:1<=n){Mi:World->Nat->Prop}{WF:World->Prop}(hFe:Kv Mi WF)(l:Nat)(u:zg)(hlen:u.code.length<=600)(ca cc ga gc)(gu gf gb:Nat)(FS:List Int)(hfs:FS.length=u.code.length)(B:Nat)(J:List YK->World->Prop)(Jp:List PanicEntry->List YK->World->Prop)(hJ:AbidesFrom B J)
  (hY:∀pre x W1,J pre W1->(pre++ [x]).map YK.g <+: jm u.code FS 0->EX Mi x W1->YieldAt Fence.wide (n-1) prog l #[NV x] W1 fun e W'=>(e= .returned (.bool true)/\J (pre++ [x]) W'/\Yu Mi WF W1 W')\/∃ch,e= .panicked ch/\Jp ch (pre++ [x]) W')
  (W:World) (hU:W.heap[gu]?=some (oU u ca cc ga gc)) (hF:W.heap[gf]?=some (.cells #[.slice (some ⟨gb,0,none⟩) u.code.length u.code.length] 28)) (hB:BI W gb FS) (hM:Fq Mi W u ca cc ga gc) (hOu:Mi W gu) (hOf:Mi W gf) (hOb:Mi W gb) (hw:WF W) (h0:J [] W):
  CallsIn Fence.wide n prog 114 #[.func (.yield l) #[] #[],.pointer (some ⟨gu,0,none⟩),.pointer (some ⟨gf,0,none⟩)] W fun e W'=>((∃v,e= .returned v)/\∃xs,xs.map YK.g=jm u.code FS 0/\J xs W')\/∃ch pre,e= .panicked ch/\pre.map YK.g <+: jm u.code FS 0/\Jp ch pre W':=by
 have HY:=za hY;clear hY;have HJ:=za hJ;clear hJ;have HU:=za (And.intro hU hOu);clear hU hOu;have HFe:=za hFe;clear hFe;have HF:=za (And.intro hF hOf);clear hF hOf;obtain⟨curB,hcB,hxB⟩:=hB;have HBC:=za (And.intro hcB hOb);clear hcB hOb;have HBX:=za hxB;clear hxB;have HM:=za hM;clear hM;have HWF:=za hw;clear hw;have H0:=za h0;clear h0;have HFL:=za hfs;clear hfs;have hlc:=HM.out.m.lc;refine callsIn_of_wp func114 rfl trivial ?_ rfl;simp only[ntmps114,List.size_toArray,xv,List.length_nil,Nat.reduceAdd,Nat.reduceSub,Array.replicate_succ,JM,List.push_toArray,List.append_toArray,Zd,Y6]
 gi_wp2
 gi_loopw [4] (fun s4 wr=>∃(s:Nat) (pre:List YK),s<=u.code.length/\s4= .int .i64 s/\Hid (pre.map YK.g++jm u.code FS s=jm u.code FS 0)/\Hid (J pre wr)/\Hid (yI Mi WF W wr))
  (fun s4 _=>u.code.length-(intOf s4).toNat)
 case atStart=>exact⟨0,[],zE _,rfl,za rfl,H0,za (yI.refl HWF.out)⟩
 case round=>
  obtain⟨s,pre,hs,rfl,HP,HJ1,HK⟩:=hrel;have HU1:=za (HK.out.box HU.out);obtain⟨k0,k1,k2,k3,k4,k5,k6⟩:=zr HU1.out.1;by_cases hsl:s<u.code.length
  ·obtain⟨bc,oc,hca,-⟩:=HM.out.m.rc s hsl
   subst hca;have ns:(s:Int)<(u.code.length:Int):=by omega
   have ns0:(0:Int)<=(s:Int):=by omega
   obtain⟨bG,hbG⟩:∃b,b=wr.heap.size:=⟨_,rfl⟩
   gi_upto_region 3 with fail
   have HG0:=za (zo wr (.cells #[.int .i64 s,.int .i64 s,.slice none 0 0,.int .i64 0] 107) bG hbG);have HB0:=za (zd wr (.cells #[.int .i64 s,.int .i64 s,.slice none 0 0,.int .i64 0] 107));obtain⟨wa,hwa⟩:∃wa:World,wa=wr:=⟨_,rfl⟩
   rw[<-hwa]at hbG HB0 HG0 HU1 HJ1 HK;rw[<-hwa,<-hbG];have HBG:=za hbG;clear hwa hbG k0 k1 k2 k3 k4 k5 k6;have hge:=jp FS s;have hgl:=vD (fs:=FS) (i:=s) (by rw[HFL.out];exact hsl);rw[HFL.out]at hgl
   gi_loopg [] (zS FS s-s) (fun gh wr=>∃e:Nat,(s<=e/\e<=zS FS s)/\gh=zS FS s-e/\Hid (wr.heap[bG]?=some (.cells #[.int .i64 s,.int .i64 e,.slice none 0 0,.int .i64 0] 107)/\Below wa.heap.size wa wr))
   case atStart=>exact⟨s,⟨zI _,hge⟩,rfl,za ⟨HG0.out,HB0.out⟩⟩
   case round=>
    obtain⟨e,⟨he1,he2⟩,rfl,HE⟩:=hrel;obtain⟨b0,b1,b2,b3⟩:=zX HE.out.1;have fb:=zF 1 HE.out.1;have HKE:=za (yI.of_below HFe.out HK.out.wf HE.out.2);have k5:=(zA _ _ 5 _ _ _ (HKE.out.box HU1.out).1).trans rfl;have kf:=(zA _ _ 0 _ _ _ ((HK.out.trans HKE.out).box HF.out).1).trans rfl;have nle:e+1<=u.code.length:=by omega
    have eqi:((e:Int)+1).toNat=e+1:=by omega
    have HCX:Hid (∀h:e+1<FS.length,wr.cell? ⟨gb,e+1,none⟩=some (.int .i64 (FS[e+1]'h))):=za (fun h=>(zA _ _ (e+1) _ _ _ ((HK.out.trans HKE.out).box HBC.out).1).trans (HBX.out (e+1) h));by_cases hlt:e<zS FS s
    ·have hel:e+1<u.code.length:=by omega
     have hel2:e+1<FS.length:=by rw[HFL.out];exact hel
     have ne1:(e:Int)+1<(u.code.length:Int):=by omega
     have hfe:=(Xm (fs:=FS) (i:=s) (e:=e) he1 he2 hel2).2 hlt;have kx:=HCX.out hel2;generalize FS[e+1]'hel2=fe at *
     gi_wp2
     gi_roundg (zS FS s-(e+1))
     case measure=>omega
     case rel=>exact⟨e+1,⟨by omega,by omega⟩,rfl,za ⟨yk _ _ 1 _ _ _ HE.out.1,HE.out.2.setCell (p:=⟨bG,1,none⟩) (by show wa.heap.size<=bG;rw[HBG.out];exact zI _) _⟩⟩
    ·have hsplit:e+1=u.code.length\/∃fe:Int,e+1<u.code.length/\(fe==(s:Int))=false/\wr.cell? ⟨gb,e+1,none⟩=some (.int .i64 fe):=by
      by_cases hel:e+1<u.code.length
      ·right
       have hel2:e+1<FS.length:=by rw[HFL.out];exact hel
       refine⟨FS[e+1],hel,?_,HCX.out hel2⟩
       cases hfe:(FS[e+1]==(s:Int))with
       |false=>rfl
       |true=>exact absurd ((Xm (fs:=FS) (i:=s) (e:=e) he1 he2 hel2).1 hfe) hlt
      ·left
       omega
     have HEE:Hid (e=zS FS s):=za (by omega);have hse:s<=e:=he1;have hen:e<u.code.length:=by omega
     clear hlt he1 he2 nle hge hgl;rcases hsplit with h1|⟨fe,h1,hfe,kx⟩
     case' inl=>
      have ne1:¬(e:Int)+1<(u.code.length:Int):=by omega
      clear h1
      gi_upto_region 5 with fail
     case' inr=>
      have ne1:(e:Int)+1<(u.code.length:Int):=by omega
      gi_upto_region 5 with fail
     all_goals
      clear ne1
      try clear kx hfe h1
      clear eqi HCX;have nse:(s:Int)<=(e:Int)+1:=by omega
      have nec:(e:Int)+1<=(cc:Int):=by omega
      have nss:s<=e+1:=by omega
      have nsc:e+1<=cc:=by omega
      have ncs:¬cc=s:=by omega
      have eqi:((e:Int)+1).toNat=e+1:=by omega
      obtain⟨m,hm⟩:∃m,m=e+1-s:=⟨_,rfl⟩
      have HMM:=za hm;have hml:m<=600:=by omega
      clear hm;have HSUB:=za (fun w' (hm':Qz w' (some ⟨bc,oc,none⟩) u.code)=>hm'.sub s m)
      gi_wp2
      clear b0 b1 b2 b3 fb k5 kf eqi;obtain⟨wb,hwb⟩:∃wb:World,wb=wr:=⟨_,rfl⟩
      rw[<-hwb]at HE HKE;rw[<-hwb];clear hwb;have eqm:e+1-s=m:=HMM.out.symm;rw[eqm];clear eqm
      gi_loopg [46] m (fun gh s46 wr=>∃k:Nat,k<=m/\gh=m-k/\s46= .int .i64 k/\Hid (∃v,wr.heap[bG]?=some (.cells #[.int .i64 s,.int .i64 e,v,.int .i64 0] 107)/\zu wr (bG+1) v ((((u.code.drop s).take (e+1-s)).take k).foldl (fun l x=>yG l (zp x)) []))/\Hid (Below wa.heap.size wa wr))
      case atStart=>exact⟨0,zE _,rfl,rfl,za ⟨_,HE.out.1,jd _ _ _ _⟩,za HE.out.2⟩
      case round=>
       obtain⟨k,hk,rfl,rfl,HV,HB2⟩:=hrel;by_cases hkm:k<m
       ·obtain⟨v,hvg,hvo⟩:=HV.out
        have HVG:=za hvg;have HVO:=za hvo;have HKB:=za (yI.of_below HFe.out HK.out.wf HB2.out);have hrd:=HSUB.out wr (HM.out.m.rc.keep (HK.out.trans HKB.out) HM.out.oc);have hsk:s+k<u.code.length:=by have:=HMM.out;omega
        obtain⟨b9,o9,e9,hl9,c0,c1,c2,c3⟩:=hrd k (by rw[xm,jH];have:=HMM.out;omega);cases e9;simp only[List.getElem_take,List.getElem_drop]at c0 c1 c2 c3;have nkm:(k:Int)<(m:Int):=by omega
        have HST:=za (KG u.code s e k (by have:=HMM.out;omega) hen);rw[zk hsk]at HST;have HRL:Hid (((((u.code.drop s).take (e+1-s)).take k).foldl (fun l x=>yG l (zp x)) []).length<=2*k):=za (by have h1:=KM (((u.code.drop s).take (e+1-s)).take k) [];have h2:(((u.code.drop s).take (e+1-s)).take k).length<=k:=List.length_take_le _ _;simp only[List.length_nil]at h1;omega);have HRR:=za (fun w=>Qn u.code[s+k] w);have HR2:=za (xD u.code[s+k]);generalize hRD:((((u.code.drop s).take (e+1-s)).take k).foldl (fun l x=>yG l (zp x)) [])=RD at *;clear hRD hvg hvo;generalize u.code[s+k]=y at *;refine wpIn_wide.2 ?_;go_upto_block 5 with fail;go_cut [7]from 47 to 56 (fun s7 wx=>NS bG s e (yG RD (zp y)) wa wx)
        case first=>
         go_upto_region 8 with fail;obtain⟨w7,hw7⟩:∃w7,w7=wr.alloc (.cells #[.int .i64 y.op,.int .i64 y.a,.int .i64 y.b,.int .i64 y.c] 85):=⟨_,rfl⟩
         obtain⟨b7,hb7⟩:∃b,b=wr.heap.size:=⟨_,rfl⟩
         have HX7:Hid (w7.heap[b7]?=some (.cells #[.int .i64 y.op,.int .i64 y.a,.int .i64 y.b,.int .i64 y.c] 85)):=za (by rw[hw7];exact zo _ _ _ hb7);have HXG:Hid (w7.heap[bG]?=some (.cells #[.int .i64 s,.int .i64 e,v,.int .i64 0] 107)):=za (by rw[hw7];exact zb (zd _ _) HVG.out);have HO7:Hid (zu w7 (bG+1) v RD):=za (by rw[hw7];exact HVO.out.later (zd _ _));have HB7:Hid (Below wa.heap.size wa w7):=za (by rw[hw7];exact HB2.out.step (zd _ _));rw[<-hw7,<-hb7];clear hw7 hb7 c0 c1 c2 c3;obtain⟨q0,q1,q2,q3⟩:=zX HX7.out;obtain⟨b0,b1,b2,b3⟩:=zX HXG.out;have HX7d:Hid (w7.drew.heap[bG]?=some (.cells #[.int .i64 s,.int .i64 e,v,.int .i64 0] 107)):=HXG;have HO7d:Hid (zu w7.drew (bG+1) v RD):=za (HO7.out.later (zt _));have HB7d:Hid (Below wa.heap.size wa w7.drew):=za (HB7.out.step (zt _));have HAD:=za (fun(pa:Option Addr) (pc:Nat) (w8:World) (h8:Below w7.drew.heap.size w7.drew w8) (hr:yC w8 pa (zp y)) (hp:∀b off,pa=some ⟨b,off,none⟩->w7.drew.heap.size<=b)=>JN (bG+1) v RD (zp y) pa pc w8 (HO7d.out.later h8) hr (by have:=HRL.out;have:=HR2.out;omega) (fun b off e=>V6 HO7d.out (hp b off e)) (by have h3:=ze (zb h8 HX7d.out);omega))
         go_region_with (first
          |(go_at_call 70;(with_reducible refine(HRR.out _).mono ?_);rintro e w8 ⟨hb,v2,rfl,ho⟩;obtain⟨pa,pc,rfl,hrp,hpn⟩:=ho.rdN;have bb2:=(zA _ _ 2 _ _ _ (zb hb HX7d.out)).trans rfl;have HAW:=za (HAD.out pa pc w8 hb hrp hpn);have HB8:=za hb;clear hb ho hrp hpn)
          |(go_at_call 74;(with_reducible refine HAW.out.mono ?_);rintro e w9 ⟨v3,rfl,ho3,hg3,_⟩;obtain⟨a3,c3,rfl,hr3⟩:=ho3.rd;clear hr3;have HNX:=za (DU (s:=s) (e:=e) HBG.out HX7d.out HO7d.out HB7d.out HB8.out ho3 hg3);have xg:=DT HX7d.out HO7d.out HB8.out hg3;have fg:=zF 2 xg;have cg:=(zA _ _ 2 _ _ _ xg).trans rfl;clear xg;clear ho3 hg3))
         all_goals (go_wp2_with fail;go_meet;exact HNX.out)
        case rest=>
         obtain⟨v4,hx4,ho4,hb4⟩:=hcut;have HN4:=za (And.intro hx4 (And.intro ho4 hb4));clear hx4 ho4 hb4;go_wp2;go_roundg (m-(k+1));case measure=>omega
         case rel=>exact⟨k+1,by omega,rfl,by go_num,za ⟨v4,HN4.out.1,by rw[HST.out];exact HN4.out.2.1⟩,za HN4.out.2.2⟩
       ·obtain rfl:k=m:=by omega
        have nkm:¬(k:Int)<(k:Int):=by omega
        obtain⟨v,hvg,hvo⟩:=HV.out;have HRDF:Hid ((((u.code.drop s).take (e+1-s)).take k).foldl (fun l x=>yG l (zp x)) []=yu u.code s e):=za (by unfold yu;rw[List.take_of_length_le (by rw[xm];have:=HMM.out;omega)]);rw[HRDF.out]at hvo
        obtain⟨a4,c4,rfl,hr4,hl4,hn4⟩:=(show ∃a c,v= .slice a (yu u.code s e).length c/\yC wr a (yu u.code s e)/\(yu u.code s e).length<=c/\∀b off,a=some ⟨b,off,none⟩->bG+1<=b/\b<wr.heap.size from by
         obtain⟨a,c,hv,hrd⟩:=hvo.rd;refine⟨a,c,hv,hrd,?_,fun b off ea=> ?_⟩
         ·rcases hvo.2 with ⟨e1,e2⟩|⟨g,cap,cur,e1,_,_,h1,_⟩
          ·rw[e2];exact zE _
          ·rw[hv]at e1;cases e1;exact h1
         ·rcases hvo.2 with ⟨e1,e2⟩|⟨g,cap,cur,e1,hg,hh,_⟩
          ·rw[hv,ea]at e1;cases e1
          ·rw[hv,ea]at e1
           injection e1 with e3 _ _;injection e3 with e4;injection e4 with e5 _ _;subst e5
           exact⟨hg,ze hh⟩)
        have HR4:=za (And.intro hr4 (And.intro hl4 hn4));have HVG:=za hvg;clear hvg hvo hr4 hl4 hn4;obtain⟨RD,hRD⟩:∃RD,RD=yu u.code s e:=⟨_,rfl⟩
        have HRE:=za hRD;rw[<-hRD]at HR4 HVG;clear hRD;have HKB:=za (yI.of_below HFe.out HK.out.wf HB2.out);obtain⟨b9,o9,e9,hl9,c0,c1,c2,c3⟩:=(HM.out.m.rc.keep (HK.out.trans HKB.out) HM.out.oc) e hen;cases e9;have k5:=(zA _ _ 5 _ _ _ (HKB.out.box HU1.out).1).trans rfl;obtain⟨b0,b1,b2,b3⟩:=zX HVG.out;have nen:(e:Int)<(u.code.length:Int):=by omega
        have HWW:=za (fun w=>qz u.code[e] w);have HGA:Hid (Ym u.code FS s=⟨s,e,RD,zc u.code[e]⟩):=za (by unfold Ym;rw[<-HEE.out,zk hen,HRE.out]);generalize u.code[e]=y at *;generalize zc y=wy at *;have HBW:=za (zI bG)
        gi_upto_region 11 with (first
         |((try refine⟨trivial,?_⟩);gi_at_call 71;(with_reducible refine(qC.2 (HWW.out _)).mono ?_);rintro e9 w6 ⟨rfl,hb⟩;have HB6:=za (HB2.out.step hb);have HG6:=za (zb hb HVG.out);have HR6:=za (HR4.out.1.below hb);have HS6:=za hb.size;have f3:=zF 3 (zb hb HVG.out);have g3:=(zA _ _ 3 _ _ _ (zb hb HVG.out)).trans rfl;clear hb))
        clear f3 g3 k5 b0 b1 b2 b3 c0 c1 c2 c3 nkm;obtain⟨wq,hwq⟩:∃wq,wq=w6.setCell ⟨bG,3,none⟩ (.int .i64 wy):=⟨_,rfl⟩
        have HGQ:Hid (wq.heap[bG]?=some (.cells #[.int .i64 s,.int .i64 e,.slice a4 RD.length c4,.int .i64 wy] 107)):=za (by rw[hwq];exact yk _ _ 3 _ _ _ HG6.out);have HBQ:Hid (Below wa.heap.size wa wq):=za (by rw[hwq];exact HB6.out.setCell (p:=⟨bG,3,none⟩) (by show wa.heap.size<=bG;rw[HBG.out];exact zI _) _);have HSQ:Hid (wq.heap.size=w6.heap.size):=za (by rw[hwq];simp)
        have HRQ:Hid (yC wq a4 RD):=za (by
         rw[hwq];intro i hi;obtain⟨b,off,ha,hlt,hc⟩:=HR6.out i hi;have hb1:=(HR4.out.2.2 b off ha).1
         exact⟨b,off,ha,by simpa using hlt,(ZO (yF _ _ _ _ (by show b≠bG;omega))).trans hc⟩)
        rw[<-hwq];clear hwq;have HKQ:=za (yI.of_below HFe.out HK.out.wf HBQ.out)
        have HXF:Hid (EX Mi ⟨⟨s,e,RD,wy⟩,a4,c4⟩ wq):=za ⟨HRQ.out,HR4.out.2.1,fun b off ea=>by
         obtain⟨h1,h2⟩:=HR4.out.2.2 b off ea;have h3:=HS6.out;have h4:=HSQ.out;have h5:=HBG.out
         exact⟨by omega,HFe.out.new HK.out.wf HBQ.out (by omega) (by omega)⟩⟩
        have HPF:Hid ((pre++ [(⟨⟨s,e,RD,wy⟩,a4,c4⟩:YK)]).map YK.g++jm u.code FS (e+1)=jm u.code FS 0):=za (by
         rw[<-HP.out,KF hsl,HGA.out,<-HEE.out]
         simp)
        have HJQ:=za (yN HJ.out HJ1.out HBQ.out);obtain⟨fn,tmps,assign,body,hy,hR⟩:=HY.out pre ⟨⟨s,e,RD,wy⟩,a4,c4⟩ wq HJQ.out ⟨_,HPF.out⟩ HXF.out;have HMG:Hid (Mi wq bG):=za (HFe.out.new HK.out.wf HBQ.out (Nat.le_of_eq HBG.out.symm) (ze HGQ.out));obtain⟨q0,q1,q2,q3⟩:=zX HGQ.out
        try dsimp only at hy
        gi_wp2
        refine hR.mono ?_;rintro e9 W3 (⟨rfl,hJ3,hk3⟩|⟨ch,rfl,hp3⟩)
        ·have HK3:=za (HKQ.out.trans (hk3 HKQ.out.wf))
         obtain⟨z0,z1,z2,z3⟩:=zX ((hk3 HKQ.out.wf).box ⟨HGQ.out,HMG.out⟩).1;have HJ3:=za hJ3;clear hJ3 hk3 q0 q1 q2 q3
         gi_wp2
         go_roundw
         case rel=>exact⟨e+1,pre++ [⟨⟨s,e,RD,wy⟩,a4,c4⟩],by omega,by go_num,HPF,HJ3,za (HK.out.trans HK3.out)⟩
         case measure=>simp[intOf];omega
        ·gi_wp2
         exact⟨rfl,.inr ⟨ch,pre++ [_],rfl,⟨_,HPF.out⟩,hp3⟩⟩
  ·have ns:¬(s:Int)<(u.code.length:Int):=by omega
   have HE:Hid (pre.map YK.g=jm u.code FS 0):=za (by have:=HP.out;rw[show jm u.code FS s= []from vt hsl,qO]at this;exact this)
   gi_wp2
   go_end0
   exact .inl ⟨⟨_,rfl⟩,pre,HE.out,HJ1.out⟩
def NQ(S:Nat->Prop)(_:World)(k:Nat):Prop:=¬S k
def SP(S:Nat->Prop)(W:World):Prop:=∀k,S k->k<W.heap.size
theorem ZC(S:Nat->Prop):Kv (NQ S) (SP S):=by
 refine⟨fun A B hw hb=>⟨fun k hk=>xh (hw k hk) hb.size,fun k m=>m,fun k h1 _ hs=> ?_⟩,fun W l o o' hl ho hw=>⟨fun k hk=> ?_,fun k m=>m⟩⟩
 ·have:=hw k hs
  omega
 ·have:=hw k hk
  simpa[World.putObj]using this
theorem QX(n:Nat)(hn:1<=n){Mi:World->Nat->Prop}{WF:World->Prop}(hFe:Kv Mi WF)(u:zg)(hlen:u.code.length<=600)(ca cc ga gc)(gu gf gb:Nat)
  (w:World) (hU:w.heap[gu]?=some (oU u ca cc ga gc)) (hF:w.heap[gf]?=some (.cells #[.slice (some ⟨gb,0,none⟩) u.code.length u.code.length] 28)) (hB:BI w gb (zl u.code)) (hM:Fq Mi w u ca cc ga gc) (hOu:Mi w gu) (hOf:Mi w gf) (hOb:Mi w gb) (hw:WF w):
  R3 n prog 114 #[.pointer (some ⟨gu,0,none⟩),.pointer (some ⟨gf,0,none⟩)] (fun x:YK=> #[NV x]) (EX Mi) (Yu Mi WF) (fun xs=>xs.map YK.g=yg u) (fun pre=>pre.map YK.g <+: yg u) w:=by
 intro l J Jp W hb hJ hY h0;have hk:=yI.of_below hFe hw hb;obtain⟨hU2,hOu2⟩:=hk.box ⟨hU,hOu⟩;obtain⟨hF2,hOf2⟩:=hk.box ⟨hF,hOf⟩;obtain⟨cur,hc,hx⟩:=hB;obtain⟨hB2,hOb2⟩:=hk.box ⟨hc,hOb⟩;exact ED n hn hFe l u hlen ca cc ga gc gu gf gb (zl u.code) (z_ u.code u.code.length) W.heap.size J Jp hJ hY W hU2 hF2 ⟨cur,hB2,hx⟩ (hM.keep hk) hOu2 hOf2 hOb2 hk.wf h0
structure P_(u:zg)(ca cc ga gc)(B gu gf gb:Nat)(w:World):Prop where
 hu:w.heap[gu]?=some (oU u ca cc ga gc)
 hf:w.heap[gf]?=some (.cells #[.slice (some ⟨gb,0,none⟩) u.code.length u.code.length] 28)
 hb:BI w gb (zl u.code)
 lu:B<=gu
 lf:B<=gf
 lb:B<=gb
def NC(u:zg)(ca:Option Addr)(cc:Nat)(ga:Option Addr)(gc:Nat)(w:World)(e:Ending)(w':World):Prop:=
 Below w.heap.size w w'/\∃gu gf gb,e= .returned (.func (.func 114) #[] #[.pointer (some ⟨gu,0,none⟩),.pointer (some ⟨gf,0,none⟩)])/\P_ u ca cc ga gc w.heap.size gu gf gb w'
theorem QY(u:zg)(ca cc ga gc)(w:World)(hm:jo w u ca cc ga gc)(hlen:u.code.length<=1000000):
  Calls prog 51 #[vU u ca cc ga gc] w (NC u ca cc ga gc w):=by
 have HFI:=za (fun w' hb=>G_ u ca cc ga gc w' (hm.below hb) hlen);have hfl:(zl u.code).length=u.code.length:=z_ u.code u.code.length;have HFL:=za hfl;clear hfl;have HX1:=za (zo w (oU u ca cc ga gc) _ rfl);have HB:=za (zd w (oU u ca cc ga gc));have HS:=za (vJ w (oU u ca cc ga gc));go_enter func51,ntmps51;go_upto_region 1 with fail;obtain⟨w1,hw1⟩:∃w1,w1=w.alloc (oU u ca cc ga gc):=⟨_,rfl⟩
 rw[<-hw1]at HX1 HB HS;rw[<-hw1];clear hw1;obtain⟨k0,k1,k2,k3,k4,k5,k6⟩:=zr HX1.out
 go_wp2_with (first
  |(go_at_call 80;(with_reducible refine(HFI.out _ HB.out).mono ?_);rintro e w2 ⟨hb,g,rfl,hbi,hg⟩;have HB2:=za hb;have HI2:=za hbi;have HG2:=za hg;clear hb hbi hg))
 have hrow:w2.heap[w.heap.size]?=some (oU u ca cc ga gc):=zb HB2.out HX1.out;have hsz:w.heap.size<=w2.heap.size:=by have h1:=HB2.out.size;have h2:=HS.out;omega
 have hgw:w.heap.size<=g:=by have h1:=HG2.out;have h2:=HS.out;omega
 rw[HFL.out];go_ret;refine⟨(HB.out.step HB2.out).step (zd _ _),w.heap.size,w2.heap.size,g,rfl,zb (zd _ _) hrow,zo _ _ _ rfl,HI2.out.below (zd _ _),zI _,hsz,hgw⟩
theorem JF(l:List xd)(g:xd):Zi (l++ [g])=max (Zi l) g.reads.length:=by simp[Zi]
structure SZ(B bn:Nat)(w W0:World)(pre:List YK)(W:World):Prop where
 hb:Below B w W
 hn:W.heap[bn]?=some (.cells #[.int .i64 (Zi (pre.map YK.g))] 3)
theorem Qu(u:zg)(ca cc ga gc)(w:World)(hm:jo w u ca cc ga gc)(hlen:u.code.length<=600):
  Calls prog 46 #[vU u ca cc ga gc] w (zV (.int .i64 (yd u)) w):=by
 have HG:=za (fun w' hb=>QY u ca cc ga gc w' (hm.below hb) (by omega));have HM:=za hm;clear hm;refine(qC (n:=20)).1 (ZJ func46 rfl ?_);simp only[ntmps46,List.size_toArray,xv,List.length_nil,Nat.reduceAdd,Nat.reduceSub,Array.replicate_succ,JM,List.push_toArray,List.append_toArray,Zd,Y6];have HX1:=za (zo w (oU u ca cc ga gc) _ rfl);have HB:=za (zd w (oU u ca cc ga gc));have HS:=za (vJ w (oU u ca cc ga gc));refine xy.seq (xy.of (wpIn_wide.2 ?_));go_wp2;obtain⟨w1,hw1⟩:∃w1,w1=w.alloc (oU u ca cc ga gc):=⟨_,rfl⟩
 rw[<-hw1]at HX1 HB HS;rw[<-hw1];clear hw1;have HX2:=za (zo w1 (.cells #[.int .i64 1] 3) _ rfl);have HX1b:=za (zb (zd w1 (.cells #[.int .i64 1] 3)) HX1.out);have HBb:=za (HB.out.step (zd w1 (.cells #[.int .i64 1] 3)));have HSb:=za (vJ w1 (.cells #[.int .i64 1] 3));refine xy.seq (xy.of (wpIn_wide.2 ?_));go_wp2;obtain⟨w2,hw2⟩:∃w2,w2=w1.alloc (.cells #[.int .i64 1] 3):=⟨_,rfl⟩
 rw[<-hw2]at HX2 HX1b HBb HSb;rw[<-hw2];clear hw2;obtain⟨k0,k1,k2,k3,k4,k5,k6⟩:=zr HX1b.out;refine xy.seq (xy.seq (xy.of (wpIn_wide.2 ?_)))
 go_wp2_with (first
  |(go_at_call 51;(with_reducible refine(HG.out _ HBb.out).mono ?_);rintro e w3 ⟨hb,gu,gf,gb,rfl,hga⟩;have HB3:=za hb;have HA3:=za hga;clear hb hga))
 clear k0 k1 k2 k3 k4 k5 k6;obtain⟨bn,hbn⟩:∃b,b=w1.heap.size:=⟨_,rfl⟩
 rw[<-hbn]at HX2 HSb;rw[<-hbn];have HBN:Hid (w.heap.size<=bn):=za (by rw[hbn];exact HB.out.size);clear hbn;have hn3:w3.heap[bn]?=some (.cells #[.int .i64 1] 3):=zb HB3.out HX2.out;have hb3:Below w.heap.size w w3:=HBb.out.step HB3.out;have hsz:=hb3.size;have hs2:bn<w2.heap.size:=ze HX2.out;have hs3:bn<w3.heap.size:=ze hn3;have hmi:∀k,k≠bn->NQ (fun k=>k=bn) w3 k:=fun k h=>h
 have hun:Fq (NQ (fun k=>k=bn)) w3 u ca cc ga gc:=by
  have hbn:=HBN.out;refine⟨HM.out.below hb3,fun h0 b o e=> ?_,fun h0 b o e=> ?_⟩
  ·obtain⟨b',o',e',hl,_⟩:=HM.out.rc 0 h0
   rw[e]at e';cases e';exact hmi b (by omega)
  ·obtain⟨b',o',e',hl,_⟩:=HM.out.rg 0 h0
   rw[e]at e';cases e';exact hmi b (by omega)
 have hlu:=HA3.out.lu;have hlf:=HA3.out.lf;have hlb:=HA3.out.lb;have hseq:=QX 19 (by omega) (ZC (fun k=>k=bn)) u hlen ca cc ga gc gu gf gb w3 HA3.out.hu HA3.out.hf HA3.out.hb hun (hmi _ (by omega)) (hmi _ (by omega)) (hmi _ (by omega)) (fun k hk=>by rw[hk];exact hs3)
 refine xy.block (QM (α:=YK) rfl (by omega) (gf:=114) (lb:=#[.pointer (some ⟨gu,0,none⟩),.pointer (some ⟨gf,0,none⟩)]) rfl (enters_of func114 (by kernel_rfl) rfl) hseq Yu.trans (GS (ZC _)) (zG _ _) (fun _=>rfl)
  (fun pre W=>SZ w.heap.size bn w w3 pre W) (fun ch pre W=>False) ?hI ?h0
  (fun x a' W=>∃bG,a'=⟨#[vU u ca cc ga gc,.pointer (some ⟨w.heap.size,0,none⟩),.int .i64 0,.pointer (some ⟨bn,0,none⟩),.pointer (some ⟨bG,0,none⟩),vU u ca cc ga gc,.func (.func 114) #[] #[.pointer (some ⟨gu,0,none⟩),.pointer (some ⟨gf,0,none⟩)],NV x,undef,undef,undef,undef,undef,undef],[]⟩/\W.heap[bG]?=some (.cells #[.int .i64 x.g.frm,.int .i64 x.g.til,.slice x.a x.g.reads.length x.c,.int .i64 x.g.wr] 107)) ?hAx ?assign ?body ?done ?panic)
 case hI=>
  rintro pre A B row ⟨h1,h2⟩ hg hr;refine⟨ZU h1 hg h1.size (fun r e=>by have:=(hr r e).1;omega),(qK hg (fun r e=>(hr r e).2) h2 rfl).trans h2⟩
 case h0=>exact⟨hb3,hn3⟩
 case hAx=>
  rintro x a' _ A B row ⟨bG,rfl,hx⟩ hg hr;exact⟨bG,rfl,(qK hg (fun r e=>(hr r e).2) hx rfl).trans hx⟩
 case assign=>
  intro l pre x W K hI hF hK
  gi_wp2
  refine hK _ _ ((KeepsOthers.alloc _ _).from _) (fun hw=>yI.of_below (ZC _) hw (zd _ _)) ⟨hI.hb.step (zd _ _),zb (zd _ _) hI.hn⟩ ⟨_,rfl,zo _ _ _ rfl⟩
 case body=>
  rintro l pre x a' W ⟨h1,h2⟩ ⟨bG,rfl,hx⟩ hpre;obtain⟨q0,q1,q2,q3⟩:=zX hx;have v0:=(zA _ _ 0 _ _ _ h2).trans rfl;have f0:=zF 0 h2
  have hpost:∀m:Nat,m=max (Zi (pre.map YK.g)) x.g.reads.length->∀a2,OJ w3.heap.size (Yu (NQ fun k=>k=bn) (SP fun k=>k=bn)) (fun pre W=>SZ w.heap.size bn w w3 pre W) (fun _ _ _=>False) (pre++ [x]) W Exit.normal a2 (W.setCell ⟨bn,0,none⟩ (.int .i64 m)):=by
   intro m hm a2;refine⟨(KeepsOthers.setCell _ _ _).from _,fun hw=>⟨fun k hk=>by simpa using hw k hk,rfl,rfl,rfl,by simp,fun k o m hk _=>⟨(yF _ _ _ _ (show k≠bn from m)).trans hk,m⟩⟩,h1.setCell (p:=⟨bn,0,none⟩) HBN.out _,?_⟩;rw[q8,List.map_singleton,JF,<-hm];exact yk _ _ 0 _ _ _ h2
  rcases Nat.lt_or_ge (Zi (pre.map YK.g)) x.g.reads.length with hlt|hge
  ·have n1:(Zi (pre.map YK.g):Int)<(x.g.reads.length:Int):=by omega
   gi_wp2
   all_goals exact hpost _ (by omega) _
  ·have n1:¬(Zi (pre.map YK.g):Int)<(x.g.reads.length:Int):=by omega
   gi_wp2
   all_goals exact hpost _ (by omega) _
 case done=>
  rintro D xs W hD hS ⟨h1,h2⟩ hdef;have v0:W.cell? ⟨bn,0,none⟩=some (.int .i64 (yd u)):=by rw[zA _ _ 0 _ _ _ h2,hS];rfl
  dsimp only;refine xy.seq (n:=20) (xy.of (n:=20) ?_)
  gi_wp2
  refine xy.of (n:=20) ?_
  gi_wp2
  refine Xf [D] W h1 (fun D' h=>by rw[qf.1 h];exact⟨by omega,hdef⟩) (by simp) (fun W' hk hb'=>⟨_,?_,rfl,hb'⟩);simp[results,Tryz.results46,go_sem]
 case panic=>
  rintro D ch pre W hD _ h;exact h.elim
theorem zH{u:zg}(h:zC u=true):zJ u=true:=by
 simp only[zC,yi]at h;exact h.1.1.1.1.1
theorem qA{u:zg}(h:zC u=true):u.code.length<=600:=(z8 (zH h)).2.1
theorem OT(u:zg)(ca cc ga gc)(w:World)(hm:jo w u ca cc ga gc)(hlc:u.code.length<=1000000)(hlg:u.guards.length<=1000000):
  Calls prog 24 #[vU u ca cc ga gc] w (zV (.tuple #[.int .i64 (if zC u=true then yd u else 0:Nat),.int .i64 (if zC u=true then 0 else 1)]) w):=by
 have HW:=za (fun w' hb=>qv u ca cc ga gc w' (hm.below hb) hlc hlg);have HL:=za (fun w' hb (h:zC u=true)=>Qu u ca cc ga gc w' (hm.below hb) (qA h));have HX1:=za (zo w (oU u ca cc ga gc) _ rfl);have HB:=za (zd w (oU u ca cc ga gc));go_enter func24,ntmps24;go_upto_region 1 with fail;obtain⟨w1,hw1⟩:∃w1,w1=w.alloc (oU u ca cc ga gc):=⟨_,rfl⟩
 rw[<-hw1]at HX1 HB;rw[<-hw1];clear hw1;obtain⟨k0,k1,k2,k3,k4,k5,k6⟩:=zr HX1.out
 cases hwr:zC u with
 |true=>
  have HL2:=za (fun w' hb=>HL.out w' hb hwr);rw[hwr]at HW
  go_wp2_with (first
   |(go_at_call 42;(with_reducible refine(HW.out _ HB.out).mono ?_);rintro e w2 ⟨rfl,hb⟩;obtain⟨j0,j1,j2,j3,j4,j5,j6⟩:=zr (zb hb HX1.out);have HB2:=za (HB.out.step hb);clear hb)
   |(go_at_call 46;(with_reducible refine(HL2.out _ HB2.out).mono ?_);rintro e w3 ⟨rfl,hb⟩;have HB3:=za (HB2.out.step hb);clear hb))
  go_ret2
  exact⟨rfl,HB3.out⟩
 |false=>
  rw[hwr]at HW
  go_wp2_with (first
   |(go_at_call 42;(with_reducible refine(HW.out _ HB.out).mono ?_);rintro e w2 ⟨rfl,hb⟩;obtain⟨j0,j1,j2,j3,j4,j5,j6⟩:=zr (zb hb HX1.out);have HB2:=za (HB.out.step hb);clear hb))
  all_goals go_ret2
  all_goals exact⟨rfl,HB2.out⟩
end Go.Proofs.YtgalekifgnecjaaGreat
