/- leads as a contract for loops; what the body of such a loop touches; marks -/
import Derived.Test.YtgalekifgnecjaaGreatB1
import Derived.Lib.QuietBelowIn
import Derived.Sort.BigQuietIn
namespace Go.Proofs.YtgalekifgnecjaaGreat
open Tryz Go.RowKit Go.Shelf Go.Sort
abbrev oU(u:zg)(ca:Option Addr)(cc:Nat)(ga:Option Addr)(gc:Nat):Obj:=.cells #[.string u.cls,.string u.name,.int .i64 u.args,.int .i64 u.slots,.int .i64 u.frame,.slice ca u.code.length cc,.slice ga u.guards.length gc] 25
theorem Ui(u:zg)(t:Int)(ca cc ga gc)(w:World):
  Calls prog 166 #[vU u ca cc ga gc,.int .i64 t] w fun e w'=>e= .returned (.func (.func 208) #[] #[.pointer (some ⟨w.heap.size,0,none⟩),.pointer (some ⟨w.heap.size+1,0,none⟩)])/\(w.alloc (oU u ca cc ga gc)).alloc (.cells #[.int .i64 t] 3)=w':=by
 go_enter func166,ntmps166;go_wp2;go_ret;exact⟨rfl,rfl⟩
def Sh(i:zm)(how:Int):Int:=if i.op=30/\how=0 then 1 else if (i.op=31/\how=0)\/(i.op=32/\how=1)then -1 else 0
def QI(D:Nat):Deferred:={ target:=.collected D,args:=#[] }
theorem Xf{F:Fence}{n:Nat}{P:Program}{fn:Func}{tmps:Array Value}{R:Ending->World->Prop}{B:Nat}{w0:World}:
  ∀(Ds:List Nat) (W:World),Below B w0 W->(∀D,D∈Ds->B<=D/\W.heap[D]?=some (.deferred (some [])))->Ds.Nodup ->
   (∀W',jw (fun _=>False) W W'->Below B w0 W'->LeavesIn F n P fn tmps R [] .returning W')->LeavesInM F n P fn tmps R (Ds.map QI) .returning W
 | [],W,hb,_,_,h=>h W (jw.refl _ _) hb
 |D::Ds,W,hb,hD,hn,h=>by
  obtain⟨hB,hd⟩:=hD D (List.mem_cons_self ..);have hn':=List.nodup_cons.1 hn;have hk:jw (fun _=>False) W (W.putObj D (.deferred none)):=PJ (w:={ W with heap:=#[] }) W D _ _ (zE _) hd rfl rfl;have hb':Below B w0 (W.putObj D (.deferred none)):=hb.trans ⟨rfl,rfl,rfl,by simp[World.putObj],fun k hk=>World.putObj_heap_other (by omega)⟩;refine⟨by simp,.inl ⟨D,W.putObj D (.deferred none),rfl,run_takeDeferred hd,?_⟩⟩;refine Xf Ds _ hb' (fun E hE=> ?_) hn'.2 (fun W' hk' hb2=>h W' (hk.trans hk') hb2);have hne:E≠D:=fun e=>hn'.1 (e ▸ hE)
  exact⟨(hD E (List.mem_cons_of_mem _ hE)).1,(World.putObj_heap_other hne).trans (hD E (List.mem_cons_of_mem _ hE)).2⟩
def QB(w:World)(g off cap:Nat)(l:List Int):Prop:=
 ∃cur,w.heap[g]?=some (.cells cur 3 (0,0))/\l.length<=cap/\off+cap<=cur.size/\cap<=maxLen/\∀i (h:i<l.length),cur[off+i]?=some (.int .i64 l[i])
theorem QB.at{w:World}{g off cap:Nat}{l:List Int}(h:QB w g off cap l){i:Nat}(hi:i<l.length):w.cell? ⟨g,off+i,none⟩=some (.int .i64 l[i]):=by
 obtain⟨cur,hg,-,-,-,hx⟩:=h;exact(zA _ _ _ _ _ _ hg).trans (hx i hi)
theorem QB.lt{w:World}{g off cap:Nat}{l:List Int}(h:QB w g off cap l):g<w.heap.size:=by
 obtain⟨cur,hg,-⟩:=h;exact(qM.1 hg).1
theorem QB.keep{w w':World}{g off cap:Nat}{l:List Int}(h:QB w g off cap l)(e:w'.heap[g]?=w.heap[g]?):QB w' g off cap l:=by
 obtain⟨cur,hg,hr⟩:=h;exact⟨cur,e.trans hg,hr⟩
theorem QB.below{w w':World}{g off cap:Nat}{l:List Int}(h:QB w g off cap l)(hb:Below w.heap.size w w'):QB w' g off cap l:=h.keep (hb.block g h.lt)
theorem QB.cells{w:World}{g off cap:Nat}{l:List Int}(h:QB w g off cap l):∃cur,w.heap[g]?=some (.cells cur 3 (0,0)):=by
 obtain⟨cur,hg,-⟩:=h;exact⟨cur,hg⟩
theorem QB.one{w:World}{g:Nat}{x:Int}(h:w.heap[g]?=some (.cells #[.int .i64 x] 3 (0,0))):QB w g 0 1 [x]:=
 ⟨_,h,zI _,zI _,by unfold maxLen;omega,fun i hi=>by
  have:i=0:=by simpa using hi
  subst this
  rfl⟩
theorem QB.tail{w:World}{g off cap:Nat}{x:Int}{l:List Int}(h:QB w g off cap (x::l)):∃off',sliced (some ⟨g,off,none⟩) 1 (l.length+1) cap 1= .slice (some ⟨g,off',none⟩) l.length (cap-1)/\QB w g off' (cap-1) l:=by
 obtain⟨cur,hg,h1,h2,h3,hx⟩:=h;rw[xv]at h1;by_cases hc:cap=1
 ·subst hc
  have hl:l= []:=List.eq_nil_of_length_eq_zero (by omega);subst hl;exact⟨off,by unfold sliced;simp,cur,hg,zE _,by omega,by omega,fun i hi=>absurd hi (by simp)⟩
 ·refine⟨off+1,?_,cur,hg,by omega,by omega,by omega,fun i hi=> ?_⟩
  ·unfold sliced
   rw[zi hc];simp[Addr.add]
  ·have:=hx (i+1) (by simp;omega)
   rw[show off+1+i=off+(i+1) by omega];rw[this];simp
set_option maxHeartbeats 1000000 in
theorem UH(w:World)(ty:TypeId)(g off cap:Nat)(l:List Int)(x:Int)(ad:Addr)(c:Nat)(hq:QB w g off cap l)(hx:w.cell? ad=some (.int .i64 x))(hs:l.length<=1000000):
  ∃g' off' cap' w',(Builtin.append_ #[28,28] ty #[.slice (some ⟨g,off,none⟩) l.length cap,.slice (some ad) 1 c]).run prog w= .ok (.slice (some ⟨g',off',none⟩) (l.length+1) cap') w'/\QB w' g' off' cap' (l++ [x])/\w.grownBy w' (some g)/\(g'=g\/g'=w.heap.size):=by
 obtain⟨i0,hi,hz0,hz1,hz2⟩:=info_parts GV;obtain⟨cur,hg,h1,h2,h3,hc⟩:=hq
 have hnews:∀j u,([Value.int .i64 x]:List Value)[j]?=some u->w.cell? (ad.add j)=some u:=by
  intro j u hu
  cases j with
  |zero=>
   simp at hu;subst hu;rw[show ad.add 0=ad by unfold Addr.add;split<;>simp_all]
   exact hx
  |succ j=>simp at hu
 have hone:∀u∈([Value.int .i64 x]:List Value),u.oneCell'=true:=by
  intro u hu;rw[qf.1 hu];rfl
 have hlen:(l++ [x]).length=l.length+1:=by simp
 by_cases hr:l.length+1<=cap
 ·have hf:=run_firstCells_some (P:=prog) w i0.size 1 ad 1 c [Value.int .i64 x] (by rw[hz1];rfl) hnews
  have hst:=run_storeCells_at prog g (off+l.length) 3 [Value.int .i64 x] 0 cur w hg (by simp;omega) hone;refine⟨g,off,cap,w.setRow g (cur.toList.take (off+l.length)++ [Value.int .i64 x]++cur.toList.drop (off+l.length+1)).toArray,?_,⟨_,setRow_heap w g cur _ 3 _ hg,by rw[hlen];exact hr,?_,h3,fun i hi'=> ?_⟩,⟨rfl,rfl,rfl,by simp,fun k _ hk=>setRow_other w g k _ (fun e=>hk (by rw[e]))⟩,.inl rfl⟩
  ·simp only[Nat.add_zero,Y8]at hst
   have ea:(⟨g,off,none⟩:Addr).add l.length=⟨g,off+l.length,none⟩:=by unfold Addr.add;split<;>simp_all
   simp[Builtin.append_,run_underlying Tryz.underlying28,sizeOf,typeInfo,hi,Builtin.lenOf,hr,hz1,ea];rw[hz1]at hf;simp[hf,hst]
  ·simp
   omega
  ·rw[hlen]at hi'
   by_cases hil:i<l.length
   ·rw[List.getElem_append_left hil,<-hc i hil]
    have hlt:off+i<(cur.toList.take (off+l.length)).length:=by simp;omega
    rw[List.getElem?_toArray,Yr,List.getElem?_append_left hlt,List.getElem?_take,zj (by omega)];simp
   ·obtain rfl:i=l.length:=by omega
    have hlt:(cur.toList.take (off+l.length)).length=off+l.length:=by simp;omega
    rw[List.getElem?_toArray,Yr,List.getElem?_append_right (by omega),hlt,Nat.sub_self];simp
 ·have holds:∀j u,(l.map (Value.int .i64))[j]?=some u->w.cell? ((⟨g,off,none⟩:Addr).add j)=some u:=by
   intro j u hu;rw[List.getElem?_map]at hu
   have hj:j<l.length:=by
    by_cases hj:j<l.length
    ·exact hj
    ·rw[YJ (by omega)]at hu;cases hu
   rw[q9 hj]at hu;cases hu;rw[show(⟨g,off,none⟩:Addr).add j=⟨g,off+j,none⟩ by unfold Addr.add;split<;>simp_all];exact(zA _ _ _ _ _ _ hg).trans (hc j hj)
  have hrun:=run_append_grow (P:=prog) w 28 ty 3 i0 _ Tryz.underlying28 hi hz0 ⟨g,off,none⟩ l.length cap (l.map (Value.int .i64)) (by rw[ym,hz1,Nat.mul_one]) holds ad 1 c [Value.int .i64 x] (by rw[hz1];rfl) hnews (by omega) (by omega) (growslice_fits (by omega) (by rw[hz2];omega));have hge:=grownCap_ge w (l.length+1) cap 3;refine⟨w.heap.size,0,_,_,hrun,⟨_,heap_alloc_new w.drew _,by rw[hlen];exact hge,?_,grownCap_le_maxLen w (l.length+1) cap 3 (by unfold maxLen;omega),fun i hi'=> ?_⟩,⟨rfl,rfl,rfl,by simp,fun k hk _=>heap_alloc_old w.drew _ hk⟩,.inr rfl⟩
  ·simp[Builtin.zeroCells,Value.cells]
   omega
  ·rw[hlen]at hi'
   rw[jU];have e1:((l.map (Value.int .i64)).toArray++ [Value.int .i64 x].toArray).toList=(l++ [x]).map (Value.int .i64):=by simp
   have hlt:i<((l.map (Value.int .i64)).toArray++ [Value.int .i64 x].toArray).size:=by simp;omega
   rw[Array.getElem?_append_left hlt,<-Array.getElem?_toList,e1,List.getElem?_map,q9 (by rw[hlen];exact hi')];rfl
theorem Q_{F:Fence}{n:Nat}{ops:Array Oper}{rest:List Oper}{o:Oper}{a:Act}{Q:Exit->Act->World->Prop}(w:World)(hgd:o.guard=none)(s x:Operand)
  (ho:o.op= .call { callee:=.builtin .append,args:=#[s,x],argTypes:=#[28,28] }) (g off cap:Nat) (l:List Int) (v:Int) (hs:a.eval s= .slice (some ⟨g,off,none⟩) l.length cap) (hq:QB w g off cap l) (ad:Addr) (c:Nat) (hx:a.eval x= .slice (some ad) 1 c) (hv:w.cell? ad=some (.int .i64 v)) (hl:l.length<=1000000)
  (h:∀g' off' cap' w',QB w' g' off' cap' (l++ [v])->w.grownBy w' (some g)->(g'=g\/g'=w.heap.size)->wpListIn F n prog ops Q rest (a.put o.dst (.slice (some ⟨g',off',none⟩) (l.length+1) cap')) w'):wpListIn F n prog ops Q (o::rest) a w:=by
 refine wpListIn_plain hgd fun K hK=> ?_
 obtain⟨g',off',cap',w',hr,h2,h3,h4⟩:=UH w o.type g off cap l v ad c hq hv hl;unfold Oper.wpIn;refine⟨by simp[Oper.about,ho,resolve,Target.leads,Sem.run_pure],?_⟩;rw[Oper.semAt_plain F _ _ (by rw[ho];intro c hc';cases hc')];simp[execOp,ho,resolve,invoke,builtin,hs,hx,hr,Result.andThen];exact hK _ _ (h g' off' cap' w' h2 h3 h4)
structure jK(B:Nat)(S:Nat->Prop)(W W':World):Prop where
 os:W'.os=W.os
 tape:W'.tape=W.tape
 output:W'.output=W.output
 block:∀k,k<B->¬S k->W'.heap[k]?=W.heap[k]?
 others:KeepsOthers W W'
section
variable {B:Nat} {S:Nat->Prop} {W A C:World}
theorem jK.refl:jK B S W W:=⟨rfl,rfl,rfl,fun _ _ _=>rfl,KeepsOthers.refl _⟩
theorem jK.trans(h:jK B S W A)(k:jK B S A C):jK B S W C:=⟨k.os.trans h.os,k.tape.trans h.tape,k.output.trans h.output,fun i h1 h2=>(k.block i h1 h2).trans (h.block i h1 h2),h.others.trans k.others⟩
theorem jK.below(hb:Below A.heap.size A C)(hB:B<=A.heap.size):jK B S A C:=
 ⟨hb.os,hb.tape,hb.output,fun k hk _=>hb.block k (by omega),⟨hb.size,fun k _o hk _=>(hb.block k (qM.1 hk).1).trans hk⟩⟩
theorem jK.put(p:Addr)(v:Value)(h:S p.block\/B<=p.block):jK B S A (A.setCell p v):=
 ⟨rfl,rfl,rfl,fun k hk hn=>Below.heap_setCell _ _ _ _ (fun e=>by rcases h with h|h;exact hn (e ▸ h);omega),KeepsOthers.setCell _ _ _⟩
theorem jK.grown{g:Nat}{cur:Array Value}{T:TypeId}(hg:A.grownBy C (some g))(h:S g\/B<=g)(hc:A.heap[g]?=some (.cells cur T (0,0)))(hB:B<=A.heap.size):jK B S A C:=
 ⟨hg.os,hg.tape,hg.output,fun k hk hn=>hg.block k (by omega) (fun e=>by cases e;rcases h with h|h;exact hn h;omega),KeepsOthers.of_grownBy hg (fun j o e ho=>by cases e;rw[hc]at ho;cases ho;rfl)⟩
theorem jK.size(h:jK B S W A):W.heap.size<=A.heap.size:=h.others.size
end
def Oh(S:Nat->Prop)(g:Nat)(W:World)(k:Nat):Prop:=¬S k/\k≠g/\∀b off n c,W.cell? ⟨g,0,none⟩=some (.slice (some ⟨b,off,none⟩) n c)->k≠b
structure Fp(S:Nat->Prop)(g:Nat)(W:World):Prop where
 own:∀k,S k->k<W.heap.size
 cell:∃v,W.cell? ⟨g,0,none⟩=some v
 back:∀b off n c,W.cell? ⟨g,0,none⟩=some (.slice (some ⟨b,off,none⟩) n c)->b<W.heap.size
theorem Ka(S:Nat->Prop)(g:Nat):Kv (Oh S g) (Fp S g):=by
 refine⟨fun A B hw hb=> ?_,fun W l o o' hl ho hw=> ?_⟩
 ·obtain⟨v,hv⟩:=hw.cell
  have e:B.cell? ⟨g,0,none⟩=A.cell? ⟨g,0,none⟩:=ZO (hb.block g (block_lt_of_cell hv));refine⟨⟨fun k hk=>xh (hw.own k hk) hb.size,⟨v,e.trans hv⟩,fun b off n c h=>xh (hw.back b off n c (e.symm.trans h)) hb.size⟩,fun k m=>⟨m.1,m.2.1,fun b off n c h=>m.2.2 b off n c (e.symm.trans h)⟩,fun k h1 _=>⟨fun hs=>by have:=hw.own k hs;omega,fun he=>by have:=block_lt_of_cell hv;simp only at this;omega,fun b off n c h=>by have:=hw.back b off n c (e.symm.trans h);omega⟩⟩
 ·obtain⟨v,hv⟩:=hw.cell
  have hne:g≠l:=fun he=>by
   subst he;unfold World.cell? at hv;rw[show(⟨g,0,none⟩:Addr).block=g from rfl,hl]at hv;cases o<;>simp[Obj.isCells]at ho hv
  have e:(W.putObj l o').cell? ⟨g,0,none⟩=W.cell? ⟨g,0,none⟩:=ZO (World.putObj_heap_other hne);exact⟨⟨fun k hk=>by simpa[World.putObj]using hw.own k hk,⟨v,e.trans hv⟩,fun b off n c h=>by simpa[World.putObj]using hw.back b off n c (e.symm.trans h)⟩,fun k m=>⟨m.1,m.2.1,fun b off n c h=>m.2.2 b off n c (e.symm.trans h)⟩⟩
theorem jK.keepM{S S':Nat->Prop}{g:Nat}{W W':World}(h:jK W.heap.size S' W W')(hS:∀k,S' k->¬Oh S g W k)(hw:Fp S g W')(hm:∀k,k<W.heap.size->Oh S g W k->Oh S g W' k):yI (Oh S g) (Fp S g) W W':=by
 refine⟨hw,h.os,h.tape,h.output,h.size,fun k o m hk _=> ?_⟩;have hlt:=(qM.1 hk).1;exact⟨(h.block k hlt (fun hs=>hS k hs m)).trans hk,hm k hlt m⟩
abbrev P7(u:zg)(t:Nat):={x:Int×Int // x∈xp u t}
def Lq{u:zg}{t:Nat}(l:List (P7 u t)):List (Int×Int):=l.map Subtype.val
theorem Vw(n:Nat)(hn:1<=n){Mi:World->Nat->Prop}{WF:World->Prop}(hFe:Kv Mi WF)(u:zg)(t:Nat)(ht:t<u.code.length)(hlen:u.code.length<=1000000)(hlg:u.guards.length<=1000000)(ca cc ga gc)(gu gt:Nat)
  (w:World) (hU:w.heap[gu]?=some (oU u ca cc ga gc)) (hT:w.heap[gt]?=some (.cells #[.int .i64 t] 3)) (hM:Fq Mi w u ca cc ga gc) (hOu:Mi w gu) (hOt:Mi w gt) (hw:WF w):
  SeqStopsK Fence.wide n prog 208 #[.pointer (some ⟨gu,0,none⟩),.pointer (some ⟨gt,0,none⟩)] (fun x:P7 u t=> #[.int .i64 x.1.1,.int .i64 x.1.2]) (Yu Mi WF) (fun ys=>Lq ys=xp u t) (fun pre=>Lq pre <+: xp u t/\pre≠ []) (xp u t).length w:=by
 intro l J Jx W hb hJ _ hY h0;have hk:=yI.of_below hFe hw hb;obtain⟨hU2,hOu2⟩:=hk.box ⟨hU,hOu⟩;obtain⟨hT2,hOt2⟩:=hk.box ⟨hT,hOt⟩;refine(Do n hn hFe l u t ht hlen hlg ca cc ga gc gu gt W.heap.size (fun pre W=>∃p:List (P7 u t),Lq p=pre/\J p W) (fun pre W=>∃p:List (P7 u t),Lq p=pre/\Jx p W) ?_ ?_ W hU2 hT2 (hM.keep hk) hOu2 hOt2 hk.wf ⟨[],rfl,h0⟩).mono ?_
 ·rintro s A B row ⟨p,e,hj⟩ hg hr
  exact⟨p,e,hJ p A B row hj hg hr⟩
 ·rintro pre x W1 ⟨p,e,hj⟩ hp
  have hx:x∈xp u t:=hp.subset (by simp)
  have hl:p.length<(xp u t).length:=by
   have h1:=hp.length_le;have h2:p.length=pre.length:=by rw[<-e];simp[Lq]
   simp at h1;omega
  refine(hY p ⟨x,hx⟩ W1 hj hl).mono ?_;rintro e' W' (⟨h1,h2,h3⟩|⟨h1,h2⟩)
  ·exact .inl ⟨h1,⟨p++ [⟨x,hx⟩],by rw[<-e];simp[Lq],h2⟩,h3⟩
  ·exact .inr ⟨h1,⟨p++ [⟨x,hx⟩],by rw[<-e];simp[Lq],h2⟩⟩
 ·rintro e' W' ⟨h1,h2⟩
  refine⟨h1,?_⟩;rcases h2 with ⟨ys,h3,p,h4,h5⟩|⟨pre,⟨h3,h4⟩,p,h5,h6⟩
  ·exact .inl ⟨p,h4.trans h3,h5⟩
  ·refine .inr ⟨p,⟨by rw[h5];exact h3,fun hp=>h4 ?_⟩,h6⟩
   rw[<-h5,hp];rfl
def NY(l:List Oper):Bool:=l.all fun o=>match o.op with| .defer _=>false|_=>true
end Go.Proofs.YtgalekifgnecjaaGreat
