/- The library's sort, laid at this program by the kit's own program -/
import Derived.Test.YtgalekifgnecjaaGreatM1
import Derived.Ground.NamesProg
import Derived.Shelf.Sort.Plain
import Derived.Shelf.Slices.In.SortNone
import Derived.Sort.OwnSortedInts
namespace Go.Proofs
open Go.Shelf
def Tryz.lays189_ren:Go.Shelf.Ren:=⟨fun|189=>216|125=>136|257=>231|128=>195|129=>196|294=>236|295=>237|296=>238|297=>239|298=>240|299=>241|216=>242|300=>243|301=>244|328=>245|329=>223|330=>224|331=>246|332=>247|215=>138|343=>248|n=>n,fun|28=>28|3=>3|46=>183|0=>0|51=>232|53=>234|4=>4|183=>226|182=>225|131=>172|5=>5|9=>9|218=>250|222=>153|228=>260|229=>261|n=>n,fun|n=>n⟩
theorem Tryz.lays189:Go.Proofs.Lays.n189 prog Tryz.lays189_ren:={
 mixed:=by kernel_rfl
 f125:=func136.trans (congrArg some (by kernel_rfl))
 f128:=func195.trans (congrArg some (by kernel_rfl))
 f129:=func196.trans (congrArg some (by kernel_rfl))
 f189:=func216.trans (congrArg some (by kernel_rfl))
 f215:=func138.trans (congrArg some (by kernel_rfl))
 f216:=func242.trans (congrArg some (by kernel_rfl))
 f257:=func231.trans (congrArg some (by kernel_rfl))
 f294:=func236.trans (congrArg some (by kernel_rfl))
 f295:=func237.trans (congrArg some (by kernel_rfl))
 f296:=func238.trans (congrArg some (by kernel_rfl))
 f297:=func239.trans (congrArg some (by kernel_rfl))
 f298:=func240.trans (congrArg some (by kernel_rfl))
 f299:=func241.trans (congrArg some (by kernel_rfl))
 f300:=func243.trans (congrArg some (by kernel_rfl))
 f301:=func244.trans (congrArg some (by kernel_rfl))
 f328:=func245.trans (congrArg some (by kernel_rfl))
 f329:=func223.trans (congrArg some (by kernel_rfl))
 f330:=func224.trans (congrArg some (by kernel_rfl))
 f331:=func246.trans (congrArg some (by kernel_rfl))
 f332:=func247.trans (congrArg some (by kernel_rfl))
 f343:=func248.trans (congrArg some (by kernel_rfl))
 t0:=Tryz.underlying0
 a0:=Tryz.isAgg0
 z0:=Tryz.sizeOf0
 v0:=Tryz.zeroValue0
 t3:=Tryz.underlying3
 a3:=Tryz.isAgg3
 z3:=Tryz.sizeOf3
 v3:=Tryz.zeroValue3
 t4:=Tryz.underlying4
 a4:=Tryz.isAgg4
 z4:=Tryz.sizeOf4
 v4:=Tryz.zeroValue4
 t5:=Tryz.underlying5
 a5:=Tryz.isAgg5
 z5:=Tryz.sizeOf5
 v5:=Tryz.zeroValue5
 t9:=Tryz.underlying9
 a9:=Tryz.isAgg9
 z9:=Tryz.sizeOf9
 v9:=Tryz.zeroValue9
 t28:=Tryz.underlying28
 a28:=Tryz.isAgg28
 z28:=Tryz.sizeOf28
 v28:=Tryz.zeroValue28
 t46:=Tryz.underlying183
 a46:=Tryz.isAgg183
 z46:=Tryz.sizeOf183
 v46:=Tryz.zeroValue183
 t51:=Tryz.underlying232
 a51:=Tryz.isAgg232
 z51:=Tryz.sizeOf232
 v51:=Tryz.zeroValue232
 t53:=Tryz.underlying234
 a53:=Tryz.isAgg234
 z53:=Tryz.sizeOf234
 v53:=Tryz.zeroValue234
 t131:=Tryz.underlying172
 a131:=Tryz.isAgg172
 z131:=Tryz.sizeOf172
 v131:=Tryz.zeroValue172
 t182:=Tryz.underlying225
 a182:=Tryz.isAgg225
 z182:=Tryz.sizeOf225
 v182:=Tryz.zeroValue225
 t183:=Tryz.underlying226
 a183:=Tryz.isAgg226
 z183:=Tryz.sizeOf226
 v183:=Tryz.zeroValue226
 t218:=Tryz.underlying250
 a218:=Tryz.isAgg250
 z218:=Tryz.sizeOf250
 v218:=Tryz.zeroValue250
 t222:=Tryz.underlying153
 a222:=Tryz.isAgg153
 z222:=Tryz.sizeOf153
 v222:=Tryz.zeroValue153
 t228:=Tryz.underlying260
 a228:=Tryz.isAgg260
 z228:=Tryz.sizeOf260
 v228:=Tryz.zeroValue260
 t229:=Tryz.underlying261
 a229:=Tryz.isAgg261
 z229:=Tryz.sizeOf261
 v229:=Tryz.zeroValue261 }
end Go.Proofs
namespace Go.Proofs.YtgalekifgnecjaaGreat
open Tryz Go.RowKit Go.Shelf Go.Sort
theorem QF:∀ {l:List Int},l.Pairwise (fun x y=>decide (x<=y)=true)->l.Nodup->xt l
 | [],_,_=> .nil
 |x::l,h,hn=>by
  obtain⟨h1,h2⟩:=jW.1 h;obtain⟨n1,n2⟩:=List.nodup_cons.1 hn;refine jW.2 ⟨fun y hy=> ?_,QF h2 n2⟩;have h3:x<=y:=by simpa using h1 y hy
  have h4:x≠y:=fun e=>n1 (e ▸ hy)
  omega
theorem Jd{l S:List Int}(hn:l.Nodup)(hm:∀x,x∈l↔x∈S)(hS:xt S):(l.mergeSort fun x y=>decide (x<=y))=S:=by
 have hp:=List.mergeSort_perm l (fun x y=>decide (x<=y));have hs:=List.pairwise_mergeSort (le:=fun x y:Int=>decide (x<=y)) (fun a b c h1 h2=>by simp at *;omega) (fun a b=>by simp;omega) l;have hd:=(hp.nodup_iff).2 hn;refine Z4 ?_ hS fun x=>(hp.mem_iff).trans (hm x)
 exact QF hs hd
theorem FD(base:Nat)(v:Value)(l S:List Int)(w:World)(h:zu w base v l)(hn:l.Nodup)(hm:∀x,x∈l↔x∈S)(hS:xt S)(hl:l.length<=1000000):
  Calls prog 216 #[v] w fun e w'=>e= .returned (.tuple #[])/\zu w' base v S/\w.grownBy w' v.ownBlock:=by
 have hlen:S.length=l.length:=by
  have h1:=congrArg List.length (Jd hn hm hS);rw[List.length_mergeSort]at h1;exact h1.symm
 rcases h.2 with ⟨rfl,h0⟩|⟨g,cap,cur,rfl,hb,hg,h1,h2,h3,h4⟩
 ·have hl0:l= []:=List.eq_nil_of_length_eq_zero h0
  subst hl0;obtain rfl:S= []:=List.eq_nil_of_length_eq_zero hlen;refine(Any.slices_Sort_int_none Tryz.lays189 none 0 w).mono ?_;rintro e w' ⟨rfl,rfl⟩;exact⟨rfl,jd _ _ _ _,rfl,rfl,rfl,zI _,fun _ _ _=>rfl⟩
 ·rw[Nat.mul_one]at h4
  refine(Any.slices_Sort_int Tryz.lays189 g 0 cap l w (holds_of_blockI hg h4) (ze hg) (by omega)).mono ?_;rintro e w' ⟨rfl,n,os,rfl⟩;rw[Jd hn hm hS];refine⟨rfl,?_,grownBy_sortedI _⟩;have:=ownsRow_sortedI (n:=n) (os:=os) (ts:=S) (ss:=l) hlen hb hg h1 h2 h3;unfold zu;rw[hlen];exact this
end Go.Proofs.YtgalekifgnecjaaGreat
