/-
  Maps from names to 1, told to the entry, and maps from names to whatever value. The names met, sorted: the contract of slices.Sorted of maps.Keys at a map of names.
-/
import Derived.Test.YtdkgkacnjdnpoaaGreatMet
import Derived.Maps.OwnSet
import Derived.Maps.OwnIn
import Derived.Test.YtdkgkacnjdnpoaaGreatHgP
import Derived.Shelf.SlIter.Nil
import Derived.Shelf.SortM.Plain
import Derived.Shelf.SortM.SortNone
import Derived.Ground.GgzProg
import Derived.Ground.SlgmProg
set_option maxHeartbeats 1000000
set_option maxRecDepth 100000
namespace Go.Proofs.YtdkgkacnjdnpoaaGreat
open Go.RowKit
theorem owns_exact {H:Type} {w:World} {P:Program} {k:TypeId} {R:Value→Option (DataW H × List MemPlace)} {b n:Nat} {D:DataW H} (h:w.ownsMap P k R b n D):w.ownsMap P k R b (Maps.size D) D:=by
 obtain ⟨es,clock,h0,h1,h2,rfl⟩:=h
 refine ⟨es,clock,h0,h1,?_,rfl⟩
 simp[Maps.size,length_sorted]
abbrev keyN (nm:ByteArray):Lit:= .string nm.data.toList
theorem keyN_ne {a b:ByteArray} (h:a≠b):keyN a≠keyN b:=fun g=>h (str_key g)
theorem keyN_of {nm:ByteArray} (hs:nm.size≤maxLen):keyOf Tryz.prog 9 (.string nm)=some (keyN nm):=_root_.Go.WideMaps.keyOf_string_mk Tryz.underlying9 hs
def MetS (w:World) (b:Nat) (l:List ByteArray):Prop:=
 l.Nodup∧∃D:DataW Unit,w.ownsMap Tryz.prog 9 (plainElem Tryz.prog 3) b l.length D∧Maps.size D=l.length∧∀nm:ByteArray,Maps.has D (keyN nm)=cB (nm∈l)∧(nm∈l→D.atKey (keyN nm) (.lit (.int .i64 0))= .lit (.int .i64 1))
section
variable {w w':World} {b:Nat} {l:List ByteArray}
theorem MetS.lt (h:MetS w b l):b<w.heap.size:=by
 obtain ⟨_,D,h1,_⟩:=h
 exact h1.lt
theorem MetS.keep (h:MetS w b l) (hk:w'.heap[b]? =w.heap[b]?):MetS w' b l:=by
 obtain ⟨h0,D,⟨es,clock,h1,h2⟩,h3⟩:=h
 exact ⟨h0,D,⟨es,clock,hk.trans h1,h2⟩,h3⟩
theorem MetS.below {B:Nat} (h:MetS w b l) (hb:Below B w w') (hB:b<B):MetS w' b l:=h.keep (hb.block b hB)
theorem MetS.alloc (h:MetS w b l) (o:Obj):MetS (w.alloc o) b l:=h.below ((Below.refl _ _).alloc (Nat.le_refl _) _) h.lt
theorem MetS.grown {row:Option Nat} (h:MetS w b l) (hg:w.grownBy w' row) (hr:some b≠row):MetS w' b l:=h.keep (hg.block b h.lt hr)
theorem MetS.isMap (h:MetS w b l):∃es clock,w.heap[b]? =some (.map es clock):=by
 obtain ⟨_,D,⟨es,clock,h1,_⟩,_⟩:=h
 exact ⟨es,clock,h1⟩
theorem mets_made (w:World):MetS (w.alloc (.map #[] 0)) w.heap.size []:=
 ⟨List.nodup_nil,.map [],World.ownsMap_made w _ _ _,rfl,fun nm=>⟨(cB_false (by simp)).symm,fun h=>absurd h (by simp)⟩⟩
theorem MetS.look (h:MetS w b l) {nm:ByteArray} (hs:nm.size≤maxLen):(nm∈l→(Instr.lookup 85 (.map (some b)) (.string nm) false).run Tryz.prog w= .ok (.int .i64 1) w)∧(nm∉l→(Instr.lookup 85 (.map (some b)) (.string nm) false).run Tryz.prog w= .ok (.int .i64 0) w):=by
 obtain ⟨h0,D,h1,h2,h3⟩:=h
 obtain ⟨c,hr,ha,_⟩:=h1.lookup_int (Maps.string_keyed Tryz.underlying9) Tryz.underlying85 Tryz.underlying3 (zero_int w) (keyN_of hs)
 constructor
 ·intro g
  rw[(h3 nm).2 g] at ha
  have h6:=(Lit.int.inj (DataW.lit.inj ha)).2
  rw[←h6] at hr
  exact hr
 ·intro g
  rw[Maps.atKey_of_not_has ((h3 nm).1.trans (cB_false g))] at ha
  have h6:=(Lit.int.inj (DataW.lit.inj ha)).2
  rw[←h6] at hr
  exact hr
open Classical in
noncomputable def putN (l:List ByteArray) (nm:ByteArray):List ByteArray:=if nm∈l then l else l++ [nm]
theorem putN_mem {nm x:ByteArray}:x∈putN l nm↔x∈l∨x=nm:=by
 unfold putN
 split
 ·rename_i h
  exact ⟨.inl,fun g=>g.elim id (fun e=>e▸h)⟩
 ·simp
theorem putN_nodup {nm:ByteArray} (h:l.Nodup):(putN l nm).Nodup:=by
 unfold putN
 split
 ·exact h
 ·rename_i g
  rw[List.nodup_append]
  exact ⟨h,by simp,fun y hy z hz e=>by simp at hz;subst hz;subst e;exact g hy⟩
theorem putN_len {nm:ByteArray}:(putN l nm).length≤l.length+1:=by
 unfold putN
 split
 ·omega
 ·simp
theorem mets_tidy {D:DataW Unit} {n:Nat} (h:w.ownsMap Tryz.prog 9 (plainElem Tryz.prog 3) b n D):Maps.Tidy D:=h.tidy (Maps.string_keyed Tryz.underlying9)
theorem mets_after {nm:ByteArray} {D:DataW Unit} {n:Nat} (h0:l.Nodup) (ht:Maps.Tidy D) (h2:Maps.size D=l.length) (h3:∀nm:ByteArray,Maps.has D (keyN nm)=cB (nm∈l)∧(nm∈l→D.atKey (keyN nm) (.lit (.int .i64 0))= .lit (.int .i64 1)))
  (ho:w'.ownsMap Tryz.prog 9 (plainElem Tryz.prog 3) b n (D.put (keyN nm) (.lit (.int .i64 1)))):MetS w' b (putN l nm):=by
 have hsz:Maps.size (D.put (keyN nm) (.lit (.int .i64 1)))=(putN l nm).length:=by
  rw[Maps.size_put ht,(h3 nm).1,h2]
  unfold putN
  by_cases g:nm∈l
  ·rw[cB_true g];simp[g]
  ·rw[cB_false g];simp[g]
 refine ⟨putN_nodup h0,_,hsz▸owns_exact ho,hsz,fun x=>?_⟩
 by_cases e:x=nm
 ·subst e
  exact ⟨(Maps.has_put_same ht.isMap (by trivial) _).trans (cB_true (putN_mem.2 (.inr rfl))).symm,fun _=>Maps.atKey_put_same ht.isMap (by trivial) _ _⟩
 ·have hne:=keyN_ne e
  rw[Maps.has_put_other hne,Maps.atKey_put_other hne]
  exact ⟨(h3 x).1.trans (cB_congr (by rw[putN_mem];simp[e])),fun g=>(h3 x).2 ((putN_mem.1 g).resolve_right e)⟩
theorem MetS.put (h:MetS w b l) {nm:ByteArray} (hs:nm.size≤maxLen) (hn:l.length<1000000):∃w',(Instr.mapUpdate 85 (.map (some b)) (.string nm) (.int .i64 1)).run Tryz.prog w= .ok () w'∧MetS w' b (putN l nm)∧w.grownBy w' (some b):=by
 obtain ⟨h0,D,h1,h2,h3⟩:=h
 have ht:=mets_tidy h1
 obtain ⟨w',hr,ho,hg⟩:=h1.update (Maps.string_keyed Tryz.underlying9) Tryz.underlying85 (by unfold maxLen;omega) (keyN_of hs) (plainElem_int (a:=1) Tryz.underlying3 (by decide))
 exact ⟨w',hr,mets_after h0 ht h2 h3 ho,hg⟩
theorem MetS.len (h:MetS w b l) (ty:TypeId):(Builtin.len_ #[85] ty #[.map (some b)]).run Tryz.prog w= .ok (.int .i64 l.length) w:=by
 obtain ⟨h0,D,h1,h2,h3⟩:=h
 have:=h1.len Tryz.underlying85 ty
 rwa [h2] at this
theorem MetS.keys (h:MetS w b l):∃D:DataW Unit,w.ownsMap Tryz.prog 9 (plainElem Tryz.prog 3) b l.length D∧Maps.size D=l.length∧(l.map fun a=>a.data.toList).Perm (strKeys D):=by
 obtain ⟨h0,D,h1,h2,h3⟩:=h
 refine ⟨D,h1,h2,?_⟩
 obtain ⟨es,rfl,hp⟩:=mets_tidy h1
 obtain ⟨es',hD',hko⟩:=h1.keysOf
 obtain rfl:es=es':=by simpa using hD'
 refine perm_strKeys hp (fun p hp=>by obtain ⟨v,hv⟩:=hko p hp;obtain ⟨x,_,hx,_⟩:=Maps.keyOf_str Tryz.underlying9 hv;exact ⟨x,hx⟩) ?_ (fun x=>?_)
 ·rw[List.nodup_iff_pairwise_ne,List.pairwise_map]
  exact (List.nodup_iff_pairwise_ne.1 h0).imp fun {a c} g e=>g (nmb_inj e)
 ·have:=(h3 ⟨⟨x⟩⟩).1
  rw[show keyN ⟨⟨x⟩⟩= .string x from rfl] at this
  rw[this,cB_iff,List.mem_map]
  constructor
  ·rintro ⟨a,ha,rfl⟩;exact ha
  ·intro g;exact ⟨_,g,rfl⟩
end
theorem wpList_mets {w:World} {ops:Array Oper} {rest:List Oper} {o:Oper} {a:Act} {Q:Exit→Act→World→Prop} (hg:o.guard=none) (m x v:Operand) (hop:o.op=Op.mapUpdate 85 m x v)
  (b:Nat) (l:List ByteArray) (hm:a.eval m= .map (some b)) (h:MetS w b l) (hn:l.length<1000000) (nm:ByteArray) (hx:a.eval x= .string nm) (hs:nm.size≤maxLen) (hv:a.eval v= .int .i64 1)
  (hK:∀w',MetS w' b (putN l nm)→w.grownBy w' (some b)→wpList Tryz.prog ops Q rest (a.put o.dst undef) w'):wpList Tryz.prog ops Q (o::rest) a w:=by
 refine wpList_plain hg fun K' hK'=>?_
 obtain ⟨w',hrun,r1,r2⟩:=h.put hs hn
 unfold Oper.wp
 simp[execOp,hop,hm,hx,hv,hrun,Result.andThen]
 exact hK' _ _ (hK w' r1 r2)
def MapV (w:World) (b n:Nat) (f:ByteArray→Value):Prop:=
 ∃D:DataW Value,w.ownsMap Tryz.prog 9 (fun v=>some (.held v,[])) b n D∧Maps.IsMap D∧∀nm:ByteArray,D.atKey (keyN nm) (.held (.slice none 0 0))= .held (f nm)
section
variable {w w':World} {b n:Nat} {f:ByteArray→Value}
theorem MapV.lt (h:MapV w b n f):b<w.heap.size:=by
 obtain ⟨D,h1,_⟩:=h
 exact h1.lt
theorem MapV.keep (h:MapV w b n f) (hk:w'.heap[b]? =w.heap[b]?):MapV w' b n f:=by
 obtain ⟨D,⟨es,clock,h1,h2⟩,h3⟩:=h
 exact ⟨D,⟨es,clock,hk.trans h1,h2⟩,h3⟩
theorem MapV.below {B:Nat} (h:MapV w b n f) (hb:Below B w w') (hB:b<B):MapV w' b n f:=h.keep (hb.block b hB)
theorem MapV.grown {row:Option Nat} (h:MapV w b n f) (hg:w.grownBy w' row) (hr:some b≠row):MapV w' b n f:=h.keep (hg.block b h.lt hr)
theorem mapv_made (w:World):MapV (w.alloc (.map #[] 0)) w.heap.size 0 (fun _=> .slice none 0 0):=
 ⟨.map [],World.ownsMap_made w _ _ _,⟨[],rfl⟩,fun _=>rfl⟩
theorem zero_texts (w:World):(zeroValue 60).run Tryz.prog w= .ok (.slice none 0 0) w:=by kernel_rfl
theorem MapV.look (h:MapV w b n f) {nm:ByteArray} (hs:nm.size≤maxLen):(Instr.lookup 183 (.map (some b)) (.string nm) false).run Tryz.prog w= .ok (f nm) w:=by
 obtain ⟨D,h1,h2,h3⟩:=h
 obtain ⟨v,ps,hr,ha⟩:=h1.lookup (Maps.string_keyed Tryz.underlying9) Tryz.underlying183 (zero_texts w) (zd:= .held (.slice none 0 0)) (zp:=[]) rfl (keyN_of hs)
 rw[h3 nm] at ha
 injection ha with ha
 injection ha with ha _
 injection ha with ha
 rw[←ha]
 exact hr
open Classical in
theorem MapV.put (h:MapV w b n f) {nm:ByteArray} (hs:nm.size≤maxLen) (hn:n<1000000) (v:Value):∃w',(Instr.mapUpdate 183 (.map (some b)) (.string nm) v).run Tryz.prog w= .ok () w'∧MapV w' b (n+1) (fun x=>if x=nm then v else f x)∧w.grownBy w' (some b):=by
 obtain ⟨D,h1,h2,h3⟩:=h
 obtain ⟨w',hr,ho,hg⟩:=h1.update (Maps.string_keyed Tryz.underlying9) Tryz.underlying183 (by unfold maxLen;omega) (keyN_of hs) (val:=v) rfl
 refine ⟨w',hr,⟨_,ho,h2.put _ _,fun x=>?_⟩,hg⟩
 by_cases e:x=nm
 ·subst e
  show _=DataW.held (if _ then _ else _)
  rw[Maps.atKey_put_same h2 (by trivial),if_pos rfl]
 ·show _=DataW.held (if _ then _ else _)
  rw[Maps.atKey_put_other (keyN_ne e),h3,if_neg e]
end
open Go.Shelf
def srtKeys_ren:Go.Shelf.Ren:=⟨fun|7=>183|10=>196|n=>n,fun|23=>85|26=>9|3=>3|28=>258|0=>0|27=>257|33=>131|4=>4|n=>n,fun|n=>n⟩
theorem srtKeys:Go.Proofs.SlLaysZ.n7 Tryz.prog srtKeys_ren:={
 mixed:=by kernel_rfl
 f7:=⟨Tryz.f183.name,by decide,Tryz.func183.trans (congrArg some (by kernel_rfl))⟩
 f10:=⟨Tryz.f196.name,by decide,Tryz.func196.trans (congrArg some (by kernel_rfl))⟩
 t0:=Tryz.underlying0
 a0:=Tryz.isAgg0
 z0:=Tryz.sizeOf0
 v0:=Tryz.zeroValue0
 t4:=Tryz.underlying4
 a4:=Tryz.isAgg4
 z4:=Tryz.sizeOf4
 v4:=Tryz.zeroValue4
 t23:=Tryz.underlying85
 a23:=Tryz.isAgg85
 z23:=Tryz.sizeOf85
 v23:=Tryz.zeroValue85
 t26:=Tryz.underlying9
 a26:=Tryz.isAgg9
 z26:=Tryz.sizeOf9
 v26:=Tryz.zeroValue9
 t27:=Tryz.underlying257
 a27:=Tryz.isAgg257
 z27:=Tryz.sizeOf257
 v27:=Tryz.zeroValue257
 t28:=Tryz.underlying258
 a28:=Tryz.isAgg258
 z28:=Tryz.sizeOf258
 v28:=Tryz.zeroValue258
 t33:=Tryz.underlying131
 a33:=Tryz.isAgg131
 z33:=Tryz.sizeOf131
 v33:=Tryz.zeroValue131}
def srtSorted_ren:Go.Shelf.Ren:=⟨fun|6=>182|8=>194|9=>195|11=>200|13=>202|12=>201|23=>213|24=>214|14=>204|15=>205|16=>206|17=>207|18=>208|19=>209|20=>210|21=>211|22=>212|25=>215|26=>216|27=>217|28=>218|29=>219|30=>220|31=>221|n=>n,fun|26=>9|28=>258|24=>60|0=>0|3=>3|37=>230|48=>264|50=>267|4=>4|40=>277|39=>276|45=>109|5=>5|9=>9|51=>285|55=>289|57=>291|58=>248|33=>131|n=>n,fun|n=>n⟩
theorem srtSorted:Go.Proofs.SlLaysZ.n6 Tryz.prog srtSorted_ren:={
 mixed:=by kernel_rfl
 f6:=⟨Tryz.f182.name,by decide,Tryz.func182.trans (congrArg some (by kernel_rfl))⟩
 f8:=⟨Tryz.f194.name,by decide,Tryz.func194.trans (congrArg some (by kernel_rfl))⟩
 f11:=⟨Tryz.f200.name,by decide,Tryz.func200.trans (congrArg some (by kernel_rfl))⟩
 t0:=Tryz.underlying0
 a0:=Tryz.isAgg0
 z0:=Tryz.sizeOf0
 v0:=Tryz.zeroValue0
 t24:=Tryz.underlying60
 a24:=Tryz.isAgg60
 z24:=Tryz.sizeOf60
 v24:=Tryz.zeroValue60
 t26:=Tryz.underlying9
 a26:=Tryz.isAgg9
 z26:=Tryz.sizeOf9
 v26:=Tryz.zeroValue9
 t28:=Tryz.underlying258
 a28:=Tryz.isAgg258
 z28:=Tryz.sizeOf258
 v28:=Tryz.zeroValue258
 i26:=by kernel_rfl}
def srtSort_ren:Go.Shelf.Ren:=⟨fun|6=>195|8=>202|9=>201|19=>213|20=>214|21=>204|22=>205|23=>206|24=>207|25=>208|26=>209|27=>210|28=>211|29=>212|36=>215|31=>216|32=>217|37=>218|38=>219|39=>220|41=>221|n=>n,fun|27=>60|29=>9|3=>3|32=>230|26=>60|0=>0|44=>264|46=>267|4=>4|36=>277|35=>276|41=>109|5=>5|9=>9|53=>285|57=>289|63=>291|64=>248|n=>n,fun|n=>n⟩
theorem srtSort:Go.Proofs.SlLaysM.n6 Tryz.prog srtSort_ren:={
 mixed:=by kernel_rfl
 f6:=⟨Tryz.f195.name,by decide,Tryz.func195.trans (congrArg some (by kernel_rfl))⟩
 f8:=Tryz.func202.trans (congrArg some (by kernel_rfl))
 f9:=⟨Tryz.f201.name,by decide,Tryz.func201.trans (congrArg some (by kernel_rfl))⟩
 f19:=Tryz.func213.trans (congrArg some (by kernel_rfl))
 f20:=Tryz.func214.trans (congrArg some (by kernel_rfl))
 f21:=⟨Tryz.f204.name,by decide,Tryz.func204.trans (congrArg some (by kernel_rfl))⟩
 f22:=⟨Tryz.f205.name,by decide,Tryz.func205.trans (congrArg some (by kernel_rfl))⟩
 f23:=⟨Tryz.f206.name,by decide,Tryz.func206.trans (congrArg some (by kernel_rfl))⟩
 f24:=⟨Tryz.f207.name,by decide,Tryz.func207.trans (congrArg some (by kernel_rfl))⟩
 f25:=⟨Tryz.f208.name,by decide,Tryz.func208.trans (congrArg some (by kernel_rfl))⟩
 f26:=⟨Tryz.f209.name,by decide,Tryz.func209.trans (congrArg some (by kernel_rfl))⟩
 f27:=⟨Tryz.f210.name,by decide,Tryz.func210.trans (congrArg some (by kernel_rfl))⟩
 f28:=⟨Tryz.f211.name,by decide,Tryz.func211.trans (congrArg some (by kernel_rfl))⟩
 f29:=⟨Tryz.f212.name,by decide,Tryz.func212.trans (congrArg some (by kernel_rfl))⟩
 f31:=Tryz.func216.trans (congrArg some (by kernel_rfl))
 f32:=Tryz.func217.trans (congrArg some (by kernel_rfl))
 f36:=⟨Tryz.f215.name,by decide,Tryz.func215.trans (congrArg some (by kernel_rfl))⟩
 f37:=⟨Tryz.f218.name,by decide,Tryz.func218.trans (congrArg some (by kernel_rfl))⟩
 f38:=⟨Tryz.f219.name,by decide,Tryz.func219.trans (congrArg some (by kernel_rfl))⟩
 f39:=⟨Tryz.f220.name,by decide,Tryz.func220.trans (congrArg some (by kernel_rfl))⟩
 f41:=⟨Tryz.f221.name,by decide,Tryz.func221.trans (congrArg some (by kernel_rfl))⟩
 t0:=Tryz.underlying0
 a0:=Tryz.isAgg0
 z0:=Tryz.sizeOf0
 v0:=Tryz.zeroValue0
 t3:=Tryz.underlying3
 a3:=Tryz.isAgg3
 z3:=Tryz.sizeOf3
 v3:=Tryz.zeroValue3
 t4:=Tryz.underlying4
 a4:=Tryz.isAgg4
 z4:=Tryz.sizeOf4
 v4:=Tryz.zeroValue4
 t5:=Tryz.underlying5
 a5:=Tryz.isAgg5
 z5:=Tryz.sizeOf5
 v5:=Tryz.zeroValue5
 t9:=Tryz.underlying9
 a9:=Tryz.isAgg9
 z9:=Tryz.sizeOf9
 v9:=Tryz.zeroValue9
 t26:=Tryz.underlying60
 a26:=Tryz.isAgg60
 z26:=Tryz.sizeOf60
 v26:=Tryz.zeroValue60
 t27:=Tryz.underlying60
 a27:=Tryz.isAgg60
 z27:=Tryz.sizeOf60
 v27:=Tryz.zeroValue60
 t29:=Tryz.underlying9
 a29:=Tryz.isAgg9
 z29:=Tryz.sizeOf9
 v29:=Tryz.zeroValue9
 t32:=Tryz.underlying230
 a32:=Tryz.isAgg230
 z32:=Tryz.sizeOf230
 v32:=Tryz.zeroValue230
 t35:=Tryz.underlying276
 a35:=Tryz.isAgg276
 z35:=Tryz.sizeOf276
 v35:=Tryz.zeroValue276
 t36:=Tryz.underlying277
 a36:=Tryz.isAgg277
 z36:=Tryz.sizeOf277
 v36:=Tryz.zeroValue277
 t41:=Tryz.underlying109
 a41:=Tryz.isAgg109
 z41:=Tryz.sizeOf109
 v41:=Tryz.zeroValue109
 t44:=Tryz.underlying264
 a44:=Tryz.isAgg264
 z44:=Tryz.sizeOf264
 v44:=Tryz.zeroValue264
 t46:=Tryz.underlying267
 a46:=Tryz.isAgg267
 z46:=Tryz.sizeOf267
 v46:=Tryz.zeroValue267
 t53:=Tryz.underlying285
 a53:=Tryz.isAgg285
 z53:=Tryz.sizeOf285
 v53:=Tryz.zeroValue285
 t57:=Tryz.underlying289
 a57:=Tryz.isAgg289
 z57:=Tryz.sizeOf289
 v57:=Tryz.zeroValue289
 t63:=Tryz.underlying291
 a63:=Tryz.isAgg291
 z63:=Tryz.sizeOf291
 v63:=Tryz.zeroValue291
 t64:=Tryz.underlying248
 a64:=Tryz.isAgg248
 z64:=Tryz.sizeOf248
 v64:=Tryz.zeroValue248}
section
open Go.RowKit Go.Maps Go.Sort Go.Shelf
theorem srtSorts (m:Nat):AnyZ.SortsIn Tryz.prog srtSorted_ren Fence.wide m:=
 ⟨fun blk off cap ss W hH hblk hsz=>callsIn_wide.2 (AnyM.slices_Sort_string srtSort blk off cap ss W hH hblk hsz),
  fun p cap W=>callsIn_wide.2 (AnyM.slices_Sort_string_none srtSort p cap W)⟩
theorem keys_any (mb:Option Nat) (W:World):CallsIn Fence.wide 5 Tryz.prog 183 #[.map mb] W fun e w'=>e= .returned (.func (.func 196) #[] #[.pointer (some ⟨W.heap.size,0,none⟩)])∧w'=W.alloc (.cells #[.map mb] 85):=
 AnyZ.keys_in srtKeys Fence.wide 5 trivial rfl mb W
theorem sorted_keys {H:Type} (b nn:Nat) (D0:DataW H) (R:Value→Option (DataW H × List MemPlace)) (w:World) (hown:w.ownsMap Tryz.prog 9 R b nn D0) (hmax:Maps.size D0≤maxLen) (hbytes:Maps.size D0*16≤140737488355328):
  CallsIn Fence.wide 5 Tryz.prog 182 #[.func (.func 196) #[] #[.pointer (some ⟨w.heap.size,0,none⟩)]] (w.alloc (.cells #[.map (some b)] 85)) fun e w'=>∃(v:Value) (ss:List (List UInt8)),e= .returned v∧ss.Perm (strKeys D0)∧
   w'.ownsRow (w.alloc (.cells #[.map (some b)] 85)).heap.size 9 1 v ss.length ((ss.mergeSort (fun x y=>decide (x≤y))).map encStr)∧(v= .slice none 0 0↔ss=[])∧Below (w.alloc (.cells #[.map (some b)] 85)).heap.size (w.alloc (.cells #[.map (some b)] 85)) w':=by
 have hbl:=hown.lt
 have hseq:SeqGives Fence.wide 2 Tryz.prog 196 #[.pointer (some ⟨w.heap.size,0,none⟩)] encStr (fun ss=>ss.Perm (strKeys D0)) (Maps.size D0) (w.alloc (.cells #[.map (some b)] 85)):=
  AnyZ.keys_gives (ρ:=srtKeys_ren) {srtKeys with} Fence.wide _ trivial rfl (by omega) w.heap.size b nn D0 _ (by simp) (by simp) (by
   obtain ⟨es,clock,hb,Ft,hs,hD⟩:=hown
   exact ⟨es,clock,(Below.heap_alloc _ _ b hbl).trans hb,Ft,hs,hD⟩)
 exact AnyZ.sorted_in srtSorted Fence.wide 5 trivial trivial trivial trivial rfl (by omega) (srtSorts _) (enters_of Tryz.func195 (by kernel_rfl) rfl) 196 #[.pointer (some ⟨w.heap.size,0,none⟩)] trivial (enters_of Tryz.func196 (by kernel_rfl) rfl) _ _ hmax hbytes _ hseq
theorem flat_str (l:List (List UInt8)):(l.map fun x=> [Value.string ⟨⟨x⟩⟩]).flatten=l.map encStr:=by
 induction l with
 |nil=>rfl
 |cons x l ih=>rw[List.map_cons,List.flatten_cons,ih];rfl
theorem sorted_met {w:World} {b:Nat} {l:List ByteArray} (h:MetS w b l) (hl:l.length≤1000000):
  CallsIn Fence.wide 5 Tryz.prog 182 #[.func (.func 196) #[] #[.pointer (some ⟨w.heap.size,0,none⟩)]] (w.alloc (.cells #[.map (some b)] 85)) fun e w'=>∃v:Value,e= .returned v∧SlV w' w'.heap.size 1 isStr v (insAll [] l)∧Below w.heap.size w w':=by
 obtain ⟨D,hown,hsz,hp⟩:=h.keys
 refine (sorted_keys b l.length D _ w hown (by unfold maxLen;omega) (by omega)).mono ?_
 rintro e w' ⟨v,ss,rfl,hS,hrow,_,hb⟩
 have hp2:ss.Perm (l.map fun a=>a.data.toList):=hS.trans hp.symm
 have hnd:ss.Nodup:=hp2.nodup_iff.2 (by
  rw[List.nodup_iff_pairwise_ne,List.pairwise_map]
  exact (List.nodup_iff_pairwise_ne.1 h.1).imp fun {a c} g e=>g (nmb_inj e))
 have hM:(ss.mergeSort leB).map (fun x=>(⟨⟨x⟩⟩:ByteArray))=insAll [] l:=by
  refine rising_eq (sort_rising hnd) (insAll_rising List.Pairwise.nil) fun x=>?_
  rw[insAll_mem,List.mem_map]
  constructor
  ·rintro ⟨y,hy,rfl⟩
   have h1:=hp2.mem_iff.1 ((List.mergeSort_perm ss leB).mem_iff.1 hy)
   obtain ⟨a,ha,rfl⟩:=List.mem_map.1 h1
   exact .inr ha
  ·rintro (g|g)
   ·cases g
   ·exact ⟨_,(List.mergeSort_perm ss leB).mem_iff.2 (hp2.mem_iff.2 (List.mem_map_of_mem g)),rfl⟩
 refine ⟨v,rfl,?_,Below.trans ((Below.refl _ w).alloc (Nat.le_refl _) _) (hb.mono (by simp))⟩
 have hrow':w'.ownsRow (w.alloc (.cells #[.map (some b)] 85)).heap.size 9 1 v ss.length (((ss.mergeSort leB).map fun x=> [Value.string ⟨⟨x⟩⟩]).flatten):=by
  rw[flat_str];exact hrow
 rw[←hM]
 refine (own_sl (rel:=isStr) (l:=(ss.mergeSort leB).map (fun x=>(⟨⟨x⟩⟩:ByteArray))) hrow' ⟨by simp,fun i x cs hx hc=>?_⟩ (fun cs hc=>?_) (by decide)).1
 ·rw[List.getElem?_map,Option.map_eq_some_iff] at hx hc
  obtain ⟨y,hy,rfl⟩:=hx
  obtain ⟨z,hz,rfl⟩:=hc
  rw[hy] at hz
  injection hz with hz
  subst hz
  refine ⟨rfl,?_⟩
  have hm:y∈strKeys D:=hS.mem_iff.1 ((List.mergeSort_perm ss leB).mem_iff.1 (List.mem_of_getElem? hy))
  have:=strKeys_le hown Tryz.underlying9 y hm
  simpa[ByteArray.size] using this
 ·obtain ⟨y,_,rfl⟩:=List.mem_map.1 hc
  rfl
end
end Go.Proofs.YtdkgkacnjdnpoaaGreat
