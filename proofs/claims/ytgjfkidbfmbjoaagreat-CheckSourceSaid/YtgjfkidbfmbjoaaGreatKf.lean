/-
  Closed facts of the row CheckSource over the program.
-/
import Derived.Test.YtgjfkidbfmbjoaaGreatRows
import Derived.Test.YtgjfkidbfmbjoaaGreatChecked
import Derived.JoinedOf
import Derived.RowKit
set_option maxHeartbeats 1000000
set_option maxRecDepth 100000
namespace Go.Proofs.YtgjfkidbfmbjoaaGreat.checkSource
open Go.RowKit
theorem k_laid:laidOutB Tryz.prog=true:=by kernel_rfl
theorem k_ip:(Rows.checkSourceRow.inPlace==Tryz.prog.inPlace 3)=true:=by kernel_rfl
theorem k_un:(Rows.checkSourceRow.unfollowed==Tryz.prog.unfollowed 3)=true:=by kernel_rfl
theorem k_re:(Rows.checkSourceRow.recurses==Tryz.prog.recurses 3)=true:=by kernel_rfl
theorem k_nm:(Rows.checkSourceRow.named==Tryz.prog.varsNamed 3)=true:=by kernel_rfl
theorem k_me:Tryz.prog.mayEnter=true:=by kernel_rfl
theorem k_li:(Rows.checkSourceRow.lifted==Tryz.prog.liftsFinal)=true:=by kernel_rfl
theorem k_mk:(Tryz.prog.make==some Rows.checkSourceRow.make)=true:=by kernel_rfl
theorem k_wf:Rows.checkSourceRow.wf (OpenSpec.ofChange Rows.checkSourceSpec)=true:=by kernel_rfl
theorem k_maps:mapsRowed Tryz.prog=true:=by kernel_rfl
theorem k_rd:Tryz.f3.params.all (Tryz.prog.readableRec ·)=true:=by kernel_rfl
theorem k_tie:namedTie Tryz.prog Rows.checkSourceRow.named Rows.checkSourceSpec.vars=true:=by kernel_rfl
theorem k_s1:(Rows.checkSourceRow.stops==[])=true:=by kernel_rfl
theorem k_s2:(Tryz.prog.stops==[])=true:=by kernel_rfl
theorem k_s3:(Rows.checkSourceRow.knobs==[])=true:=by kernel_rfl
theorem k_s4:(Tryz.prog.stopKnobs==[])=true:=by kernel_rfl
theorem k_m1:(Rows.checkSourceRow.maps==(Tryz.f3.params.toList++Rows.checkSourceSpec.plain.varTypes Tryz.prog).any (Tryz.prog.mapsRec ·))=true:=by kernel_rfl
theorem k_if1:(Rows.checkSourceRow.ifaces==(Tryz.f3.params.toList++Rows.checkSourceSpec.plain.varTypes Tryz.prog).any (Tryz.prog.ifacesRec ·))=true:=by kernel_rfl
theorem k_mo:(Rows.checkSourceRow.mapsOut==Tryz.prog.mapsAmong Tryz.f3.resultTypes.toList)=true:=by kernel_rfl
theorem k_lo:(Rows.checkSourceRow.loops==(Tryz.f3.params.toList++Rows.checkSourceSpec.plain.varTypes Tryz.prog).any (Tryz.prog.loopsFrom ·))=true:=by kernel_rfl
theorem k_wk:(Rows.checkSourceRow.wideKeys==(Tryz.f3.params.toList++Rows.checkSourceSpec.plain.varTypes Tryz.prog++Tryz.f3.resultTypes.toList).any (Tryz.prog.wideKeysFrom ·))=true:=by kernel_rfl
theorem k_vr:Rows.checkSourceSpec.vars.all (Tryz.prog.varReadable ·)=true:=by kernel_rfl
theorem k_rt:Tryz.f3.resultTypes.all (fun t=>Tryz.prog.readableRec t && decide (t<Tryz.prog.types.size))=true:=by kernel_rfl
theorem k_io:(Rows.checkSourceRow.ifacesOut==Tryz.f3.resultTypes.toList.any (Tryz.prog.ifacesRec ·))=true:=by kernel_rfl
theorem k_lt:(Rows.checkSourceRow.loopsOut==Tryz.f3.resultTypes.toList.any (Tryz.prog.loopsFrom ·))=true:=by kernel_rfl
theorem k_pk:(Rows.checkSourceRow.plainKeys==Tryz.prog.plainKeys)=true:=by kernel_rfl
theorem k_st:Rows.checkSourceRow.shortTexts.isNone=true:=by kernel_rfl
theorem k_sh:Tryz.prog.stopsHeard=true:=by kernel_rfl
theorem k_pi:(Rows.checkSourceRow.pinned==Rows.checkSourceRow.pinnedBy)=true:=by kernel_rfl
theorem k_ve:(Rows.checkSourceRow.veiled==(Tryz.f3.params.toList++Rows.checkSourceSpec.plain.varTypes Tryz.prog++Tryz.f3.resultTypes.toList).any (Tryz.prog.veiledRec ·))=true:=by kernel_rfl
theorem k_vf:Rows.checkSourceRow.veiledFits Tryz.prog Tryz.f3.params.toList (Tryz.f3.params.toList++Rows.checkSourceSpec.plain.varTypes Tryz.prog++Tryz.f3.resultTypes.toList)=true:=by kernel_rfl
theorem joined:joinedFacts Tryz.prog 3 Tryz.f3 Rows.checkSourceSpec Rows.checkSourceRow=true:=by
 unfold joinedFacts
 rw[k_wf,k_laid,k_maps,k_rd,k_tie,k_s1,k_s2,k_s3,k_s4,k_ip,k_un,k_re,k_nm,k_m1,k_if1,k_mo,k_lo,k_wk,k_vr,k_rt,k_io,k_lt,k_pk,k_st,k_sh,k_me,k_li,k_mk,k_pi,k_ve,k_vf]
 kernel_rfl
end Go.Proofs.YtgjfkidbfmbjoaaGreat.checkSource
