/- The statement CrcFinds over numbers and lists: no burst is overlooked. -/
import Derived.Test.YtjcpamclggbbdaaPCrcx6
import Derived.Test.YtjcpamclggbbdaaRefs
namespace Go.Proofs.Ytjcpamclggbbdaa.Pure
open Go.RowKit Go.Proofs.Ytjcpamclggbbdaa.PCrc Go.Proofs.YtjcpamclggbbdaaW.PrintWords Go.Proofs.YtjcpamclggbbdaaW.PrintLast Go.Proofs.Ytjcpamclggbbdaa.Math
theorem CrcFinds : ropewaylaw03_CrcFinds.Pure := by
  intro b at_ mask _ hs hb0 ha0 hm0
  have hb : Bytes b := fun x hx => wf_u8 (hb0 x hx)
  have ha := wf_i64 ha0
  have hm := wf_u32 hm0
  have h : Ev (fun k => ropewaylaw03_CrcFinds.f k b at_ mask) true := by
    unfold ropewaylaw03_CrcFinds.f
    refine Ev.bind alive_ ?_
    simp only [if_true]
    by_cases hl : (b.length : Int) > 3000
    · exact Ev.congr (fun k => if_pos hl) (Ev.now _)
    · refine Ev.congr (fun k => if_neg hl) ?_
      have hsb := sealS_bytes hb
      have hsl := sealS_len b
      have hbl := burstS_len (sealS b) at_ mask
      have hbb := burstS_bytes hsb at_ mask
      refine Ev.bind (seal_ hb (by omega)) (Ev.bind (burst_ hsb (by omega) ha hm) (Ev.bind (burst_ hbb (by omega) ha hm) ?_))
      rw [burstS_twice hsb]
      simp only [if_true]
      refine Ev.bind (open_ hbb (by omega)) (Ev.congr (fun k => ?_) (Ev.now _))
      by_cases he : burstS (sealS b) at_ mask = sealS b
      · rw [he, open_seal]
        simp
      · rw [burst_found hb hm he, if_neg (fun hc => he (str_inj hbb hsb hc))]
        rfl
  exact h.rounds
end Go.Proofs.Ytjcpamclggbbdaa.Pure
