/- JoinPairs answers true. -/
import Derived.Test.YtdbhlfnpaloomaaU
import Derived.Test.YtdbhlfnpaloomaaE
namespace Go.Proofs.Ytdbhlfnpaloomaa.V
open Go.RowKit Go.Proofs.YtdbhlfnpaloomaaW.PrintWords Go.Proofs.YtdbhlfnpaloomaaW.PrintLast Go.Proofs.YtdbhlfnpaloomaaW.PrintMore
open Go.Proofs.Ytdbhlfnpaloomaa.PSame Go.Proofs.Ytdbhlfnpaloomaa.A Go.Proofs.Ytdbhlfnpaloomaa.B Go.Proofs.Ytdbhlfnpaloomaa.C Go.Proofs.Ytdbhlfnpaloomaa.D Go.Proofs.Ytdbhlfnpaloomaa.E
set_option linter.unusedVariables false
set_option linter.unusedSimpArgs false

theorem fine_fits {l os : List S30} (hn : os.length ≤ 200) (hf : Fits l os) (sl : ∀ a ∈ l, a.f2.length ≤ 1048576) : Fine os :=
  ⟨by omega, fun a ha => ⟨(hf a ha).2.1, (hf a ha).2.2, by have := sl a (hf a ha).1; omega⟩⟩

theorem wrap_mul (a b p : Nat) (h : p = a * b) (ha : a ≤ 200) (hb : b ≤ 200) : wrap64 ((a : Int) * (b : Int)) = (p : Int) := by
  have h1 : a * b ≤ 200 * 200 := Nat.mul_le_mul ha hb
  rw [h, ← Int.natCast_mul]
  unfold wrap64
  omega

set_option maxRecDepth 100000 in
set_option maxHeartbeats 4000000 in
theorem joinPairs_calls (l r : List S30) (A B : Option Addr) (c d : Nat) (w : World) (hl : Kd.C k30 w A l.length l) (hc : l.length ≤ c) (hr : Kd.C k30 w B r.length r) (hd : r.length ≤ d) (sl : ∀ a ∈ l, a.f2.length ≤ 1048576) (sr : ∀ a ∈ r, a.f2.length ≤ 1048576) :
    Calls Try.prog 3 #[.slice A l.length c, .slice B r.length d] w fun e w' => e = .returned (.bool true) ∧ Below w.heap.size w w' := by
  have HR := Aside0.mk hr
  have HF := Aside0.mk (fit_calls l A c 0 w hl hc)
  clear hl hr
  go_enter Try.func3, Try.ntmps3
  go_wp2_with fail
  refine HF.out.mono ?_
  rintro e w1 ⟨v1, o1, t1, rfl, ho1, hn1, hf1, hb1⟩
  obtain ⟨A1, c1, rfl, hl1, hC1⟩ := ho1.reads
  have HC1 : Aside0 (Kd.C k30 w1 A1 o1.length o1) := ⟨hC1.imp_ (Below.refl _ _) (fun _ _ hp => k30.K_below hb1 hp)⟩
  have HB1 := Aside0.mk hb1
  have HF1 := Aside0.mk (fine_fits hn1 hf1 sl)
  clear ho1 hC1 hb1 hf1 HF
  go_wp2_with fail
  refine (fit_calls r B d 0 w1 (Kd.C_below HR.out HB1.out) hd).mono ?_
  rintro e w2 ⟨v2, o2, t2, rfl, ho2, hn2, hf2, hb2⟩
  obtain ⟨A2, c2, rfl, hl2, hC2⟩ := ho2.reads
  have HC2 : Aside0 (Kd.C k30 w2 A2 o2.length o2) := ⟨hC2.imp_ (Below.refl _ _) (fun _ _ hp => k30.K_below hb2 hp)⟩
  have HC12 := Aside0.mk (Kd.C_below HC1.out hb2)
  have HB2 := Aside0.mk (below_then HB1.out HB1.out.size hb2)
  have HF2 := Aside0.mk (fine_fits hn2 hf2 sr)
  clear ho2 hC2 hb2 hf2 HC1
  go_wp2_with fail
  refine (pairs_calls o1 o2 A1 A2 c1 c2 w2 HC12.out hl1 HC2.out hl2 HF1.out HF2.out).mono ?_
  rintro e w3 ⟨v3, rfl, hv3, hb3⟩
  obtain ⟨P, hP⟩ : ∃ P, P = pairs o1 o2 := ⟨_, rfl⟩
  rw [← hP] at hv3
  obtain ⟨A3, c3, rfl⟩ := Kd.R_slice hv3
  have HP := Aside0.mk hP
  have HV3 := Aside0.mk hv3
  have HB3 := Aside0.mk (below_then HB2.out HB2.out.size hb3)
  have HC13 := Aside0.mk (Kd.C_below HC12.out hb3)
  have HC23 := Aside0.mk (Kd.C_below HC2.out hb3)
  clear hP hv3 hb3
  go_wp2_with fail
  refine (refPairs_calls o1 o2 A1 A2 c1 c2 w3 HC13.out hl1 HC23.out hl2 HF1.out HF2.out).mono ?_
  rintro e w4 ⟨v4, rfl, hv4, hb4⟩
  rw [← HP.out] at hv4
  obtain ⟨A4, c4, rfl⟩ := Kd.R_slice hv4
  have HV4 := Aside0.mk hv4
  have HV34 := Aside0.mk (Kd.R_below HV3.out hb4)
  have HB4 := Aside0.mk (below_then HB3.out HB3.out.size hb4)
  have hpl : P.length = o1.length * o2.length := by rw [HP.out, pairs_len]
  have hmul : o1.length * o2.length ≤ 200 * 200 := Nat.mul_le_mul hn1 hn2
  have hpr : ∀ a ∈ P, a.f2.length ≤ 2199023255552 := by
    intro a ha
    rw [HP.out, pairs, List.mem_flatMap] at ha
    obtain ⟨x, hx, ha⟩ := ha
    obtain ⟨y, hy, rfl⟩ := List.mem_map.1 ha
    have h1 := (HF1.out.2 x hx).2.2
    have h2 := (HF2.out.2 y hy).2.2
    simp only [pairOf, List.length_append]
    omega
  have HPL := Aside0.mk hpl
  have HPR := Aside0.mk hpr
  have HPB := Aside0.mk (show P.length ≤ 40000 by omega)
  clear hv4 hb4 hpl hpr hmul
  go_wp2_with fail
  refine (same_call P A3 A4 c3 c4 w4 (Kd.R_reads' HV34.out).2.2 (Kd.R_reads' HV34.out).2.1 (Kd.R_reads' HV4.out).2.2 (Kd.R_reads' HV4.out).2.1 (by have := HPB.out; omega) HPR.out).mono ?_
  rintro e w5 ⟨rfl, hb5⟩
  have HB5 := Aside0.mk (below_then HB4.out HB4.out.size hb5)
  clear hb5
  have hw := wrap_mul _ _ _ HPL.out hn1 hn2
  go_wp2_with fail
  refine (U.awake_calls w5).mono ?_
  rintro e w6 ⟨rfl, hb6⟩
  have HB6 := Aside0.mk (below_then HB5.out HB5.out.size hb6)
  clear hb6 hw
  go_wp2_with fail
  go_ret
  exact ⟨rfl, HB6.out⟩
end Go.Proofs.Ytdbhlfnpaloomaa.V
