/- TopDescribed: one round of the law's loop, where the first number is 0 modulo 4. -/
import Derived.Test.YthjdpcgkkmfodaaDescRest
namespace Go.Proofs.Ythjdpcgkkmfodaa.Desc
open Go.RowKit Go.Proofs.Ythjdpcgkkmfodaa.Base
set_option linter.unusedVariables false
set_option linter.unusedSimpArgs false

set_option maxRecDepth 100000 in
set_option maxHeartbeats 4000000 in
theorem round_0 {I : Act → World → Prop} {Q0 : Exit → Act → World → Prop} (s0 s1 s2 s5 s6 s7 s8 s9 s10 s11 s12 s13 s14 s15 s16 s17 s18 s19 s20 s21 s22 s23 s24 s25 s26 s27 s28 s29 s30 s31 s32 s33 s34 s35 s36 s37 s38 s39 s40 s41 s42 s46 s47 s48 s49 s50 s51 s52 s53 s54 s55 s56 s57 s58 s59 s60 s61 s62 s63 s64 s65 s66 s67 s68 s69 s70 s71 s72 s73 s74 s75 s76 s77 s78 s79 s80 s81 s82 s83 s84 s85 s86 s87 s88 s89 s90 s91 s92 s93 s94 s95 s96 s97 s98 s99 s100 s101 s102 s103 s104 s105 s106 s107 s108 s109 s110 s111 s112 s113 s114 s115 s116 s117 s118 s119 s120 s121 s122 s123 s124 s125 s126 s127 s128 s129 s130 s131 s132 s133 s134 s135 s136 s137 s138 s139 s140 s141 s142 s143 s144 s145 s146 s147 s148 s149 s150 s151 s152 s153 s154 s155 s156 s157 s158 s159 s160 s161 s162 s163 s164 s165 s166 s167 s168 s169 s170 s171 s172 s173 s174 s175 s176 s177 s178 s179 s180 s181 s182 s183 s184 s185 s186 s187 s188 s189 s190 s191 s192 s193 s194 s195 s196 s197 s198 s199 s200 s201 s202 s203 s204 s205 s206 s207 s208 s209 s210 s211 s212 s213 s214 s215 s216 s217 s218 s219 s220 s221 s222 s223 s224 s225 s226 s227 : Value) (B g M cap' k : Nat) (cur : Array Value) (W0 wr : World) (tf nf : Nat → Option Nat) (a b : Int) (hM1 : M ≤ 157) (hlt : k < M) (hS : St W0 B g cur tf nf wr)
    (e0 : cur[k * 2]? = some (.int .u8 a)) (e1 : cur[k * 2 + 1]? = some (.int .u8 b)) (a0 : 0 ≤ a) (a1 : a ≤ 255) (b0 : 0 ≤ b) (b1 : b ≤ 255) (ha : a % 4 = 0)
    (hI : ∀ (u2 u7 u8 u9 u10 u11 u12 u13 u14 u15 u16 u17 u18 u19 u20 u21 u22 u23 u24 u25 u45 u46 u47 u48 u49 u50 u51 u52 u53 u54 u55 u56 u57 u58 u59 u60 u61 u62 u63 u64 u65 u66 u67 u68 u69 u70 u71 u72 u73 u74 u75 u76 u77 u78 u79 u80 u81 u82 u83 u84 u85 u86 u87 u88 u89 u90 u91 u92 u93 u94 u95 u96 u97 u98 u99 u100 u101 u102 u103 u104 u105 u106 u107 u108 u109 u110 u111 u112 u113 u114 u115 u116 u117 u118 u119 u120 u121 u122 u123 u124 u125 u126 u127 u128 u129 u130 u131 u132 u133 u134 u135 u136 u137 u138 u139 u140 u141 u142 u143 u144 u145 u146 u147 u148 u149 u150 u151 u152 u153 u154 u155 u156 u157 u158 u159 u160 u161 u162 u163 u164 u165 u166 u167 u168 u169 u170 u171 u172 u173 u174 u175 u176 u177 u178 u179 u180 u181 u182 u183 u184 u185 u186 u187 u188 u189 u190 u191 u192 u193 u194 u195 u196 u197 u198 u199 u200 u201 u202 u203 u204 u205 u206 u207 u208 u209 u210 u211 u212 u213 u214 u215 u216 u217 u218 u219 u220 u221 u222 u223 u224 u225 u226 u227 : Value) (w' : World), u45 = .int .i64 ((k + 1 : Nat) : Int) ∧ Fin W0 B g cur w' → I ⟨#[s0, s1, u2, .pointer (some ⟨B, 0, none⟩), .pointer (some ⟨B + 1, 0, none⟩), s5, s6, u7, u8, u9, u10, u11, u12, u13, u14, u15, u16, u17, u18, u19, u20, u21, u22, u23, u24, u25, s26, s27, s28, s29, s30, s31, s32, s33, s34, s35, s36, s37, s38, s39, s40, s41, s42, .slice (some ⟨g, 0, none⟩) M cap', .int .i64 M, u45, u46, u47, u48, u49, u50, u51, u52, u53, u54, u55, u56, u57, u58, u59, u60, u61, u62, u63, u64, u65, u66, u67, u68, u69, u70, u71, u72, u73, u74, u75, u76, u77, u78, u79, u80, u81, u82, u83, u84, u85, u86, u87, u88, u89, u90, u91, u92, u93, u94, u95, u96, u97, u98, u99, u100, u101, u102, u103, u104, u105, u106, u107, u108, u109, u110, u111, u112, u113, u114, u115, u116, u117, u118, u119, u120, u121, u122, u123, u124, u125, u126, u127, u128, u129, u130, u131, u132, u133, u134, u135, u136, u137, u138, u139, u140, u141, u142, u143, u144, u145, u146, u147, u148, u149, u150, u151, u152, u153, u154, u155, u156, u157, u158, u159, u160, u161, u162, u163, u164, u165, u166, u167, u168, u169, u170, u171, u172, u173, u174, u175, u176, u177, u178, u179, u180, u181, u182, u183, u184, u185, u186, u187, u188, u189, u190, u191, u192, u193, u194, u195, u196, u197, u198, u199, u200, u201, u202, u203, u204, u205, u206, u207, u208, u209, u210, u211, u212, u213, u214, u215, u216, u217, u218, u219, u220, u221, u222, u223, u224, u225, u226, u227], []⟩ w') :
    Code.wp Try.prog body4 (Exit.then I Q0) ⟨#[s0, s1, s2, .pointer (some ⟨B, 0, none⟩), .pointer (some ⟨B + 1, 0, none⟩), s5, s6, s7, s8, s9, s10, s11, s12, s13, s14, s15, s16, s17, s18, s19, s20, s21, s22, s23, s24, s25, s26, s27, s28, s29, s30, s31, s32, s33, s34, s35, s36, s37, s38, s39, s40, s41, s42, .slice (some ⟨g, 0, none⟩) M cap', .int .i64 M, .int .i64 k, s46, s47, s48, s49, s50, s51, s52, s53, s54, s55, s56, s57, s58, s59, s60, s61, s62, s63, s64, s65, s66, s67, s68, s69, s70, s71, s72, s73, s74, s75, s76, s77, s78, s79, s80, s81, s82, s83, s84, s85, s86, s87, s88, s89, s90, s91, s92, s93, s94, s95, s96, s97, s98, s99, s100, s101, s102, s103, s104, s105, s106, s107, s108, s109, s110, s111, s112, s113, s114, s115, s116, s117, s118, s119, s120, s121, s122, s123, s124, s125, s126, s127, s128, s129, s130, s131, s132, s133, s134, s135, s136, s137, s138, s139, s140, s141, s142, s143, s144, s145, s146, s147, s148, s149, s150, s151, s152, s153, s154, s155, s156, s157, s158, s159, s160, s161, s162, s163, s164, s165, s166, s167, s168, s169, s170, s171, s172, s173, s174, s175, s176, s177, s178, s179, s180, s181, s182, s183, s184, s185, s186, s187, s188, s189, s190, s191, s192, s193, s194, s195, s196, s197, s198, s199, s200, s201, s202, s203, s204, s205, s206, s207, s208, s209, s210, s211, s212, s213, s214, s215, s216, s217, s218, s219, s220, s221, s222, s223, s224, s225, s226, s227], []⟩ wr := by
  conv => arg 2; whnf
  have hrow := hS.row
  have f0 : wr.cell? ⟨g, k * 2, none⟩ = some (.int .u8 a) := by simp only [World.cell?, hrow]; exact e0
  have f1 : wr.cell? ⟨g, k * 2 + 1, none⟩ = some (.int .u8 b) := by simp only [World.cell?, hrow]; exact e1
  clear e0 e1
  have hg := lt_of_block hrow
  have HS := Lib.hid hS; clear hS hrow
  have HS1 := Lib.hid (HS.out.alloc (.cells #[.int .u8 a, .int .u8 b] 42))
  have hX := index_any 41 (B + 1) nf none _ HS1.out.inv.num HS1.out.inv.cells_n (fun _ h => by cases h)
  rw [ptr_none] at hX
  obtain ⟨fv, hfv⟩ : ∃ fv, idxV nf none = fv := ⟨_, rfl⟩
  rw [hfv] at hX
  have HIX := Lib.hid hX; have HFV := Lib.hid hfv
  clear hX hfv
  have HFF := Lib.hid (firstFree_congr HS.out.inv.same)
  go_upto_region 10 with (fail)
  go_step; go_step; go_step; go_step; go_step; go_step; go_step; go_step
  go_cut [8, 9, 45] from 45 to 227 (fun f8 s t wc => f8 = .int .i64 (b % 10 - 1) ∧ s = ptr (look nf (b % 10)) ∧ t = .int .i64 k ∧ wc = wr.alloc (.cells #[.int .u8 a, .int .u8 b] 42))
  case first =>
    by_cases hd : 1 ≤ b % 10 ∧ b % 10 ≤ 8
    · obtain ⟨hd1, hd2⟩ := id hd
      obtain ⟨j, hj⟩ := Int.eq_ofNat_of_zero_le (show 0 ≤ b % 10 - 1 by omega)
      have hj8 : j < 8 := by omega
      have c1 := HS1.out.inv.num.cell j hj8
      have HJ := Lib.hid hj
      have HL := Lib.hid (look_in (f := nf) hd)
      rw [show (b % 10 - 1).toNat = j by omega] at HL
      rw [hj]
      clear hd hj hd1 hd2
      go_wp2_with fail
      go_meet
      case rel => exact ⟨by rw [HJ.out], by rw [HL.out], rfl, rfl⟩
    · have HL := Lib.hid (look_out (f := nf) hd)
      rcases (show b % 10 = 0 ∨ b % 10 = 9 from by omega) with hd0 | hd0
      · have h1 : ¬ 0 ≤ b % 10 - 1 := by omega
        clear hd hd0
        go_wp2_with fail
        go_meet
        case rel => exact ⟨rfl, by rw [HL.out]; rfl, rfl, rfl⟩
      · have h1 : 0 ≤ b % 10 - 1 := by omega
        have h2 : ¬ b % 10 - 1 < 8 := by omega
        clear hd hd0
        go_wp2_with fail
        go_meet
        case rel => exact ⟨rfl, by rw [HL.out]; rfl, rfl, rfl⟩
  case rest =>
    obtain ⟨rfl, rfl, rfl, rfl⟩ := hcut
    obtain ⟨q, hq⟩ : ∃ q, look nf (b % 10) = q := ⟨_, rfl⟩
    rw [hq]
    have HQ := Lib.hid hq; clear hq
    go_upto_block 2 with (first | (go_at_call 16; refine HIX.out.mono ?_; rintro e w' ⟨rfl, rfl⟩))
    go_cut [45] from 45 to 227 (fun s wc => s = .int .i64 k ∧ Fin W0 B g cur wc)
    case first =>
      cases hff : firstFree nf with
      | none =>
        have hfv : fv = .int .i64 (-1) := by rw [← HFV.out]; unfold idxV; rw [idx_free, hff]
        subst hfv
        have HO := Lib.hid (open_full B tf (1 + b) a 0 _ (HS1.out.alloc (.cells (fileC (1 + b) a 0) 47)).inv.tab (HFF.out.trans hff)); clear hff
        go_wp2_with (first | (go_at_call 17; refine HO.out.mono ?_; rintro e w' ⟨rfl, rfl⟩))
        go_meet
        case rel => exact ⟨rfl, ((HS1.out.alloc _).alloc _).fin⟩
      | some m =>
        have hfv : fv = .int .i64 m := by rw [← HFV.out]; unfold idxV; rw [idx_free, hff]
        subst hfv
        obtain ⟨hm8, hmn⟩ := firstFree_lt hff
        have HO := Lib.hid (open_ok B m tf (1 + b) a 0 _ (HS1.out.alloc (.cells (fileC (1 + b) a 0) 47)).inv.tab (HFF.out.trans hff)); clear hff
        have c1 := HS.out.inv.num.cell m hm8
        have c2 := HS.out.inv.num.free m
        have c3 := HS.out.inv.num.lt
        have c4 := HS.out.inv.tab.lt
        clear hmn
        go_wp2_with (first | (go_at_call 17; refine HO.out.mono ?_; rintro e w' ⟨rfl, rfl⟩))
        go_meet
        case rel => exact ⟨rfl, (HS.out.opened hm8 _ (1 + b) a 0).fin⟩
    case rest =>
      obtain ⟨rfl, tf', nf', hS'⟩ := hcut
      have HS' := Lib.hid hS'
      clear hS'
      clear HS HS1 HIX HFV HFF f0 f1 hg
      go_step
      refine rest_any _ _ _ _ _ _ _ _ _ _ _ _ _ _ _ _ _ _ _ _ _ _ _ _ _ _ _ _ _ _ _ _ _ _ _ _ _ _ _ _ _ _ _ _ _ _ _ _ _ _ _ _ _ _ _ _ _ _ _ _ _ _ _ _ _ _ _ _ _ _ _ _ _ _ _ _ _ _ _ _ _ _ _ _ _ _ _ _ _ _ _ _ _ _ _ _ _ _ _ _ _ _ _ _ _ _ _ _ _ _ _ _ _ _ _ _ _ _ _ _ _ _ _ _ _ _ _ _ _ _ _ _ _ _ _ _ _ _ _ _ _ _ _ _ _ _ _ _ _ _ _ _ _ _ _ _ _ _ _ _ _ _ _ _ _ _ _ _ _ _ _ _ _ _ _ _ _ _ _ _ _ _ _ _ _ _ _ _ _ _ _ _ _ _ _ _ _ _ _ _ _ _ _ _ _ _ _ _ _ _ _ _ _ _ _ _ _ _ _ _ _ _ _ _ _ _ (B := B) (tf := tf') (nf := nf') (W0 := W0) (g := g) (cur := cur) HS'.out ?_
      intro v2 v21 v22 v23 v24 v25 v183 v184 v185 v186 v187 v188 v189 v190 v191 v192 v193 v194 v195 v196 v197 v198 v199 v200 v201 v202 v203 v204 v205 v206 v207 v208 v209 v210 v211 v212 v213 v214 v215 v216 v217 v218 v219 v220 v221 v222 v223 v224 v225 v226 w' hF
      have HF := Lib.hid hF; clear hF HS'
      go_wp2_with fail
      exact ⟨by go_num, HF.out⟩
end Go.Proofs.Ythjdpcgkkmfodaa.Desc
