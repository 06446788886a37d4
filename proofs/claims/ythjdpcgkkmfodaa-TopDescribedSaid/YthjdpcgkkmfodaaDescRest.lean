/- TopDescribed: what is looked at behind each call. -/
import Derived.Test.YthjdpcgkkmfodaaDescH
namespace Go.Proofs.Ythjdpcgkkmfodaa.Desc
open Go.RowKit Go.Proofs.Ythjdpcgkkmfodaa.Base
set_option linter.unusedVariables false
set_option linter.unusedSimpArgs false

set_option maxRecDepth 100000 in
set_option maxHeartbeats 2000000 in
theorem rest_any {Q0 : Exit → Act → World → Prop} (s0 s1 s2 s5 s6 s7 s8 s9 s10 s11 s12 s13 s14 s15 s16 s17 s18 s19 s20 s21 s22 s23 s24 s25 s26 s27 s28 s29 s30 s31 s32 s33 s34 s35 s36 s37 s38 s39 s40 s41 s42 s43 s44 s45 s46 s47 s48 s49 s50 s51 s52 s53 s54 s55 s56 s57 s58 s59 s60 s61 s62 s63 s64 s65 s66 s67 s68 s69 s70 s71 s72 s73 s74 s75 s76 s77 s78 s79 s80 s81 s82 s83 s84 s85 s86 s87 s88 s89 s90 s91 s92 s93 s94 s95 s96 s97 s98 s99 s100 s101 s102 s103 s104 s105 s106 s107 s108 s109 s110 s111 s112 s113 s114 s115 s116 s117 s118 s119 s120 s121 s122 s123 s124 s125 s126 s127 s128 s129 s130 s131 s132 s133 s134 s135 s136 s137 s138 s139 s140 s141 s142 s143 s144 s145 s146 s147 s148 s149 s150 s151 s152 s153 s154 s155 s156 s157 s158 s159 s160 s161 s162 s163 s164 s165 s166 s167 s168 s169 s170 s171 s172 s173 s174 s175 s176 s177 s178 s179 s180 s181 s182 s183 s184 s185 s186 s187 s188 s189 s190 s191 s192 s193 s194 s195 s196 s197 s198 s199 s200 s201 s202 s203 s204 s205 s206 s207 s208 s209 s210 s211 s212 s213 s214 s215 s216 s217 s218 s219 s220 s221 s222 s223 s224 s225 s226 s227 : Value) {B g : Nat} {tf nf : Nat → Option Nat} {cur : Array Value} {W0 wc : World} (hSx : St W0 B g cur tf nf wc)
    (hQ : ∀ (v2 v21 v22 v23 v24 v25 v183 v184 v185 v186 v187 v188 v189 v190 v191 v192 v193 v194 v195 v196 v197 v198 v199 v200 v201 v202 v203 v204 v205 v206 v207 v208 v209 v210 v211 v212 v213 v214 v215 v216 v217 v218 v219 v220 v221 v222 v223 v224 v225 v226 : Value) (w' : World), Fin W0 B g cur w' → Q0 .normal ⟨#[s0, s1, v2, .pointer (some ⟨B, 0, none⟩), .pointer (some ⟨B + 1, 0, none⟩), s5, s6, s7, s8, s9, s10, s11, s12, s13, s14, s15, s16, s17, s18, s19, s20, v21, v22, v23, v24, v25, s26, s27, s28, s29, s30, s31, s32, s33, s34, s35, s36, s37, s38, s39, s40, s41, s42, s43, s44, s45, s46, s47, s48, s49, s50, s51, s52, s53, s54, s55, s56, s57, s58, s59, s60, s61, s62, s63, s64, s65, s66, s67, s68, s69, s70, s71, s72, s73, s74, s75, s76, s77, s78, s79, s80, s81, s82, s83, s84, s85, s86, s87, s88, s89, s90, s91, s92, s93, s94, s95, s96, s97, s98, s99, s100, s101, s102, s103, s104, s105, s106, s107, s108, s109, s110, s111, s112, s113, s114, s115, s116, s117, s118, s119, s120, s121, s122, s123, s124, s125, s126, s127, s128, s129, s130, s131, s132, s133, s134, s135, s136, s137, s138, s139, s140, s141, s142, s143, s144, s145, s146, s147, s148, s149, s150, s151, s152, s153, s154, s155, s156, s157, s158, s159, s160, s161, s162, s163, s164, s165, s166, s167, s168, s169, s170, s171, s172, s173, s174, s175, s176, s177, s178, s179, s180, s181, s182, v183, v184, v185, v186, v187, v188, v189, v190, v191, v192, v193, v194, v195, v196, v197, v198, v199, v200, v201, v202, v203, v204, v205, v206, v207, v208, v209, v210, v211, v212, v213, v214, v215, v216, v217, v218, v219, v220, v221, v222, v223, v224, v225, v226, s227], []⟩ w') :
    Code.wp Try.prog rest4 Q0 ⟨#[s0, s1, s2, .pointer (some ⟨B, 0, none⟩), .pointer (some ⟨B + 1, 0, none⟩), s5, s6, s7, s8, s9, s10, s11, s12, s13, s14, s15, s16, s17, s18, s19, s20, s21, s22, s23, s24, s25, s26, s27, s28, s29, s30, s31, s32, s33, s34, s35, s36, s37, s38, s39, s40, s41, s42, s43, s44, s45, s46, s47, s48, s49, s50, s51, s52, s53, s54, s55, s56, s57, s58, s59, s60, s61, s62, s63, s64, s65, s66, s67, s68, s69, s70, s71, s72, s73, s74, s75, s76, s77, s78, s79, s80, s81, s82, s83, s84, s85, s86, s87, s88, s89, s90, s91, s92, s93, s94, s95, s96, s97, s98, s99, s100, s101, s102, s103, s104, s105, s106, s107, s108, s109, s110, s111, s112, s113, s114, s115, s116, s117, s118, s119, s120, s121, s122, s123, s124, s125, s126, s127, s128, s129, s130, s131, s132, s133, s134, s135, s136, s137, s138, s139, s140, s141, s142, s143, s144, s145, s146, s147, s148, s149, s150, s151, s152, s153, s154, s155, s156, s157, s158, s159, s160, s161, s162, s163, s164, s165, s166, s167, s168, s169, s170, s171, s172, s173, s174, s175, s176, s177, s178, s179, s180, s181, s182, s183, s184, s185, s186, s187, s188, s189, s190, s191, s192, s193, s194, s195, s196, s197, s198, s199, s200, s201, s202, s203, s204, s205, s206, s207, s208, s209, s210, s211, s212, s213, s214, s215, s216, s217, s218, s219, s220, s221, s222, s223, s224, s225, s226, s227], []⟩ wc := by
  conv => arg 2; whnf
  have HSx := Lib.hid hSx; clear hSx
  have c0 := HSx.out.inv.num.cell 0 (by omega)
  have c1 := HSx.out.inv.num.cell 1 (by omega)
  have c2 := HSx.out.inv.num.cell 2 (by omega)
  have c3 := HSx.out.inv.num.cell 3 (by omega)
  have c4 := HSx.out.inv.num.cell 4 (by omega)
  have c5 := HSx.out.inv.num.cell 5 (by omega)
  have c6 := HSx.out.inv.num.cell 6 (by omega)
  have c7 := HSx.out.inv.num.cell 7 (by omega)
  go_wp2_with fail
  clear c0 c1 c2 c3 c4 c5 c6 c7
  go_loopw [21, 184] (fun v i wl => ∃ m : Nat, m ≤ 8 ∧ i = .int .i64 m ∧ wl.ownsRow W0.heap.size 3 1 v (openTo nf m).length (nums (openTo nf m)) ∧ St W0 B g cur tf nf wl) (fun _ i _ => 8 - (intOf i).toNat)
  case atStart => exact ⟨0, by omega, rfl, by simpa [openTo, nums_nil] using World.ownsRow_nil _ W0.heap.size 3 1, HSx.out⟩
  case round =>
    obtain ⟨i0, hi, iz0, iz1, iz2⟩ := info_parts info3
    clear HSx
    obtain ⟨m, hm, rfl, hown, hSl⟩ := hrel
    have HSl := Lib.hid hSl
    have hsz := hSl.below.size
    clear hSl
    by_cases hlt8 : m < 8
    · obtain ⟨q', hq'⟩ : ∃ q', nf m = q' := ⟨_, rfl⟩
      have hix := index8 nf m q' hlt8 hq'
      have HQ' := Lib.hid hq'; clear hq'
      have hle := openTo_le nf m
      cases q' with
      | none =>
        rw [ptr_none] at hix
        have hto : tf m = none := (HSl.out.inv.same m hlt8).2 HQ'.out
        have HG := Lib.hid (get_bad B tf (m : Int) wr HSl.out.inv.tab (.inr (.inr (by rw [Int.toNat_natCast]; exact hto))))
        have HO := Lib.hid hown; clear hown hto
        go_wp2_with (first | (go_at_call 22; refine HG.out.mono ?_; rintro e w2 ⟨rfl, hb2⟩))
        go_region
        go_wp2_with fail
        go_roundw
        case rel => exact ⟨m + 1, by omega, by go_num, by rw [openTo_miss HQ'.out]; exact ((ownsRow_further HO.out hb2).alloc _).drew, ((HSl.out.further hb2).alloc _).drew⟩
        case measure => simp [intOf]; omega
      | some bb =>
        rw [ptr_some] at hix
        obtain ⟨aa, haa⟩ : ∃ aa, tf m = some aa := by
          cases h : tf m with
          | none => have h' := HQ'.out; rw [(HSl.out.inv.same m hlt8).1 h] at h'; cases h'
          | some x => exact ⟨x, rfl⟩
        obtain ⟨⟨x, y, z⟩, hFa, hFb⟩ := HSl.out.inv.both m aa bb hlt8 haa HQ'.out
        have HG := Lib.hid (get_ok B aa m tf x y z wr HSl.out.inv.tab hlt8 haa hFa)
        obtain ⟨k0, k1, k2, k3, k4, k5, k6⟩ := hFb.cells
        have hlb := hFb.lt
        have HFb := Lib.hid hFb
        clear haa hFa k6 hFb
        go_wp2_with (first | (go_at_call 22; refine HG.out.mono ?_; rintro e w2 ⟨rfl, hb2⟩; obtain ⟨hc2, hf2, hz2⟩ := bcell hb2; (try simp only [World.size_drew, World.cell?_drew, World.frozen?_drew, World.size_alloc, World.size_setCell, Nat.add_one_le_iff] at hc2 hf2 hz2); have hs2 : bb < w2.heap.size := (by omega)))
        go_region
        have hown2 := ownsRow_further hown hb2
        have hsz2 := hb2.size
        clear hc2 hf2 k0 k1 k2 k3 k4 k5
        go_wp2_with (at_builtin; (refine wpList_append_own _ rfl _ _ 54 rfl W0.heap.size 3 i0 (.int .i64 0) 1 8 Try.underlying54 hi iz0 iz1 iz2 rfl (by decide) _ _ _ rfl ((hown2.alloc _).alloc _).drew ⟨w2.heap.size + 1, 0, none⟩ 1 1 [.int .i64 m] rfl rfl ?c1 ?c2 ?c3 ?c4 ?c5 ?_))
        case c1 => intro j u hj; exact news1' _ _ _ _ (by simp) j u hj
        case c2 => intro u hu; simp at hu; subst hu; rfl
        case c3 => unfold maxLen; omega
        case c4 => omega
        case c5 => simp; omega
        intro v' w4 hown' hgrow _

        have HSt := Lib.hid (st_grown ((((HSl.out.further hb2).alloc _).alloc _).drew) hgrow (fun k hk => (hown2.lt k hk).1) (own_elem (((hown2.alloc _).alloc _).drew)))
        have HO := Lib.hid hown'
        clear hown' hgrow hown hown2
        go_wp2_with fail
        go_roundw
        case rel =>
          refine ⟨m + 1, by omega, by go_num, ?_, HSt.out⟩
          rw [openTo_hit HQ'.out, nums_snoc, List.length_append]
          exact HO.out
        case measure => simp [intOf]; omega
    · have hm8 : m = 8 := by omega
      subst hm8
      have hl2 := HSl.out.inv.tab
      have HL := Lib.hid (list_any B tf wr hl2)
      have HO := Lib.hid hown
      clear hown hl2
      go_wp2_with (first | (go_at_call 24; refine HL.out.mono ?_; rintro e w2 ⟨v2, rfl, hown2, hb2⟩))
      refine (equal_same wr.heap.size W0.heap.size (openTo tf 8) _ _ _ ?c6 ?c7 ?c8).mono ?_
      case c6 => have := openTo_le tf 8; omega
      case c7 => exact hown2
      case c8 =>
        rw [openTo_congr 8 HSl.out.inv.same]
        exact ownsRow_further HO.out hb2
      rintro e w3 ⟨rfl, n3, rfl⟩
      have HF := Lib.hid (((HSl.out.further hb2).drewN n3).fin)
      go_wp2_with fail
      exact HF.out
end Go.Proofs.Ythjdpcgkkmfodaa.Desc
