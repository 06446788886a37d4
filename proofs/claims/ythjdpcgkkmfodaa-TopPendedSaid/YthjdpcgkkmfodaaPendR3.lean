/- TopPended: one round of the law's loop, where the first number is 3 modulo 8: a store. -/
import Derived.Test.YthjdpcgkkmfodaaPendRest
import Derived.Deep.QuietTactic
import Derived.BigQuiet
import Derived.IntWalk
namespace Go.Proofs.Ythjdpcgkkmfodaa.Pend
open Go.RowKit Go.Proofs.Ythjdpcgkkmfodaa.Base
set_option linter.unusedVariables false
set_option linter.unusedSimpArgs false
set_option maxRecDepth 100000 in
set_option maxHeartbeats 4000000 in
theorem round_3 {I : Act → World → Prop} {Q0 : Exit → Act → World → Prop} (s0 s1 s3 s4 s5 s6 s9 s12 s13 s14 s15 s16 s17 s18 s19 s20 s21 s22 s23 s24 s25 s26 s27 s28 s29 s30 s31 s32 s33 s34 s35 s36 s37 s38 s39 s40 s41 s42 s43 s44 s45 s46 s47 s48 s49 s50 s51 s52 s53 s57 s58 s59 s60 s61 s62 s63 s64 s65 s66 s67 s68 s69 s70 s71 s72 s73 s74 s75 s76 s77 s78 s79 s80 s81 s82 s83 s84 s85 s86 s87 s88 s89 s90 s91 s92 s93 s94 s95 s96 s97 s98 s99 s100 s101 s102 s103 s104 s105 s106 s107 s108 s109 s110 s111 s112 s113 s114 s115 s116 s117 s118 s119 s120 s121 s122 s123 s124 s125 s126 s127 s128 s129 s130 s131 s132 s133 s134 s135 s136 s137 s138 s139 s140 s141 s142 s143 s144 s145 s146 s147 s148 s149 s150 s151 s152 s153 s154 s155 s156 s157 s158 s159 s160 s161 s162 s163 s164 s165 s166 s167 s168 s169 s170 s171 s172 s173 s174 s175 s176 s177 s178 s179 s180 s181 s182 s183 s184 s185 s186 s187 s188 s189 s190 s191 s192 s193 s194 s195 s196 s197 s198 s199 s200 s201 s202 s203 s204 s205 s206 s207 s208 s209 s210 s211 s212 s213 s214 s215 s216 s217 s218 s219 s220 s221 s222 s223 s224 s225 s226 s227 s228 s229 s230 s231 s232 s233 s234 s235 s236 s237 s238 s239 s240 s241 s242 s243 s244 s245 s246 s247 s248 s249 s250 s251 s252 s253 s254 s255 s256 s257 s258 s259 s260 s261 s262 s263 s264 s265 s266 s267 s268 s269 s270 : Value) {W0 wr : World} {m kb kc len cap k : Nat} {L : Places} {wvv wv : Value} {kept now : List Int} {wait : List P3} {ad : Addr} {ko : Option Addr} {keep : List Bool} {kcap : Nat} {x0 x1 x2 : Nat}
    (hm : 0 < m) (hm4 : m ≤ 4) (hlen : len ≤ 1000) (hlt : k < len) (hkl : keep.length ≤ 1000)
    (hH : Hand (8 * m) k kept now wait) (hS : St W0 m L kb kc wvv wv kept now wait kept wait wr)
    (e0 : wr.cell? (ad.add (k * 3)) = some (.int .u8 x0)) (e1 : wr.cell? (ad.add (k * 3 + 1)) = some (.int .u8 x1)) (e2 : wr.cell? (ad.add (k * 3 + 2)) = some (.int .u8 x2)) (b0 : x0 ≤ 255) (b1 : x1 ≤ 255) (b2 : x2 ≤ 255)
    (hk0 : ko = none → keep = []) (hkc : ko = none → kcap = 0) (hkb0 : ∀ a, ko = some a → 0 < keep.length → a.block < W0.heap.size) (hko : ∀ a, ko = some a → ∀ j y, keep[j]? = some y → W0.cell? (a.add j) = some (.bool y)) (hx : x0 % 8 = 3)
    (hI : ∀ (u6 u11 u12 u13 u14 u15 u16 u17 u18 u19 u20 u22 u23 u24 u25 u27 u28 u29 u56 u57 u58 u59 u60 u61 u62 u63 u64 u65 u66 u67 u68 u69 u70 u71 u72 u73 u74 u75 u76 u77 u78 u79 u80 u81 u82 u83 u84 u85 u86 u87 u88 u89 u90 u91 u92 u93 u94 u95 u96 u97 u98 u99 u100 u101 u102 u103 u104 u105 u106 u107 u108 u109 u110 u111 u112 u113 u114 u115 u116 u117 u118 u119 u120 u121 u122 u123 u124 u125 u126 u127 u128 u129 u130 u131 u132 u133 u134 u135 u136 u137 u138 u139 u140 u141 u142 u143 u144 u145 u146 u147 u148 u149 u150 u151 u152 u153 u154 u155 u156 u157 u158 u159 u160 u161 u162 u163 u164 u165 u166 u167 u168 u169 u170 u171 u172 u173 u174 u175 u176 u177 u178 u179 u180 u181 u182 u183 u184 u185 u186 u187 u188 u189 u190 u191 u192 u193 u194 u195 u196 u197 u198 u199 u200 u201 u202 u203 u204 u205 u206 u207 u208 u209 u210 u211 u212 u213 u214 u215 u216 u217 u218 u219 u220 u221 u222 u223 u224 u225 u226 u227 u228 u229 u230 u231 u232 u233 u234 u235 u236 u237 u238 u239 u240 u241 u242 u243 u244 u245 u246 u247 u248 u249 u250 u251 u252 u253 u254 u255 u256 u257 u258 u259 u260 u261 u262 u263 u264 u265 u266 u267 u268 u269 u270 : Value) (w' : World), u56 = .int .i64 ((k + 1 : Nat) : Int) ∧ Fin W0 m L kb kc (k + 1) u11 w' → I ⟨#[s0, s1, .slice ko keep.length kcap, s3, s4, s5, u6, .int .i64 m, .pointer (some ⟨L.D, 0, none⟩), s9, .slice (some ⟨kb, 0, none⟩) (8 * m : Nat) kc, u11, u12, u13, u14, u15, u16, u17, u18, u19, u20, s21, u22, u23, u24, u25, s26, u27, u28, u29, s30, s31, s32, s33, s34, s35, s36, s37, s38, s39, s40, s41, s42, s43, s44, s45, s46, s47, s48, s49, s50, s51, s52, s53, .slice (some ad) len cap, .int .i64 len, u56, u57, u58, u59, u60, u61, u62, u63, u64, u65, u66, u67, u68, u69, u70, u71, u72, u73, u74, u75, u76, u77, u78, u79, u80, u81, u82, u83, u84, u85, u86, u87, u88, u89, u90, u91, u92, u93, u94, u95, u96, u97, u98, u99, u100, u101, u102, u103, u104, u105, u106, u107, u108, u109, u110, u111, u112, u113, u114, u115, u116, u117, u118, u119, u120, u121, u122, u123, u124, u125, u126, u127, u128, u129, u130, u131, u132, u133, u134, u135, u136, u137, u138, u139, u140, u141, u142, u143, u144, u145, u146, u147, u148, u149, u150, u151, u152, u153, u154, u155, u156, u157, u158, u159, u160, u161, u162, u163, u164, u165, u166, u167, u168, u169, u170, u171, u172, u173, u174, u175, u176, u177, u178, u179, u180, u181, u182, u183, u184, u185, u186, u187, u188, u189, u190, u191, u192, u193, u194, u195, u196, u197, u198, u199, u200, u201, u202, u203, u204, u205, u206, u207, u208, u209, u210, u211, u212, u213, u214, u215, u216, u217, u218, u219, u220, u221, u222, u223, u224, u225, u226, u227, u228, u229, u230, u231, u232, u233, u234, u235, u236, u237, u238, u239, u240, u241, u242, u243, u244, u245, u246, u247, u248, u249, u250, u251, u252, u253, u254, u255, u256, u257, u258, u259, u260, u261, u262, u263, u264, u265, u266, u267, u268, u269, u270], []⟩ w') :
    Code.wp Try.prog body25 (Exit.then I Q0) ⟨#[s0, s1, .slice ko keep.length kcap, s3, s4, s5, s6, .int .i64 m, .pointer (some ⟨L.D, 0, none⟩), s9, .slice (some ⟨kb, 0, none⟩) (8 * m : Nat) kc, wvv, s12, s13, s14, s15, s16, s17, s18, s19, s20, s21, s22, s23, s24, s25, s26, s27, s28, s29, s30, s31, s32, s33, s34, s35, s36, s37, s38, s39, s40, s41, s42, s43, s44, s45, s46, s47, s48, s49, s50, s51, s52, s53, .slice (some ad) len cap, .int .i64 len, .int .i64 k, s57, s58, s59, s60, s61, s62, s63, s64, s65, s66, s67, s68, s69, s70, s71, s72, s73, s74, s75, s76, s77, s78, s79, s80, s81, s82, s83, s84, s85, s86, s87, s88, s89, s90, s91, s92, s93, s94, s95, s96, s97, s98, s99, s100, s101, s102, s103, s104, s105, s106, s107, s108, s109, s110, s111, s112, s113, s114, s115, s116, s117, s118, s119, s120, s121, s122, s123, s124, s125, s126, s127, s128, s129, s130, s131, s132, s133, s134, s135, s136, s137, s138, s139, s140, s141, s142, s143, s144, s145, s146, s147, s148, s149, s150, s151, s152, s153, s154, s155, s156, s157, s158, s159, s160, s161, s162, s163, s164, s165, s166, s167, s168, s169, s170, s171, s172, s173, s174, s175, s176, s177, s178, s179, s180, s181, s182, s183, s184, s185, s186, s187, s188, s189, s190, s191, s192, s193, s194, s195, s196, s197, s198, s199, s200, s201, s202, s203, s204, s205, s206, s207, s208, s209, s210, s211, s212, s213, s214, s215, s216, s217, s218, s219, s220, s221, s222, s223, s224, s225, s226, s227, s228, s229, s230, s231, s232, s233, s234, s235, s236, s237, s238, s239, s240, s241, s242, s243, s244, s245, s246, s247, s248, s249, s250, s251, s252, s253, s254, s255, s256, s257, s258, s259, s260, s261, s262, s263, s264, s265, s266, s267, s268, s269, s270], []⟩ wr := by
  conv => arg 2; whnf
  rw [add_more _ _ _ (by omega)] at e1 e2
  obtain ⟨gw, cw, hwv⟩ := hS.wrow.shape
  subst hwv
  have hwl := hH.len
  have HS := Lib.hid hS; have HH := Lib.hid hH; clear hS hH
  have HK0 := Lib.hid hk0; have HKO := Lib.hid hko; have HKC := Lib.hid hkc; have HKB := Lib.hid hkb0; clear hk0 hko hkc hkb0
  have hlt8 := World.block_lt_of_cell? wr _ e0
  obtain ⟨at_, hat⟩ : ∃ at_ : Nat, (at_ : Int) = (x1 : Int) % (8 * (m : Int) + 1) := ⟨x1 % (8 * m + 1), by simp⟩
  obtain ⟨line, hline⟩ : ∃ line : Nat, (line : Int) = (x1 : Int) % ((m : Int) + 1) := ⟨x1 % (m + 1), by simp⟩
  have hatl : at_ ≤ 8 * m := by have := Int.emod_lt_of_pos (x1 : Int) (show (0:Int) < 8 * (m : Int) + 1 by omega); omega
  have hlinel : line ≤ m := by have := Int.emod_lt_of_pos (x1 : Int) (show (0:Int) < (m : Int) + 1 by omega); omega
  have HAT := Lib.hid hat; have HLINE := Lib.hid hline; clear hat hline
  go_upto_region 10 with (fail)
  have HSa := Lib.hid (HS.out.alloc (.cells #[.int .u8 (x0 : Int), .int .u8 (x1 : Int), .int .u8 (x2 : Int)] 62))
  have c0 : (wr.alloc (.cells #[.int .u8 (x0 : Int), .int .u8 (x1 : Int), .int .u8 (x2 : Int)] 62)).cell? ⟨wr.heap.size, 0, none⟩ = some (.int .u8 x0) := by simp
  have c1 : (wr.alloc (.cells #[.int .u8 (x0 : Int), .int .u8 (x1 : Int), .int .u8 (x2 : Int)] 62)).cell? ⟨wr.heap.size, 1, none⟩ = some (.int .u8 x1) := by simp
  have c2 : (wr.alloc (.cells #[.int .u8 (x0 : Int), .int .u8 (x1 : Int), .int .u8 (x2 : Int)] 62)).cell? ⟨wr.heap.size, 2, none⟩ = some (.int .u8 x2) := by simp
  have hws : wr.heap.size < (wr.alloc (.cells #[.int .u8 (x0 : Int), .int .u8 (x1 : Int), .int .u8 (x2 : Int)] 62)).heap.size := by simp
  generalize wr.alloc (.cells #[.int .u8 (x0 : Int), .int .u8 (x1 : Int), .int .u8 (x2 : Int)] 62) = W1 at HSa c0 c1 c2 hws ⊢
  clear e0 e1 e2 hlt8
  go_quiet (fail)
  rw [← HAT.out, ← HLINE.out]
  have HS1 := Lib.hid (HSa.out.drewN nq); clear HSa HS
  go_upto_block 2 with (fail)
  go_cut [11, 56] from 57 to 270 (fun s11 s56 wc => s56 = .int .i64 k ∧ Fin W0 m L kb kc (k + 1) s11 wc)
  case first =>
    by_cases ha : at_ < 8 * m
    · have HCL := Lib.hid (clone_pends HS1.out.wrow (by omega))
      obtain ⟨i0, hi, iz0, iz1, iz2⟩ := info_parts info85
      obtain ⟨X, hX⟩ : ∃ X, bits BinOp.or IntKind.u64 ((k : Int) * 256) x2 = X := ⟨_, rfl⟩
      have HN := Lib.hid HS1.out.n
      go_wp2_with (first
        | (go_at_call 38; refine HCL.out.mono ?_; rintro e w2 ⟨v2, rfl, ho2, hb2⟩; have HO2 := Lib.hid ho2; have HB2 := Lib.hid hb2; clear ho2 hb2; dsimp only)
        | (at_builtin; refine wpList_append_own _ rfl _ _ 80 rfl (W1.drewN nq).heap.size 85 i0 (.agg #[.int .i64 0, .int .u64 0, .bool false]) 3 24 Try.underlying80 hi iz0 iz1 iz2 rfl (by decide) _ _ _ rfl (HO2.out.alloc _) ⟨w2.heap.size, 0, none⟩ 1 1 [.int .i64 at_, .int .u64 X, .bool false] rfl rfl ?c1 ?c2 ?c3 ?c4 ?c5 ?_))
      case c1 => exact news3 _ _ _ _ _
      case c2 => intro u hu; simp at hu; rcases hu with rfl | rfl | rfl <;> rfl
      case c3 => unfold maxLen; omega
      case c4 => omega
      case c5 => have := HB2.out.size; simp at this ⊢; omega
      intro v3 w3 hown hgrow _
      have ho3 : Only (fun _ => False) (W1.drewN nq) w3 := ((Only.of_below HB2.out).alloc _).grown hgrow (fun k hk => .inr (HO2.out.lt k hk).1)
      rw [show wait.length + 1 = (wait ++ [(at_, X, false)]).length by simp] at hown
      have hw3 : wide w3 W0.heap.size 85 3 v3 (wait ++ [(at_, X, false)]).length (pends (wait ++ [(at_, X, false)])) := by
        rw [pends_snoc]; exact (wide_of_own hown).weaken HS1.out.below.size
      have HS3 := Lib.hid (HS1.out.newW ho3 hw3 (fun k hk => (hown.lt k hk).1))
      clear hown hgrow ho3 hw3
      have HST := Lib.hid (store_ok HS3.out.dev m HN.out (by omega) at_ (by rw [HN.out]; exact ha) X (by omega))
      go_wp2_with (go_at_call 39; refine HST.out.mono ?_; rintro e w4 hp; obtain ⟨rfl, wv4, hS4⟩ := HS3.out.called hp; have HS4 := Lib.hid hS4; clear hp hS4; dsimp only)
      have HF := Lib.hid (show Fin W0 m L kb kc (k + 1) v3 w4 from ⟨_, _, _, _, HH.out.store at_ X ha, HS4.out⟩)
      go_meet
      case rel => exact ⟨rfl, HF.out⟩
    · have HN := Lib.hid HS1.out.n
      have HST := Lib.hid (store_arg HS1.out.dev m HN.out (by omega) at_ (by rw [HN.out]; omega) (by omega) (bits BinOp.or IntKind.u64 ((k : Int) * 256) x2))
      go_wp2_with (go_at_call 39; refine HST.out.mono ?_; rintro e w4 ⟨rfl, hw4⟩; subst w4; dsimp only)
      have HF := Lib.hid (show Fin W0 m L kb kc (k + 1) _ (W1.drewN nq) from ⟨_, _, _, _, HH.out.more, HS1.out⟩)
      go_meet
      case rel => exact ⟨rfl, HF.out⟩
  case rest =>
    obtain ⟨rfl, wv', kept', now', wait', hH', hS'⟩ := hcut
    have HS' := Lib.hid hS'; have HH' := Lib.hid hH'
    clear hS' hH' HS1 HH c0 c1 c2
    go_step
    refine rest_any _ _ _ _ _ _ _ _ _ _ _ _ _ _ _ _ _ _ _ _ _ _ _ _ _ _ _ _ _ _ _ _ _ _ _ _ _ _ _ _ _ _ _ _ _ _ _ _ _ _ _ _ _ _ _ _ _ _ _ _ _ _ _ _ _ _ _ _ _ _ _ _ _ _ _ _ _ _ _ _ _ _ _ _ _ _ _ _ _ _ _ _ _ _ _ _ _ _ _ _ _ _ _ _ _ _ _ _ _ _ _ _ _ _ _ _ _ _ _ _ _ _ _ _ _ _ _ _ _ _ _ _ _ _ _ _ _ _ _ _ _ _ _ _ _ _ _ _ _ _ _ _ _ _ _ _ _ _ _ _ _ _ _ _ _ _ _ _ _ _ _ _ _ _ _ _ _ _ _ _ _ _ _ _ _ _ _ _ _ _ _ _ _ _ _ _ _ _ _ _ _ _ _ _ _ _ _ _ _ _ _ _ _ _ _ _ _ _ _ _ _ _ _ _ _ _ _ _ _ _ _ _ _ _ _ _ _ _ _ _ _ _ _ _ _ _ _ _ _ _ _ _ _ _ _ _ _ _ _ _ _ _ _ _ _ _ (m := m) (kb := kb) (kc := kc) (at_ := at_) (q := k + 1) (L := L) (W0 := W0) hm hm4 hatl (by omega) HH'.out HS'.out ?_
    intro v6 v25 v27 v28 v29 v202 v203 v204 v205 v206 v207 v208 v209 v210 v211 v212 v213 v214 v215 v216 v217 v218 v219 v220 v221 v222 v223 v224 v225 v226 v227 v228 v229 v230 v231 v232 v233 v234 v235 v236 v237 v238 v239 v240 v241 v242 v243 v244 v245 v246 v247 v248 v249 v250 v251 v252 v253 v254 v255 v256 v257 v258 v259 v260 v261 v262 v263 v264 v265 v266 v267 v268 v269 w' hS2
    have HF := Lib.hid (show Fin W0 m L kb kc (k + 1) _ w' from ⟨_, _, _, _, HH'.out, hS2⟩); clear hS2 HS' HH'
    go_wp2_with fail
    exact ⟨by go_num, HF.out⟩
end Go.Proofs.Ythjdpcgkkmfodaa.Pend
