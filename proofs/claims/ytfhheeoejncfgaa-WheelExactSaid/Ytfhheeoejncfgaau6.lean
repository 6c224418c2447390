/- Texts that the claim needs, set narrow. -/
import Derived.Test.Ytfhheeoejncfgaau5
set_option linter.unusedVariables false
set_option linter.unusedSimpArgs false
namespace Go.Proofs.Ytfhheeoejncfgaa.Ew
open Go Go.RowKit
noncomputable section
def rekey (e : Ent) (k : Nat) : Ent := ⟨k, e.f, e.ps, e.os, e.kp, e.rs, e.fn, e.pre⟩
theorem rekey_ok {e : Ent} {k : Nat} (h : EntryOK Try.prog G0 e) : EntryOK Try.prog G0 (rekey e k) := h
def e40 : Ent := ⟨540, 40, [i64], [], [], .tup [Q.qo, .lt (.i .i64) 0], Q.fn20, fun xs => Q.timB (env xs 0)⟩
def e41 : Ent := ⟨541, 41, [Q.qo, i64], [Q.qob], [], i64, Q.fn22, Q.QIx⟩
def e44 : Ent := ⟨544, 44, [Q.qo, i64, i64], [Q.qob], [], i64, Q.fn21, Q.QIx⟩
def e45 : Ent := ⟨545, 45, [Q.qo], [], [0, 1, 2], i64, fun _ xs => ((dc (env xs 1)).length : Int), fun _ => True⟩
def e64 : Ent := ⟨564, 64, [Q.qo], [Q.qob], [], .tup [Q.ltm, i64], Q.fn16, Q.QIx⟩
def e66 : Ent := ⟨566, 66, [Q.qo], [], [0, 1, 2], i64, fun _ xs => env xs 0, fun _ => True⟩
theorem ok40 : EntryOK Try.prog G0 e40 := rekey_ok (k := 540) Q.ok20
theorem ok41 : EntryOK Try.prog G0 e41 := rekey_ok (k := 541) Q.ok22
theorem ok44 : EntryOK Try.prog G0 e44 := rekey_ok (k := 544) Q.ok21
theorem ok45 : EntryOK Try.prog G0 e45 := rekey_ok (k := 545) Q.ok19
theorem ok64 : EntryOK Try.prog G0 e64 := rekey_ok (k := 564) Q.ok16
theorem ok66 : EntryOK Try.prog G0 e66 := rekey_ok (k := 566) Q.ok17
def lsT : Sh := .lst 110 Q.tmR false
def p65 : List Bool := [true,true,false,true,false]
def okT (c : Int) : Prop := rowsOK Q.tmK (dc c) /\ ((dc c).length : Int) <= 100000
def preL65 (xs : List Int) : Prop := okT (env xs 1) /\ env xs 2 = ((dc (env xs 1)).length : Int) /\ 0 <= env xs 3 /\ env xs 3 <= env xs 2 /\ ((dc (env xs 0)).length : Int) = env xs 3
def postL65 (xs ys : List Int) : Prop := dc (env ys 0) = dc (env xs 0) ++ idT ((dc (env xs 1)).drop (env xs 3).toNat)
def muL65 (xs : List Int) : Nat := (env xs 2 - env xs 3).toNat
def lb65 : LEnt := ⟨⟨9065, 999999, [lio, lsT, i64, i64], [], [1], .tup [lio], z0, preL65⟩, [3, 6, 7, 8], [3], [5] ++ (List.range 10).map (· + 8), [.ex 0], 21, [6]⟩
def q_L65_0 : E := (aX 0 4 [(vX 0), (aX 0 3 [(aX 0 2 []), (aI 0 1 [(vX 1), (vI 3), (.lit .x 0)])])])
def ob_L65 : E := (.and (.and (.or (.not (.cmp .lss (vI 3) (vI 2))) (.and (.and (.cmp .geq (vI 3) (lI 0)) (.cmp .lss (vI 3) (aI 0 0 [(vX 1)]))) (.cmp .leq (aX 0 0 [q_L65_0]) (.lit .x 17592186044416)))) (.or (.not (.cmp .lss (vI 3) (vI 2))) (aB 9065 1000000 [q_L65_0, (vX 1), (vI 2), (.bin .add .i64 (vI 3) (lI 1))]))) (.or (.not (.or (.not (.cmp .lss (vI 3) (vI 2))) (.cmp .lss (vI 3) (vI 2)))) (.ite (.not (.cmp .lss (vI 3) (vI 2))) (.not (.cmp .lss (vI 3) (vI 2))) (.cmp .lss (vI 3) (vI 2)))))
def es_L65 : List E := [(.ite (.not (.cmp .lss (vI 3) (vI 2))) (vX 0) (aX 9065 0 [q_L65_0, (vX 1), (vI 2), (.bin .add .i64 (vI 3) (lI 1))]))]
def le65 : LEnt := lb65.fw (fnL lb65 cI.nm.l ob_L65 es_L65 postL65 muL65)
theorem ev_L65 : evL Try.prog G0 (tabOf cI.nm.fs) (evFn Try.prog G0 (tabOf cI.nm.fs) (ltOf cI.nm.ls) 40 10) 40 (subL cI.nm.ls 65 p65) le65 (bodyAt Try.prog 65 p65) = some (ob_L65, es_L65) := by kernel_rfl
def pre65 (xs : List Int) : Prop := okT (env xs 0)
def post65 (xs ys : List Int) : Prop := dc (env ys 0) = srtR (idT (dc (env xs 0)))
def b65 : Ent := ⟨65, 65, [lsT], [], [0], lio, z0, pre65⟩
def c65 : Ctx := ⟨[e38], [(65, p65, le65)]⟩
def c65n : Ctx := c65.nm
def defs_65 : List (Nat × E) := [(640058016000064, (aX 100009065 0 [(aX 0 2 []), (vX 0), (aI 0 0 [(vX 0)]), (lI 0)])),
 (640000243200128, (aX 100000038 0 [(vX 640058016000064)]))]
def ob_65 : E := (.and (.and (aB 100009065 1000000 [(aX 0 2 []), (vX 0), (aI 0 0 [(vX 0)]), (lI 0)]) (dE defs_65 0 1)) (.and (.and (aB 100000038 1000000 [(vX 640058016000064)]) (.cmp .eql (aI 0 0 [(vX 640000243200128)]) (aI 0 0 [(vX 640058016000064)]))) (dE defs_65 1 1)))
def es_65 : List E := [(vX 640000243200128)]
def e65 : Ent := b65.fw (fnR c65n.l.F b65.np ob_65 es_65 post65)
theorem ev_65 : evE Try.prog G0 (tabOf c65n.fs) (ltOf c65n.ls) 40 10 e65 = some (ob_65, es_65) := by kernel_rfl
def p42 : List Bool := [true,false,true,false]
def qob2 (j : Nat) : Ob := { j := j, ty := 105, cs := Q.qcs }
def QX (xs : List Int) (c : Int) : Prop := QW (env xs 0) (env xs 1) (env xs 2) (env xs 3) (env xs 4) (env xs 5) c (env xs 6) (env xs 7) (env xs 8)
def preT (xs : List Int) : Prop := (∃ c, QX xs c) /\ env xs 9 = env xs 2 /\ 0 <= env xs 11 /\ env xs 11 <= env xs 10 /\ env xs 10 <= 1000 /\ env xs 4 + 4096 * (env xs 10 - env xs 11) <= 1125899906842624
def postT (xs ys : List Int) : Prop := (∀ c, QX xs c -> QX ys c) /\ env ys 2 = env xs 2 /\ env ys 4 <= env xs 4 + 4096 * (env xs 10 - env xs 11)
def muT (xs : List Int) : Nat := (env xs 10 - env xs 11).toNat
def lb42 : LEnt := ⟨⟨9042, 999999, [wsh, Q.qo, i64, i64, i64], [wob, qob2 2], [], .tup [], z0, preT⟩, [0, 1, 3, 15, 16], [], (List.range 6).map (· + 9) ++ (List.range 56).map (· + 16), [.ex 0], 72, []⟩
def c42 : Ctx := ⟨[e16, e15, e64, e65, e38, e19, e18, e66, e31], []⟩
def c42n : Ctx := c42.nm
def a_L42_0 : List E := [(vX 0), (vI 1), (vI 2), (vI 3), (vI 4), (vX 5)]
def a_L42_1 : List E := [(vI 6), (vX 7), (vX 8)]
def a_L42_2 : List E := [(vX 640000096004928), (vI 640000096004929), (vI 640000096004930), (vI 640000096004931), (vI 640000096004932), (vX 640000096004933)]
def defs_L42 : List (Nat × E) := [(640000102404928, (aI 100000016 0 a_L42_0)),
 (640000096004928, (aX 100000015 0 a_L42_0)),
 (640000096004929, (aI 100000015 1 a_L42_0)),
 (640000096004930, (aI 100000015 2 a_L42_0)),
 (640000096004931, (aI 100000015 3 a_L42_0)),
 (640000096004932, (aI 100000015 4 a_L42_0)),
 (640000096004933, (aX 100000015 5 a_L42_0)),
 (640000096004934, (aI 100000015 6 a_L42_0)),
 (640003609605440, (aI 100000564 0 a_L42_1)),
 (640003609605441, (aX 100000564 1 a_L42_1)),
 (640003609605442, (aX 100000564 2 a_L42_1)),
 (640003609605443, (aX 100000564 3 a_L42_1)),
 (640003609605444, (aI 100000564 4 a_L42_1)),
 (640000198405952, (aX 100000031 0 a_L42_2)),
 (640000416006464, (aX 100000065 0 [(vX 640003609605443)])),
 (640000121606976, (aB 100000019 0 [(aX 0 5 [(aX 0 4 [(aX 0 5 [(vX 640000198405952), (lI 0), (vI 640000102404928)]), (aX 100000038 0 [(aX 0 5 [(vX 640000198405952), (vI 640000102404928), (aI 0 0 [(vX 640000198405952)])])])]), (vI 640000102404928), (aI 0 0 [(vX 640000198405952)])]), (vX 640000416006464)])),
 (640000115206976, (aI 100000018 0 a_L42_2)),
 (640003622406976, (aI 100000566 0 [(vI 640003609605440), (vX 640003609605441), (vX 640003609605442)]))]
def q_L42_0 : E := (.or (.or (.or (.cmp .neq (.bin .add .i64 (lI 0) (vI 640003609605444)) (lI 0)) (.cmp .lss (vI 640000096004934) (lI 0))) (.cmp .gtr (vI 640000096004934) (vI 9))) (.cmp .neq (aI 0 0 [(vX 640000198405952)]) (.bin .add .i64 (vI 640000102404928) (aI 0 0 [(vX 640003609605443)]))))
def q_L42_1 : E := (.cmp .leq (vI 640000102404928) (aI 0 0 [(vX 640000198405952)]))
def q_L42_2 : E := (.and (.cmp .geq (vI 640000102404928) (lI 0)) q_L42_1)
def q_L42_3 : E := (.not q_L42_0)
def q_L42_4 : E := (.or (.not (.var .b 640000121606976)) (.cmp .neq (vI 640000115206976) (vI 640003622406976)))
def q_L42_5 : E := (.and (.cmp .lss (vI 11) (vI 10)) (.and q_L42_3 (.not q_L42_4)))
def ob_L42 : E := (.and (.and (.or (.not (.cmp .lss (vI 11) (vI 10))) (.and (.and (aB 100000016 1000000 [(vX 0), (vI 1), (vI 2), (vI 3), (vI 4), (vX 5)]) (dE defs_L42 0 1)) (.and (.and (aB 100000015 1000000 [(vX 0), (vI 1), (vI 2), (vI 3), (vI 4), (vX 5)]) (dE defs_L42 1 7)) (.and (.and (aB 100000564 1000000 [(vI 6), (vX 7), (vX 8)]) (dE defs_L42 8 5)) (.and (.and (aB 100000031 1000000 [(vX 640000096004928), (vI 640000096004929), (vI 640000096004930), (vI 640000096004931), (vI 640000096004932), (vX 640000096004933)]) (dE defs_L42 13 1)) (.or q_L42_0 (.and q_L42_2 (.and (.and (.cmp .geq (vI 640000102404928) (lI 0)) (.and q_L42_1 (.cmp .lss (aI 0 0 [(vX 640000198405952)]) (lI 1099511627776)))) (.and (.and (aB 100000065 1000000 [(vX 640003609605443)]) (dE defs_L42 14 1)) (.and (.and (.and q_L42_2 (aB 100000019 1000000 [(aX 0 5 [(aX 0 4 [(aX 0 5 [(vX 640000198405952), (lI 0), (vI 640000102404928)]), (aX 100000038 0 [(aX 0 5 [(vX 640000198405952), (vI 640000102404928), (aI 0 0 [(vX 640000198405952)])])])]), (vI 640000102404928), (aI 0 0 [(vX 640000198405952)])]), (vX 640000416006464)])) (dE defs_L42 15 1)) (.and (.or (.not (.var .b 640000121606976)) (.and (aB 100000018 1000000 [(vX 640000096004928), (vI 640000096004929), (vI 640000096004930), (vI 640000096004931), (vI 640000096004932), (vX 640000096004933)]) (dE defs_L42 16 1))) (.or (.not (.var .b 640000121606976)) (.and (aB 100000566 1000000 [(vI 640003609605440), (vX 640003609605441), (vX 640003609605442)]) (dE defs_L42 17 1)))))))))))))) (.or (.not q_L42_5) (aB 9042 1000000 [(vX 640000096004928), (vI 640000096004929), (vI 640000096004930), (vI 640000096004931), (vI 640000096004932), (vX 640000096004933), (vI 640003609605440), (vX 640003609605441), (vX 640003609605442), (vI 9), (vI 10), (.bin .add .i64 (vI 11) (lI 1))]))) (.and (.or (.not (.or (.not (.cmp .lss (vI 11) (vI 10))) q_L42_5)) (.ite (.not (.cmp .lss (vI 11) (vI 10))) (.not (.cmp .lss (vI 11) (vI 10))) (.cmp .lss (vI 11) (vI 10)))) (.not (.and (.cmp .lss (vI 11) (vI 10)) (.or q_L42_0 (.and q_L42_3 q_L42_4))))))
def es_L42 : List E := [(.ite (.not (.cmp .lss (vI 11) (vI 10))) (vX 0) (aX 9042 0 [(vX 640000096004928), (vI 640000096004929), (vI 640000096004930), (vI 640000096004931), (vI 640000096004932), (vX 640000096004933), (vI 640003609605440), (vX 640003609605441), (vX 640003609605442), (vI 9), (vI 10), (.bin .add .i64 (vI 11) (lI 1))])), (.ite (.not (.cmp .lss (vI 11) (vI 10))) (vI 1) (aI 9042 1 [(vX 640000096004928), (vI 640000096004929), (vI 640000096004930), (vI 640000096004931), (vI 640000096004932), (vX 640000096004933), (vI 640003609605440), (vX 640003609605441), (vX 640003609605442), (vI 9), (vI 10), (.bin .add .i64 (vI 11) (lI 1))])), (.ite (.not (.cmp .lss (vI 11) (vI 10))) (vI 2) (aI 9042 2 [(vX 640000096004928), (vI 640000096004929), (vI 640000096004930), (vI 640000096004931), (vI 640000096004932), (vX 640000096004933), (vI 640003609605440), (vX 640003609605441), (vX 640003609605442), (vI 9), (vI 10), (.bin .add .i64 (vI 11) (lI 1))])), (.ite (.not (.cmp .lss (vI 11) (vI 10))) (vI 3) (aI 9042 3 [(vX 640000096004928), (vI 640000096004929), (vI 640000096004930), (vI 640000096004931), (vI 640000096004932), (vX 640000096004933), (vI 640003609605440), (vX 640003609605441), (vX 640003609605442), (vI 9), (vI 10), (.bin .add .i64 (vI 11) (lI 1))])), (.ite (.not (.cmp .lss (vI 11) (vI 10))) (vI 4) (aI 9042 4 [(vX 640000096004928), (vI 640000096004929), (vI 640000096004930), (vI 640000096004931), (vI 640000096004932), (vX 640000096004933), (vI 640003609605440), (vX 640003609605441), (vX 640003609605442), (vI 9), (vI 10), (.bin .add .i64 (vI 11) (lI 1))])), (.ite (.not (.cmp .lss (vI 11) (vI 10))) (vX 5) (aX 9042 5 [(vX 640000096004928), (vI 640000096004929), (vI 640000096004930), (vI 640000096004931), (vI 640000096004932), (vX 640000096004933), (vI 640003609605440), (vX 640003609605441), (vX 640003609605442), (vI 9), (vI 10), (.bin .add .i64 (vI 11) (lI 1))])), (.ite (.not (.cmp .lss (vI 11) (vI 10))) (vI 6) (aI 9042 6 [(vX 640000096004928), (vI 640000096004929), (vI 640000096004930), (vI 640000096004931), (vI 640000096004932), (vX 640000096004933), (vI 640003609605440), (vX 640003609605441), (vX 640003609605442), (vI 9), (vI 10), (.bin .add .i64 (vI 11) (lI 1))])), (.ite (.not (.cmp .lss (vI 11) (vI 10))) (vX 7) (aX 9042 7 [(vX 640000096004928), (vI 640000096004929), (vI 640000096004930), (vI 640000096004931), (vI 640000096004932), (vX 640000096004933), (vI 640003609605440), (vX 640003609605441), (vX 640003609605442), (vI 9), (vI 10), (.bin .add .i64 (vI 11) (lI 1))])), (.ite (.not (.cmp .lss (vI 11) (vI 10))) (vX 8) (aX 9042 8 [(vX 640000096004928), (vI 640000096004929), (vI 640000096004930), (vI 640000096004931), (vI 640000096004932), (vX 640000096004933), (vI 640003609605440), (vX 640003609605441), (vX 640003609605442), (vI 9), (vI 10), (.bin .add .i64 (vI 11) (lI 1))]))]
def le42 : LEnt := lb42.fw (fnL lb42 c42n.l ob_L42 es_L42 postT muT)
theorem ev_L42 : evL Try.prog G0 (tabOf c42n.fs) (callS 100000038 38 (evFn Try.prog G0 (tabOf c42n.fs) (ltOf c42n.ls) 40 10)) 40 (subL c42n.ls 42 p42) le42 (bodyAt Try.prog 42 p42) = some (ob_L42, es_L42) := by kernel_rfl
def preF42 (xs : List Int) : Prop := (∃ c, QX xs c) /\ env xs 10 = env xs 2 /\ 0 <= env xs 9 /\ env xs 9 <= 1000 /\ env xs 4 + 4096 * env xs 9 <= 1125899906842624
def postF42 (xs ys : List Int) : Prop := (∀ c, QX xs c -> QX ys c) /\ env ys 2 = env xs 2 /\ env ys 4 <= env xs 4 + 4096 * env xs 9
def b42 : Ent := ⟨42, 42, [wsh, Q.qo, i64, i64], [wob, qob2 2], [], .lt .b 1, z0, preF42⟩
def cF42 : Ctx := ⟨[e16], [(42, p42, le42)]⟩
def cF42n : Ctx := cF42.nm
def a_42_0 : List E := [(vX 0), (vI 1), (vI 2), (vI 3), (vI 4), (vX 5), (vI 6), (vX 7), (vX 8), (vI 10), (vI 9), (lI 0)]
def defs_42 : List (Nat × E) := [(640057868800320, (aX 100009042 0 a_42_0)),
 (640057868800321, (aI 100009042 1 a_42_0)),
 (640057868800322, (aI 100009042 2 a_42_0)),
 (640057868800323, (aI 100009042 3 a_42_0)),
 (640057868800324, (aI 100009042 4 a_42_0)),
 (640057868800325, (aX 100009042 5 a_42_0)),
 (640057868800326, (aI 100009042 6 a_42_0)),
 (640057868800327, (aX 100009042 7 a_42_0)),
 (640057868800328, (aX 100009042 8 a_42_0))]
def ob_42 : E := (.and (aB 100009042 1000000 [(vX 0), (vI 1), (vI 2), (vI 3), (vI 4), (vX 5), (vI 6), (vX 7), (vX 8), (vI 10), (vI 9), (lI 0)]) (dE defs_42 0 9))
def es_42 : List E := [(vX 640057868800320), (vI 640057868800321), (vI 640057868800322), (vI 640057868800323), (vI 640057868800324), (vX 640057868800325), (vI 640057868800326), (vX 640057868800327), (vX 640057868800328)]
def e42 : Ent := b42.fw (fnR cF42n.l.F b42.np ob_42 es_42 postF42)
theorem ev_42 : evE Try.prog G0 (tabOf cF42n.fs) (ltOf cF42n.ls) 40 10 e42 = some (ob_42, es_42) := by kernel_rfl
theorem sortC : SortC Try.prog 38 := ⟨fun p cap w => AnyM.slices_Sort_int_none Try.sortA p cap w, fun blk off cap zs w a b c => AnyM.slices_Sort_int Try.sortA blk off cap zs w a b c⟩
theorem ok65l : ItemOK Try.prog G0 65 p65 le65 /\ PostOK le65.ent postL65 := by
 refine cIok.nm.loopH mixed rfl ⟨_, _, _, Try.func65, rfl, rfl⟩ ev_L65 (by kernel_rfl) _ rfl fun xs hf hp φ hφ => ?_
 obtain ⟨l, hl, hS, hF⟩ := self_H lb65 φ muL65 (muL65 xs) cI.nm.l (by decide)
 show ∃ ρ : Nat -> Int, _ /\ ob_L65.tt (Tabs.F (enH lb65 φ muL65 (muL65 xs) :: cI.nm.l)) ρ = true /\ postL65 xs (es_L65.map (E.den (Tabs.F (enH lb65 φ muL65 (muL65 xs) :: cI.nm.l)) ρ))
 rw [hl]
 replace hφ : ∀ ys, fits [.x, .x, (.i .i64), (.i .i64)] ys -> lb65.ent.pre ys -> muL65 ys < muL65 xs -> postL65 ys (outsE φ ys 0 lb65.ent.oks) := hφ
 have F9065 := FC (k := 9065) rfl hS
 replace hf : fits [.x, .x, (.i .i64), (.i .i64)] xs := hf
 obtain ⟨O, xs0, hx0, hO, hf0⟩ := fits_cons hf
 obtain ⟨L, xs1, hx1, hL, hf1⟩ := fits_cons hf0
 obtain ⟨n, xs2, hx2, hn, hf2⟩ := fits_cons hf1
 obtain ⟨i, xs3, hx3, hi, hf3⟩ := fits_cons hf2
 have hxn := fits_nil hf3
 subst hxn hx3 hx2 hx1 hx0
 simp only [norm_i] at hn hi
 obtain ⟨ρ, hρ⟩ : ∃ ρ : Nat -> Int, ∀ i_, i_ < 4 -> ρ i_ = env [O, L, n, i] i_ := ⟨env [O, L, n, i], fun _ _ => rfl⟩
 refine ⟨ρ, hρ, ?_⟩
 have r0 : ρ 0 = O := hρ 0 (by decide)
 have r1 : ρ 1 = L := hρ 1 (by decide)
 have r2 : ρ 2 = n := hρ 2 (by decide)
 have r3 : ρ 3 = i := hρ 3 (by decide)
 have hSS := And.intro (And.intro F9065 (And.intro r0 r1)) (And.intro (And.intro r2 hn) (And.intro r3 hi))
 obtain ⟨⟨p0, p1⟩, p2, p3, p4, p5⟩ := hp
 replace p0 : rowsOK Q.tmK (dc L) := p0
 simp only [ewA, ewL, preC, binI, dvI, shI, cmpB, env, bi, List.headD, List.tail, List.map, Nat.reduceAdd] at p1 p2 p3 p4 p5
 by_cases hi : i < n
 ·obtain ⟨r, er, hr, _, hdr⟩ := row_at p0 p3 (by omega)
  obtain ⟨a, r1, rfl, ha, hr⟩ := fits_cons hr
  obtain ⟨b, r2, rfl, hb, hr⟩ := fits_cons hr
  obtain rfl := fits_nil hr
  simp only [norm_i] at ha hb
  obtain ⟨O', hO'⟩ : ∃ O', O' = cd (dc O ++ [[a]]) := ⟨_, rfl⟩
  have dO : dc O' = dc O ++ [[a]] := by rw [hO']; exact dc_cd _
  have yp : lb65.ent.pre [O', L, n, i + 1] := ⟨⟨p0, p1⟩, p2, by show 0 <= i + 1; omega, by show i + 1 <= n; omega, by show ((dc O').length : Int) = i + 1; rw [dO, List.length_append]; show ((dc O).length + 1 : Int) = _; omega⟩
  have ym : muL65 [O', L, n, i + 1] < muL65 [O, L, n, i] := by show (n - (i + 1)).toNat < (n - i).toNat; omega
  have q := hφ [O', L, n, i + 1] ⟨rfl, rfl, hn, i64w (by omega) (by omega), trivial⟩ yp ym
  have lO : ((dc O ++ [[a]]).length : Int) <= 17592186044416 := by rw [List.length_append]; show ((dc O).length + 1 : Int) <= _; omega
  refine ⟨?_, ?_⟩
  ·simp (disch := omega) only [ob_L65, q_L65_0, q_L65_0, ewA, ewL, preC, binI, dvI, shI, cmpB, env, bi, List.headD, List.tail, List.map, Nat.reduceAdd, ewR, ewB, ewM, if_true, if_false, implies_true, forall_const, ne_eq, reduceCtorEq, Int.reduceEq, Int.reduceLT, Int.reduceLE, Int.reduceToNat, Int.reduceAdd, Int.reduceSub, Int.reduceMul, Int.reduceNeg, Int.reduceBEq, Nat.reduceLT, Nat.reduceEqDiff, hSS, hi, er, ha, dc_cd, List.nil_append, <- hO', lO]
   exact ⟨⟨⟨p3, by omega⟩, by rw [dO]; exact lO⟩, yp, ym⟩
  ·simp (disch := omega) only [es_L65, q_L65_0, q_L65_0, ewA, ewL, preC, binI, dvI, shI, cmpB, env, bi, List.headD, List.tail, List.map, Nat.reduceAdd, ewR, ewB, ewM, if_true, if_false, implies_true, forall_const, ne_eq, reduceCtorEq, Int.reduceEq, Int.reduceLT, Int.reduceLE, Int.reduceToNat, Int.reduceAdd, Int.reduceSub, Int.reduceMul, Int.reduceNeg, Int.reduceBEq, Nat.reduceLT, Nat.reduceEqDiff, hSS, hi, er, ha, dc_cd, List.nil_append, <- hO']
   refine (show dc (φ 0 [O', L, n, i + 1]) = dc O' ++ idT ((dc L).drop (i + 1).toNat) from q).trans ?_
   show _ = dc O ++ idT ((dc L).drop i.toNat)
   rw [dO, hdr, List.append_assoc]; rfl
 ·refine ⟨?_, ?_⟩
  ·simp (disch := omega) only [ob_L65, q_L65_0, ewA, ewL, preC, binI, dvI, shI, cmpB, env, bi, List.headD, List.tail, List.map, Nat.reduceAdd, ewR, ewB, ewM, if_true, if_false, implies_true, forall_const, ne_eq, reduceCtorEq, Int.reduceEq, Int.reduceLT, Int.reduceLE, Int.reduceToNat, Int.reduceAdd, Int.reduceSub, Int.reduceMul, Int.reduceNeg, Int.reduceBEq, Nat.reduceLT, Nat.reduceEqDiff, hSS, hi]
  ·simp (disch := omega) only [es_L65, q_L65_0, ewA, ewL, preC, binI, dvI, shI, cmpB, env, bi, List.headD, List.tail, List.map, Nat.reduceAdd, ewR, ewB, ewM, if_true, if_false, implies_true, forall_const, ne_eq, reduceCtorEq, Int.reduceEq, Int.reduceLT, Int.reduceLE, Int.reduceToNat, Int.reduceAdd, Int.reduceSub, Int.reduceMul, Int.reduceNeg, Int.reduceBEq, Nat.reduceLT, Nat.reduceEqDiff, hSS, hi]
   show dc O = dc O ++ idT ((dc L).drop i.toNat)
   rw [List.drop_of_length_le (by omega)]; exact (List.append_nil _).symm
theorem c65ok : c65.OK Try.prog G0 := Ctx.OK.addL (c := ⟨[e38], []⟩) (Ctx.OK.nil.addF ok38 rfl) ok65l.1 rfl
theorem ok65 : EntryOK Try.prog G0 e65 /\ PostOK e65 post65 := by
 refine c65ok.nm.entryH mixed ev_65 (by kernel_rfl) _ rfl fun xs hf hp => ?_
 obtain ⟨l, hl, hF⟩ := ctx_P (l0 := c65n.l)
 show ∃ ρ : Nat -> Int, _ /\ ob_65.tt c65n.l.F ρ = true /\ post65 xs (es_65.map (E.den c65n.l.F ρ))
 rw [hl]
 have F38 := FC (k := 100000038) rfl (hF e38.nm (by rfl) (by decide))
 have F9065 := FC (k := 100009065) rfl (hF le65.nm.ent (by rfl) (by decide))
 replace hf : fits [.x] xs := hf
 obtain ⟨L, xs0, hx0, hL, hf0⟩ := fits_cons hf
 have hxn := fits_nil hf0
 subst hxn hx0
 obtain ⟨ρ, hρ, hd⟩ := solve (F := l.F) 1 defs_65 (by kernel_rfl) [L]
 have hDf := dE_tt (by kernel_rfl) hd
 refine ⟨ρ, hρ, ?_⟩
 have r0 : ρ 0 = L := hρ 0 (by decide)
 obtain ⟨v1, hv1, hd1, hn1⟩ := nmd hd 0 rfl
 obtain ⟨v2, hv2, hd2, hn2⟩ := nmd hd 1 rfl
 simp (disch := omega) only [norm_i, F38, F9065, Ent.nm_fn, r0, hv1, hv2, ewA, ewL, preC, binI, dvI, shI, cmpB, env, bi, List.headD, List.tail, List.map, Nat.reduceAdd, ewR, ewB, ewM, if_true, if_false, implies_true, forall_const, ne_eq, reduceCtorEq, Int.reduceEq, Int.reduceLT, Int.reduceLE, Int.reduceToNat, Int.reduceAdd, Int.reduceSub, Int.reduceMul, Int.reduceNeg, Int.reduceBEq, Nat.reduceLT, Nat.reduceEqDiff] at hd1 hd2
 have hSS := And.intro (And.intro F38 (And.intro F9065 r0)) (And.intro hv1 (And.intro hv2 hDf))
 obtain ⟨p0, p1⟩ := hp
 replace p0 : rowsOK Q.tmK (dc L) := p0
 replace p1 : ((dc L).length : Int) <= 100000 := p1
 have wl : IntKind.i64.wrap ((dc L).length : Int) = ((dc L).length : Int) := i64w (by omega) (by omega)
 have y1 : le65.ent.pre [cd [], L, ((dc L).length : Int), 0] := ⟨⟨p0, p1⟩, rfl, by show (0 : Int) <= 0; decide, by show (0 : Int) <= ((dc L).length : Int); omega, by show ((dc (cd [])).length : Int) = 0; rw [dc_cd]; rfl⟩
 simp only [wl] at hd1
 have q := (PostOK.use (ks := [.x, .x, (.i .i64), (.i .i64)]) (os := [.x]) (vs := [v1]) ok65l.2 rfl rfl ⟨hd1, trivial⟩) ⟨rfl, rfl, wl, rfl, trivial⟩ y1
 replace q : dc v1 = dc (cd []) ++ idT ((dc L).drop 0) := q
 rw [dc_cd, List.nil_append, List.drop_zero] at q
 have hl : (dc v1).length = (dc L).length := by rw [q]; exact List.length_map ..
 refine ⟨?_, ?_⟩
 ·simp (disch := omega) only [ob_65, ewA, ewL, preC, binI, dvI, shI, cmpB, env, bi, List.headD, List.tail, List.map, Nat.reduceAdd, ewR, ewB, ewM, if_true, if_false, implies_true, forall_const, ne_eq, reduceCtorEq, Int.reduceEq, Int.reduceLT, Int.reduceLE, Int.reduceToNat, Int.reduceAdd, Int.reduceSub, Int.reduceMul, Int.reduceNeg, Int.reduceBEq, Nat.reduceLT, Nat.reduceEqDiff, hSS, wl]
  refine ⟨y1, by show ((dc v1).length : Int) < 1099511627776; omega, ?_⟩
  rw [hd2]
  show IntKind.i64.wrap ((dc (cd (srtR (dc v1)))).length : Int) = _
  rw [dc_cd, srtR_len]; exact i64w (by omega) (by omega)
 ·simp (disch := omega) only [es_65, ewA, ewL, preC, binI, dvI, shI, cmpB, env, bi, List.headD, List.tail, List.map, Nat.reduceAdd, ewR, ewB, ewM, if_true, if_false, implies_true, forall_const, ne_eq, reduceCtorEq, Int.reduceEq, Int.reduceLT, Int.reduceLE, Int.reduceToNat, Int.reduceAdd, Int.reduceSub, Int.reduceMul, Int.reduceNeg, Int.reduceBEq, Nat.reduceLT, Nat.reduceEqDiff, hSS]
  show dc v2 = srtR (idT (dc L))
  rw [hd2, <- q]
  exact dc_cd _
theorem c42ok : c42.OK Try.prog G0 := ((((((((Ctx.OK.nil.addF ok31 rfl).addF ok66 rfl).addF ok18 rfl).addF ok19 rfl).addF ok38 rfl).addF ok65.1 rfl).addF ok64 rfl).addF ok15 rfl).addF ok16 rfl
set_option maxHeartbeats 4000000 in
theorem ok42l : ItemOK Try.prog G0 42 p42 le42 /\ PostOK le42.ent postT := by
 refine c42ok.nm.loopS mixed e38.nm (by simp [c42, Ctx.nm]) rfl (by decide) (fun _ => rfl) sortC rfl ⟨_, _, _, Try.func42, rfl, rfl⟩ ev_L42 (by kernel_rfl) _ rfl fun xs hf hp φ hφ => ?_
 obtain ⟨l, hl, hS, hF⟩ := self_H lb42 φ muT (muT xs) c42n.l (by decide)
 show ∃ ρ : Nat -> Int, _ /\ ob_L42.tt (Tabs.F (enH lb42 φ muT (muT xs) :: c42n.l)) ρ = true /\ postT xs (es_L42.map (E.den (Tabs.F (enH lb42 φ muT (muT xs) :: c42n.l)) ρ))
 rw [hl]
 replace hφ : ∀ ys, fits [.x, (.i .i64), (.i .i64), (.i .i64), (.i .i64), .x, (.i .i64), .x, .x, (.i .i64), (.i .i64), (.i .i64)] ys -> lb42.ent.pre ys -> muT ys < muT xs -> postT ys (outsE φ ys 0 lb42.ent.oks) := hφ
 have F9042 := FC (k := 9042) rfl hS
 have F15 := FC (k := 100000015) rfl (hF e15.nm (by rfl) (by decide) (by decide))
 have F16 := FC (k := 100000016) rfl (hF e16.nm (by rfl) (by decide) (by decide))
 have F18 := FC (k := 100000018) rfl (hF e18.nm (by rfl) (by decide) (by decide))
 have F19 := FC (k := 100000019) rfl (hF e19.nm (by rfl) (by decide) (by decide))
 have F31 := FC (k := 100000031) rfl (hF e31.nm (by rfl) (by decide) (by decide))
 have F38 := FC (k := 100000038) rfl (hF e38.nm (by rfl) (by decide) (by decide))
 have F65 := FC (k := 100000065) rfl (hF e65.nm (by rfl) (by decide) (by decide))
 have F564 := FC (k := 100000564) rfl (hF e64.nm (by rfl) (by decide) (by decide))
 have F566 := FC (k := 100000566) rfl (hF e66.nm (by rfl) (by decide) (by decide))
 replace hf : fits [.x, (.i .i64), (.i .i64), (.i .i64), (.i .i64), .x, (.i .i64), .x, .x, (.i .i64), (.i .i64), (.i .i64)] xs := hf
 obtain ⟨S, xs0, hx0, hS, hf0⟩ := fits_cons hf
 obtain ⟨now, xs1, hx1, hnow, hf1⟩ := fits_cons hf0
 obtain ⟨bu, xs2, hx2, hbu, hf2⟩ := fits_cons hf1
 obtain ⟨le, xs3, hx3, hle, hf3⟩ := fits_cons hf2
 obtain ⟨mo, xs4, hx4, hmo, hf4⟩ := fits_cons hf3
 obtain ⟨T, xs5, hx5, hT, hf5⟩ := fits_cons hf4
 obtain ⟨qn, xs6, hx6, hqn, hf6⟩ := fits_cons hf5
 obtain ⟨qt, xs7, hx7, hqt, hf7⟩ := fits_cons hf6
 obtain ⟨qm, xs8, hx8, hqm, hf8⟩ := fits_cons hf7
 obtain ⟨bd, xs9, hx9, hbd, hf9⟩ := fits_cons hf8
 obtain ⟨m, xs10, hx10, hm, hf10⟩ := fits_cons hf9
 obtain ⟨i, xs11, hx11, hi, hf11⟩ := fits_cons hf10
 have hxn := fits_nil hf11
 subst hxn hx11 hx10 hx9 hx8 hx7 hx6 hx5 hx4 hx3 hx2 hx1 hx0
 simp only [norm_i] at hnow hbu hle hmo hqn hbd hm hi
 obtain ⟨ρ, hρ, hd⟩ := solve (F := l.F) 12 defs_L42 (by kernel_rfl) [S, now, bu, le, mo, T, qn, qt, qm, bd, m, i]
 have hDf := dE_tt (by kernel_rfl) hd
 refine ⟨ρ, hρ, ?_⟩
 have r0 : ρ 0 = S := hρ 0 (by decide)
 have r1 : ρ 1 = now := hρ 1 (by decide)
 have r2 : ρ 2 = bu := hρ 2 (by decide)
 have r3 : ρ 3 = le := hρ 3 (by decide)
 have r4 : ρ 4 = mo := hρ 4 (by decide)
 have r5 : ρ 5 = T := hρ 5 (by decide)
 have r6 : ρ 6 = qn := hρ 6 (by decide)
 have r7 : ρ 7 = qt := hρ 7 (by decide)
 have r8 : ρ 8 = qm := hρ 8 (by decide)
 have r9 : ρ 9 = bd := hρ 9 (by decide)
 have r10 : ρ 10 = m := hρ 10 (by decide)
 have r11 : ρ 11 = i := hρ 11 (by decide)
 obtain ⟨v1, hv1, hd1, hn1⟩ := nmd hd 0 rfl
 obtain ⟨v2, hv2, hd2, hn2⟩ := nmd hd 1 rfl
 obtain ⟨v3, hv3, hd3, hn3⟩ := nmd hd 2 rfl
 obtain ⟨v4, hv4, hd4, hn4⟩ := nmd hd 3 rfl
 obtain ⟨v5, hv5, hd5, hn5⟩ := nmd hd 4 rfl
 obtain ⟨v6, hv6, hd6, hn6⟩ := nmd hd 5 rfl
 obtain ⟨v7, hv7, hd7, hn7⟩ := nmd hd 6 rfl
 obtain ⟨v8, hv8, hd8, hn8⟩ := nmd hd 7 rfl
 obtain ⟨v9, hv9, hd9, hn9⟩ := nmd hd 8 rfl
 obtain ⟨v10, hv10, hd10, hn10⟩ := nmd hd 9 rfl
 obtain ⟨v11, hv11, hd11, hn11⟩ := nmd hd 10 rfl
 obtain ⟨v12, hv12, hd12, hn12⟩ := nmd hd 11 rfl
 obtain ⟨v13, hv13, hd13, hn13⟩ := nmd hd 12 rfl
 obtain ⟨v14, hv14, hd14, hn14⟩ := nmd hd 13 rfl
 obtain ⟨v15, hv15, hd15, hn15⟩ := nmd hd 14 rfl
 obtain ⟨v16, hv16, hd16, hn16⟩ := nmd hd 15 rfl
 obtain ⟨v17, hv17, hd17, hn17⟩ := nmd hd 16 rfl
 obtain ⟨v18, hv18, hd18, hn18⟩ := nmd hd 17 rfl
 simp only [norm_i] at hn1 hn3 hn4 hn5 hn6 hn8 hn9 hn13 hn17 hn18
 simp (disch := omega) only [norm_i, a_L42_0, a_L42_1, a_L42_2, F15, F16, F18, F19, F31, F564, F566, F65, Ent.nm_fn, r0, r1, hnow, r2, hbu, r3, hle, r4, hmo, r5, r6, hqn, r7, r8, r9, hbd, r10, hm, r11, hi, hv1, hn1, hv2, hv3, hn3, hv4, hn4, hv5, hn5, hv6, hn6, hv7, hv8, hn8, hv9, hn9, hv10, hv11, hv12, hv13, hn13, hv14, hv15, hv16, hn16, hv17, hn17, hv18, hn18, ewA, ewL, preC, binI, dvI, shI, cmpB, env, bi, List.headD, List.tail, List.map, Nat.reduceAdd, ewR, ewB, ewM, if_true, if_false, implies_true, forall_const, ne_eq, reduceCtorEq, Int.reduceEq, Int.reduceLT, Int.reduceLE, Int.reduceToNat, Int.reduceAdd, Int.reduceSub, Int.reduceMul, Int.reduceNeg, Int.reduceBEq, Nat.reduceLT, Nat.reduceEqDiff] at hd1 hd2 hd3 hd4 hd5 hd6 hd7 hd8 hd9 hd10 hd11 hd12 hd13 hd14 hd15 hd16 hd17 hd18
 have hSS := And.intro (And.intro (And.intro (And.intro (And.intro F9042 (And.intro F15 F16)) (And.intro (And.intro F18 F19) (And.intro F31 F38))) (And.intro (And.intro (And.intro F65 F564) (And.intro F566 r0)) (And.intro (And.intro r1 hnow) (And.intro r2 hbu)))) (And.intro (And.intro (And.intro r3 (And.intro hle r4)) (And.intro (And.intro hmo r5) (And.intro r6 hqn))) (And.intro (And.intro (And.intro r7 r8) (And.intro r9 hbd)) (And.intro (And.intro r10 hm) (And.intro r11 hi))))) (And.intro (And.intro (And.intro (And.intro hv1 (And.intro hn1 hv2)) (And.intro (And.intro hv3 hn3) (And.intro hv4 hn4))) (And.intro (And.intro (And.intro hv5 hn5) (And.intro hv6 hn6)) (And.intro (And.intro hv7 hv8) (And.intro hn8 hv9)))) (And.intro (And.intro (And.intro hn9 (And.intro hv10 hv11)) (And.intro (And.intro hv12 hv13) (And.intro hn13 hv14))) (And.intro (And.intro (And.intro hv15 hv16) (And.intro hn16 hv17)) (And.intro (And.intro hn17 hv18) (And.intro hn18 hDf)))))
 obtain ⟨⟨c, hq⟩, p1, p2, p3, p4, p5⟩ := hp
 replace hq : QW S now bu le mo T c qn qt qm := hq
 simp only [ewA, ewL, preC, binI, dvI, shI, cmpB, env, bi, List.headD, List.tail, List.map, Nat.reduceAdd] at p1 p2 p3 p4 p5
 subst p1
 obtain ⟨d, B, hv⟩ := hq
 have hw := hv.wv
 have hbg := hw.bg
 have hct := hw.ct
 have htm := hw.tm
 have hmb := hw.mb
 by_cases hi : i < m
 ·obtain rfl : v1 = (B.length : Int) := hw.lagV hd1
  obtain ⟨D, t1, t2, t3, t4, t5, t6, t7, t8, t9⟩ := hv.tick (by omega) ⟨hd2, hd3, hd4, hd5, hd6, hd7, hd8, trivial⟩ ⟨hd9, hd10, hd11, hd12, hd13, trivial⟩
  have hw' := t1.wv
  have hl := hw'.lenB
  rw [List.length_append] at hl
  have e14 : dc v14 = (B ++ D).map (fun i : Nat => [(i : Int)]) := by rw [hd14]; exact hw'.ids
  have l14 : (dc v14).length = B.length + D.length := by rw [e14, List.length_map, List.length_append]
  have y65 : e65.pre [v12] := ⟨t7, by show ((dc v12).length : Int) <= 100000; omega⟩
  have q65 : dc v15 = srtR (idT (dc v12)) := (PostOK.use (ks := [.x]) (os := [.x]) (vs := [v15]) ok65.2 rfl rfl ⟨hd15, trivial⟩) ⟨rfl, trivial⟩ y65
  have z17 : v17 = v3 := hw'.nowV hd17
  have z18 : v18 = v9 := hd18.trans (i64w (by show -9223372036854775808 <= v9; have := t1.tm; have := hw'.tm; omega) (by show v9 <= _; have := t1.tm; have := hw'.tm; omega))
  have wl : IntKind.i64.wrap ((dc v14).length : Int) = ((dc v14).length : Int) := i64w (by omega) (by omega)
  have w12 : IntKind.i64.wrap ((dc v12).length : Int) = ((dc v12).length : Int) := i64w (by omega) (by omega)
  have ws : IntKind.i64.wrap ((B.length : Int) + ((dc v12).length : Int)) = (B.length : Int) + ((dc v12).length : Int) := i64w (by omega) (by omega)
  have f38 : ∀ z, dc (l.F 100000038 0 [z]) = srtR (dc z) := fun z => by rw [F38.1]; exact dc_cd _
  have g38 : ∀ z, dc (e38.fn 0 [z]) = srtR (dc z) := fun z => dc_cd _
  have hXX : List.drop B.length (List.take (dc v14).length (List.take B.length (dc v14) ++ srtR (List.drop B.length (dc v14)))) = srtR (idT (dc v12)) := by
   rw [show List.take B.length (dc v14) ++ srtR (List.drop B.length (dc v14)) = srtP (dc v14) B.length from rfl, List.take_of_length_le (by rw [srtP_len]; exact Nat.le_refl _), srtP_drop _ (by omega), <- t9, e14, List.map_append, List.drop_left' (by rw [List.length_map])]
  simp only [wl, Int.toNat_natCast, List.take_length, f38, dc_cd, hXX] at hd16
  obtain ⟨X, hX⟩ : ∃ X, X = cd (srtR (idT (dc v12))) := ⟨_, rfl⟩
  have dX : dc X = srtR (idT (dc v12)) := by rw [hX]; exact dc_cd _
  rw [<- hX] at hd16
  obtain rfl : v16 = 1 := by
   rw [hd16]
   show K.b.norm (b2i (dc X == dc v15)) = 1
   rw [dX, q65]; simp [b2i, K.norm]
  have lX : ((srtR (idT (dc v12))).length : Int) < cap8 := by
   rw [srtR_len, show (idT (dc v12)).length = (dc v12).length from List.length_map ..]; unfold cap8; omega
  have rX : rowsOK intK (srtR (idT (dc v12))) := fun r hr => by
   obtain ⟨z, hz, rfl⟩ := List.mem_map.1 hr
   have hz := (List.mergeSort_perm _ _).mem_iff.1 hz
   obtain ⟨y, hy, rfl⟩ := mem_ids.1 hz
   obtain ⟨a, b, rfl, ha, _⟩ := Q.row_eq (t7 y hy)
   exact ⟨ha, trivial⟩
  have y19 : e19.pre [X, v15] := ⟨by rw [show dc (env [X, v15] 0) = _ from dX]; exact lX, by rw [show dc (env [X, v15] 1) = _ from q65]; exact lX, by rw [show dc (env [X, v15] 0) = _ from dX]; exact rX, by rw [show dc (env [X, v15] 1) = _ from q65]; exact rX⟩
  subst z17 z18 t6
  have hm' := t1.tm
  have yp : lb42.ent.pre [v2, v17, v4, v5, v6, v7, v18, v10, v11, bd, m, i + 1] := ⟨⟨c, d, _, t1⟩, t2.symm, by show 0 <= i + 1; omega, by show i + 1 <= m; omega, p4, by show v6 + 4096 * (m - (i + 1)) <= _; omega⟩
  have ym : muT [v2, v17, v4, v5, v6, v7, v18, v10, v11, bd, m, i + 1] < muT [S, now, bd, le, mo, T, qn, qt, qm, bd, m, i] := by show (m - (i + 1)).toNat < (m - i).toNat; omega
  obtain ⟨i1, i2, i3⟩ := hφ [v2, v17, v4, v5, v6, v7, v18, v10, v11, bd, m, i + 1] ⟨rfl, hn3, hn4, hn5, hn6, rfl, hn9, rfl, rfl, hbd, hm, i64w (by omega) (by omega), trivial⟩ yp ym
  have y16 : e16.pre [S, now, bd, le, mo, T] := hw.pre16
  have y15 : e15.pre [S, now, bd, le, mo, T] := hw.wx
  have y64 : e64.pre [qn, qt, qm] := hv.qi
  have y31 : e31.pre [v2, v17, v4, v5, v6, v7] := hw'.wx
  have y18 : e18.pre [v2, v17, v4, v5, v6, v7] := hw'.lenOK []
  have y66 : e66.pre [v18, v10, v11] := trivial
  refine ⟨?_, ?_⟩
  ·simp (disch := omega) only [ob_L42, q_L42_0, q_L42_1, q_L42_2, q_L42_3, q_L42_4, q_L42_5, q_L42_0, q_L42_1, q_L42_2, q_L42_3, q_L42_4, q_L42_5, ewA, ewL, preC, binI, dvI, shI, cmpB, env, bi, List.headD, List.tail, List.map, Nat.reduceAdd, ewR, ewB, ewM, if_true, if_false, implies_true, forall_const, ne_eq, reduceCtorEq, Int.reduceEq, Int.reduceLT, Int.reduceLE, Int.reduceToNat, Int.reduceAdd, Int.reduceSub, Int.reduceMul, Int.reduceNeg, Int.reduceBEq, Nat.reduceLT, Nat.reduceEqDiff, hSS, hi, wl, w12, ws, Int.toNat_natCast, List.take_length, f38, g38, dc_cd, hXX, <- hX]
   exact ⟨⟨⟨y16, y15, y64, y31, fun _ => ⟨by omega, by omega, y65, ⟨by omega, y19⟩, y18, y66⟩⟩, fun _ => ⟨yp, ym⟩⟩, by omega, fun _ => hm'.symm⟩
  ·simp (disch := omega) only [es_L42, q_L42_0, q_L42_1, q_L42_2, q_L42_3, q_L42_4, q_L42_5, ewA, ewL, preC, binI, dvI, shI, cmpB, env, bi, List.headD, List.tail, List.map, Nat.reduceAdd, ewR, ewB, ewM, if_true, if_false, implies_true, forall_const, ne_eq, reduceCtorEq, Int.reduceEq, Int.reduceLT, Int.reduceLE, Int.reduceToNat, Int.reduceAdd, Int.reduceSub, Int.reduceMul, Int.reduceNeg, Int.reduceBEq, Nat.reduceLT, Nat.reduceEqDiff, hSS, hi]
   refine ⟨fun c' h' => ?_, i2.trans t2, Int.le_trans i3 (by show v6 + 4096 * (m - (i + 1)) <= mo + 4096 * (m - i); omega)⟩
   obtain ⟨d2, B2, hv2⟩ := h'
   replace hv2 : QV S now bd le mo T c' qn qt qm d2 B2 := hv2
   obtain ⟨D2, u1, _⟩ := hv2.tick (by omega) ⟨hd2, hd3, hd4, hd5, hd6, hd7, hd8, trivial⟩ ⟨hd9, hd10, hd11, hd12, hd13, trivial⟩
   exact i1 c' ⟨d2, _, u1⟩
 ·refine ⟨?_, ?_⟩
  ·simp (disch := omega) only [ob_L42, q_L42_0, q_L42_1, q_L42_2, q_L42_3, q_L42_4, q_L42_5, ewA, ewL, preC, binI, dvI, shI, cmpB, env, bi, List.headD, List.tail, List.map, Nat.reduceAdd, ewR, ewB, ewM, if_true, if_false, implies_true, forall_const, ne_eq, reduceCtorEq, Int.reduceEq, Int.reduceLT, Int.reduceLE, Int.reduceToNat, Int.reduceAdd, Int.reduceSub, Int.reduceMul, Int.reduceNeg, Int.reduceBEq, Nat.reduceLT, Nat.reduceEqDiff, hSS, hi]
  ·simp (disch := omega) only [es_L42, q_L42_0, q_L42_1, q_L42_2, q_L42_3, q_L42_4, q_L42_5, ewA, ewL, preC, binI, dvI, shI, cmpB, env, bi, List.headD, List.tail, List.map, Nat.reduceAdd, ewR, ewB, ewM, if_true, if_false, implies_true, forall_const, ne_eq, reduceCtorEq, Int.reduceEq, Int.reduceLT, Int.reduceLE, Int.reduceToNat, Int.reduceAdd, Int.reduceSub, Int.reduceMul, Int.reduceNeg, Int.reduceBEq, Nat.reduceLT, Nat.reduceEqDiff, hSS, hi]
   exact ⟨fun _ h => h, rfl, by show mo <= mo + 4096 * (m - i); omega⟩
theorem cF42ok : cF42.OK Try.prog G0 := Ctx.OK.addL (c := ⟨[e16], []⟩) (Ctx.OK.nil.addF ok16 rfl) ok42l.1 rfl
theorem ok42 : EntryOK Try.prog G0 e42 /\ PostOK e42 postF42 := by
 refine cF42ok.nm.entryH mixed ev_42 (by kernel_rfl) _ rfl fun xs hf hp => ?_
 obtain ⟨l, hl, hF⟩ := ctx_P (l0 := cF42n.l)
 show ∃ ρ : Nat -> Int, _ /\ ob_42.tt cF42n.l.F ρ = true /\ postF42 xs (es_42.map (E.den cF42n.l.F ρ))
 rw [hl]
 have F9042 := FC (k := 100009042) rfl (hF le42.nm.ent (by rfl) (by decide))
 replace hf : fits [.x, (.i .i64), (.i .i64), (.i .i64), (.i .i64), .x, (.i .i64), .x, .x, (.i .i64), (.i .i64)] xs := hf
 obtain ⟨S, xs0, hx0, hS, hf0⟩ := fits_cons hf
 obtain ⟨now, xs1, hx1, hnow, hf1⟩ := fits_cons hf0
 obtain ⟨bu, xs2, hx2, hbu, hf2⟩ := fits_cons hf1
 obtain ⟨le, xs3, hx3, hle, hf3⟩ := fits_cons hf2
 obtain ⟨mo, xs4, hx4, hmo, hf4⟩ := fits_cons hf3
 obtain ⟨T, xs5, hx5, hT, hf5⟩ := fits_cons hf4
 obtain ⟨qn, xs6, hx6, hqn, hf6⟩ := fits_cons hf5
 obtain ⟨qt, xs7, hx7, hqt, hf7⟩ := fits_cons hf6
 obtain ⟨qm, xs8, hx8, hqm, hf8⟩ := fits_cons hf7
 obtain ⟨m, xs9, hx9, hm, hf9⟩ := fits_cons hf8
 obtain ⟨bd, xs10, hx10, hbd, hf10⟩ := fits_cons hf9
 have hxn := fits_nil hf10
 subst hxn hx10 hx9 hx8 hx7 hx6 hx5 hx4 hx3 hx2 hx1 hx0
 simp only [norm_i] at hnow hbu hle hmo hqn hm hbd
 obtain ⟨ρ, hρ, hd⟩ := solve (F := l.F) 11 defs_42 (by kernel_rfl) [S, now, bu, le, mo, T, qn, qt, qm, m, bd]
 have hDf := dE_tt (by kernel_rfl) hd
 refine ⟨ρ, hρ, ?_⟩
 have r0 : ρ 0 = S := hρ 0 (by decide)
 have r1 : ρ 1 = now := hρ 1 (by decide)
 have r2 : ρ 2 = bu := hρ 2 (by decide)
 have r3 : ρ 3 = le := hρ 3 (by decide)
 have r4 : ρ 4 = mo := hρ 4 (by decide)
 have r5 : ρ 5 = T := hρ 5 (by decide)
 have r6 : ρ 6 = qn := hρ 6 (by decide)
 have r7 : ρ 7 = qt := hρ 7 (by decide)
 have r8 : ρ 8 = qm := hρ 8 (by decide)
 have r9 : ρ 9 = m := hρ 9 (by decide)
 have r10 : ρ 10 = bd := hρ 10 (by decide)
 obtain ⟨v1, hv1, hd1, hn1⟩ := nmd hd 0 rfl
 obtain ⟨v2, hv2, hd2, hn2⟩ := nmd hd 1 rfl
 obtain ⟨v3, hv3, hd3, hn3⟩ := nmd hd 2 rfl
 obtain ⟨v4, hv4, hd4, hn4⟩ := nmd hd 3 rfl
 obtain ⟨v5, hv5, hd5, hn5⟩ := nmd hd 4 rfl
 obtain ⟨v6, hv6, hd6, hn6⟩ := nmd hd 5 rfl
 obtain ⟨v7, hv7, hd7, hn7⟩ := nmd hd 6 rfl
 obtain ⟨v8, hv8, hd8, hn8⟩ := nmd hd 7 rfl
 obtain ⟨v9, hv9, hd9, hn9⟩ := nmd hd 8 rfl
 simp only [norm_i] at hn2 hn3 hn4 hn5 hn7
 simp (disch := omega) only [norm_i, a_42_0, F9042, Ent.nm_fn, r0, r1, hnow, r2, hbu, r3, hle, r4, hmo, r5, r6, hqn, r7, r8, r9, hm, r10, hbd, hv1, hv2, hn2, hv3, hn3, hv4, hn4, hv5, hn5, hv6, hv7, hn7, hv8, hv9, ewA, ewL, preC, binI, dvI, shI, cmpB, env, bi, List.headD, List.tail, List.map, Nat.reduceAdd, ewR, ewB, ewM, if_true, if_false, implies_true, forall_const, ne_eq, reduceCtorEq, Int.reduceEq, Int.reduceLT, Int.reduceLE, Int.reduceToNat, Int.reduceAdd, Int.reduceSub, Int.reduceMul, Int.reduceNeg, Int.reduceBEq, Nat.reduceLT, Nat.reduceEqDiff] at hd1 hd2 hd3 hd4 hd5 hd6 hd7 hd8 hd9
 have hSS := And.intro (And.intro (And.intro (And.intro (And.intro F9042 r0) (And.intro r1 hnow)) (And.intro (And.intro r2 hbu) (And.intro r3 hle))) (And.intro (And.intro (And.intro r4 hmo) (And.intro r5 r6)) (And.intro (And.intro hqn r7) (And.intro r8 (And.intro r9 hm))))) (And.intro (And.intro (And.intro (And.intro r10 hbd) (And.intro hv1 hv2)) (And.intro (And.intro hn2 hv3) (And.intro hn3 hv4))) (And.intro (And.intro (And.intro hn4 hv5) (And.intro hn5 hv6)) (And.intro (And.intro hv7 hn7) (And.intro hv8 (And.intro hv9 hDf)))))
 obtain ⟨⟨c, hq⟩, p1, p2, p3, p4⟩ := hp
 simp only [ewA, ewL, preC, binI, dvI, shI, cmpB, env, bi, List.headD, List.tail, List.map, Nat.reduceAdd] at p1 p2 p3 p4
 have y1 : le42.ent.pre [S, now, bu, le, mo, T, qn, qt, qm, bd, m, 0] := ⟨⟨c, hq⟩, p1, by show (0 : Int) <= 0; decide, p2, p3, by show mo + 4096 * (m - 0) <= _; omega⟩
 obtain ⟨i1, i2, i3⟩ := (PostOK.use (ks := [.x, (.i .i64), (.i .i64), (.i .i64), (.i .i64), .x, (.i .i64), .x, .x, (.i .i64), (.i .i64), (.i .i64)]) (os := [.x, (.i .i64), (.i .i64), (.i .i64), (.i .i64), .x, (.i .i64), .x, .x]) (vs := [v1, v2, v3, v4, v5, v6, v7, v8, v9]) ok42l.2 rfl rfl ⟨hd1, hd2, hd3, hd4, hd5, hd6, hd7, hd8, hd9, trivial⟩) ⟨rfl, (by first | rfl | assumption | exact i64w (by omega) (by omega) | exact u8w (by omega) (by omega)), (by first | rfl | assumption | exact i64w (by omega) (by omega) | exact u8w (by omega) (by omega)), (by first | rfl | assumption | exact i64w (by omega) (by omega) | exact u8w (by omega) (by omega)), (by first | rfl | assumption | exact i64w (by omega) (by omega) | exact u8w (by omega) (by omega)), rfl, (by first | rfl | assumption | exact i64w (by omega) (by omega) | exact u8w (by omega) (by omega)), rfl, rfl, (by first | rfl | assumption | exact i64w (by omega) (by omega) | exact u8w (by omega) (by omega)), (by first | rfl | assumption | exact i64w (by omega) (by omega) | exact u8w (by omega) (by omega)), rfl, trivial⟩ y1
 refine ⟨?_, ?_⟩
 ·simp (disch := omega) only [ob_42, ewA, ewL, preC, binI, dvI, shI, cmpB, env, bi, List.headD, List.tail, List.map, Nat.reduceAdd, ewR, ewB, ewM, if_true, if_false, implies_true, forall_const, ne_eq, reduceCtorEq, Int.reduceEq, Int.reduceLT, Int.reduceLE, Int.reduceToNat, Int.reduceAdd, Int.reduceSub, Int.reduceMul, Int.reduceNeg, Int.reduceBEq, Nat.reduceLT, Nat.reduceEqDiff, hSS]
  repeat' (first | (with_reducible apply And.intro) | (with_reducible intro _))
  all_goals first | with_reducible assumption | trivial | omega | (split <;> omega)
 ·simp (disch := omega) only [es_42, ewA, ewL, preC, binI, dvI, shI, cmpB, env, bi, List.headD, List.tail, List.map, Nat.reduceAdd, ewR, ewB, ewM, if_true, if_false, implies_true, forall_const, ne_eq, reduceCtorEq, Int.reduceEq, Int.reduceLT, Int.reduceLE, Int.reduceToNat, Int.reduceAdd, Int.reduceSub, Int.reduceMul, Int.reduceNeg, Int.reduceBEq, Nat.reduceLT, Nat.reduceEqDiff, hSS]
  exact ⟨i1, i2, Int.le_trans i3 (by show mo + 4096 * (m - 0) <= mo + 4096 * m; omega)⟩
def qS : Sh := .obj 64 [Q.qo]
def cfQ : Sh := .fnc 43 [qS]
def preAq (xs : List Int) : Prop := QW (env xs 0) (env xs 1) (env xs 2) (env xs 3) (env xs 4) (env xs 5) (env xs 6) (env xs 7) (env xs 8) (env xs 9) /\ (0 <= env xs 10 /\ env xs 10 < env xs 6) /\ (0 <= env xs 11 /\ env xs 11 <= 7) /\ (0 <= env xs 12 /\ env xs 12 < 2147483648 /\ (env xs 12 <= 3000 \/ env xs 13 <= 1)) /\ 0 <= env xs 14 /\ env xs 14 <= env xs 13 /\ env xs 13 <= 20
def postAq (xs ys : List Int) : Prop := QX ys (env xs 6) /\ env ys 2 = env xs 2 /\ env ys 4 = env xs 4
def muAq (xs : List Int) : Nat := (env xs 13 - env xs 14).toNat
def cfOb : Ob := qob2 3
def lbAq : LEnt := ⟨⟨9226, 999999, [wsh, i64, cfQ, i64, i64, i64, i64, i64], [wob, cfOb], [2], .tup [], z0, preAq⟩, [0, 1, 3, 9, 11, 12, 36, 37], [], [13, 14, 15] ++ (List.range 27).map (· + 37), [.ex 0], 64, []⟩
def cAq : Ctx := ⟨[e18, e14, e44], []⟩
def cAqn : Ctx := cAq.nm
def a_LAq_0 : List E := [(vX 0), (vI 1), (vI 2), (vI 3), (vI 4), (vX 5), (aI 0 21 [(.bin .add .i64 (vI 10) (vI 14)), (vI 6)]), (.bin .add .i64 (.bin .add .i64 (.bin .add .i64 (vI 640000115207552) (lI 1)) (vI 12)) (.bin .mul .i64 (vI 14) (vI 11)))]
def a_LAq_1 : List E := [(vI 7), (vX 8), (vX 9), (aI 0 21 [(.bin .add .i64 (vI 10) (vI 14)), (vI 6)]), (.bin .add .i64 (.bin .add .i64 (.bin .add .i64 (vI 640000115207552) (lI 1)) (vI 12)) (.bin .mul .i64 (vI 14) (vI 11)))]
def defs_LAq : List (Nat × E) := [(640000115207552, (aI 100000018 0 [(vX 0), (vI 1), (vI 2), (vI 3), (vI 4), (vX 5)])),
 (640000089612672, (aX 100000014 0 a_LAq_0)),
 (640000089612673, (aI 100000014 1 a_LAq_0)),
 (640000089612674, (aI 100000014 2 a_LAq_0)),
 (640000089612675, (aI 100000014 3 a_LAq_0)),
 (640000089612676, (aI 100000014 4 a_LAq_0)),
 (640000089612677, (aX 100000014 5 a_LAq_0)),
 (640000089612678, (aI 100000014 6 a_LAq_0)),
 (640003481613184, (aI 100000544 0 a_LAq_1)),
 (640003481613185, (aX 100000544 1 a_LAq_1)),
 (640003481613186, (aX 100000544 2 a_LAq_1)),
 (640003481613187, (aI 100000544 3 a_LAq_1))]
def q_LAq_0 : E := (aI 0 21 [(.bin .add .i64 (vI 10) (vI 14)), (vI 6)])
def q_LAq_1 : E := (.bin .add .i64 (.bin .add .i64 (.bin .add .i64 (vI 640000115207552) (lI 1)) (vI 12)) (.bin .mul .i64 (vI 14) (vI 11)))
def q_LAq_2 : E := (.and (.cmp .lss (vI 14) (vI 13)) (.not (.cmp .neq (vI 640000089612678) (lI 0))))
def ob_LAq : E := (.and (.and (.or (.not (.cmp .lss (vI 14) (vI 13))) (.and (.and (.cmp .neq (vI 6) (lI 0)) (.and (aB 100000018 1000000 [(vX 0), (vI 1), (vI 2), (vI 3), (vI 4), (vX 5)]) (dE defs_LAq 0 1))) (.and (.and (aB 100000014 1000000 [(vX 0), (vI 1), (vI 2), (vI 3), (vI 4), (vX 5), q_LAq_0, q_LAq_1]) (dE defs_LAq 1 7)) (.or (.cmp .neq (vI 640000089612678) (lI 0)) (.and (aB 100000544 1000000 [(vI 7), (vX 8), (vX 9), q_LAq_0, q_LAq_1]) (dE defs_LAq 8 4)))))) (.or (.not q_LAq_2) (aB 9226 1000000 [(vX 640000089612672), (vI 640000089612673), (vI 640000089612674), (vI 640000089612675), (vI 640000089612676), (vX 640000089612677), (vI 6), (vI 640003481613184), (vX 640003481613185), (vX 640003481613186), (vI 10), (vI 11), (vI 12), (vI 13), (.bin .add .i64 (vI 14) (lI 1))]))) (.and (.or (.not (.or (.not (.cmp .lss (vI 14) (vI 13))) q_LAq_2)) (.ite (.not (.cmp .lss (vI 14) (vI 13))) (.not (.cmp .lss (vI 14) (vI 13))) (.cmp .lss (vI 14) (vI 13)))) (.not (.and (.cmp .lss (vI 14) (vI 13)) (.cmp .neq (vI 640000089612678) (lI 0))))))
def es_LAq : List E := [(.ite (.not (.cmp .lss (vI 14) (vI 13))) (vX 0) (aX 9226 0 [(vX 640000089612672), (vI 640000089612673), (vI 640000089612674), (vI 640000089612675), (vI 640000089612676), (vX 640000089612677), (vI 6), (vI 640003481613184), (vX 640003481613185), (vX 640003481613186), (vI 10), (vI 11), (vI 12), (vI 13), (.bin .add .i64 (vI 14) (lI 1))])), (.ite (.not (.cmp .lss (vI 14) (vI 13))) (vI 1) (aI 9226 1 [(vX 640000089612672), (vI 640000089612673), (vI 640000089612674), (vI 640000089612675), (vI 640000089612676), (vX 640000089612677), (vI 6), (vI 640003481613184), (vX 640003481613185), (vX 640003481613186), (vI 10), (vI 11), (vI 12), (vI 13), (.bin .add .i64 (vI 14) (lI 1))])), (.ite (.not (.cmp .lss (vI 14) (vI 13))) (vI 2) (aI 9226 2 [(vX 640000089612672), (vI 640000089612673), (vI 640000089612674), (vI 640000089612675), (vI 640000089612676), (vX 640000089612677), (vI 6), (vI 640003481613184), (vX 640003481613185), (vX 640003481613186), (vI 10), (vI 11), (vI 12), (vI 13), (.bin .add .i64 (vI 14) (lI 1))])), (.ite (.not (.cmp .lss (vI 14) (vI 13))) (vI 3) (aI 9226 3 [(vX 640000089612672), (vI 640000089612673), (vI 640000089612674), (vI 640000089612675), (vI 640000089612676), (vX 640000089612677), (vI 6), (vI 640003481613184), (vX 640003481613185), (vX 640003481613186), (vI 10), (vI 11), (vI 12), (vI 13), (.bin .add .i64 (vI 14) (lI 1))])), (.ite (.not (.cmp .lss (vI 14) (vI 13))) (vI 4) (aI 9226 4 [(vX 640000089612672), (vI 640000089612673), (vI 640000089612674), (vI 640000089612675), (vI 640000089612676), (vX 640000089612677), (vI 6), (vI 640003481613184), (vX 640003481613185), (vX 640003481613186), (vI 10), (vI 11), (vI 12), (vI 13), (.bin .add .i64 (vI 14) (lI 1))])), (.ite (.not (.cmp .lss (vI 14) (vI 13))) (vX 5) (aX 9226 5 [(vX 640000089612672), (vI 640000089612673), (vI 640000089612674), (vI 640000089612675), (vI 640000089612676), (vX 640000089612677), (vI 6), (vI 640003481613184), (vX 640003481613185), (vX 640003481613186), (vI 10), (vI 11), (vI 12), (vI 13), (.bin .add .i64 (vI 14) (lI 1))])), (.ite (.not (.cmp .lss (vI 14) (vI 13))) (vI 7) (aI 9226 6 [(vX 640000089612672), (vI 640000089612673), (vI 640000089612674), (vI 640000089612675), (vI 640000089612676), (vX 640000089612677), (vI 6), (vI 640003481613184), (vX 640003481613185), (vX 640003481613186), (vI 10), (vI 11), (vI 12), (vI 13), (.bin .add .i64 (vI 14) (lI 1))])), (.ite (.not (.cmp .lss (vI 14) (vI 13))) (vX 8) (aX 9226 7 [(vX 640000089612672), (vI 640000089612673), (vI 640000089612674), (vI 640000089612675), (vI 640000089612676), (vX 640000089612677), (vI 6), (vI 640003481613184), (vX 640003481613185), (vX 640003481613186), (vI 10), (vI 11), (vI 12), (vI 13), (.bin .add .i64 (vI 14) (lI 1))])), (.ite (.not (.cmp .lss (vI 14) (vI 13))) (vX 9) (aX 9226 8 [(vX 640000089612672), (vI 640000089612673), (vI 640000089612674), (vI 640000089612675), (vI 640000089612676), (vX 640000089612677), (vI 6), (vI 640003481613184), (vX 640003481613185), (vX 640003481613186), (vI 10), (vI 11), (vI 12), (vI 13), (.bin .add .i64 (vI 14) (lI 1))]))]
def leAq : LEnt := lbAq.fw (fnL lbAq cAqn.l ob_LAq es_LAq postAq muAq)
theorem ev_LAq : evL Try.prog G0 (tabOf cAqn.fs) (evFn Try.prog G0 (tabOf cAqn.fs) (ltOf cAqn.ls) 40 10) 40 (subL cAqn.ls 26 pAr) leAq (bodyAt Try.prog 26 pAr) = some (ob_LAq, es_LAq) := by kernel_rfl
def pre26q (xs : List Int) : Prop := QW (env xs 0) (env xs 1) (env xs 2) (env xs 3) (env xs 4) (env xs 5) (env xs 6) (env xs 11) (env xs 12) (env xs 13)
def b26q : Ent := ⟨2026, 26, [wsh, i64, actS, cfQ], [wob, cfOb], [2], .lt .b 1, z0, pre26q⟩
def cPq : Ctx := ⟨[e18, e25], [(26, pAr, leAq)]⟩
def cPqn : Ctx := cPq.nm
def a_26q_0 : List E := [(vX 0), (vI 1), (vI 2), (vI 3), (vI 4), (vX 5), (vI 6), (vI 11), (vX 12), (vX 13), (vI 640000160002432), (.conv .i64 (.dv .rem .u8 (.var (.i .u8) 7) 8)), (.ite (.cmp .eql (.conv .i64 (.dv .rem .u8 (.var (.i .u8) 7) 8)) (lI 3)) (vI 640000160010624) (vI 640000160008064)), (.bin .add .i64 (lI 1) (.ite (.cmp .eql (.conv .i64 (.dv .rem .u8 (.var (.i .u8) 7) 8)) (lI 3)) (lI 0) (vI 640000160003968))), (lI 0)]
def defs_26q : List (Nat × E) := [(640000160002432, (aI 100000025 0 [(vI 8), (vI 6)])),
 (640000160003968, (aI 100000025 0 [(vI 10), (lI 20)])),
 (640000160008064, (aI 100000025 0 [(vI 9), (lI 3000)])),
 (640000160010624, (aI 100000025 0 [(vI 9), (lI 2147483648)])),
 (640059046410624, (aX 100009226 0 a_26q_0)),
 (640059046410625, (aI 100009226 1 a_26q_0)),
 (640059046410626, (aI 100009226 2 a_26q_0)),
 (640059046410627, (aI 100009226 3 a_26q_0)),
 (640059046410628, (aI 100009226 4 a_26q_0)),
 (640059046410629, (aX 100009226 5 a_26q_0)),
 (640059046410630, (aI 100009226 6 a_26q_0)),
 (640059046410631, (aX 100009226 7 a_26q_0)),
 (640059046410632, (aX 100009226 8 a_26q_0))]
def q_26q_0 : E := (.cmp .eql (.conv .i64 (.dv .rem .u8 (.var (.i .u8) 7) 8)) (lI 3))
def ob_26q : E := (.and (.and (.and (aB 100000025 1000000 [(vI 8), (vI 6)]) (dE defs_26q 0 1)) (.and (.and (aB 100000025 1000000 [(vI 10), (lI 20)]) (dE defs_26q 1 1)) (.and (aB 100000025 1000000 [(vI 9), (lI 3000)]) (dE defs_26q 2 1)))) (.and (.or (.not q_26q_0) (.and (aB 100000025 1000000 [(vI 9), (lI 2147483648)]) (dE defs_26q 3 1))) (.and (aB 100009226 1000000 [(vX 0), (vI 1), (vI 2), (vI 3), (vI 4), (vX 5), (vI 6), (vI 11), (vX 12), (vX 13), (vI 640000160002432), (.conv .i64 (.dv .rem .u8 (.var (.i .u8) 7) 8)), (.ite q_26q_0 (vI 640000160010624) (vI 640000160008064)), (.bin .add .i64 (lI 1) (.ite q_26q_0 (lI 0) (vI 640000160003968))), (lI 0)]) (dE defs_26q 4 9))))
def es_26q : List E := [(vX 640059046410624), (vI 640059046410625), (vI 640059046410626), (vI 640059046410627), (vI 640059046410628), (vX 640059046410629), (vI 640059046410630), (vX 640059046410631), (vX 640059046410632)]
def e26q : Ent := b26q.fw (fnR cPqn.l.F b26q.np ob_26q es_26q postAq)
theorem ev_26q : evE Try.prog G0 (tabOf cPqn.fs) (ltOf cPqn.ls) 40 10 e26q = some (ob_26q, es_26q) := by kernel_rfl
def pre12 (xs : List Int) : Prop := QW (env xs 0) (env xs 1) (env xs 2) (env xs 3) (env xs 4) (env xs 5) (env xs 6) (env xs 8) (env xs 9) (env xs 10) /\ env xs 7 = env xs 2 /\ actOK xs 11 /\ env xs 12 = ((dc (env xs 11)).length : Int) /\ env xs 4 + 1228800 * (env xs 12 - env xs 13) <= 1000000000 /\ 0 <= env xs 13 /\ env xs 13 <= env xs 12 /\ env xs 12 <= 30
def post12 (xs ys : List Int) : Prop := QX ys (env xs 6) /\ env ys 2 = env xs 2 /\ env ys 4 <= env xs 4 + 1228800 * (env xs 12 - env xs 13)
def mu12 (xs : List Int) : Nat := (env xs 12 - env xs 13).toNat
def p12 : List Bool := [true,true,true,true,true,true,false,true,false]
def lb12 : LEnt := ⟨⟨9212, 999999, [wsh, i64, i64, qS, acts, i64, i64], [wob, cfOb], [2, 6], .tup [], z0, pre12⟩, [5, 6, 7, 8, 35, 36, 37], [], [11, 12] ++ (List.range 57).map (· + 37), [.ex 0], 98, []⟩
def cL12 : Ctx := ⟨[e20, e16, e45, e24, e41, e25, e26q, e17, e42], []⟩
def cL12n : Ctx := cL12.nm
def a_L12_0 : List E := [(aI 0 1 [(vX 11), (vI 13), (.lit .x 1)]), (vI 6)]
def a_L12_1 : List E := [(vX 0), (vI 1), (vI 2), (vI 3), (vI 4), (vX 5), (vI 640000160007232)]
def a_L12_2 : List E := [(vI 8), (vX 9), (vX 10), (vI 640000160009792)]
def a_L12_3 : List E := [(vX 0), (vI 1), (vI 2), (vI 3), (vI 4), (vX 5), (vI 8), (vX 9), (vX 10), (.bin .add .i64 (lI 1) (vI 640000160012864)), (vI 7)]
def a_L12_4 : List E := [(vX 0), (vI 1), (vI 2), (vI 3), (vI 4), (vX 5), (vI 640000160015424)]
def a_L12_5 : List E := [(vX 0), (vI 1), (vI 2), (vI 3), (vI 4), (vX 5), (vI 6), (.app (.i .u8) 0 1 [(vX 11), (vI 13), (.lit .x 0)]), (aI 0 1 [(vX 11), (vI 13), (.lit .x 1)]), (aI 0 1 [(vX 11), (vI 13), (.lit .x 2)]), (aI 0 1 [(vX 11), (vI 13), (.lit .x 3)]), (vI 8), (vX 9), (vX 10)]
def a_L12_6 : List E := [(.ite (.ite (.cmp .eql (.dv .rem .u8 (.app (.i .u8) 0 1 [(vX 11), (vI 13), (.lit .x 0)]) 8) (.lit (.i .u8) 4)) (.cmp .eql (.dv .rem .u8 (.app (.i .u8) 0 1 [(vX 11), (vI 13), (.lit .x 0)]) 8) (.lit (.i .u8) 4)) (.cmp .eql (.dv .rem .u8 (.app (.i .u8) 0 1 [(vX 11), (vI 13), (.lit .x 0)]) 8) (.lit (.i .u8) 7))) (vX 640000153607232) (.ite (.cmp .eql (.dv .rem .u8 (.app (.i .u8) 0 1 [(vX 11), (vI 13), (.lit .x 0)]) 8) (.lit (.i .u8) 5)) (vX 640000268814400) (.ite (.cmp .eql (.dv .rem .u8 (.app (.i .u8) 0 1 [(vX 11), (vI 13), (.lit .x 0)]) 8) (.lit (.i .u8) 6)) (vX 640000108815424) (vX 640012966415936)))), (.ite (.ite (.cmp .eql (.dv .rem .u8 (.app (.i .u8) 0 1 [(vX 11), (vI 13), (.lit .x 0)]) 8) (.lit (.i .u8) 4)) (.cmp .eql (.dv .rem .u8 (.app (.i .u8) 0 1 [(vX 11), (vI 13), (.lit .x 0)]) 8) (.lit (.i .u8) 4)) (.cmp .eql (.dv .rem .u8 (.app (.i .u8) 0 1 [(vX 11), (vI 13), (.lit .x 0)]) 8) (.lit (.i .u8) 7))) (vI 640000153607233) (.ite (.cmp .eql (.dv .rem .u8 (.app (.i .u8) 0 1 [(vX 11), (vI 13), (.lit .x 0)]) 8) (.lit (.i .u8) 5)) (vI 640000268814401) (.ite (.cmp .eql (.dv .rem .u8 (.app (.i .u8) 0 1 [(vX 11), (vI 13), (.lit .x 0)]) 8) (.lit (.i .u8) 6)) (vI 640000108815425) (vI 640012966415937)))), (.ite (.ite (.cmp .eql (.dv .rem .u8 (.app (.i .u8) 0 1 [(vX 11), (vI 13), (.lit .x 0)]) 8) (.lit (.i .u8) 4)) (.cmp .eql (.dv .rem .u8 (.app (.i .u8) 0 1 [(vX 11), (vI 13), (.lit .x 0)]) 8) (.lit (.i .u8) 4)) (.cmp .eql (.dv .rem .u8 (.app (.i .u8) 0 1 [(vX 11), (vI 13), (.lit .x 0)]) 8) (.lit (.i .u8) 7))) (vI 640000153607234) (.ite (.cmp .eql (.dv .rem .u8 (.app (.i .u8) 0 1 [(vX 11), (vI 13), (.lit .x 0)]) 8) (.lit (.i .u8) 5)) (vI 640000268814402) (.ite (.cmp .eql (.dv .rem .u8 (.app (.i .u8) 0 1 [(vX 11), (vI 13), (.lit .x 0)]) 8) (.lit (.i .u8) 6)) (vI 640000108815426) (vI 640012966415938)))), (.ite (.ite (.cmp .eql (.dv .rem .u8 (.app (.i .u8) 0 1 [(vX 11), (vI 13), (.lit .x 0)]) 8) (.lit (.i .u8) 4)) (.cmp .eql (.dv .rem .u8 (.app (.i .u8) 0 1 [(vX 11), (vI 13), (.lit .x 0)]) 8) (.lit (.i .u8) 4)) (.cmp .eql (.dv .rem .u8 (.app (.i .u8) 0 1 [(vX 11), (vI 13), (.lit .x 0)]) 8) (.lit (.i .u8) 7))) (vI 640000153607235) (.ite (.cmp .eql (.dv .rem .u8 (.app (.i .u8) 0 1 [(vX 11), (vI 13), (.lit .x 0)]) 8) (.lit (.i .u8) 5)) (vI 640000268814403) (.ite (.cmp .eql (.dv .rem .u8 (.app (.i .u8) 0 1 [(vX 11), (vI 13), (.lit .x 0)]) 8) (.lit (.i .u8) 6)) (vI 640000108815427) (vI 640012966415939)))), (.ite (.ite (.cmp .eql (.dv .rem .u8 (.app (.i .u8) 0 1 [(vX 11), (vI 13), (.lit .x 0)]) 8) (.lit (.i .u8) 4)) (.cmp .eql (.dv .rem .u8 (.app (.i .u8) 0 1 [(vX 11), (vI 13), (.lit .x 0)]) 8) (.lit (.i .u8) 4)) (.cmp .eql (.dv .rem .u8 (.app (.i .u8) 0 1 [(vX 11), (vI 13), (.lit .x 0)]) 8) (.lit (.i .u8) 7))) (vI 640000153607236) (.ite (.cmp .eql (.dv .rem .u8 (.app (.i .u8) 0 1 [(vX 11), (vI 13), (.lit .x 0)]) 8) (.lit (.i .u8) 5)) (vI 640000268814404) (.ite (.cmp .eql (.dv .rem .u8 (.app (.i .u8) 0 1 [(vX 11), (vI 13), (.lit .x 0)]) 8) (.lit (.i .u8) 6)) (vI 640000108815428) (vI 640012966415940)))), (.ite (.ite (.cmp .eql (.dv .rem .u8 (.app (.i .u8) 0 1 [(vX 11), (vI 13), (.lit .x 0)]) 8) (.lit (.i .u8) 4)) (.cmp .eql (.dv .rem .u8 (.app (.i .u8) 0 1 [(vX 11), (vI 13), (.lit .x 0)]) 8) (.lit (.i .u8) 4)) (.cmp .eql (.dv .rem .u8 (.app (.i .u8) 0 1 [(vX 11), (vI 13), (.lit .x 0)]) 8) (.lit (.i .u8) 7))) (vX 640000153607237) (.ite (.cmp .eql (.dv .rem .u8 (.app (.i .u8) 0 1 [(vX 11), (vI 13), (.lit .x 0)]) 8) (.lit (.i .u8) 5)) (vX 640000268814405) (.ite (.cmp .eql (.dv .rem .u8 (.app (.i .u8) 0 1 [(vX 11), (vI 13), (.lit .x 0)]) 8) (.lit (.i .u8) 6)) (vX 640000108815429) (vX 640012966415941))))]
def defs_L12 : List (Nat × E) := [(640000160007232, (aI 100000025 0 a_L12_0)),
 (640000153607232, (aX 100000024 0 a_L12_1)),
 (640000153607233, (aI 100000024 1 a_L12_1)),
 (640000153607234, (aI 100000024 2 a_L12_1)),
 (640000153607235, (aI 100000024 3 a_L12_1)),
 (640000153607236, (aI 100000024 4 a_L12_1)),
 (640000153607237, (aX 100000024 5 a_L12_1)),
 (640000153607238, (aI 100000024 6 a_L12_1)),
 (640000160009792, (aI 100000025 0 a_L12_0)),
 (640003462410304, (aI 100000541 0 a_L12_2)),
 (640003462410305, (aX 100000541 1 a_L12_2)),
 (640003462410306, (aX 100000541 2 a_L12_2)),
 (640003462410307, (aI 100000541 3 a_L12_2)),
 (640000160012864, (aI 100000025 0 [(aI 0 1 [(vX 11), (vI 13), (.lit .x 3)]), (lI 300)])),
 (640000268814400, (aX 100000042 0 a_L12_3)),
 (640000268814401, (aI 100000042 1 a_L12_3)),
 (640000268814402, (aI 100000042 2 a_L12_3)),
 (640000268814403, (aI 100000042 3 a_L12_3)),
 (640000268814404, (aI 100000042 4 a_L12_3)),
 (640000268814405, (aX 100000042 5 a_L12_3)),
 (640000268814406, (aI 100000042 6 a_L12_3)),
 (640000268814407, (aX 100000042 7 a_L12_3)),
 (640000268814408, (aX 100000042 8 a_L12_3)),
 (640000160015424, (aI 100000025 0 [(aI 0 1 [(vX 11), (vI 13), (.lit .x 3)]), (lI 50)])),
 (640000108815424, (aX 100000017 0 a_L12_4)),
 (640000108815425, (aI 100000017 1 a_L12_4)),
 (640000108815426, (aI 100000017 2 a_L12_4)),
 (640000108815427, (aI 100000017 3 a_L12_4)),
 (640000108815428, (aI 100000017 4 a_L12_4)),
 (640000108815429, (aX 100000017 5 a_L12_4)),
 (640000108815430, (aX 100000017 6 a_L12_4)),
 (640000108815431, (aI 100000017 7 a_L12_4)),
 (640012966415936, (aX 100002026 0 a_L12_5)),
 (640012966415937, (aI 100002026 1 a_L12_5)),
 (640012966415938, (aI 100002026 2 a_L12_5)),
 (640012966415939, (aI 100002026 3 a_L12_5)),
 (640012966415940, (aI 100002026 4 a_L12_5)),
 (640012966415941, (aX 100002026 5 a_L12_5)),
 (640012966415942, (aI 100002026 6 a_L12_5)),
 (640012966415943, (aX 100002026 7 a_L12_5)),
 (640012966415944, (aX 100002026 8 a_L12_5)),
 (640000128018496, (aI 100000020 0 a_L12_6)),
 (640000102419520, (aI 100000016 0 a_L12_6)),
 (640003488020544, (aI 100000545 0 [(.ite (.ite (.cmp .eql (.dv .rem .u8 (.app (.i .u8) 0 1 [(vX 11), (vI 13), (.lit .x 0)]) 8) (.lit (.i .u8) 4)) (.cmp .eql (.dv .rem .u8 (.app (.i .u8) 0 1 [(vX 11), (vI 13), (.lit .x 0)]) 8) (.lit (.i .u8) 4)) (.cmp .eql (.dv .rem .u8 (.app (.i .u8) 0 1 [(vX 11), (vI 13), (.lit .x 0)]) 8) (.lit (.i .u8) 7))) (vI 640003462410304) (.ite (.cmp .eql (.dv .rem .u8 (.app (.i .u8) 0 1 [(vX 11), (vI 13), (.lit .x 0)]) 8) (.lit (.i .u8) 5)) (vI 640000268814406) (.ite (.cmp .eql (.dv .rem .u8 (.app (.i .u8) 0 1 [(vX 11), (vI 13), (.lit .x 0)]) 8) (.lit (.i .u8) 6)) (vI 8) (vI 640012966415942)))), (.ite (.ite (.cmp .eql (.dv .rem .u8 (.app (.i .u8) 0 1 [(vX 11), (vI 13), (.lit .x 0)]) 8) (.lit (.i .u8) 4)) (.cmp .eql (.dv .rem .u8 (.app (.i .u8) 0 1 [(vX 11), (vI 13), (.lit .x 0)]) 8) (.lit (.i .u8) 4)) (.cmp .eql (.dv .rem .u8 (.app (.i .u8) 0 1 [(vX 11), (vI 13), (.lit .x 0)]) 8) (.lit (.i .u8) 7))) (vX 640003462410305) (.ite (.cmp .eql (.dv .rem .u8 (.app (.i .u8) 0 1 [(vX 11), (vI 13), (.lit .x 0)]) 8) (.lit (.i .u8) 5)) (vX 640000268814407) (.ite (.cmp .eql (.dv .rem .u8 (.app (.i .u8) 0 1 [(vX 11), (vI 13), (.lit .x 0)]) 8) (.lit (.i .u8) 6)) (vX 9) (vX 640012966415943)))), (.ite (.ite (.cmp .eql (.dv .rem .u8 (.app (.i .u8) 0 1 [(vX 11), (vI 13), (.lit .x 0)]) 8) (.lit (.i .u8) 4)) (.cmp .eql (.dv .rem .u8 (.app (.i .u8) 0 1 [(vX 11), (vI 13), (.lit .x 0)]) 8) (.lit (.i .u8) 4)) (.cmp .eql (.dv .rem .u8 (.app (.i .u8) 0 1 [(vX 11), (vI 13), (.lit .x 0)]) 8) (.lit (.i .u8) 7))) (vX 640003462410306) (.ite (.cmp .eql (.dv .rem .u8 (.app (.i .u8) 0 1 [(vX 11), (vI 13), (.lit .x 0)]) 8) (.lit (.i .u8) 5)) (vX 640000268814408) (.ite (.cmp .eql (.dv .rem .u8 (.app (.i .u8) 0 1 [(vX 11), (vI 13), (.lit .x 0)]) 8) (.lit (.i .u8) 6)) (vX 10) (vX 640012966415944))))]))]
def q_L12_0 : E := (.dv .rem .u8 (.app (.i .u8) 0 1 [(vX 11), (vI 13), (.lit .x 0)]) 8)
def q_L12_1 : E := (.cmp .eql q_L12_0 (.lit (.i .u8) 4))
def q_L12_2 : E := (.ite q_L12_1 q_L12_1 (.cmp .eql q_L12_0 (.lit (.i .u8) 7)))
def q_L12_3 : E := (.not q_L12_2)
def q_L12_4 : E := (aB 100000025 1000000 [(aI 0 1 [(vX 11), (vI 13), (.lit .x 1)]), (vI 6)])
def q_L12_5 : E := (.cmp .eql q_L12_0 (.lit (.i .u8) 5))
def q_L12_6 : E := (.not q_L12_5)
def q_L12_7 : E := (.cmp .eql q_L12_0 (.lit (.i .u8) 6))
def q_L12_8 : E := (.not q_L12_7)
def q_L12_9 : E := (.ite q_L12_2 q_L12_2 (.ite q_L12_5 (.and q_L12_3 q_L12_5) (.ite q_L12_7 (.and q_L12_3 (.and q_L12_6 q_L12_7)) (.and q_L12_3 (.and q_L12_6 q_L12_8)))))
def q_L12_10 : E := (.ite q_L12_2 (vX 640000153607232) (.ite q_L12_5 (vX 640000268814400) (.ite q_L12_7 (vX 640000108815424) (vX 640012966415936))))
def q_L12_11 : E := (.ite q_L12_2 (vI 640000153607233) (.ite q_L12_5 (vI 640000268814401) (.ite q_L12_7 (vI 640000108815425) (vI 640012966415937))))
def q_L12_12 : E := (.ite q_L12_2 (vI 640000153607234) (.ite q_L12_5 (vI 640000268814402) (.ite q_L12_7 (vI 640000108815426) (vI 640012966415938))))
def q_L12_13 : E := (.ite q_L12_2 (vI 640000153607235) (.ite q_L12_5 (vI 640000268814403) (.ite q_L12_7 (vI 640000108815427) (vI 640012966415939))))
def q_L12_14 : E := (.ite q_L12_2 (vI 640000153607236) (.ite q_L12_5 (vI 640000268814404) (.ite q_L12_7 (vI 640000108815428) (vI 640012966415940))))
def q_L12_15 : E := (.ite q_L12_2 (vX 640000153607237) (.ite q_L12_5 (vX 640000268814405) (.ite q_L12_7 (vX 640000108815429) (vX 640012966415941))))
def q_L12_16 : E := (.ite q_L12_2 (vI 640003462410304) (.ite q_L12_5 (vI 640000268814406) (.ite q_L12_7 (vI 8) (vI 640012966415942))))
def q_L12_17 : E := (.ite q_L12_2 (vX 640003462410305) (.ite q_L12_5 (vX 640000268814407) (.ite q_L12_7 (vX 9) (vX 640012966415943))))
def q_L12_18 : E := (.ite q_L12_2 (vX 640003462410306) (.ite q_L12_5 (vX 640000268814408) (.ite q_L12_7 (vX 10) (vX 640012966415944))))
def q_L12_19 : E := (.cmp .neq (vI 640000128018496) (.bin .add .i64 (vI 640000102419520) (vI 640003488020544)))
def q_L12_20 : E := (.and (.cmp .lss (vI 13) (vI 12)) (.not q_L12_19))
def ob_L12 : E := (.and (.and (.or (.not (.cmp .lss (vI 13) (vI 12))) (.and (.and (.cmp .geq (vI 13) (lI 0)) (.cmp .lss (vI 13) (aI 0 0 [(vX 11)]))) (.and (.and (.or q_L12_3 (.and (.and (.and q_L12_4 (dE defs_L12 0 1)) (.and (aB 100000024 1000000 [(vX 0), (vI 1), (vI 2), (vI 3), (vI 4), (vX 5), (vI 640000160007232)]) (dE defs_L12 1 7))) (.and (.and q_L12_4 (dE defs_L12 8 1)) (.and (aB 100000541 1000000 [(vI 8), (vX 9), (vX 10), (vI 640000160009792)]) (dE defs_L12 9 4))))) (.or q_L12_2 (.and (.or q_L12_6 (.and (.and (aB 100000025 1000000 [(aI 0 1 [(vX 11), (vI 13), (.lit .x 3)]), (lI 300)]) (dE defs_L12 13 1)) (.and (aB 100000042 1000000 [(vX 0), (vI 1), (vI 2), (vI 3), (vI 4), (vX 5), (vI 8), (vX 9), (vX 10), (.bin .add .i64 (lI 1) (vI 640000160012864)), (vI 7)]) (dE defs_L12 14 9)))) (.or q_L12_5 (.and (.or q_L12_8 (.and (.and (aB 100000025 1000000 [(aI 0 1 [(vX 11), (vI 13), (.lit .x 3)]), (lI 50)]) (dE defs_L12 23 1)) (.and (aB 100000017 1000000 [(vX 0), (vI 1), (vI 2), (vI 3), (vI 4), (vX 5), (vI 640000160015424)]) (dE defs_L12 24 8)))) (.or q_L12_7 (.and (aB 100002026 1000000 [(vX 0), (vI 1), (vI 2), (vI 3), (vI 4), (vX 5), (vI 6), (.app (.i .u8) 0 1 [(vX 11), (vI 13), (.lit .x 0)]), (aI 0 1 [(vX 11), (vI 13), (.lit .x 1)]), (aI 0 1 [(vX 11), (vI 13), (.lit .x 2)]), (aI 0 1 [(vX 11), (vI 13), (.lit .x 3)]), (vI 8), (vX 9), (vX 10)]) (dE defs_L12 32 9)))))))) (.and (.and (.and q_L12_9 (aB 100000020 1000000 [q_L12_10, q_L12_11, q_L12_12, q_L12_13, q_L12_14, q_L12_15])) (dE defs_L12 41 1)) (.and (.and (.and q_L12_9 (aB 100000016 1000000 [q_L12_10, q_L12_11, q_L12_12, q_L12_13, q_L12_14, q_L12_15])) (dE defs_L12 42 1)) (.and (.and q_L12_9 (aB 100000545 1000000 [q_L12_16, q_L12_17, q_L12_18])) (dE defs_L12 43 1))))))) (.or (.not q_L12_20) (.and q_L12_9 (aB 9212 1000000 [q_L12_10, q_L12_11, q_L12_12, q_L12_13, q_L12_14, q_L12_15, (vI 6), (vI 7), q_L12_16, q_L12_17, q_L12_18, (vX 11), (vI 12), (.bin .add .i64 (vI 13) (lI 1))])))) (.and (.or (.not (.or (.not (.cmp .lss (vI 13) (vI 12))) q_L12_20)) (.ite (.not (.cmp .lss (vI 13) (vI 12))) (.not (.cmp .lss (vI 13) (vI 12))) (.cmp .lss (vI 13) (vI 12)))) (.not (.and (.cmp .lss (vI 13) (vI 12)) q_L12_19))))
def es_L12 : List E := [(.ite (.not (.cmp .lss (vI 13) (vI 12))) (vX 0) (aX 9212 0 [q_L12_10, q_L12_11, q_L12_12, q_L12_13, q_L12_14, q_L12_15, (vI 6), (vI 7), q_L12_16, q_L12_17, q_L12_18, (vX 11), (vI 12), (.bin .add .i64 (vI 13) (lI 1))])), (.ite (.not (.cmp .lss (vI 13) (vI 12))) (vI 1) (aI 9212 1 [q_L12_10, q_L12_11, q_L12_12, q_L12_13, q_L12_14, q_L12_15, (vI 6), (vI 7), q_L12_16, q_L12_17, q_L12_18, (vX 11), (vI 12), (.bin .add .i64 (vI 13) (lI 1))])), (.ite (.not (.cmp .lss (vI 13) (vI 12))) (vI 2) (aI 9212 2 [q_L12_10, q_L12_11, q_L12_12, q_L12_13, q_L12_14, q_L12_15, (vI 6), (vI 7), q_L12_16, q_L12_17, q_L12_18, (vX 11), (vI 12), (.bin .add .i64 (vI 13) (lI 1))])), (.ite (.not (.cmp .lss (vI 13) (vI 12))) (vI 3) (aI 9212 3 [q_L12_10, q_L12_11, q_L12_12, q_L12_13, q_L12_14, q_L12_15, (vI 6), (vI 7), q_L12_16, q_L12_17, q_L12_18, (vX 11), (vI 12), (.bin .add .i64 (vI 13) (lI 1))])), (.ite (.not (.cmp .lss (vI 13) (vI 12))) (vI 4) (aI 9212 4 [q_L12_10, q_L12_11, q_L12_12, q_L12_13, q_L12_14, q_L12_15, (vI 6), (vI 7), q_L12_16, q_L12_17, q_L12_18, (vX 11), (vI 12), (.bin .add .i64 (vI 13) (lI 1))])), (.ite (.not (.cmp .lss (vI 13) (vI 12))) (vX 5) (aX 9212 5 [q_L12_10, q_L12_11, q_L12_12, q_L12_13, q_L12_14, q_L12_15, (vI 6), (vI 7), q_L12_16, q_L12_17, q_L12_18, (vX 11), (vI 12), (.bin .add .i64 (vI 13) (lI 1))])), (.ite (.not (.cmp .lss (vI 13) (vI 12))) (vI 8) (aI 9212 6 [q_L12_10, q_L12_11, q_L12_12, q_L12_13, q_L12_14, q_L12_15, (vI 6), (vI 7), q_L12_16, q_L12_17, q_L12_18, (vX 11), (vI 12), (.bin .add .i64 (vI 13) (lI 1))])), (.ite (.not (.cmp .lss (vI 13) (vI 12))) (vX 9) (aX 9212 7 [q_L12_10, q_L12_11, q_L12_12, q_L12_13, q_L12_14, q_L12_15, (vI 6), (vI 7), q_L12_16, q_L12_17, q_L12_18, (vX 11), (vI 12), (.bin .add .i64 (vI 13) (lI 1))])), (.ite (.not (.cmp .lss (vI 13) (vI 12))) (vX 10) (aX 9212 8 [q_L12_10, q_L12_11, q_L12_12, q_L12_13, q_L12_14, q_L12_15, (vI 6), (vI 7), q_L12_16, q_L12_17, q_L12_18, (vX 11), (vI 12), (.bin .add .i64 (vI 13) (lI 1))]))]
def le12 : LEnt := lb12.fw (fnL lb12 cL12n.l ob_L12 es_L12 post12 mu12)
theorem ev_L12 : evL Try.prog G0 (tabOf cL12n.fs) (evFn Try.prog G0 (tabOf cL12n.fs) (ltOf cL12n.ls) 40 10) 40 (subL cL12n.ls 12 p12) le12 (bodyAt Try.prog 12 p12) = some (ob_L12, es_L12) := by kernel_rfl
def b12 : Ent := ⟨12, 12, [numS, acts], [], [0], .lt .b 1, z0, preA4⟩
def cX12 : Ctx := ⟨[e22, e23, e18, e40, e42], [(12, p12, le12)]⟩
def cX12n : Ctx := cX12.nm
def a_12_0 : List E := [(.var (.i .u8) 0), (.var (.i .u8) 1), (vI 2), (vI 3)]
def a_12_1 : List E := [(vX 640000147200576), (vI 640000147200577), (vI 640000147200578), (vI 640000147200579), (vI 640000147200580), (vX 640000147200581), (vI 640000147200582), (vI 640000147200583), (vI 640003456001088), (vX 640003456001089), (vX 640003456001090), (aX 0 5 [(vX 4), (lI 0), (.ite (.cmp .lss (lI 30) (aI 0 0 [(vX 4)])) (lI 30) (aI 0 0 [(vX 4)]))]), (aI 0 0 [(aX 0 5 [(vX 4), (lI 0), (.ite (.cmp .lss (lI 30) (aI 0 0 [(vX 4)])) (lI 30) (aI 0 0 [(vX 4)]))])]), (lI 0)]
def a_12_2 : List E := [(vX 640058956802624), (vI 640058956802625), (vI 640058956802626), (vI 640058956802627), (vI 640058956802628), (vX 640058956802629), (vI 640058956802630), (vX 640058956802631), (vX 640058956802632), (lI 600), (vI 640000147200583)]
def defs_12 : List (Nat × E) := [(640000147200576, (aX 100000023 0 a_12_0)),
 (640000147200577, (aI 100000023 1 a_12_0)),
 (640000147200578, (aI 100000023 2 a_12_0)),
 (640000147200579, (aI 100000023 3 a_12_0)),
 (640000147200580, (aI 100000023 4 a_12_0)),
 (640000147200581, (aX 100000023 5 a_12_0)),
 (640000147200582, (aI 100000023 6 a_12_0)),
 (640000147200583, (aI 100000023 7 a_12_0)),
 (640000115201088, (aI 100000018 0 [(vX 640000147200576), (vI 640000147200577), (vI 640000147200578), (vI 640000147200579), (vI 640000147200580), (vX 640000147200581)])),
 (640003456001088, (aI 100000540 0 [(vI 640000115201088)])),
 (640003456001089, (aX 100000540 1 [(vI 640000115201088)])),
 (640003456001090, (aX 100000540 2 [(vI 640000115201088)])),
 (640058956802624, (aX 100009212 0 a_12_1)),
 (640058956802625, (aI 100009212 1 a_12_1)),
 (640058956802626, (aI 100009212 2 a_12_1)),
 (640058956802627, (aI 100009212 3 a_12_1)),
 (640058956802628, (aI 100009212 4 a_12_1)),
 (640058956802629, (aX 100009212 5 a_12_1)),
 (640058956802630, (aI 100009212 6 a_12_1)),
 (640058956802631, (aX 100009212 7 a_12_1)),
 (640058956802632, (aX 100009212 8 a_12_1)),
 (640000268802816, (aX 100000042 0 a_12_2)),
 (640000268802817, (aI 100000042 1 a_12_2)),
 (640000268802818, (aI 100000042 2 a_12_2)),
 (640000268802819, (aI 100000042 3 a_12_2)),
 (640000268802820, (aI 100000042 4 a_12_2)),
 (640000268802821, (aX 100000042 5 a_12_2)),
 (640000268802822, (aI 100000042 6 a_12_2)),
 (640000268802823, (aX 100000042 7 a_12_2)),
 (640000268802824, (aX 100000042 8 a_12_2))]
def q_12_0 : E := (.ite (.cmp .lss (lI 30) (aI 0 0 [(vX 4)])) (lI 30) (aI 0 0 [(vX 4)]))
def q_12_1 : E := (aX 0 5 [(vX 4), (lI 0), q_12_0])
def ob_12 : E := (.and (aB 100000022 1000000 []) (.and (.and (aB 100000023 1000000 [(.var (.i .u8) 0), (.var (.i .u8) 1), (vI 2), (vI 3)]) (dE defs_12 0 8)) (.and (.and (.and (aB 100000018 1000000 [(vX 640000147200576), (vI 640000147200577), (vI 640000147200578), (vI 640000147200579), (vI 640000147200580), (vX 640000147200581)]) (dE defs_12 8 1)) (.and (aB 100000540 1000000 [(vI 640000115201088)]) (dE defs_12 9 3))) (.and (.and (.and (.cmp .leq (lI 0) q_12_0) (.cmp .leq q_12_0 (aI 0 0 [(vX 4)]))) (.and (aB 100009212 1000000 [(vX 640000147200576), (vI 640000147200577), (vI 640000147200578), (vI 640000147200579), (vI 640000147200580), (vX 640000147200581), (vI 640000147200582), (vI 640000147200583), (vI 640003456001088), (vX 640003456001089), (vX 640003456001090), q_12_1, (aI 0 0 [q_12_1]), (lI 0)]) (dE defs_12 12 9))) (.and (aB 100000042 1000000 [(vX 640058956802624), (vI 640058956802625), (vI 640058956802626), (vI 640058956802627), (vI 640058956802628), (vX 640058956802629), (vI 640058956802630), (vX 640058956802631), (vX 640058956802632), (lI 600), (vI 640000147200583)]) (dE defs_12 21 9))))))
def es_12 : List E := []
def e12 : Ent := b12.fw (fnR cX12n.l.F b12.np ob_12 es_12 postN)
theorem ev_12 : evE Try.prog G0 (tabOf cX12n.fs) (ltOf cX12n.ls) 40 10 e12 = some (ob_12, es_12) := by kernel_rfl
theorem QW.lens {S now bu le mo T c qn qt qm a b e : Int} (h : QW S now bu le mo T c qn qt qm) (ha : a = IntKind.i64.wrap (e20.fn 0 [S, now, bu, le, mo, T])) (hb : b = IntKind.i64.wrap (e16.fn 0 [S, now, bu, le, mo, T])) (he : e = IntKind.i64.wrap (e45.fn 0 [qn, qt, qm])) :
 a = b + e /\ 0 <= b /\ b <= 4096 /\ 0 <= e /\ e <= 4096 := by
 obtain ⟨d, B, hv⟩ := h
 have h1 := hv.wv.lenV ha
 have h2 := hv.wv.lagV hb
 have h3 := hv.wv.lenB
 have h4 := hv.wv.ct
 have h5 := hv.qi.len
 have h6 := hv.len
 have h7 : e = ((dc qt).length : Int) := he.trans (i64w (by show _ <= ((dc qt).length : Int); omega) (by show ((dc qt).length : Int) <= _; omega))
 omega
theorem cAqok : cAq.OK Try.prog G0 := ((Ctx.OK.nil.addF ok44 rfl).addF ok14 rfl).addF ok18 rfl
theorem okAq : ItemOK Try.prog G0 26 pAr leAq /\ PostOK leAq.ent postAq := by
 refine cAqok.nm.loopH mixed rfl ⟨_, _, _, Try.func26, rfl, rfl⟩ ev_LAq (by kernel_rfl) _ rfl fun xs hf hp φ hφ => ?_
 obtain ⟨l, hl, hS, hF⟩ := self_H lbAq φ muAq (muAq xs) cAqn.l (by decide)
 show ∃ ρ : Nat -> Int, _ /\ ob_LAq.tt (Tabs.F (enH lbAq φ muAq (muAq xs) :: cAqn.l)) ρ = true /\ postAq xs (es_LAq.map (E.den (Tabs.F (enH lbAq φ muAq (muAq xs) :: cAqn.l)) ρ))
 rw [hl]
 replace hφ : ∀ ys, fits [.x, (.i .i64), (.i .i64), (.i .i64), (.i .i64), .x, (.i .i64), (.i .i64), .x, .x, (.i .i64), (.i .i64), (.i .i64), (.i .i64), (.i .i64)] ys -> lbAq.ent.pre ys -> muAq ys < muAq xs -> postAq ys (outsE φ ys 0 lbAq.ent.oks) := hφ
 have F9226 := FC (k := 9226) rfl hS
 have F14 := FC (k := 100000014) rfl (hF e14.nm (by rfl) (by decide) (by decide))
 have F18 := FC (k := 100000018) rfl (hF e18.nm (by rfl) (by decide) (by decide))
 have F544 := FC (k := 100000544) rfl (hF e44.nm (by rfl) (by decide) (by decide))
 replace hf : fits [.x, (.i .i64), (.i .i64), (.i .i64), (.i .i64), .x, (.i .i64), (.i .i64), .x, .x, (.i .i64), (.i .i64), (.i .i64), (.i .i64), (.i .i64)] xs := hf
 obtain ⟨S, xs0, hx0, hS, hf0⟩ := fits_cons hf
 obtain ⟨now, xs1, hx1, hnow, hf1⟩ := fits_cons hf0
 obtain ⟨bu, xs2, hx2, hbu, hf2⟩ := fits_cons hf1
 obtain ⟨le, xs3, hx3, hle, hf3⟩ := fits_cons hf2
 obtain ⟨mo, xs4, hx4, hmo, hf4⟩ := fits_cons hf3
 obtain ⟨T, xs5, hx5, hT, hf5⟩ := fits_cons hf4
 obtain ⟨c, xs6, hx6, hc, hf6⟩ := fits_cons hf5
 obtain ⟨qn, xs7, hx7, hqn, hf7⟩ := fits_cons hf6
 obtain ⟨qt, xs8, hx8, hqt, hf8⟩ := fits_cons hf7
 obtain ⟨qm, xs9, hx9, hqm, hf9⟩ := fits_cons hf8
 obtain ⟨id, xs10, hx10, hid, hf10⟩ := fits_cons hf9
 obtain ⟨st, xs11, hx11, hst, hf11⟩ := fits_cons hf10
 obtain ⟨fr, xs12, hx12, hfr, hf12⟩ := fits_cons hf11
 obtain ⟨mn, xs13, hx13, hmn, hf13⟩ := fits_cons hf12
 obtain ⟨i, xs14, hx14, hi, hf14⟩ := fits_cons hf13
 have hxn := fits_nil hf14
 subst hxn hx14 hx13 hx12 hx11 hx10 hx9 hx8 hx7 hx6 hx5 hx4 hx3 hx2 hx1 hx0
 simp only [norm_i] at hnow hbu hle hmo hc hqn hid hst hfr hmn hi
 obtain ⟨ρ, hρ, hd⟩ := solve (F := l.F) 15 defs_LAq (by kernel_rfl) [S, now, bu, le, mo, T, c, qn, qt, qm, id, st, fr, mn, i]
 have hDf := dE_tt (by kernel_rfl) hd
 refine ⟨ρ, hρ, ?_⟩
 have r0 : ρ 0 = S := hρ 0 (by decide)
 have r1 : ρ 1 = now := hρ 1 (by decide)
 have r2 : ρ 2 = bu := hρ 2 (by decide)
 have r3 : ρ 3 = le := hρ 3 (by decide)
 have r4 : ρ 4 = mo := hρ 4 (by decide)
 have r5 : ρ 5 = T := hρ 5 (by decide)
 have r6 : ρ 6 = c := hρ 6 (by decide)
 have r7 : ρ 7 = qn := hρ 7 (by decide)
 have r8 : ρ 8 = qt := hρ 8 (by decide)
 have r9 : ρ 9 = qm := hρ 9 (by decide)
 have r10 : ρ 10 = id := hρ 10 (by decide)
 have r11 : ρ 11 = st := hρ 11 (by decide)
 have r12 : ρ 12 = fr := hρ 12 (by decide)
 have r13 : ρ 13 = mn := hρ 13 (by decide)
 have r14 : ρ 14 = i := hρ 14 (by decide)
 obtain ⟨v1, hv1, hd1, hn1⟩ := nmd hd 0 rfl
 obtain ⟨v2, hv2, hd2, hn2⟩ := nmd hd 1 rfl
 obtain ⟨v3, hv3, hd3, hn3⟩ := nmd hd 2 rfl
 obtain ⟨v4, hv4, hd4, hn4⟩ := nmd hd 3 rfl
 obtain ⟨v5, hv5, hd5, hn5⟩ := nmd hd 4 rfl
 obtain ⟨v6, hv6, hd6, hn6⟩ := nmd hd 5 rfl
 obtain ⟨v7, hv7, hd7, hn7⟩ := nmd hd 6 rfl
 obtain ⟨v8, hv8, hd8, hn8⟩ := nmd hd 7 rfl
 obtain ⟨v9, hv9, hd9, hn9⟩ := nmd hd 8 rfl
 obtain ⟨v10, hv10, hd10, hn10⟩ := nmd hd 9 rfl
 obtain ⟨v11, hv11, hd11, hn11⟩ := nmd hd 10 rfl
 obtain ⟨v12, hv12, hd12, hn12⟩ := nmd hd 11 rfl
 simp only [norm_i] at hn1 hn3 hn4 hn5 hn6 hn8 hn9 hn12
 simp (disch := omega) only [norm_i, a_LAq_0, a_LAq_1, F14, F18, F544, Ent.nm_fn, r0, r1, hnow, r2, hbu, r3, hle, r4, hmo, r5, r6, hc, r7, hqn, r8, r9, r10, hid, r11, hst, r12, hfr, r13, hmn, r14, hi, hv1, hn1, hv2, hv3, hn3, hv4, hn4, hv5, hn5, hv6, hn6, hv7, hv8, hn8, hv9, hn9, hv10, hv11, hv12, hn12, ewA, ewL, preC, binI, dvI, shI, cmpB, env, bi, List.headD, List.tail, List.map, Nat.reduceAdd, ewR, ewB, ewM, if_true, if_false, implies_true, forall_const, ne_eq, reduceCtorEq, Int.reduceEq, Int.reduceLT, Int.reduceLE, Int.reduceToNat, Int.reduceAdd, Int.reduceSub, Int.reduceMul, Int.reduceNeg, Int.reduceBEq, Nat.reduceLT, Nat.reduceEqDiff] at hd1 hd2 hd3 hd4 hd5 hd6 hd7 hd8 hd9 hd10 hd11 hd12
 have hSS := And.intro (And.intro (And.intro (And.intro (And.intro F9226 (And.intro F14 F18)) (And.intro F544 (And.intro r0 r1))) (And.intro (And.intro hnow (And.intro r2 hbu)) (And.intro r3 (And.intro hle r4)))) (And.intro (And.intro (And.intro hmo (And.intro r5 r6)) (And.intro hc (And.intro r7 hqn))) (And.intro (And.intro r8 (And.intro r9 r10)) (And.intro (And.intro hid r11) (And.intro hst r12))))) (And.intro (And.intro (And.intro (And.intro hfr (And.intro r13 hmn)) (And.intro r14 (And.intro hi hv1))) (And.intro (And.intro hn1 (And.intro hv2 hv3)) (And.intro (And.intro hn3 hv4) (And.intro hn4 hv5)))) (And.intro (And.intro (And.intro hn5 (And.intro hv6 hn6)) (And.intro hv7 (And.intro hv8 hn8))) (And.intro (And.intro hv9 (And.intro hn9 hv10)) (And.intro (And.intro hv11 hv12) (And.intro hn12 hDf)))))
 obtain ⟨⟨d, B, hv⟩, p1, p2, p3, p4, p5, p6⟩ := hp
 replace hv : QV S now bu le mo T c qn qt qm d B := hv
 simp only [ewA, ewL, preC, binI, dvI, shI, cmpB, env, bi, List.headD, List.tail, List.map, Nat.reduceAdd] at p1 p2 p3 p4 p5 p6
 have hw := hv.wv
 have htm := hw.tm
 have hct := hw.ct
 have y1 : e18.pre [S, now, bu, le, mo, T] := hw.lenOK []
 by_cases hi : i < mn
 ·have hm := mul_rng (i := i) (s := st) (by omega) p2
  obtain rfl : now = v1 := (hw.nowV hd1).symm
  obtain ⟨t, ht⟩ : ∃ t, t = i * st := ⟨_, rfl⟩
  have wt : IntKind.i64.wrap (i * st) = t := by rw [ht]; exact i64w (by omega) (by omega)
  have w1 : IntKind.i64.wrap (id + i) = id + i := i64w (by omega) (by omega)
  have w2 : (id + i).tmod c = (id + i) % c := Int.tmod_eq_emod_of_nonneg (by omega)
  have hr := Int.emod_nonneg (id + i) (show c ≠ 0 by omega)
  have hr2 := Int.emod_lt_of_pos (id + i) (show 0 < c by omega)
  have w3 : IntKind.i64.wrap ((id + i) % c) = (id + i) % c := i64w (by omega) (by omega)
  simp (disch := omega) only [ewA, ewL, preC, binI, dvI, shI, cmpB, env, bi, List.headD, List.tail, List.map, Nat.reduceAdd, ewR, ewB, ewM, if_true, if_false, implies_true, forall_const, ne_eq, reduceCtorEq, Int.reduceEq, Int.reduceLT, Int.reduceLE, Int.reduceToNat, Int.reduceAdd, Int.reduceSub, Int.reduceMul, Int.reduceNeg, Int.reduceBEq, Nat.reduceLT, Nat.reduceEqDiff, wt, w1, w2, w3] at hd2 hd3 hd4 hd5 hd6 hd7 hd8 hd9 hd10 hd11 hd12
  obtain ⟨q1, q3, q4, q5⟩ := hv.arm (i := (id + i) % c) (dd := now + 1 + fr + t) ⟨hr, hr2⟩ (by
   have hb : mn <= 1 -> t = 0 := fun h => by rw [ht, show i = 0 by omega]; exact Int.zero_mul _
   omega) ⟨hd2, hd3, hd4, hd5, hd6, hd7, hd8, trivial⟩ ⟨hd9, hd10, hd11, hd12, trivial⟩
  have yp : lbAq.ent.pre [v2, v3, v4, v5, v6, v7, c, v9, v10, v11, id, st, fr, mn, i + 1] := ⟨⟨_, _, q1⟩, p1, p2, p3, by show 0 <= i + 1; omega, by show i + 1 <= mn; omega, p6⟩
  have ym : muAq [v2, v3, v4, v5, v6, v7, c, v9, v10, v11, id, st, fr, mn, i + 1] < muAq [S, now, bu, le, mo, T, c, qn, qt, qm, id, st, fr, mn, i] := by show (mn - (i + 1)).toNat < (mn - i).toNat; omega
  obtain ⟨i1, i3, i4⟩ := hφ [v2, v3, v4, v5, v6, v7, c, v9, v10, v11, id, st, fr, mn, i + 1] ⟨rfl, hn3, hn4, hn5, hn6, rfl, hc, hn9, rfl, rfl, hid, hst, hfr, hmn, i64w (by omega) (by omega), trivial⟩ yp ym
  subst q5
  have y2 : ∀ a b, e14.pre [S, now, bu, le, mo, T, a, b] := fun a b => hw.wx2 a b
  have y3 : ∀ a b, e44.pre [qn, qt, qm, a, b] := fun _ _ => hv.qi
  refine ⟨?_, ?_⟩
  ·simp (disch := omega) only [ob_LAq, q_LAq_0, q_LAq_1, q_LAq_2, ewA, ewL, preC, binI, dvI, shI, cmpB, env, bi, List.headD, List.tail, List.map, Nat.reduceAdd, ewR, ewB, ewM, if_true, if_false, implies_true, forall_const, ne_eq, reduceCtorEq, Int.reduceEq, Int.reduceLT, Int.reduceLE, Int.reduceToNat, Int.reduceAdd, Int.reduceSub, Int.reduceMul, Int.reduceNeg, Int.reduceBEq, Nat.reduceLT, Nat.reduceEqDiff, hSS, hi, wt, w1, w2, w3, y1, y2, y3]
   repeat' (first | (with_reducible apply And.intro) | (with_reducible intro _))
   all_goals first | with_reducible assumption | trivial | omega | (split <;> omega)
  ·simp (disch := omega) only [es_LAq, q_LAq_0, q_LAq_1, q_LAq_2, ewA, ewL, preC, binI, dvI, shI, cmpB, env, bi, List.headD, List.tail, List.map, Nat.reduceAdd, ewR, ewB, ewM, if_true, if_false, implies_true, forall_const, ne_eq, reduceCtorEq, Int.reduceEq, Int.reduceLT, Int.reduceLE, Int.reduceToNat, Int.reduceAdd, Int.reduceSub, Int.reduceMul, Int.reduceNeg, Int.reduceBEq, Nat.reduceLT, Nat.reduceEqDiff, hSS, hi, wt, w1, w2, w3]
   exact ⟨i1, i3.trans q3, i4.trans q4⟩
 ·refine ⟨?_, ?_⟩
  ·simp (disch := omega) only [ob_LAq, q_LAq_0, q_LAq_1, q_LAq_2, ewA, ewL, preC, binI, dvI, shI, cmpB, env, bi, List.headD, List.tail, List.map, Nat.reduceAdd, ewR, ewB, ewM, if_true, if_false, implies_true, forall_const, ne_eq, reduceCtorEq, Int.reduceEq, Int.reduceLT, Int.reduceLE, Int.reduceToNat, Int.reduceAdd, Int.reduceSub, Int.reduceMul, Int.reduceNeg, Int.reduceBEq, Nat.reduceLT, Nat.reduceEqDiff, hSS, hi]
  ·simp (disch := omega) only [es_LAq, q_LAq_0, q_LAq_1, q_LAq_2, ewA, ewL, preC, binI, dvI, shI, cmpB, env, bi, List.headD, List.tail, List.map, Nat.reduceAdd, ewR, ewB, ewM, if_true, if_false, implies_true, forall_const, ne_eq, reduceCtorEq, Int.reduceEq, Int.reduceLT, Int.reduceLE, Int.reduceToNat, Int.reduceAdd, Int.reduceSub, Int.reduceMul, Int.reduceNeg, Int.reduceBEq, Nat.reduceLT, Nat.reduceEqDiff, hSS, hi]
   exact ⟨⟨d, B, hv⟩, rfl, rfl⟩
theorem cPqok : cPq.OK Try.prog G0 := Ctx.OK.addL (c := ⟨[e18, e25], []⟩) ((Ctx.OK.nil.addF ok25 rfl).addF ok18 rfl) okAq.1 rfl
set_option maxHeartbeats 4000000 in
theorem ok26q : EntryOK Try.prog G0 e26q /\ PostOK e26q postAq := by
 refine cPqok.nm.entryH mixed ev_26q (by kernel_rfl) _ rfl fun xs hf hp => ?_
 obtain ⟨l, hl, hF⟩ := ctx_P (l0 := cPqn.l)
 show ∃ ρ : Nat -> Int, _ /\ ob_26q.tt cPqn.l.F ρ = true /\ postAq xs (es_26q.map (E.den cPqn.l.F ρ))
 rw [hl]
 have F25 := FC (k := 100000025) rfl (hF e25.nm (by rfl) (by decide))
 have F9226 := FC (k := 100009226) rfl (hF leAq.nm.ent (by rfl) (by decide))
 replace hf : fits [.x, (.i .i64), (.i .i64), (.i .i64), (.i .i64), .x, (.i .i64), (.i .u8), (.i .i64), (.i .i64), (.i .i64), (.i .i64), .x, .x] xs := hf
 obtain ⟨S, xs0, hx0, hS, hf0⟩ := fits_cons hf
 obtain ⟨now, xs1, hx1, hnow, hf1⟩ := fits_cons hf0
 obtain ⟨bu, xs2, hx2, hbu, hf2⟩ := fits_cons hf1
 obtain ⟨le, xs3, hx3, hle, hf3⟩ := fits_cons hf2
 obtain ⟨mo, xs4, hx4, hmo, hf4⟩ := fits_cons hf3
 obtain ⟨T, xs5, hx5, hT, hf5⟩ := fits_cons hf4
 obtain ⟨c, xs6, hx6, hc, hf6⟩ := fits_cons hf5
 obtain ⟨ak, xs7, hx7, hak, hf7⟩ := fits_cons hf6
 obtain ⟨ai, xs8, hx8, hai, hf8⟩ := fits_cons hf7
 obtain ⟨ad, xs9, hx9, had, hf9⟩ := fits_cons hf8
 obtain ⟨an, xs10, hx10, han, hf10⟩ := fits_cons hf9
 obtain ⟨qn, xs11, hx11, hqn, hf11⟩ := fits_cons hf10
 obtain ⟨qt, xs12, hx12, hqt, hf12⟩ := fits_cons hf11
 obtain ⟨qm, xs13, hx13, hqm, hf13⟩ := fits_cons hf12
 have hxn := fits_nil hf13
 subst hxn hx13 hx12 hx11 hx10 hx9 hx8 hx7 hx6 hx5 hx4 hx3 hx2 hx1 hx0
 simp only [norm_i] at hnow hbu hle hmo hc hak hai had han hqn
 obtain ⟨ρ, hρ, hd⟩ := solve (F := l.F) 14 defs_26q (by kernel_rfl) [S, now, bu, le, mo, T, c, ak, ai, ad, an, qn, qt, qm]
 have hDf := dE_tt (by kernel_rfl) hd
 refine ⟨ρ, hρ, ?_⟩
 have r0 : ρ 0 = S := hρ 0 (by decide)
 have r1 : ρ 1 = now := hρ 1 (by decide)
 have r2 : ρ 2 = bu := hρ 2 (by decide)
 have r3 : ρ 3 = le := hρ 3 (by decide)
 have r4 : ρ 4 = mo := hρ 4 (by decide)
 have r5 : ρ 5 = T := hρ 5 (by decide)
 have r6 : ρ 6 = c := hρ 6 (by decide)
 have r7 : ρ 7 = ak := hρ 7 (by decide)
 have r8 : ρ 8 = ai := hρ 8 (by decide)
 have r9 : ρ 9 = ad := hρ 9 (by decide)
 have r10 : ρ 10 = an := hρ 10 (by decide)
 have r11 : ρ 11 = qn := hρ 11 (by decide)
 have r12 : ρ 12 = qt := hρ 12 (by decide)
 have r13 : ρ 13 = qm := hρ 13 (by decide)
 obtain ⟨v1, hv1, hd1, hn1⟩ := nmd hd 0 rfl
 obtain ⟨v2, hv2, hd2, hn2⟩ := nmd hd 1 rfl
 obtain ⟨v3, hv3, hd3, hn3⟩ := nmd hd 2 rfl
 obtain ⟨v4, hv4, hd4, hn4⟩ := nmd hd 3 rfl
 obtain ⟨v5, hv5, hd5, hn5⟩ := nmd hd 4 rfl
 obtain ⟨v6, hv6, hd6, hn6⟩ := nmd hd 5 rfl
 obtain ⟨v7, hv7, hd7, hn7⟩ := nmd hd 6 rfl
 obtain ⟨v8, hv8, hd8, hn8⟩ := nmd hd 7 rfl
 obtain ⟨v9, hv9, hd9, hn9⟩ := nmd hd 8 rfl
 obtain ⟨v10, hv10, hd10, hn10⟩ := nmd hd 9 rfl
 obtain ⟨v11, hv11, hd11, hn11⟩ := nmd hd 10 rfl
 obtain ⟨v12, hv12, hd12, hn12⟩ := nmd hd 11 rfl
 obtain ⟨v13, hv13, hd13, hn13⟩ := nmd hd 12 rfl
 simp only [norm_i] at hn1 hn2 hn3 hn4 hn6 hn7 hn8 hn9 hn11
 simp (disch := omega) only [norm_i, a_26q_0, F25, F9226, Ent.nm_fn, r0, r1, hnow, r2, hbu, r3, hle, r4, hmo, r5, r6, hc, r7, hak, r8, hai, r9, had, r10, han, r11, hqn, r12, r13, hv1, hn1, hv2, hn2, hv3, hn3, hv4, hn4, hv5, hv6, hn6, hv7, hn7, hv8, hn8, hv9, hn9, hv10, hv11, hn11, hv12, hv13, ewA, ewL, preC, binI, dvI, shI, cmpB, env, bi, List.headD, List.tail, List.map, Nat.reduceAdd, ewR, ewB, ewM, if_true, if_false, implies_true, forall_const, ne_eq, reduceCtorEq, Int.reduceEq, Int.reduceLT, Int.reduceLE, Int.reduceToNat, Int.reduceAdd, Int.reduceSub, Int.reduceMul, Int.reduceNeg, Int.reduceBEq, Nat.reduceLT, Nat.reduceEqDiff] at hd1 hd2 hd3 hd4 hd5 hd6 hd7 hd8 hd9 hd10 hd11 hd12 hd13
 have hSS := And.intro (And.intro (And.intro (And.intro (And.intro F25 (And.intro F9226 r0)) (And.intro r1 (And.intro hnow r2))) (And.intro (And.intro hbu (And.intro r3 hle)) (And.intro r4 (And.intro hmo r5)))) (And.intro (And.intro (And.intro r6 (And.intro hc r7)) (And.intro hak (And.intro r8 hai))) (And.intro (And.intro r9 (And.intro had r10)) (And.intro han (And.intro r11 hqn))))) (And.intro (And.intro (And.intro (And.intro r12 (And.intro r13 hv1)) (And.intro hn1 (And.intro hv2 hn2))) (And.intro (And.intro hv3 (And.intro hn3 hv4)) (And.intro hn4 (And.intro hv5 hv6)))) (And.intro (And.intro (And.intro hn6 (And.intro hv7 hn7)) (And.intro hv8 (And.intro hn8 hv9))) (And.intro (And.intro hn9 (And.intro hv10 hv11)) (And.intro (And.intro hn11 hv12) (And.intro hv13 hDf)))))
 replace hp : QW S now bu le mo T c qn qt qm := hp
 have hq := hp
 obtain ⟨d, B, hv⟩ := hp
 have hw := hv.wv
 have hct := hw.ct
 have ra := u8r hak
 have f1 : ∀ a b, e25.fn 0 [a, b] = a % b := fun _ _ => rfl
 have y1 : e25.pre [ai, c] := ⟨by show 0 < c; omega, by show c <= _; omega⟩
 have y2 : e25.pre [an, 20] := ⟨by show (0 : Int) < 20; decide, by show (20 : Int) <= _; decide⟩
 have y3 : e25.pre [ad, 3000] := ⟨by show (0 : Int) < 3000; decide, by show (3000 : Int) <= _; decide⟩
 have y4 : e25.pre [ad, 2147483648] := ⟨by show (0 : Int) < 2147483648; decide, by show (2147483648 : Int) <= _; decide⟩
 have g1 : 0 <= ai % c /\ ai % c < c := ⟨Int.emod_nonneg ai (by omega), Int.emod_lt_of_pos ai (by omega)⟩
 rw [f1] at hd1 hd2 hd3 hd4
 have e1 : v1 = ai % c := by rw [hd1]; exact i64w (by omega) (by omega)
 have e2 : v2 = an % 20 := by rw [hd2]; exact i64w (by omega) (by omega)
 have e3 : v3 = ad % 3000 := by rw [hd3]; exact i64w (by omega) (by omega)
 have e4 : v4 = ad % 2147483648 := by rw [hd4]; exact i64w (by omega) (by omega)
 have t8 : ak.tmod 8 = ak % 8 := Int.tmod_eq_emod_of_nonneg ra.1
 rw [<- e1] at g1
 subst e2 e3 e4
 clear e1 hd1
 by_cases hk : ak % 8 = 3
 ·have yA : leAq.ent.pre [S, now, bu, le, mo, T, c, qn, qt, qm, v1, 3, ad % 2147483648, 1, 0] := ⟨hq, g1, by show (0 : Int) <= 3 /\ (3 : Int) <= 7; decide, by show 0 <= ad % 2147483648 /\ ad % 2147483648 < 2147483648 /\ (ad % 2147483648 <= 3000 \/ (1 : Int) <= 1); omega, by show (0 : Int) <= 0; decide, by show (0 : Int) <= 1; decide, by show (1 : Int) <= 20; decide⟩
  simp (disch := omega) only [ewA, ewL, preC, binI, dvI, shI, cmpB, env, bi, List.headD, List.tail, List.map, Nat.reduceAdd, ewR, ewB, ewM, if_true, if_false, implies_true, forall_const, ne_eq, reduceCtorEq, Int.reduceEq, Int.reduceLT, Int.reduceLE, Int.reduceToNat, Int.reduceAdd, Int.reduceSub, Int.reduceMul, Int.reduceNeg, Int.reduceBEq, Nat.reduceLT, Nat.reduceEqDiff, t8, hk] at hd5 hd6 hd7 hd8 hd9 hd10 hd11 hd12 hd13
  obtain ⟨i1, i2, i3⟩ := (PostOK.use (ks := [.x, (.i .i64), (.i .i64), (.i .i64), (.i .i64), .x, (.i .i64), (.i .i64), .x, .x, (.i .i64), (.i .i64), (.i .i64), (.i .i64), (.i .i64)]) (os := [.x, (.i .i64), (.i .i64), (.i .i64), (.i .i64), .x, (.i .i64), .x, .x]) (vs := [v5, v6, v7, v8, v9, v10, v11, v12, v13]) okAq.2 rfl rfl ⟨hd5, hd6, hd7, hd8, hd9, hd10, hd11, hd12, hd13, trivial⟩) ⟨rfl, (by first | rfl | assumption | exact i64w (by omega) (by omega) | exact u8w (by omega) (by omega)), (by first | rfl | assumption | exact i64w (by omega) (by omega) | exact u8w (by omega) (by omega)), (by first | rfl | assumption | exact i64w (by omega) (by omega) | exact u8w (by omega) (by omega)), (by first | rfl | assumption | exact i64w (by omega) (by omega) | exact u8w (by omega) (by omega)), rfl, (by first | rfl | assumption | exact i64w (by omega) (by omega) | exact u8w (by omega) (by omega)), (by first | rfl | assumption | exact i64w (by omega) (by omega) | exact u8w (by omega) (by omega)), rfl, rfl, (by first | rfl | assumption | exact i64w (by omega) (by omega) | exact u8w (by omega) (by omega)), (by first | rfl | assumption | exact i64w (by omega) (by omega) | exact u8w (by omega) (by omega)), (by first | rfl | assumption | exact i64w (by omega) (by omega) | exact u8w (by omega) (by omega)), (by first | rfl | assumption | exact i64w (by omega) (by omega) | exact u8w (by omega) (by omega)), rfl, trivial⟩ yA
  refine ⟨?_, ?_⟩
  ·simp (disch := omega) only [ob_26q, q_26q_0, ewA, ewL, preC, binI, dvI, shI, cmpB, env, bi, List.headD, List.tail, List.map, Nat.reduceAdd, ewR, ewB, ewM, if_true, if_false, implies_true, forall_const, ne_eq, reduceCtorEq, Int.reduceEq, Int.reduceLT, Int.reduceLE, Int.reduceToNat, Int.reduceAdd, Int.reduceSub, Int.reduceMul, Int.reduceNeg, Int.reduceBEq, Nat.reduceLT, Nat.reduceEqDiff, hSS, t8, hk, f1, y1, y2, y3, y4]
   repeat' (first | (with_reducible apply And.intro) | (with_reducible intro _))
   all_goals first | with_reducible assumption | trivial | omega | (split <;> omega)
  ·simp (disch := omega) only [es_26q, q_26q_0, ewA, ewL, preC, binI, dvI, shI, cmpB, env, bi, List.headD, List.tail, List.map, Nat.reduceAdd, ewR, ewB, ewM, if_true, if_false, implies_true, forall_const, ne_eq, reduceCtorEq, Int.reduceEq, Int.reduceLT, Int.reduceLE, Int.reduceToNat, Int.reduceAdd, Int.reduceSub, Int.reduceMul, Int.reduceNeg, Int.reduceBEq, Nat.reduceLT, Nat.reduceEqDiff, hSS]
   exact ⟨i1, i2, i3⟩
 ·have yA : leAq.ent.pre [S, now, bu, le, mo, T, c, qn, qt, qm, v1, ak % 8, ad % 3000, 1 + an % 20, 0] := ⟨hq, g1, by show 0 <= ak % 8 /\ ak % 8 <= 7; omega, by show 0 <= ad % 3000 /\ ad % 3000 < 2147483648 /\ (ad % 3000 <= 3000 \/ 1 + an % 20 <= 1); omega, by show (0 : Int) <= 0; decide, by show 0 <= 1 + an % 20; omega, by show 1 + an % 20 <= 20; omega⟩
  simp (disch := omega) only [ewA, ewL, preC, binI, dvI, shI, cmpB, env, bi, List.headD, List.tail, List.map, Nat.reduceAdd, ewR, ewB, ewM, if_true, if_false, implies_true, forall_const, ne_eq, reduceCtorEq, Int.reduceEq, Int.reduceLT, Int.reduceLE, Int.reduceToNat, Int.reduceAdd, Int.reduceSub, Int.reduceMul, Int.reduceNeg, Int.reduceBEq, Nat.reduceLT, Nat.reduceEqDiff, t8, hk] at hd5 hd6 hd7 hd8 hd9 hd10 hd11 hd12 hd13
  obtain ⟨i1, i2, i3⟩ := (PostOK.use (ks := [.x, (.i .i64), (.i .i64), (.i .i64), (.i .i64), .x, (.i .i64), (.i .i64), .x, .x, (.i .i64), (.i .i64), (.i .i64), (.i .i64), (.i .i64)]) (os := [.x, (.i .i64), (.i .i64), (.i .i64), (.i .i64), .x, (.i .i64), .x, .x]) (vs := [v5, v6, v7, v8, v9, v10, v11, v12, v13]) okAq.2 rfl rfl ⟨hd5, hd6, hd7, hd8, hd9, hd10, hd11, hd12, hd13, trivial⟩) ⟨rfl, (by first | rfl | assumption | exact i64w (by omega) (by omega) | exact u8w (by omega) (by omega)), (by first | rfl | assumption | exact i64w (by omega) (by omega) | exact u8w (by omega) (by omega)), (by first | rfl | assumption | exact i64w (by omega) (by omega) | exact u8w (by omega) (by omega)), (by first | rfl | assumption | exact i64w (by omega) (by omega) | exact u8w (by omega) (by omega)), rfl, (by first | rfl | assumption | exact i64w (by omega) (by omega) | exact u8w (by omega) (by omega)), (by first | rfl | assumption | exact i64w (by omega) (by omega) | exact u8w (by omega) (by omega)), rfl, rfl, (by first | rfl | assumption | exact i64w (by omega) (by omega) | exact u8w (by omega) (by omega)), (by first | rfl | assumption | exact i64w (by omega) (by omega) | exact u8w (by omega) (by omega)), (by first | rfl | assumption | exact i64w (by omega) (by omega) | exact u8w (by omega) (by omega)), (by first | rfl | assumption | exact i64w (by omega) (by omega) | exact u8w (by omega) (by omega)), rfl, trivial⟩ yA
  refine ⟨?_, ?_⟩
  ·simp (disch := omega) only [ob_26q, q_26q_0, ewA, ewL, preC, binI, dvI, shI, cmpB, env, bi, List.headD, List.tail, List.map, Nat.reduceAdd, ewR, ewB, ewM, if_true, if_false, implies_true, forall_const, ne_eq, reduceCtorEq, Int.reduceEq, Int.reduceLT, Int.reduceLE, Int.reduceToNat, Int.reduceAdd, Int.reduceSub, Int.reduceMul, Int.reduceNeg, Int.reduceBEq, Nat.reduceLT, Nat.reduceEqDiff, hSS, t8, hk, f1, y1, y2, y3, y4]
   repeat' (first | (with_reducible apply And.intro) | (with_reducible intro _))
   all_goals first | with_reducible assumption | trivial | omega | (split <;> omega)
  ·simp (disch := omega) only [es_26q, q_26q_0, ewA, ewL, preC, binI, dvI, shI, cmpB, env, bi, List.headD, List.tail, List.map, Nat.reduceAdd, ewR, ewB, ewM, if_true, if_false, implies_true, forall_const, ne_eq, reduceCtorEq, Int.reduceEq, Int.reduceLT, Int.reduceLE, Int.reduceToNat, Int.reduceAdd, Int.reduceSub, Int.reduceMul, Int.reduceNeg, Int.reduceBEq, Nat.reduceLT, Nat.reduceEqDiff, hSS]
   exact ⟨i1, i2, i3⟩
theorem cL12ok : cL12.OK Try.prog G0 := ((((((((Ctx.OK.nil.addF ok42.1 rfl).addF ok17 rfl).addF ok26q.1 rfl).addF ok25 rfl).addF ok41 rfl).addF ok24 rfl).addF ok45 rfl).addF ok16 rfl).addF ok20 rfl
set_option maxHeartbeats 8000000 in
theorem okL12 : ItemOK Try.prog G0 12 p12 le12 /\ PostOK le12.ent post12 := by
 refine cL12ok.nm.loopH mixed rfl ⟨_, _, _, Try.func12, rfl, rfl⟩ ev_L12 (by kernel_rfl) _ rfl fun xs hf hp φ hφ => ?_
 obtain ⟨l, hl, hS, hF⟩ := self_H lb12 φ mu12 (mu12 xs) cL12n.l (by decide)
 show ∃ ρ : Nat -> Int, _ /\ ob_L12.tt (Tabs.F (enH lb12 φ mu12 (mu12 xs) :: cL12n.l)) ρ = true /\ post12 xs (es_L12.map (E.den (Tabs.F (enH lb12 φ mu12 (mu12 xs) :: cL12n.l)) ρ))
 rw [hl]
 replace hφ : ∀ ys, fits [.x, (.i .i64), (.i .i64), (.i .i64), (.i .i64), .x, (.i .i64), (.i .i64), (.i .i64), .x, .x, .x, (.i .i64), (.i .i64)] ys -> lb12.ent.pre ys -> mu12 ys < mu12 xs -> post12 ys (outsE φ ys 0 lb12.ent.oks) := hφ
 have F9212 := FC (k := 9212) rfl hS
 have F16 := FC (k := 100000016) rfl (hF e16.nm (by rfl) (by decide) (by decide))
 have F17 := FC (k := 100000017) rfl (hF e17.nm (by rfl) (by decide) (by decide))
 have F20 := FC (k := 100000020) rfl (hF e20.nm (by rfl) (by decide) (by decide))
 have F24 := FC (k := 100000024) rfl (hF e24.nm (by rfl) (by decide) (by decide))
 have F25 := FC (k := 100000025) rfl (hF e25.nm (by rfl) (by decide) (by decide))
 have F42 := FC (k := 100000042) rfl (hF e42.nm (by rfl) (by decide) (by decide))
 have F541 := FC (k := 100000541) rfl (hF e41.nm (by rfl) (by decide) (by decide))
 have F545 := FC (k := 100000545) rfl (hF e45.nm (by rfl) (by decide) (by decide))
 have F2026 := FC (k := 100002026) rfl (hF e26q.nm (by rfl) (by decide) (by decide))
 replace hf : fits [.x, (.i .i64), (.i .i64), (.i .i64), (.i .i64), .x, (.i .i64), (.i .i64), (.i .i64), .x, .x, .x, (.i .i64), (.i .i64)] xs := hf
 obtain ⟨S, xs0, hx0, hS, hf0⟩ := fits_cons hf
 obtain ⟨now, xs1, hx1, hnow, hf1⟩ := fits_cons hf0
 obtain ⟨bu, xs2, hx2, hbu, hf2⟩ := fits_cons hf1
 obtain ⟨le, xs3, hx3, hle, hf3⟩ := fits_cons hf2
 obtain ⟨mo, xs4, hx4, hmo, hf4⟩ := fits_cons hf3
 obtain ⟨T, xs5, hx5, hT, hf5⟩ := fits_cons hf4
 obtain ⟨c, xs6, hx6, hc, hf6⟩ := fits_cons hf5
 obtain ⟨bd, xs7, hx7, hbd, hf7⟩ := fits_cons hf6
 obtain ⟨qn, xs8, hx8, hqn, hf8⟩ := fits_cons hf7
 obtain ⟨qt, xs9, hx9, hqt, hf9⟩ := fits_cons hf8
 obtain ⟨qm, xs10, hx10, hqm, hf10⟩ := fits_cons hf9
 obtain ⟨A, xs11, hx11, hA, hf11⟩ := fits_cons hf10
 obtain ⟨n, xs12, hx12, hn, hf12⟩ := fits_cons hf11
 obtain ⟨i, xs13, hx13, hi, hf13⟩ := fits_cons hf12
 have hxn := fits_nil hf13
 subst hxn hx13 hx12 hx11 hx10 hx9 hx8 hx7 hx6 hx5 hx4 hx3 hx2 hx1 hx0
 simp only [norm_i] at hnow hbu hle hmo hc hbd hqn hn hi
 obtain ⟨ρ, hρ, hd⟩ := solve (F := l.F) 14 defs_L12 (by kernel_rfl) [S, now, bu, le, mo, T, c, bd, qn, qt, qm, A, n, i]
 have hDf := dE_tt (by kernel_rfl) hd
 refine ⟨ρ, hρ, ?_⟩
 have r0 : ρ 0 = S := hρ 0 (by decide)
 have r1 : ρ 1 = now := hρ 1 (by decide)
 have r2 : ρ 2 = bu := hρ 2 (by decide)
 have r3 : ρ 3 = le := hρ 3 (by decide)
 have r4 : ρ 4 = mo := hρ 4 (by decide)
 have r5 : ρ 5 = T := hρ 5 (by decide)
 have r6 : ρ 6 = c := hρ 6 (by decide)
 have r7 : ρ 7 = bd := hρ 7 (by decide)
 have r8 : ρ 8 = qn := hρ 8 (by decide)
 have r9 : ρ 9 = qt := hρ 9 (by decide)
 have r10 : ρ 10 = qm := hρ 10 (by decide)
 have r11 : ρ 11 = A := hρ 11 (by decide)
 have r12 : ρ 12 = n := hρ 12 (by decide)
 have r13 : ρ 13 = i := hρ 13 (by decide)
 obtain ⟨v1, hv1, hd1, hn1⟩ := nmd hd 0 rfl
 obtain ⟨v2, hv2, hd2, hn2⟩ := nmd hd 1 rfl
 obtain ⟨v3, hv3, hd3, hn3⟩ := nmd hd 2 rfl
 obtain ⟨v4, hv4, hd4, hn4⟩ := nmd hd 3 rfl
 obtain ⟨v5, hv5, hd5, hn5⟩ := nmd hd 4 rfl
 obtain ⟨v6, hv6, hd6, hn6⟩ := nmd hd 5 rfl
 obtain ⟨v7, hv7, hd7, hn7⟩ := nmd hd 6 rfl
 obtain ⟨v8, hv8, hd8, hn8⟩ := nmd hd 7 rfl
 obtain ⟨v9, hv9, hd9, hn9⟩ := nmd hd 8 rfl
 obtain ⟨v10, hv10, hd10, hn10⟩ := nmd hd 9 rfl
 obtain ⟨v11, hv11, hd11, hn11⟩ := nmd hd 10 rfl
 obtain ⟨v12, hv12, hd12, hn12⟩ := nmd hd 11 rfl
 obtain ⟨v13, hv13, hd13, hn13⟩ := nmd hd 12 rfl
 obtain ⟨v14, hv14, hd14, hn14⟩ := nmd hd 13 rfl
 obtain ⟨v15, hv15, hd15, hn15⟩ := nmd hd 14 rfl
 obtain ⟨v16, hv16, hd16, hn16⟩ := nmd hd 15 rfl
 obtain ⟨v17, hv17, hd17, hn17⟩ := nmd hd 16 rfl
 obtain ⟨v18, hv18, hd18, hn18⟩ := nmd hd 17 rfl
 obtain ⟨v19, hv19, hd19, hn19⟩ := nmd hd 18 rfl
 obtain ⟨v20, hv20, hd20, hn20⟩ := nmd hd 19 rfl
 obtain ⟨v21, hv21, hd21, hn21⟩ := nmd hd 20 rfl
 obtain ⟨v22, hv22, hd22, hn22⟩ := nmd hd 21 rfl
 obtain ⟨v23, hv23, hd23, hn23⟩ := nmd hd 22 rfl
 obtain ⟨v24, hv24, hd24, hn24⟩ := nmd hd 23 rfl
 obtain ⟨v25, hv25, hd25, hn25⟩ := nmd hd 24 rfl
 obtain ⟨v26, hv26, hd26, hn26⟩ := nmd hd 25 rfl
 obtain ⟨v27, hv27, hd27, hn27⟩ := nmd hd 26 rfl
 obtain ⟨v28, hv28, hd28, hn28⟩ := nmd hd 27 rfl
 obtain ⟨v29, hv29, hd29, hn29⟩ := nmd hd 28 rfl
 obtain ⟨v30, hv30, hd30, hn30⟩ := nmd hd 29 rfl
 obtain ⟨v31, hv31, hd31, hn31⟩ := nmd hd 30 rfl
 obtain ⟨v32, hv32, hd32, hn32⟩ := nmd hd 31 rfl
 obtain ⟨v33, hv33, hd33, hn33⟩ := nmd hd 32 rfl
 obtain ⟨v34, hv34, hd34, hn34⟩ := nmd hd 33 rfl
 obtain ⟨v35, hv35, hd35, hn35⟩ := nmd hd 34 rfl
 obtain ⟨v36, hv36, hd36, hn36⟩ := nmd hd 35 rfl
 obtain ⟨v37, hv37, hd37, hn37⟩ := nmd hd 36 rfl
 obtain ⟨v38, hv38, hd38, hn38⟩ := nmd hd 37 rfl
 obtain ⟨v39, hv39, hd39, hn39⟩ := nmd hd 38 rfl
 obtain ⟨v40, hv40, hd40, hn40⟩ := nmd hd 39 rfl
 obtain ⟨v41, hv41, hd41, hn41⟩ := nmd hd 40 rfl
 obtain ⟨v42, hv42, hd42, hn42⟩ := nmd hd 41 rfl
 obtain ⟨v43, hv43, hd43, hn43⟩ := nmd hd 42 rfl
 obtain ⟨v44, hv44, hd44, hn44⟩ := nmd hd 43 rfl
 simp only [norm_i] at hn1 hn3 hn4 hn5 hn6 hn8 hn9 hn10 hn13 hn14 hn16 hn17 hn18 hn19 hn21 hn24 hn26 hn27 hn28 hn29 hn32 hn34 hn35 hn36 hn37 hn39 hn42 hn43 hn44
 simp (disch := omega) only [norm_i, a_L12_0, a_L12_1, a_L12_2, a_L12_3, a_L12_4, a_L12_5, a_L12_6, F16, F17, F20, F2026, F24, F25, F42, F541, F545, Ent.nm_fn, r0, r1, hnow, r2, hbu, r3, hle, r4, hmo, r5, r6, hc, r7, hbd, r8, hqn, r9, r10, r11, r12, hn, r13, hi, hv1, hn1, hv2, hv3, hn3, hv4, hn4, hv5, hn5, hv6, hn6, hv7, hv8, hn8, hv9, hn9, hv10, hn10, hv11, hv12, hv13, hn13, hv14, hn14, hv15, hv16, hn16, hv17, hn17, hv18, hn18, hv19, hn19, hv20, hv21, hn21, hv22, hv23, hv24, hn24, hv25, hv26, hn26, hv27, hn27, hv28, hn28, hv29, hn29, hv30, hv31, hv32, hn32, hv33, hv34, hn34, hv35, hn35, hv36, hn36, hv37, hn37, hv38, hv39, hn39, hv40, hv41, hv42, hn42, hv43, hn43, hv44, hn44, ewA, ewL, preC, binI, dvI, shI, cmpB, env, bi, List.headD, List.tail, List.map, Nat.reduceAdd, ewR, ewB, ewM, if_true, if_false, implies_true, forall_const, ne_eq, reduceCtorEq, Int.reduceEq, Int.reduceLT, Int.reduceLE, Int.reduceToNat, Int.reduceAdd, Int.reduceSub, Int.reduceMul, Int.reduceNeg, Int.reduceBEq, Nat.reduceLT, Nat.reduceEqDiff] at hd1 hd2 hd3 hd4 hd5 hd6 hd7 hd8 hd9 hd10 hd11 hd12 hd13 hd14 hd15 hd16 hd17 hd18 hd19 hd20 hd21 hd22 hd23 hd24 hd25 hd26 hd27 hd28 hd29 hd30 hd31 hd32 hd33 hd34 hd35 hd36 hd37 hd38 hd39 hd40 hd41 hd42 hd43 hd44
 have hSS := And.intro (And.intro (And.intro (And.intro (And.intro (And.intro F9212 (And.intro F16 F17)) (And.intro F20 (And.intro F24 F25))) (And.intro (And.intro F42 (And.intro F541 F545)) (And.intro (And.intro F2026 r0) (And.intro r1 hnow)))) (And.intro (And.intro (And.intro r2 (And.intro hbu r3)) (And.intro hle (And.intro r4 hmo))) (And.intro (And.intro r5 (And.intro r6 hc)) (And.intro (And.intro r7 hbd) (And.intro r8 hqn))))) (And.intro (And.intro (And.intro (And.intro r9 (And.intro r10 r11)) (And.intro r12 (And.intro hn r13))) (And.intro (And.intro hi (And.intro hv1 hn1)) (And.intro (And.intro hv2 hv3) (And.intro hn3 hv4)))) (And.intro (And.intro (And.intro hn4 (And.intro hv5 hn5)) (And.intro (And.intro hv6 hn6) (And.intro hv7 hv8))) (And.intro (And.intro hn8 (And.intro hv9 hn9)) (And.intro (And.intro hv10 hn10) (And.intro hv11 hv12)))))) (And.intro (And.intro (And.intro (And.intro (And.intro hv13 (And.intro hn13 hv14)) (And.intro hn14 (And.intro hv15 hv16))) (And.intro (And.intro hn16 (And.intro hv17 hn17)) (And.intro (And.intro hv18 hn18) (And.intro hv19 hn19)))) (And.intro (And.intro (And.intro hv20 (And.intro hv21 hn21)) (And.intro (And.intro hv22 hv23) (And.intro hv24 hn24))) (And.intro (And.intro hv25 (And.intro hv26 hn26)) (And.intro (And.intro hv27 hn27) (And.intro hv28 hn28))))) (And.intro (And.intro (And.intro (And.intro hv29 (And.intro hn29 hv30)) (And.intro hv31 (And.intro hv32 hn32))) (And.intro (And.intro hv33 (And.intro hv34 hn34)) (And.intro (And.intro hv35 hn35) (And.intro hv36 hn36)))) (And.intro (And.intro (And.intro hv37 (And.intro hn37 hv38)) (And.intro (And.intro hv39 hn39) (And.intro hv40 hv41))) (And.intro (And.intro hv42 (And.intro hn42 hv43)) (And.intro (And.intro hn43 hv44) (And.intro hn44 hDf))))))
 obtain ⟨hq, p7, p1, p2, p3, p4, p5, p6⟩ := hp
 replace hq : QW S now bu le mo T c qn qt qm := hq
 replace p1 : rowsOK actK (dc A) := p1
 simp only [ewA, ewL, preC, binI, dvI, shI, cmpB, env, bi, List.headD, List.tail, List.map, Nat.reduceAdd] at p2 p3 p4 p5 p6 p7
 subst p7
 have hq0 := hq
 obtain ⟨d, B, hv⟩ := hq
 have hw := hv.wv
 have hct := hw.ct
 have htm := hw.tm
 have hmb := hw.mb
 by_cases hi : i < n
 ·have fin : ∀ S' now' bu' le' mo' T' qn' qt' qm' : Int, IntKind.i64.wrap now' = now' -> IntKind.i64.wrap bu' = bu' -> IntKind.i64.wrap le' = le' -> IntKind.i64.wrap mo' = mo' -> IntKind.i64.wrap qn' = qn' -> QW S' now' bu' le' mo' T' c qn' qt' qm' -> bu' = bd -> mo' <= mo + 1228800 ->
   (lb12.ent.pre [S', now', bu', le', mo', T', c, bd, qn', qt', qm', A, n, i + 1] /\ mu12 [S', now', bu', le', mo', T', c, bd, qn', qt', qm', A, n, i + 1] < mu12 [S, now, bd, le, mo, T, c, bd, qn, qt, qm, A, n, i]) /\ post12 [S, now, bd, le, mo, T, c, bd, qn, qt, qm, A, n, i] (outsE φ [S', now', bu', le', mo', T', c, bd, qn', qt', qm', A, n, i + 1] 0 lb12.ent.oks) /\
   e20.pre [S', now', bu', le', mo', T'] /\ e16.pre [S', now', bu', le', mo', T'] := by
   intro S' now' bu' le' mo' T' qn' qt' qm' w1 w2 w3 w4 w5 hE h1 h2
   have yp : lb12.ent.pre [S', now', bu', le', mo', T', c, bd, qn', qt', qm', A, n, i + 1] := ⟨hE, h1.symm, p1, p2, by show mo' + 1228800 * (n - (i + 1)) <= _; omega, by show 0 <= i + 1; omega, by show i + 1 <= n; omega, p6⟩
   have ym : mu12 [S', now', bu', le', mo', T', c, bd, qn', qt', qm', A, n, i + 1] < mu12 [S, now, bd, le, mo, T, c, bd, qn, qt, qm, A, n, i] := by show (n - (i + 1)).toNat < (n - i).toNat; omega
   obtain ⟨i1, i2, i3⟩ := hφ [S', now', bu', le', mo', T', c, bd, qn', qt', qm', A, n, i + 1] ⟨rfl, w1, w2, w3, w4, rfl, hc, hbd, w5, rfl, rfl, rfl, hn, i64w (by omega) (by omega), trivial⟩ yp ym
   obtain ⟨d', B', hv'⟩ := hE
   exact ⟨⟨yp, ym⟩, ⟨i1, i2.trans h1, Int.le_trans i3 (by show mo' + 1228800 * (n - (i + 1)) <= mo + 1228800 * (n - i); omega)⟩, hv'.wv.lenOK [], hv'.wv.pre16⟩
  obtain ⟨r, er, hr, _⟩ := row_at p1 p4 (by omega)
  obtain ⟨k, r1, rfl, hk, hr⟩ := fits_cons hr
  obtain ⟨a, r2, rfl, ha, hr⟩ := fits_cons hr
  obtain ⟨b, r3, rfl, hb, hr⟩ := fits_cons hr
  obtain ⟨m, r4, rfl, hm, hr⟩ := fits_cons hr
  obtain rfl := fits_nil hr
  simp only [norm_i] at hk ha hb hm
  have rk := u8r hk
  have t8 : k.tmod 8 = k % 8 := Int.tmod_eq_emod_of_nonneg rk.1
  have f1 : ∀ a b, e25.fn 0 [a, b] = a % b := fun _ _ => rfl
  have y1 : e25.pre [a, c] := ⟨by show 0 < c; omega, by show c <= _; omega⟩
  have y2 : e25.pre [m, 300] := ⟨by show (0 : Int) < 300; decide, by show (300 : Int) <= _; decide⟩
  have y3 : e25.pre [m, 50] := ⟨by show (0 : Int) < 50; decide, by show (50 : Int) <= _; decide⟩
  have g1 : 0 <= a % c /\ a % c < c := ⟨Int.emod_nonneg a (by omega), Int.emod_lt_of_pos a (by omega)⟩
  have wa : IntKind.i64.wrap (a % c) = a % c := i64w (by omega) (by omega)
  have w5 : IntKind.i64.wrap (1 + m % 300) = 1 + m % 300 := i64w (by omega) (by omega)
  have w6 : IntKind.i64.wrap (m % 50) = m % 50 := i64w (by omega) (by omega)
  have w7 : IntKind.i64.wrap (m % 300) = m % 300 := i64w (by omega) (by omega)
  simp (disch := omega) only [ewA, ewL, preC, binI, dvI, shI, cmpB, env, bi, List.headD, List.tail, List.map, Nat.reduceAdd, ewR, ewB, ewM, if_true, if_false, implies_true, forall_const, ne_eq, reduceCtorEq, Int.reduceEq, Int.reduceLT, Int.reduceLE, Int.reduceToNat, Int.reduceAdd, Int.reduceSub, Int.reduceMul, Int.reduceNeg, Int.reduceBEq, Nat.reduceLT, Nat.reduceEqDiff, er, ha, hb, hm, hk, f1, wa, w6, w7] at hd1 hd2 hd3 hd4 hd5 hd6 hd7 hd8 hd9 hd10 hd11 hd12 hd13 hd14 hd15 hd16 hd17 hd18 hd19 hd20 hd21 hd22 hd23 hd24 hd25 hd26 hd27 hd28 hd29 hd30 hd31 hd32 hd33 hd34 hd35 hd36 hd37 hd38 hd39 hd40 hd41
  subst hd1 hd9 hd14 hd24
  simp only [w5] at hd15 hd16 hd17 hd18 hd19 hd20 hd21 hd22 hd23
  have y24 : e24.pre [S, now, bd, le, mo, T, a % c] := hw.wx1 _
  have y41 : e41.pre [qn, qt, qm, a % c] := hv.qi
  have y42 : e42.pre [S, now, bd, le, mo, T, qn, qt, qm, 1 + m % 300, bd] := ⟨⟨c, hq0⟩, rfl, by show 0 <= 1 + m % 300; omega, by show 1 + m % 300 <= 1000; omega, by show mo + 4096 * (1 + m % 300) <= _; omega⟩
  have y17 : e17.pre [S, now, bd, le, mo, T, m % 50] := hw.wx1 _
  have y26 : e26q.pre [S, now, bd, le, mo, T, c, k, a, b, m, qn, qt, qm] := hq0
  have y45 : ∀ x y z, e45.pre [x, y, z] := fun _ _ _ => trivial
  by_cases c1 : k % 8 = 4 \/ k % 8 = 7
  ·obtain ⟨q1, q3, q4⟩ := hv.can g1 ⟨hd2, hd3, hd4, hd5, hd6, hd7, hd8, trivial⟩ ⟨hd10, hd11, hd12, hd13, trivial⟩
   obtain ⟨⟨f2, f3⟩, f4, f5, f6⟩ := fin _ _ _ _ _ _ _ _ _ hn3 hn4 hn5 hn6 hn10 ⟨_, _, q1⟩ q3 (by omega)
   rcases c1 with c1 | c1
   all_goals
    simp (disch := omega) only [ewA, ewL, preC, binI, dvI, shI, cmpB, env, bi, List.headD, List.tail, List.map, Nat.reduceAdd, ewR, ewB, ewM, if_true, if_false, implies_true, forall_const, ne_eq, reduceCtorEq, Int.reduceEq, Int.reduceLT, Int.reduceLE, Int.reduceToNat, Int.reduceAdd, Int.reduceSub, Int.reduceMul, Int.reduceNeg, Int.reduceBEq, Nat.reduceLT, Nat.reduceEqDiff, er, hk, t8, c1] at hd42 hd43 hd44
    obtain ⟨l1, l2, l3, l4, l5⟩ := QW.lens ⟨_, _, q1⟩ hd42 hd43 hd44
    refine ⟨?_, ?_⟩
    ·simp (disch := omega) only [ob_L12, q_L12_0, q_L12_1, q_L12_2, q_L12_3, q_L12_4, q_L12_5, q_L12_6, q_L12_7, q_L12_8, q_L12_9, q_L12_10, q_L12_11, q_L12_12, q_L12_13, q_L12_14, q_L12_15, q_L12_16, q_L12_17, q_L12_18, q_L12_19, q_L12_20, ewA, ewL, preC, binI, dvI, shI, cmpB, env, bi, List.headD, List.tail, List.map, Nat.reduceAdd, ewR, ewB, ewM, if_true, if_false, implies_true, forall_const, ne_eq, reduceCtorEq, Int.reduceEq, Int.reduceLT, Int.reduceLE, Int.reduceToNat, Int.reduceAdd, Int.reduceSub, Int.reduceMul, Int.reduceNeg, Int.reduceBEq, Nat.reduceLT, Nat.reduceEqDiff, hSS, hi, er, hk, ha, hb, hm, t8, c1, f1, wa, y1, y24, y41, y45, f2, f3, f5, f6]
     exact ⟨by omega, l1⟩
    ·simp (disch := omega) only [es_L12, q_L12_0, q_L12_1, q_L12_2, q_L12_3, q_L12_4, q_L12_5, q_L12_6, q_L12_7, q_L12_8, q_L12_9, q_L12_10, q_L12_11, q_L12_12, q_L12_13, q_L12_14, q_L12_15, q_L12_16, q_L12_17, q_L12_18, q_L12_19, q_L12_20, ewA, ewL, preC, binI, dvI, shI, cmpB, env, bi, List.headD, List.tail, List.map, Nat.reduceAdd, ewR, ewB, ewM, if_true, if_false, implies_true, forall_const, ne_eq, reduceCtorEq, Int.reduceEq, Int.reduceLT, Int.reduceLE, Int.reduceToNat, Int.reduceAdd, Int.reduceSub, Int.reduceMul, Int.reduceNeg, Int.reduceBEq, Nat.reduceLT, Nat.reduceEqDiff, hSS, hi, er, hk, t8, c1]
     exact f4
  ·by_cases c2 : k % 8 = 5
   ·obtain ⟨q1, q2, q3⟩ := (PostOK.use (ks := [.x, (.i .i64), (.i .i64), (.i .i64), (.i .i64), .x, (.i .i64), .x, .x, (.i .i64), (.i .i64)]) (os := [.x, (.i .i64), (.i .i64), (.i .i64), (.i .i64), .x, (.i .i64), .x, .x]) (vs := [v15, v16, v17, v18, v19, v20, v21, v22, v23]) ok42.2 rfl rfl ⟨hd15, hd16, hd17, hd18, hd19, hd20, hd21, hd22, hd23, trivial⟩) ⟨rfl, hnow, hbd, hle, hmo, rfl, hqn, rfl, rfl, w5, hbd, trivial⟩ y42
    replace q1 := q1 c hq0
    replace q1 : QW v15 v16 v17 v18 v19 v20 c v21 v22 v23 := q1
    replace q2 : v17 = bd := q2
    replace q3 : v19 <= mo + 4096 * (1 + m % 300) := q3
    obtain ⟨⟨f2, f3⟩, f4, f5, f6⟩ := fin _ _ _ _ _ _ _ _ _ hn16 hn17 hn18 hn19 hn21 q1 q2 (by omega)
    simp (disch := omega) only [ewA, ewL, preC, binI, dvI, shI, cmpB, env, bi, List.headD, List.tail, List.map, Nat.reduceAdd, ewR, ewB, ewM, if_true, if_false, implies_true, forall_const, ne_eq, reduceCtorEq, Int.reduceEq, Int.reduceLT, Int.reduceLE, Int.reduceToNat, Int.reduceAdd, Int.reduceSub, Int.reduceMul, Int.reduceNeg, Int.reduceBEq, Nat.reduceLT, Nat.reduceEqDiff, er, hk, t8, c2] at hd42 hd43 hd44
    obtain ⟨l1, l2, l3, l4, l5⟩ := QW.lens q1 hd42 hd43 hd44
    refine ⟨?_, ?_⟩
    ·simp (disch := omega) only [ob_L12, q_L12_0, q_L12_1, q_L12_2, q_L12_3, q_L12_4, q_L12_5, q_L12_6, q_L12_7, q_L12_8, q_L12_9, q_L12_10, q_L12_11, q_L12_12, q_L12_13, q_L12_14, q_L12_15, q_L12_16, q_L12_17, q_L12_18, q_L12_19, q_L12_20, ewA, ewL, preC, binI, dvI, shI, cmpB, env, bi, List.headD, List.tail, List.map, Nat.reduceAdd, ewR, ewB, ewM, if_true, if_false, implies_true, forall_const, ne_eq, reduceCtorEq, Int.reduceEq, Int.reduceLT, Int.reduceLE, Int.reduceToNat, Int.reduceAdd, Int.reduceSub, Int.reduceMul, Int.reduceNeg, Int.reduceBEq, Nat.reduceLT, Nat.reduceEqDiff, hSS, hi, er, hk, ha, hb, hm, t8, c2, f1, w5, w7, y2, y42, y45, f2, f3, f5, f6]
     exact ⟨by omega, l1⟩
    ·simp (disch := omega) only [es_L12, q_L12_0, q_L12_1, q_L12_2, q_L12_3, q_L12_4, q_L12_5, q_L12_6, q_L12_7, q_L12_8, q_L12_9, q_L12_10, q_L12_11, q_L12_12, q_L12_13, q_L12_14, q_L12_15, q_L12_16, q_L12_17, q_L12_18, q_L12_19, q_L12_20, ewA, ewL, preC, binI, dvI, shI, cmpB, env, bi, List.headD, List.tail, List.map, Nat.reduceAdd, ewR, ewB, ewM, if_true, if_false, implies_true, forall_const, ne_eq, reduceCtorEq, Int.reduceEq, Int.reduceLT, Int.reduceLE, Int.reduceToNat, Int.reduceAdd, Int.reduceSub, Int.reduceMul, Int.reduceNeg, Int.reduceBEq, Nat.reduceLT, Nat.reduceEqDiff, hSS, hi, er, hk, t8, c2]
     exact f4
   ·by_cases c3 : k % 8 = 6
    ·obtain ⟨q1, q2, q3⟩ := hv.take (k := m % 50) (by omega) ⟨hd25, hd26, hd27, hd28, hd29, hd30, hd31, hd32, trivial⟩
     obtain ⟨⟨f2, f3⟩, f4, f5, f6⟩ := fin _ _ _ _ _ _ _ _ _ hn26 hn27 hn28 hn29 hqn q1 q2 (by omega)
     simp (disch := omega) only [ewA, ewL, preC, binI, dvI, shI, cmpB, env, bi, List.headD, List.tail, List.map, Nat.reduceAdd, ewR, ewB, ewM, if_true, if_false, implies_true, forall_const, ne_eq, reduceCtorEq, Int.reduceEq, Int.reduceLT, Int.reduceLE, Int.reduceToNat, Int.reduceAdd, Int.reduceSub, Int.reduceMul, Int.reduceNeg, Int.reduceBEq, Nat.reduceLT, Nat.reduceEqDiff, er, hk, t8, c3] at hd42 hd43 hd44
     obtain ⟨l1, l2, l3, l4, l5⟩ := QW.lens q1 hd42 hd43 hd44
     refine ⟨?_, ?_⟩
     ·simp (disch := omega) only [ob_L12, q_L12_0, q_L12_1, q_L12_2, q_L12_3, q_L12_4, q_L12_5, q_L12_6, q_L12_7, q_L12_8, q_L12_9, q_L12_10, q_L12_11, q_L12_12, q_L12_13, q_L12_14, q_L12_15, q_L12_16, q_L12_17, q_L12_18, q_L12_19, q_L12_20, ewA, ewL, preC, binI, dvI, shI, cmpB, env, bi, List.headD, List.tail, List.map, Nat.reduceAdd, ewR, ewB, ewM, if_true, if_false, implies_true, forall_const, ne_eq, reduceCtorEq, Int.reduceEq, Int.reduceLT, Int.reduceLE, Int.reduceToNat, Int.reduceAdd, Int.reduceSub, Int.reduceMul, Int.reduceNeg, Int.reduceBEq, Nat.reduceLT, Nat.reduceEqDiff, hSS, hi, er, hk, ha, hb, hm, t8, c3, f1, w6, y3, y17, y45, f2, f3, f5, f6]
      exact ⟨by omega, l1⟩
     ·simp (disch := omega) only [es_L12, q_L12_0, q_L12_1, q_L12_2, q_L12_3, q_L12_4, q_L12_5, q_L12_6, q_L12_7, q_L12_8, q_L12_9, q_L12_10, q_L12_11, q_L12_12, q_L12_13, q_L12_14, q_L12_15, q_L12_16, q_L12_17, q_L12_18, q_L12_19, q_L12_20, ewA, ewL, preC, binI, dvI, shI, cmpB, env, bi, List.headD, List.tail, List.map, Nat.reduceAdd, ewR, ewB, ewM, if_true, if_false, implies_true, forall_const, ne_eq, reduceCtorEq, Int.reduceEq, Int.reduceLT, Int.reduceLE, Int.reduceToNat, Int.reduceAdd, Int.reduceSub, Int.reduceMul, Int.reduceNeg, Int.reduceBEq, Nat.reduceLT, Nat.reduceEqDiff, hSS, hi, er, hk, t8, c3]
      exact f4
    ·have c4 : ¬ k % 8 = 4 := fun h => c1 (Or.inl h)
     have c7 : ¬ k % 8 = 7 := fun h => c1 (Or.inr h)
     obtain ⟨q1, q2, q3⟩ := (PostOK.use (ks := [.x, (.i .i64), (.i .i64), (.i .i64), (.i .i64), .x, (.i .i64), (.i .u8), (.i .i64), (.i .i64), (.i .i64), (.i .i64), .x, .x]) (os := [.x, (.i .i64), (.i .i64), (.i .i64), (.i .i64), .x, (.i .i64), .x, .x]) (vs := [v33, v34, v35, v36, v37, v38, v39, v40, v41]) ok26q.2 rfl rfl ⟨hd33, hd34, hd35, hd36, hd37, hd38, hd39, hd40, hd41, trivial⟩) ⟨rfl, hnow, hbd, hle, hmo, rfl, hc, hk, ha, hb, hm, hqn, rfl, rfl, trivial⟩ y26
     replace q1 : QW v33 v34 v35 v36 v37 v38 c v39 v40 v41 := q1
     replace q2 : v35 = bd := q2
     replace q3 : v37 = mo := q3
     obtain ⟨⟨f2, f3⟩, f4, f5, f6⟩ := fin _ _ _ _ _ _ _ _ _ hn34 hn35 hn36 hn37 hn39 q1 q2 (by omega)
     simp (disch := omega) only [ewA, ewL, preC, binI, dvI, shI, cmpB, env, bi, List.headD, List.tail, List.map, Nat.reduceAdd, ewR, ewB, ewM, if_true, if_false, implies_true, forall_const, ne_eq, reduceCtorEq, Int.reduceEq, Int.reduceLT, Int.reduceLE, Int.reduceToNat, Int.reduceAdd, Int.reduceSub, Int.reduceMul, Int.reduceNeg, Int.reduceBEq, Nat.reduceLT, Nat.reduceEqDiff, er, hk, t8, c4, c7, c2, c3] at hd42 hd43 hd44
     obtain ⟨l1, l2, l3, l4, l5⟩ := QW.lens q1 hd42 hd43 hd44
     refine ⟨?_, ?_⟩
     ·simp (disch := omega) only [ob_L12, q_L12_0, q_L12_1, q_L12_2, q_L12_3, q_L12_4, q_L12_5, q_L12_6, q_L12_7, q_L12_8, q_L12_9, q_L12_10, q_L12_11, q_L12_12, q_L12_13, q_L12_14, q_L12_15, q_L12_16, q_L12_17, q_L12_18, q_L12_19, q_L12_20, ewA, ewL, preC, binI, dvI, shI, cmpB, env, bi, List.headD, List.tail, List.map, Nat.reduceAdd, ewR, ewB, ewM, if_true, if_false, implies_true, forall_const, ne_eq, reduceCtorEq, Int.reduceEq, Int.reduceLT, Int.reduceLE, Int.reduceToNat, Int.reduceAdd, Int.reduceSub, Int.reduceMul, Int.reduceNeg, Int.reduceBEq, Nat.reduceLT, Nat.reduceEqDiff, hSS, hi, er, hk, ha, hb, hm, t8, c4, c7, c2, c3, f1, y26, y45, f2, f3, f5, f6]
      exact ⟨by omega, l1⟩
     ·simp (disch := omega) only [es_L12, q_L12_0, q_L12_1, q_L12_2, q_L12_3, q_L12_4, q_L12_5, q_L12_6, q_L12_7, q_L12_8, q_L12_9, q_L12_10, q_L12_11, q_L12_12, q_L12_13, q_L12_14, q_L12_15, q_L12_16, q_L12_17, q_L12_18, q_L12_19, q_L12_20, ewA, ewL, preC, binI, dvI, shI, cmpB, env, bi, List.headD, List.tail, List.map, Nat.reduceAdd, ewR, ewB, ewM, if_true, if_false, implies_true, forall_const, ne_eq, reduceCtorEq, Int.reduceEq, Int.reduceLT, Int.reduceLE, Int.reduceToNat, Int.reduceAdd, Int.reduceSub, Int.reduceMul, Int.reduceNeg, Int.reduceBEq, Nat.reduceLT, Nat.reduceEqDiff, hSS, hi, er, hk, t8, c4, c7, c2, c3]
      exact f4
 ·refine ⟨?_, ?_⟩
  ·simp (disch := omega) only [ob_L12, q_L12_0, q_L12_1, q_L12_2, q_L12_3, q_L12_4, q_L12_5, q_L12_6, q_L12_7, q_L12_8, q_L12_9, q_L12_10, q_L12_11, q_L12_12, q_L12_13, q_L12_14, q_L12_15, q_L12_16, q_L12_17, q_L12_18, q_L12_19, q_L12_20, ewA, ewL, preC, binI, dvI, shI, cmpB, env, bi, List.headD, List.tail, List.map, Nat.reduceAdd, ewR, ewB, ewM, if_true, if_false, implies_true, forall_const, ne_eq, reduceCtorEq, Int.reduceEq, Int.reduceLT, Int.reduceLE, Int.reduceToNat, Int.reduceAdd, Int.reduceSub, Int.reduceMul, Int.reduceNeg, Int.reduceBEq, Nat.reduceLT, Nat.reduceEqDiff, hSS, hi]
  ·simp (disch := omega) only [es_L12, q_L12_0, q_L12_1, q_L12_2, q_L12_3, q_L12_4, q_L12_5, q_L12_6, q_L12_7, q_L12_8, q_L12_9, q_L12_10, q_L12_11, q_L12_12, q_L12_13, q_L12_14, q_L12_15, q_L12_16, q_L12_17, q_L12_18, q_L12_19, q_L12_20, ewA, ewL, preC, binI, dvI, shI, cmpB, env, bi, List.headD, List.tail, List.map, Nat.reduceAdd, ewR, ewB, ewM, if_true, if_false, implies_true, forall_const, ne_eq, reduceCtorEq, Int.reduceEq, Int.reduceLT, Int.reduceLE, Int.reduceToNat, Int.reduceAdd, Int.reduceSub, Int.reduceMul, Int.reduceNeg, Int.reduceBEq, Nat.reduceLT, Nat.reduceEqDiff, hSS, hi]
   exact ⟨hq0, rfl, by show mo <= mo + 1228800 * (n - i); omega⟩
theorem cX12ok : cX12.OK Try.prog G0 := Ctx.OK.addL (c := ⟨[e22, e23, e18, e40, e42], []⟩) (((((Ctx.OK.nil.addF ok42.1 rfl).addF ok40 rfl).addF ok18 rfl).addF ok23 rfl).addF ok22 rfl) okL12.1 rfl
set_option maxHeartbeats 4000000 in
theorem ok12 : EntryOK Try.prog G0 e12 /\ PostOK e12 postN := by
 refine cX12ok.nm.entryH mixed ev_12 (by kernel_rfl) _ rfl fun xs hf hp => ?_
 obtain ⟨l, hl, hF⟩ := ctx_P (l0 := cX12n.l)
 show ∃ ρ : Nat -> Int, _ /\ ob_12.tt cX12n.l.F ρ = true /\ postN xs (es_12.map (E.den cX12n.l.F ρ))
 rw [hl]
 have F18 := FC (k := 100000018) rfl (hF e18.nm (by rfl) (by decide))
 have F22 := FC (k := 100000022) rfl (hF e22.nm (by rfl) (by decide))
 have F23 := FC (k := 100000023) rfl (hF e23.nm (by rfl) (by decide))
 have F42 := FC (k := 100000042) rfl (hF e42.nm (by rfl) (by decide))
 have F540 := FC (k := 100000540) rfl (hF e40.nm (by rfl) (by decide))
 have F9212 := FC (k := 100009212) rfl (hF le12.nm.ent (by rfl) (by decide))
 replace hf : fits [(.i .u8), (.i .u8), (.i .i64), (.i .i64), .x] xs := hf
 obtain ⟨nb, xs0, hx0, hnb, hf0⟩ := fits_cons hf
 obtain ⟨ns, xs1, hx1, hns, hf1⟩ := fits_cons hf0
 obtain ⟨nn, xs2, hx2, hnn, hf2⟩ := fits_cons hf1
 obtain ⟨nc, xs3, hx3, hnc, hf3⟩ := fits_cons hf2
 obtain ⟨A, xs4, hx4, hA, hf4⟩ := fits_cons hf3
 have hxn := fits_nil hf4
 subst hxn hx4 hx3 hx2 hx1 hx0
 simp only [norm_i] at hnb hns hnn hnc
 obtain ⟨ρ, hρ, hd⟩ := solve (F := l.F) 5 defs_12 (by kernel_rfl) [nb, ns, nn, nc, A]
 have hDf := dE_tt (by kernel_rfl) hd
 refine ⟨ρ, hρ, ?_⟩
 have r0 : ρ 0 = nb := hρ 0 (by decide)
 have r1 : ρ 1 = ns := hρ 1 (by decide)
 have r2 : ρ 2 = nn := hρ 2 (by decide)
 have r3 : ρ 3 = nc := hρ 3 (by decide)
 have r4 : ρ 4 = A := hρ 4 (by decide)
 obtain ⟨v1, hv1, hd1, hn1⟩ := nmd hd 0 rfl
 obtain ⟨v2, hv2, hd2, hn2⟩ := nmd hd 1 rfl
 obtain ⟨v3, hv3, hd3, hn3⟩ := nmd hd 2 rfl
 obtain ⟨v4, hv4, hd4, hn4⟩ := nmd hd 3 rfl
 obtain ⟨v5, hv5, hd5, hn5⟩ := nmd hd 4 rfl
 obtain ⟨v6, hv6, hd6, hn6⟩ := nmd hd 5 rfl
 obtain ⟨v7, hv7, hd7, hn7⟩ := nmd hd 6 rfl
 obtain ⟨v8, hv8, hd8, hn8⟩ := nmd hd 7 rfl
 obtain ⟨v9, hv9, hd9, hn9⟩ := nmd hd 8 rfl
 obtain ⟨v10, hv10, hd10, hn10⟩ := nmd hd 9 rfl
 obtain ⟨v11, hv11, hd11, hn11⟩ := nmd hd 10 rfl
 obtain ⟨v12, hv12, hd12, hn12⟩ := nmd hd 11 rfl
 obtain ⟨v13, hv13, hd13, hn13⟩ := nmd hd 12 rfl
 obtain ⟨v14, hv14, hd14, hn14⟩ := nmd hd 13 rfl
 obtain ⟨v15, hv15, hd15, hn15⟩ := nmd hd 14 rfl
 obtain ⟨v16, hv16, hd16, hn16⟩ := nmd hd 15 rfl
 obtain ⟨v17, hv17, hd17, hn17⟩ := nmd hd 16 rfl
 obtain ⟨v18, hv18, hd18, hn18⟩ := nmd hd 17 rfl
 obtain ⟨v19, hv19, hd19, hn19⟩ := nmd hd 18 rfl
 obtain ⟨v20, hv20, hd20, hn20⟩ := nmd hd 19 rfl
 obtain ⟨v21, hv21, hd21, hn21⟩ := nmd hd 20 rfl
 obtain ⟨v22, hv22, hd22, hn22⟩ := nmd hd 21 rfl
 obtain ⟨v23, hv23, hd23, hn23⟩ := nmd hd 22 rfl
 obtain ⟨v24, hv24, hd24, hn24⟩ := nmd hd 23 rfl
 obtain ⟨v25, hv25, hd25, hn25⟩ := nmd hd 24 rfl
 obtain ⟨v26, hv26, hd26, hn26⟩ := nmd hd 25 rfl
 obtain ⟨v27, hv27, hd27, hn27⟩ := nmd hd 26 rfl
 obtain ⟨v28, hv28, hd28, hn28⟩ := nmd hd 27 rfl
 obtain ⟨v29, hv29, hd29, hn29⟩ := nmd hd 28 rfl
 obtain ⟨v30, hv30, hd30, hn30⟩ := nmd hd 29 rfl
 simp only [norm_i] at hn2 hn3 hn4 hn5 hn7 hn8 hn9 hn10 hn14 hn15 hn16 hn17 hn19 hn23 hn24 hn25 hn26 hn28
 simp (disch := omega) only [norm_i, a_12_0, a_12_1, a_12_2, F18, F23, F42, F540, F9212, Ent.nm_fn, r0, hnb, r1, hns, r2, hnn, r3, hnc, r4, hv1, hv2, hn2, hv3, hn3, hv4, hn4, hv5, hn5, hv6, hv7, hn7, hv8, hn8, hv9, hn9, hv10, hn10, hv11, hv12, hv13, hv14, hn14, hv15, hn15, hv16, hn16, hv17, hn17, hv18, hv19, hn19, hv20, hv21, hv22, hv23, hn23, hv24, hn24, hv25, hn25, hv26, hn26, hv27, hv28, hn28, hv29, hv30, ewA, ewL, preC, binI, dvI, shI, cmpB, env, bi, List.headD, List.tail, List.map, Nat.reduceAdd, ewR, ewB, ewM, if_true, if_false, implies_true, forall_const, ne_eq, reduceCtorEq, Int.reduceEq, Int.reduceLT, Int.reduceLE, Int.reduceToNat, Int.reduceAdd, Int.reduceSub, Int.reduceMul, Int.reduceNeg, Int.reduceBEq, Nat.reduceLT, Nat.reduceEqDiff] at hd1 hd2 hd3 hd4 hd5 hd6 hd7 hd8 hd9 hd10 hd11 hd12 hd13 hd14 hd15 hd16 hd17 hd18 hd19 hd20 hd21 hd22 hd23 hd24 hd25 hd26 hd27 hd28 hd29 hd30
 have hSS := And.intro (And.intro (And.intro (And.intro (And.intro (And.intro F18 F22) (And.intro F23 F42)) (And.intro (And.intro F540 F9212) (And.intro r0 hnb))) (And.intro (And.intro (And.intro r1 hns) (And.intro r2 hnn)) (And.intro (And.intro r3 hnc) (And.intro r4 hv1)))) (And.intro (And.intro (And.intro (And.intro hv2 hn2) (And.intro hv3 hn3)) (And.intro (And.intro hv4 hn4) (And.intro hv5 hn5))) (And.intro (And.intro (And.intro hv6 hv7) (And.intro hn7 hv8)) (And.intro (And.intro hn8 hv9) (And.intro hn9 hv10))))) (And.intro (And.intro (And.intro (And.intro (And.intro hn10 hv11) (And.intro hv12 hv13)) (And.intro (And.intro hv14 hn14) (And.intro hv15 hn15))) (And.intro (And.intro (And.intro hv16 hn16) (And.intro hv17 hn17)) (And.intro (And.intro hv18 hv19) (And.intro hn19 hv20)))) (And.intro (And.intro (And.intro (And.intro hv21 hv22) (And.intro hv23 hn23)) (And.intro (And.intro hv24 hn24) (And.intro hv25 hn25))) (And.intro (And.intro (And.intro hv26 hn26) (And.intro hv27 hv28)) (And.intro (And.intro hn28 hv29) (And.intro hv30 hDf)))))
 obtain ⟨p1, p2⟩ := hp
 replace p1 : rowsOK actK (dc A) := p1
 replace p2 : ((dc A).length : Int) <= 9223372036854775807 := p2
 have rs := u8r hns
 have y22 : e22.pre [] := trivial
 have y23 : e23.pre [nb, ns, nn, nc] := trivial
 obtain ⟨q1, q2, q3, q4, q5, q6, q7, q8, q9, q10, q11⟩ := WV.fresh rs.1 ⟨hd1, hd2, hd3, hd4, hd5, hd6, hd7, hd8, trivial⟩
 have y18 : e18.pre [v1, v2, v3, v4, v5, v6] := q1.lenOK []
 obtain rfl : v2 = v9 := (q1.nowV hd9).symm
 have y40 : e40.pre [v2] := ⟨by show 0 <= v2; omega, by show v2 <= _; omega⟩
 have qv := QV.new (qe := 0) q1 ⟨hd10, hd11, hd12, trivial⟩
 have wA : IntKind.i64.wrap (((dc A).length : Nat) : Int) = (((dc A).length : Nat) : Int) := i64w (by omega) (by omega)
 obtain ⟨t, ht⟩ : ∃ t : Nat, (if 30 < (((dc A).length : Nat) : Int) then 30 else (((dc A).length : Nat) : Int)).toNat = t := ⟨_, rfl⟩
 have ht2 : t <= 30 /\ t <= (dc A).length := by rw [<- ht]; split <;> omega
 obtain ⟨A', hA⟩ : ∃ A', A' = cd (List.take t (dc A)) := ⟨_, rfl⟩
 have dA : dc A' = List.take t (dc A) := by rw [hA]; exact dc_cd _
 have lA : (List.take t (dc A)).length = t := by rw [List.length_take]; omega
 have wt : IntKind.i64.wrap ((t : Nat) : Int) = (t : Int) := i64w (by omega) (by omega)
 simp only [wA, ht, <- hA, lA, wt] at hd13 hd14 hd15 hd16 hd17 hd18 hd19 hd20 hd21
 have yp : le12.ent.pre [v1, v2, v3, v4, v5, v6, v7, v8, v10, v11, v12, A', (t : Int), 0] := by
  refine ⟨⟨_, _, qv⟩, q7.trans q3.symm, ?_, ?_, by show v5 + 1228800 * ((t : Int) - 0) <= _; omega, by show (0 : Int) <= 0; decide, by show (0 : Int) <= (t : Int); omega, by show (t : Int) <= 30; omega⟩
  ·show rowsOK actK (dc A')
   rw [dA]; exact fun r hr => p1 r (List.mem_of_mem_take hr)
  ·show (t : Int) = ((dc A').length : Int)
   rw [dA, lA]
 obtain ⟨i1, i2, i3⟩ := (PostOK.use (ks := [.x, (.i .i64), (.i .i64), (.i .i64), (.i .i64), .x, (.i .i64), (.i .i64), (.i .i64), .x, .x, .x, (.i .i64), (.i .i64)]) (os := [.x, (.i .i64), (.i .i64), (.i .i64), (.i .i64), .x, (.i .i64), .x, .x]) (vs := [v13, v14, v15, v16, v17, v18, v19, v20, v21]) okL12.2 rfl rfl ⟨hd13, hd14, hd15, hd16, hd17, hd18, hd19, hd20, hd21, trivial⟩) ⟨rfl, hn2, hn3, hn4, hn5, rfl, hn7, hn8, hn10, rfl, rfl, rfl, wt, rfl, trivial⟩ yp
 replace i2 : v15 = v3 := i2
 replace i3 : v17 <= v5 + 1228800 * ((t : Int) - 0) := i3
 have y42 : e42.pre [v13, v14, v15, v16, v17, v18, v19, v20, v21, 600, v8] := ⟨⟨v7, i1⟩, (q7.trans q3.symm).trans i2.symm, by show (0 : Int) <= 600; decide, by show (600 : Int) <= 1000; decide, by show v17 + 4096 * 600 <= _; omega⟩
 refine ⟨?_, trivial⟩
 simp (disch := omega) only [ob_12, q_12_0, q_12_1, ewA, ewL, preC, binI, dvI, shI, cmpB, env, bi, List.headD, List.tail, List.map, Nat.reduceAdd, ewR, ewB, ewM, if_true, if_false, implies_true, forall_const, ne_eq, reduceCtorEq, Int.reduceEq, Int.reduceLT, Int.reduceLE, Int.reduceToNat, Int.reduceAdd, Int.reduceSub, Int.reduceMul, Int.reduceNeg, Int.reduceBEq, Nat.reduceLT, Nat.reduceEqDiff, hSS, wA, ht, <- hA, dA, lA, wt]
 repeat' (first | (with_reducible apply And.intro) | (with_reducible intro _))
 all_goals first | with_reducible assumption | trivial | omega | (split <;> omega)
end
end Go.Proofs.Ytfhheeoejncfgaa.Ew
