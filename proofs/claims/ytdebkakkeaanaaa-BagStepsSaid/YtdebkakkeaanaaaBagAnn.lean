/- What the machine does with each piece of code, in plain text. PRINTED by a program of this workplace; Lean checks it. -/
import Derived.Test.YtdebkakkeaanaaaA27
namespace Go.Proofs.Ytdebkakkeaanaaa
open Go.AM
set_option maxRecDepth 100000
set_option linter.unusedVariables false
def ann8 : Ann := Ann.m (0 : Nat) Ann.o (Ann.m (1 : Nat) Ann.o (Ann.m (1 : Nat) Ann.o Ann.o))
def ann10 : Ann := Ann.m (9 : Nat) Ann.o
  (Ann.m (9 : Nat)
    (Ann.m (9 : Nat)
      (Ann.m (41 : Nat) Ann.o
        (Ann.m (9 : Nat) (Ann.m (16 : Nat) Ann.o (Ann.m (16 : Nat) Ann.o Ann.o))
          (Ann.m (2097161 : Nat) Ann.o
            (Ann.m (9 : Nat) (Ann.m (16 : Nat) Ann.o (Ann.m (16 : Nat) Ann.o Ann.o))
              (Ann.m (67108873 : Nat) Ann.o
                (Ann.m (9 : Nat) (Ann.m (16 : Nat) Ann.o (Ann.m (16 : Nat) Ann.o Ann.o))
                  (Ann.m (536870921 : Nat) Ann.o
                    (Ann.m (9 : Nat) (Ann.m (0 : Nat) Ann.o (Ann.m (16 : Nat) Ann.o (Ann.m (16 : Nat) Ann.o Ann.o))) Ann.o))))))))
      Ann.o)
    (Ann.m (0 : Nat) Ann.o (Ann.m (16 : Nat) Ann.o (Ann.m (16 : Nat) Ann.o Ann.o))))
def ann11 : Ann := Ann.m (19 : Nat) Ann.o
  (Ann.m (211 : Nat) Ann.o
    (Ann.m (208 : Nat) (Ann.m (65747 : Nat) Ann.o (Ann.m (208 : Nat) (Ann.m (465 : Nat) Ann.o (Ann.m (465 : Nat) Ann.o Ann.o)) Ann.o))
      (Ann.m (48 : Nat) Ann.o (Ann.m (48 : Nat) Ann.o Ann.o))))
def ann12 : Ann := Ann.m (19 : Nat) Ann.o
  (Ann.m (19 : Nat) (Ann.m (8211 : Nat) Ann.o (Ann.m (19 : Nat) (Ann.m (48 : Nat) Ann.o (Ann.m (48 : Nat) Ann.o Ann.o)) Ann.o))
    (Ann.m (48 : Nat) Ann.o (Ann.m (48 : Nat) Ann.o Ann.o)))
def ann13 : Ann := Ann.m (1 : Nat) Ann.o
  (Ann.m (1 : Nat) (Ann.m (17 : Nat) Ann.o (Ann.m (1 : Nat) (Ann.m (4 : Nat) Ann.o (Ann.m (4 : Nat) Ann.o Ann.o)) Ann.o))
    (Ann.m (4 : Nat) Ann.o (Ann.m (4 : Nat) Ann.o Ann.o)))
def ann14 : Ann := Ann.m (3 : Nat) Ann.o
  (Ann.m (97 : Nat) Ann.o
    (Ann.m (33 : Nat) (Ann.m (16481 : Nat) Ann.o (Ann.m (33 : Nat) (Ann.m (16 : Nat) Ann.o (Ann.m (16 : Nat) Ann.o Ann.o)) Ann.o))
      (Ann.m (16 : Nat) Ann.o (Ann.m (16 : Nat) Ann.o Ann.o))))
def ann15 : Ann := Ann.m (1 : Nat) Ann.o
  (Ann.m (1 : Nat) (Ann.m (17 : Nat) Ann.o (Ann.m (1 : Nat) (Ann.m (4 : Nat) Ann.o (Ann.m (4 : Nat) Ann.o Ann.o)) Ann.o))
    (Ann.m (4 : Nat) Ann.o (Ann.m (4 : Nat) Ann.o Ann.o)))
def ann21 : Ann := Ann.m (1 : Nat) Ann.o (Ann.m (4 : Nat) Ann.o (Ann.m (4 : Nat) Ann.o Ann.o))
def ann16 : Ann := Ann.m (7 : Nat) Ann.o
  (Ann.m (135 : Nat) Ann.o
    (Ann.m (128 : Nat)
      (Ann.m (6279 : Nat) Ann.o
        (Ann.m (128 : Nat)
          (Ann.m (6279 : Nat)
            (Ann.m (14471 : Nat) Ann.o
              (Ann.m (6279 : Nat) (Ann.m (6279 : Nat) Ann.o (Ann.m (128 : Nat) Ann.o Ann.o))
                (Ann.m (6279 : Nat)
                  (Ann.m (6279 : Nat)
                    (Ann.m (6535 : Nat) Ann.o (Ann.m (7047 : Nat) Ann.o (Ann.m (2147490183 : Nat) Ann.o (Ann.m (6279 : Nat) Ann.o Ann.o)))) Ann.o)
                  Ann.o)))
            Ann.o)
          Ann.o))
      (Ann.m (64 : Nat) Ann.o (Ann.m (64 : Nat) Ann.o Ann.o))))
def ann20 : Ann := Ann.m (3 : Nat) Ann.o
  (Ann.m (35 : Nat) Ann.o
    (Ann.m (32 : Nat)
      (Ann.m (803 : Nat) Ann.o
        (Ann.m (32 : Nat)
          (Ann.m (803 : Nat)
            (Ann.m (1827 : Nat) Ann.o
              (Ann.m (803 : Nat) (Ann.m (803 : Nat) Ann.o (Ann.m (32 : Nat) Ann.o Ann.o))
                (Ann.m (803 : Nat) (Ann.m (803 : Nat) (Ann.m (867 : Nat) Ann.o (Ann.m (2097955 : Nat) Ann.o (Ann.m (803 : Nat) Ann.o Ann.o))) Ann.o)
                  Ann.o)))
            Ann.o)
          Ann.o))
      (Ann.m (16 : Nat) Ann.o (Ann.m (16 : Nat) Ann.o Ann.o))))
def ann9 : Ann := Ann.m (0 : Nat) Ann.o
  (Ann.m (2 : Nat) Ann.o
    (Ann.m (6 : Nat) Ann.o
      (Ann.m (14 : Nat) Ann.o
        (Ann.m (30 : Nat) Ann.o
          (Ann.m (126 : Nat) Ann.o (Ann.m (254 : Nat) Ann.o (Ann.m (1022 : Nat) Ann.o (Ann.m (1 : Nat) Ann.o (Ann.m (1 : Nat) Ann.o Ann.o)))))))))
def ann4 : Ann := Ann.m (1 : Nat) Ann.o
  (Ann.m (1 : Nat) (Ann.m (2049 : Nat) Ann.o (Ann.m (1 : Nat) (Ann.m (4 : Nat) Ann.o (Ann.m (4 : Nat) Ann.o Ann.o)) Ann.o))
    (Ann.m (9 : Nat) Ann.o
      (Ann.m (9 : Nat) (Ann.m (32777 : Nat) Ann.o (Ann.m (9 : Nat) (Ann.m (4 : Nat) Ann.o (Ann.m (4 : Nat) Ann.o Ann.o)) Ann.o))
        (Ann.m (9 : Nat)
          (Ann.m (25 : Nat) Ann.o
            (Ann.m (9 : Nat)
              (Ann.m (25 : Nat)
                (Ann.m (25 : Nat) (Ann.m (131097 : Nat) Ann.o (Ann.m (25 : Nat) Ann.o (Ann.m (9 : Nat) Ann.o Ann.o)))
                  (Ann.m (25 : Nat)
                    (Ann.m (25 : Nat) (Ann.m (33554457 : Nat) Ann.o (Ann.m (25 : Nat) (Ann.m (4 : Nat) Ann.o (Ann.m (4 : Nat) Ann.o Ann.o)) Ann.o))
                      Ann.o)
                    Ann.o))
                Ann.o)
              Ann.o))
          (Ann.m (9 : Nat)
            (Ann.m (41 : Nat) Ann.o
              (Ann.m (9 : Nat)
                (Ann.m (41 : Nat)
                  (Ann.m (41 : Nat) (Ann.m (268435497 : Nat) Ann.o (Ann.m (41 : Nat) Ann.o (Ann.m (9 : Nat) Ann.o Ann.o)))
                    (Ann.m (41 : Nat)
                      (Ann.m (41 : Nat)
                        (Ann.m (17179869225 : Nat) Ann.o (Ann.m (41 : Nat) (Ann.m (4 : Nat) Ann.o (Ann.m (4 : Nat) Ann.o Ann.o)) Ann.o)) Ann.o)
                      Ann.o))
                  Ann.o)
                Ann.o))
            (Ann.m (4 : Nat) Ann.o (Ann.m (4 : Nat) Ann.o Ann.o)))))))
def ann3 : Ann := Ann.m (3 : Nat) Ann.o
  (Ann.m (35 : Nat) Ann.o
    (Ann.m (35 : Nat) (Ann.m (4294967331 : Nat) Ann.o (Ann.m (35 : Nat) (Ann.m (16 : Nat) Ann.o (Ann.m (16 : Nat) Ann.o Ann.o)) Ann.o))
      (Ann.m (99 : Nat) Ann.o
        (Ann.m (98 : Nat)
          (Ann.m (1924145348706 : Nat) Ann.o
            (Ann.m (98 : Nat)
              (Ann.m (1924145348706 : Nat)
                (Ann.m (4123168604258 : Nat) Ann.o
                  (Ann.m (1924145348706 : Nat) (Ann.m (1924145348706 : Nat) Ann.o (Ann.m (98 : Nat) Ann.o Ann.o))
                    (Ann.m (1924145348706 : Nat)
                      (Ann.m (1924145348706 : Nat)
                        (Ann.m (1924145348962 : Nat) Ann.o (Ann.m (283399122059618 : Nat) Ann.o (Ann.m (1924145348706 : Nat) Ann.o Ann.o))) Ann.o)
                      Ann.o)))
                Ann.o)
              Ann.o))
          (Ann.m (96 : Nat)
            (Ann.m (126100789566373984 : Nat) Ann.o
              (Ann.m (96 : Nat)
                (Ann.m (126100789566373984 : Nat)
                  (Ann.m (270215977642229856 : Nat) Ann.o
                    (Ann.m (126100789566373984 : Nat) (Ann.m (126100789566373984 : Nat) Ann.o (Ann.m (96 : Nat) Ann.o Ann.o))
                      (Ann.m (126100789566373984 : Nat)
                        (Ann.m (126100789566373984 : Nat)
                          (Ann.m (126100789566375008 : Nat) Ann.o
                            (Ann.m (126100789566381152 : Nat) Ann.o
                              (Ann.m (126100789566381152 : Nat)
                                (Ann.m (75557989826703889800288 : Nat) Ann.o
                                  (Ann.m (126100789566381152 : Nat) (Ann.m (16 : Nat) Ann.o (Ann.m (16 : Nat) Ann.o Ann.o)) Ann.o))
                                (Ann.m (126100789566377056 : Nat)
                                  (Ann.m (302231581004446860053600 : Nat) Ann.o
                                    (Ann.m (126100789566377056 : Nat) (Ann.m (126100789566373984 : Nat) Ann.o Ann.o) Ann.o))
                                  (Ann.m (126100789566375008 : Nat)
                                    (Ann.m (38685626353768923156972640 : Nat) Ann.o
                                      (Ann.m (126100789566375008 : Nat) (Ann.m (16 : Nat) Ann.o (Ann.m (16 : Nat) Ann.o Ann.o)) Ann.o))
                                    (Ann.m (126100789566383200 : Nat) Ann.o
                                      (Ann.m (126100789566382112 : Nat)
                                        (Ann.m (541598767313454659834749984 : Nat) Ann.o
                                          (Ann.m (126100789566382112 : Nat)
                                            (Ann.m (541598767313454659834749984 : Nat)
                                              (Ann.m (1160568786956144797284312096 : Nat) Ann.o
                                                (Ann.m (541598767313454659834749984 : Nat)
                                                  (Ann.m (541598767313454659834749984 : Nat) Ann.o (Ann.m (126100789566382112 : Nat) Ann.o Ann.o))
                                                  (Ann.m (541598767313454659834749984 : Nat)
                                                    (Ann.m (541598767313454659834749984 : Nat)
                                                      (Ann.m (541598767313454659834799136 : Nat) Ann.o
                                                        (Ann.m (40155680024445623456606757920 : Nat) Ann.o
                                                          (Ann.m (541598767313454659834749984 : Nat) Ann.o Ann.o)))
                                                      Ann.o)
                                                    Ann.o)))
                                              Ann.o)
                                            Ann.o))
                                        Ann.o)))))))
                          Ann.o)
                        Ann.o)))
                  Ann.o)
                Ann.o))
            (Ann.m (96 : Nat)
              (Ann.m (70988433612780846483815379501152 : Nat) Ann.o
                (Ann.m (96 : Nat)
                  (Ann.m (70988433612780846483815379501152 : Nat)
                    (Ann.m (152118072027387528179604384645216 : Nat) Ann.o
                      (Ann.m (70988433612780846483815379501152 : Nat)
                        (Ann.m (70988433612780846483815379501152 : Nat) Ann.o (Ann.m (96 : Nat) Ann.o Ann.o))
                        (Ann.m (70988433612780846483815379501152 : Nat)
                          (Ann.m (70988433612780846483815379501152 : Nat)
                            (Ann.m (70988433612780846483815379697760 : Nat) Ann.o
                              (Ann.m (70988433612780846483815380418656 : Nat) Ann.o
                                (Ann.m (10633894954712939764076940297622257760 : Nat) Ann.o
                                  (Ann.m (70988433612780846483815379501152 : Nat) (Ann.m (16 : Nat) Ann.o (Ann.m (16 : Nat) Ann.o Ann.o)) Ann.o))))
                            Ann.o)
                          Ann.o)))
                    Ann.o)
                  Ann.o))
              (Ann.m (16 : Nat) Ann.o (Ann.m (16 : Nat) Ann.o Ann.o))))))))
def ann5 : Ann := Ann.m (7 : Nat) Ann.o
  (Ann.m (135 : Nat) Ann.o
    (Ann.m (135 : Nat) (Ann.m (8388743 : Nat) Ann.o (Ann.m (135 : Nat) (Ann.m (64 : Nat) Ann.o (Ann.m (64 : Nat) Ann.o Ann.o)) Ann.o))
      (Ann.m (391 : Nat) Ann.o
        (Ann.m (387 : Nat)
          (Ann.m (3758096771 : Nat) Ann.o
            (Ann.m (387 : Nat)
              (Ann.m (3758096771 : Nat)
                (Ann.m (8053064067 : Nat) Ann.o
                  (Ann.m (3758096771 : Nat) (Ann.m (3758096771 : Nat) Ann.o (Ann.m (387 : Nat) Ann.o Ann.o))
                    (Ann.m (3758096771 : Nat)
                      (Ann.m (3758096771 : Nat)
                        (Ann.m (3758097795 : Nat) Ann.o (Ann.m (9007203012838787 : Nat) Ann.o (Ann.m (3758096771 : Nat) Ann.o Ann.o))) Ann.o)
                      Ann.o)))
                Ann.o)
              Ann.o))
          (Ann.m (131 : Nat)
            (Ann.m (16140901064495857795 : Nat) Ann.o
              (Ann.m (131 : Nat)
                (Ann.m (16140901064495857795 : Nat)
                  (Ann.m (34587645138205409411 : Nat) Ann.o
                    (Ann.m (16140901064495857795 : Nat) (Ann.m (16140901064495857795 : Nat) Ann.o (Ann.m (131 : Nat) Ann.o Ann.o))
                      (Ann.m (16140901064495857795 : Nat)
                        (Ann.m (16140901064495857795 : Nat)
                          (Ann.m (16140901064495861891 : Nat) Ann.o
                            (Ann.m (16140901064495870083 : Nat) Ann.o
                              (Ann.m (16140901064495870083 : Nat)
                                (Ann.m (9460873866803786297475 : Nat) Ann.o
                                  (Ann.m (16140901064495870083 : Nat) (Ann.m (64 : Nat) Ann.o (Ann.m (64 : Nat) Ann.o Ann.o)) Ann.o))
                                (Ann.m (16140901064495911043 : Nat) Ann.o
                                  (Ann.m (2535301200472599704057902268547 : Nat) Ann.o
                                    (Ann.m (16140901064495857795 : Nat) (Ann.m (64 : Nat) Ann.o (Ann.m (64 : Nat) Ann.o Ann.o)) Ann.o))))))
                          Ann.o)
                        Ann.o)))
                  Ann.o)
                Ann.o))
            (Ann.m (64 : Nat) Ann.o (Ann.m (64 : Nat) Ann.o Ann.o)))))))
def ann6 : Ann := Ann.m (3 : Nat) Ann.o
  (Ann.m (35 : Nat) Ann.o
    (Ann.m (35 : Nat) (Ann.m (33554467 : Nat) Ann.o (Ann.m (35 : Nat) (Ann.m (16 : Nat) Ann.o (Ann.m (16 : Nat) Ann.o Ann.o)) Ann.o))
      (Ann.m (99 : Nat) Ann.o
        (Ann.m (0 : Nat)
          (Ann.m (60129542242 : Nat) Ann.o
            (Ann.m (0 : Nat)
              (Ann.m (60129542242 : Nat)
                (Ann.m (128849018978 : Nat) Ann.o
                  (Ann.m (60129542242 : Nat) (Ann.m (60129542242 : Nat) Ann.o (Ann.m (0 : Nat) Ann.o Ann.o))
                    (Ann.m (60129542242 : Nat)
                      (Ann.m (60129542242 : Nat)
                        (Ann.m (60129542498 : Nat) Ann.o
                          (Ann.m (60129542498 : Nat)
                            (Ann.m (8856222564706 : Nat) Ann.o
                              (Ann.m (60129542498 : Nat) (Ann.m (16 : Nat) Ann.o (Ann.m (16 : Nat) Ann.o Ann.o)) Ann.o))
                            (Ann.m (60129544034 : Nat) Ann.o
                              (Ann.m (60129550178 : Nat) Ann.o
                                (Ann.m (60129558370 : Nat) Ann.o
                                  (Ann.m (60129574754 : Nat) Ann.o
                                    (Ann.m (60129607522 : Nat) Ann.o
                                      (Ann.m (60129607266 : Nat)
                                        (Ann.m (4132070672571069169506 : Nat) Ann.o
                                          (Ann.m (60129607266 : Nat)
                                            (Ann.m (4132070672571069169506 : Nat)
                                              (Ann.m (8854437155440714383202 : Nat) Ann.o
                                                (Ann.m (4132070672571069169506 : Nat)
                                                  (Ann.m (4132070672571069169506 : Nat) Ann.o (Ann.m (60129607266 : Nat) Ann.o Ann.o))
                                                  (Ann.m (4132070672571069169506 : Nat)
                                                    (Ann.m (4132070672571069169506 : Nat)
                                                      (Ann.m (4132070672571069366114 : Nat) Ann.o
                                                        (Ann.m (4132070672571069366114 : Nat)
                                                          (Ann.m (608594980479885656719202 : Nat) Ann.o
                                                            (Ann.m (4132070672571069366114 : Nat) Ann.o Ann.o))
                                                          (Ann.m (39614085389202841367841210210 : Nat) Ann.o
                                                            (Ann.m (4132070672571069169506 : Nat)
                                                              (Ann.m (4132070672571069169506 : Nat)
                                                                (Ann.m (162259276833345434064149079457634 : Nat) Ann.o
                                                                  (Ann.m (4132070672571069169506 : Nat)
                                                                    (Ann.m (16 : Nat) Ann.o (Ann.m (16 : Nat) Ann.o Ann.o)) Ann.o))
                                                                Ann.o)
                                                              Ann.o))))
                                                      Ann.o)
                                                    Ann.o)))
                                              Ann.o)
                                            Ann.o))
                                        (Ann.m (2854495385411919762116571938898990332895035490 : Nat) Ann.o
                                          (Ann.m (60129542242 : Nat) (Ann.m (16 : Nat) Ann.o (Ann.m (16 : Nat) Ann.o Ann.o)) Ann.o))))))))))
                        Ann.o)
                      Ann.o)))
                Ann.o)
              Ann.o))
          (Ann.m (16 : Nat) Ann.o (Ann.m (16 : Nat) Ann.o Ann.o))))))
def ann17 : Ann := Ann.m (35 : Nat) Ann.o
  (Ann.m (0 : Nat)
    (Ann.m (16419 : Nat) Ann.o
      (Ann.m (0 : Nat)
        (Ann.m (49187 : Nat) (Ann.m (49187 : Nat) Ann.o (Ann.m (49187 : Nat) Ann.o Ann.o))
          (Ann.m (0 : Nat) (Ann.m (64 : Nat) Ann.o (Ann.m (64 : Nat) Ann.o Ann.o))
            (Ann.m (268451875 : Nat) Ann.o
              (Ann.m (0 : Nat) (Ann.m (418 : Nat) Ann.o (Ann.m (1920 : Nat) Ann.o (Ann.m (64 : Nat) Ann.o (Ann.m (64 : Nat) Ann.o Ann.o))))
                (Ann.m (9007199254741027 : Nat) Ann.o
                  (Ann.m (0 : Nat)
                    (Ann.m (6179 : Nat) Ann.o
                      (Ann.m (4129 : Nat) (Ann.m (9223372036854781987 : Nat) Ann.o (Ann.m (4129 : Nat) Ann.o Ann.o))
                        (Ann.m (64 : Nat) Ann.o (Ann.m (64 : Nat) Ann.o Ann.o))))
                    Ann.o))))))
        Ann.o))
    (Ann.m (64 : Nat) Ann.o (Ann.m (64 : Nat) Ann.o Ann.o)))
def ann18 : Ann := Ann.m (19 : Nat) Ann.o
  (Ann.m (19 : Nat) (Ann.m (65555 : Nat) Ann.o (Ann.m (19 : Nat) (Ann.m (48 : Nat) Ann.o (Ann.m (48 : Nat) Ann.o Ann.o)) Ann.o))
    (Ann.m (48 : Nat) Ann.o (Ann.m (48 : Nat) Ann.o Ann.o)))
def ann19 : Ann := Ann.m (6 : Nat) Ann.o (Ann.m (4 : Nat) Ann.o (Ann.m (4 : Nat) Ann.o Ann.o))
def ann22 : Ann := Ann.m (9 : Nat) Ann.o
  (Ann.m (9 : Nat) (Ann.m (134217737 : Nat) Ann.o (Ann.m (9 : Nat) (Ann.m (16 : Nat) Ann.o (Ann.m (16 : Nat) Ann.o Ann.o)) Ann.o))
    (Ann.m (9 : Nat) (Ann.m (2147483657 : Nat) Ann.o (Ann.m (9 : Nat) (Ann.m (16 : Nat) Ann.o (Ann.m (16 : Nat) Ann.o Ann.o)) Ann.o))
      (Ann.m (9 : Nat)
        (Ann.m (137438953481 : Nat) Ann.o (Ann.m (9 : Nat) (Ann.m (0 : Nat) Ann.o (Ann.m (16 : Nat) Ann.o (Ann.m (16 : Nat) Ann.o Ann.o))) Ann.o))
        (Ann.m (0 : Nat) Ann.o (Ann.m (16 : Nat) Ann.o (Ann.m (16 : Nat) Ann.o Ann.o))))))
def ann23 : Ann := Ann.m (19 : Nat) Ann.o
  (Ann.m (211 : Nat) Ann.o
    (Ann.m (83 : Nat) (Ann.m (262355 : Nat) Ann.o (Ann.m (83 : Nat) (Ann.m (48 : Nat) Ann.o (Ann.m (48 : Nat) Ann.o Ann.o)) Ann.o))
      (Ann.m (339 : Nat) Ann.o
        (Ann.m (337 : Nat)
          (Ann.m (117440851 : Nat) Ann.o
            (Ann.m (337 : Nat)
              (Ann.m (117440851 : Nat)
                (Ann.m (251658579 : Nat) Ann.o
                  (Ann.m (117440851 : Nat) (Ann.m (117440851 : Nat) Ann.o (Ann.m (337 : Nat) Ann.o Ann.o))
                    (Ann.m (117440851 : Nat)
                      (Ann.m (117440851 : Nat) (Ann.m (117442387 : Nat) Ann.o (Ann.m (8707376467 : Nat) Ann.o (Ann.m (117440851 : Nat) Ann.o Ann.o)))
                        Ann.o)
                      Ann.o)))
                Ann.o)
              Ann.o))
          (Ann.m (80 : Nat) Ann.o (Ann.m (48 : Nat) Ann.o (Ann.m (48 : Nat) Ann.o Ann.o)))))))
def ann : FuncId → Ann
  | 8 => ann8
  | 10 => ann10
  | 11 => ann11
  | 12 => ann12
  | 13 => ann13
  | 14 => ann14
  | 15 => ann15
  | 21 => ann21
  | 16 => ann16
  | 20 => ann20
  | 9 => ann9
  | 4 => ann4
  | 3 => ann3
  | 5 => ann5
  | 6 => ann6
  | 17 => ann17
  | 18 => ann18
  | 19 => ann19
  | 22 => ann22
  | 23 => ann23
  | _ => .o
end Go.Proofs.Ytdebkakkeaanaaa
