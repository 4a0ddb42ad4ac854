/- What the machine does with each piece of code, in plain text. PRINTED by a program of this workplace; Lean checks it. -/
import Derived.Test.YtciibgjmdgpgnaaA27
namespace Go.Proofs.Ytciibgjmdgpgnaa
open Go.AM
set_option maxRecDepth 100000
set_option linter.unusedVariables false
def ann7 : Ann := Ann.m (0 : Nat) Ann.o (Ann.m (1 : Nat) Ann.o (Ann.m (1 : Nat) Ann.o Ann.o))
def ann12 : Ann := Ann.m (1 : Nat) Ann.o
  (Ann.m (1 : Nat) (Ann.m (17 : Nat) Ann.o (Ann.m (1 : Nat) (Ann.m (4 : Nat) Ann.o (Ann.m (4 : Nat) Ann.o Ann.o)) Ann.o))
    (Ann.m (4 : Nat) Ann.o (Ann.m (4 : Nat) Ann.o Ann.o)))
def ann20 : Ann := Ann.m (1 : Nat) Ann.o (Ann.m (4 : Nat) Ann.o (Ann.m (4 : Nat) Ann.o Ann.o))
def ann22 : Ann := Ann.m (3 : Nat) Ann.o (Ann.m (16 : Nat) Ann.o (Ann.m (16 : Nat) Ann.o Ann.o))
def ann11 : Ann := Ann.m (3 : Nat) Ann.o
  (Ann.m (3 : Nat) (Ann.m (515 : Nat) Ann.o (Ann.m (3 : Nat) (Ann.m (48 : Nat) Ann.o (Ann.m (48 : Nat) Ann.o Ann.o)) Ann.o))
    (Ann.m (48 : Nat) Ann.o (Ann.m (48 : Nat) Ann.o Ann.o)))
def ann14 : Ann := Ann.m (3 : Nat) Ann.o
  (Ann.m (3 : Nat) (Ann.m (259 : Nat) Ann.o (Ann.m (3 : Nat) (Ann.m (48 : Nat) Ann.o (Ann.m (48 : Nat) Ann.o Ann.o)) Ann.o))
    (Ann.m (3 : Nat) (Ann.m (4099 : Nat) Ann.o (Ann.m (3 : Nat) (Ann.m (48 : Nat) Ann.o (Ann.m (48 : Nat) Ann.o Ann.o)) Ann.o))
      (Ann.m (0 : Nat) Ann.o (Ann.m (48 : Nat) Ann.o (Ann.m (48 : Nat) Ann.o Ann.o)))))
def ann9 : Ann := Ann.m (7 : Nat) Ann.o
  (Ann.m (7 : Nat)
    (Ann.m (7 : Nat)
      (Ann.m (135 : Nat) Ann.o
        (Ann.m (7 : Nat) (Ann.m (64 : Nat) Ann.o (Ann.m (64 : Nat) Ann.o Ann.o))
          (Ann.m (524295 : Nat) Ann.o (Ann.m (7 : Nat) (Ann.m (64 : Nat) Ann.o (Ann.m (64 : Nat) Ann.o Ann.o)) Ann.o))))
      Ann.o)
    (Ann.m (7 : Nat) Ann.o (Ann.m (3 : Nat) Ann.o (Ann.m (0 : Nat) Ann.o (Ann.m (64 : Nat) Ann.o (Ann.m (64 : Nat) Ann.o Ann.o))))))
def ann10 : Ann := Ann.m (3 : Nat) Ann.o
  (Ann.m (3 : Nat)
    (Ann.m (3 : Nat)
      (Ann.m (131 : Nat) Ann.o
        (Ann.m (3 : Nat) (Ann.m (48 : Nat) Ann.o (Ann.m (48 : Nat) Ann.o Ann.o))
          (Ann.m (2051 : Nat) Ann.o (Ann.m (3 : Nat) (Ann.m (48 : Nat) Ann.o (Ann.m (48 : Nat) Ann.o Ann.o)) Ann.o))))
      Ann.o)
    (Ann.m (67 : Nat) Ann.o (Ann.m (48 : Nat) Ann.o (Ann.m (48 : Nat) Ann.o Ann.o))))
def ann21 : Ann := Ann.m (1 : Nat) Ann.o Ann.o
def ann24 : Ann := Ann.m (1 : Nat) Ann.o (Ann.m (9 : Nat) Ann.o (Ann.m (9 : Nat) Ann.o (Ann.m (1 : Nat) Ann.o (Ann.m (4 : Nat) Ann.o (Ann.m (4 : Nat) Ann.o Ann.o)))))
def ann29 : Ann := Ann.m (0 : Nat)
  (Ann.m (3 : Nat)
    (Ann.m (3 : Nat)
      (Ann.m (19 : Nat) Ann.o
        (Ann.m (19 : Nat) (Ann.m (131091 : Nat) Ann.o (Ann.m (19 : Nat) (Ann.m (0 : Nat) Ann.o Ann.o) Ann.o)) (Ann.m (17 : Nat) Ann.o Ann.o)))
      Ann.o)
    Ann.o)
  Ann.o
def ann30 : Ann := Ann.m (7 : Nat) Ann.o
  (Ann.m (135 : Nat) Ann.o
    (Ann.m (130 : Nat)
      (Ann.m (130 : Nat)
        (Ann.m (135 : Nat)
          (Ann.m (135 : Nat)
            (Ann.m (391 : Nat) Ann.o
              (Ann.m (391 : Nat) (Ann.m (2097543 : Nat) Ann.o (Ann.m (391 : Nat) (Ann.m (130 : Nat) Ann.o Ann.o) Ann.o))
                (Ann.m (903 : Nat) Ann.o
                  (Ann.m (647 : Nat) (Ann.m (1927 : Nat) Ann.o (Ann.m (8589936263 : Nat) Ann.o (Ann.m (647 : Nat) Ann.o Ann.o)))
                    (Ann.m (647 : Nat) (Ann.m (549755814535 : Nat) Ann.o (Ann.m (647 : Nat) (Ann.m (130 : Nat) Ann.o Ann.o) Ann.o))
                      (Ann.m (519 : Nat) Ann.o Ann.o))))))
            Ann.o)
          Ann.o)
        Ann.o)
      (Ann.m (64 : Nat) Ann.o (Ann.m (64 : Nat) Ann.o Ann.o))))
def ann49 : Ann := Ann.m (1 : Nat) Ann.o (Ann.m (4 : Nat) Ann.o (Ann.m (4 : Nat) Ann.o Ann.o))
def ann50 : Ann := Ann.m (7 : Nat) Ann.o
  (Ann.m (7 : Nat) (Ann.m (131079 : Nat) Ann.o (Ann.m (7 : Nat) (Ann.m (64 : Nat) Ann.o (Ann.m (64 : Nat) Ann.o Ann.o)) Ann.o))
    (Ann.m (64 : Nat) Ann.o (Ann.m (64 : Nat) Ann.o Ann.o)))
def ann51 : Ann := Ann.o
def ann52 : Ann := Ann.m (1 : Nat) Ann.o (Ann.m (9 : Nat) Ann.o (Ann.m (25 : Nat) Ann.o (Ann.m (16 : Nat) Ann.o (Ann.m (4 : Nat) Ann.o (Ann.m (4 : Nat) Ann.o Ann.o)))))
def ann53 : Ann := Ann.o
def ann13 : Ann := Ann.m (3 : Nat) Ann.o
  (Ann.m (3 : Nat)
    (Ann.m (3 : Nat)
      (Ann.m (259 : Nat) Ann.o
        (Ann.m (3 : Nat) (Ann.m (48 : Nat) Ann.o (Ann.m (48 : Nat) Ann.o Ann.o))
          (Ann.m (32771 : Nat) Ann.o
            (Ann.m (3 : Nat) (Ann.m (48 : Nat) Ann.o (Ann.m (48 : Nat) Ann.o Ann.o))
              (Ann.m (262147 : Nat) Ann.o (Ann.m (3 : Nat) (Ann.m (48 : Nat) Ann.o (Ann.m (48 : Nat) Ann.o Ann.o)) Ann.o))))))
      Ann.o)
    (Ann.m (1 : Nat) Ann.o
      (Ann.m (65 : Nat) Ann.o
        (Ann.m (64 : Nat)
          (Ann.m (64 : Nat)
            (Ann.m (65 : Nat)
              (Ann.m (65 : Nat) (Ann.m (562949953421377 : Nat) Ann.o (Ann.m (65 : Nat) Ann.o (Ann.m (64 : Nat) Ann.o Ann.o)))
                (Ann.m (65 : Nat) (Ann.m (193 : Nat) Ann.o (Ann.m (193 : Nat) Ann.o Ann.o)) Ann.o))
              Ann.o)
            Ann.o)
          (Ann.m (48 : Nat) Ann.o (Ann.m (48 : Nat) Ann.o Ann.o))))))
def ann17 : Ann := Ann.m (1 : Nat) Ann.o
  (Ann.m (1 : Nat) (Ann.m (65 : Nat) Ann.o (Ann.m (1 : Nat) (Ann.m (12 : Nat) Ann.o (Ann.m (12 : Nat) Ann.o Ann.o)) Ann.o))
    (Ann.m (12 : Nat) Ann.o (Ann.m (12 : Nat) Ann.o Ann.o)))
def ann23 : Ann := Ann.m (1 : Nat) Ann.o
  (Ann.m (0 : Nat)
    (Ann.m (0 : Nat)
      (Ann.m (1 : Nat)
        (Ann.m (1 : Nat) (Ann.m (8193 : Nat) Ann.o (Ann.m (1 : Nat) Ann.o (Ann.m (0 : Nat) Ann.o Ann.o)))
          (Ann.m (1 : Nat)
            (Ann.m (9 : Nat) Ann.o
              (Ann.m (1 : Nat) (Ann.m (268435457 : Nat) Ann.o (Ann.m (1 : Nat) (Ann.m (4 : Nat) Ann.o (Ann.m (4 : Nat) Ann.o Ann.o)) Ann.o)) Ann.o))
            Ann.o))
        Ann.o)
      Ann.o)
    (Ann.m (4 : Nat) Ann.o (Ann.m (4 : Nat) Ann.o Ann.o)))
def ann8 : Ann := Ann.m (0 : Nat) Ann.o
  (Ann.m (2 : Nat) Ann.o
    (Ann.m (6 : Nat) Ann.o
      (Ann.m (14 : Nat) Ann.o (Ann.m (30 : Nat) Ann.o (Ann.m (126 : Nat) Ann.o (Ann.m (1 : Nat) Ann.o (Ann.m (1 : Nat) Ann.o Ann.o)))))))
def ann19 : Ann := Ann.m (3 : Nat) Ann.o
  (Ann.m (3 : Nat)
    (Ann.m (387 : Nat) Ann.o
      (Ann.m (3 : Nat)
        (Ann.m (387 : Nat)
          (Ann.m (899 : Nat) Ann.o
            (Ann.m (387 : Nat) (Ann.m (387 : Nat) Ann.o (Ann.m (3 : Nat) Ann.o Ann.o))
              (Ann.m (387 : Nat)
                (Ann.m (387 : Nat)
                  (Ann.m (419 : Nat) Ann.o
                    (Ann.m (33554819 : Nat) Ann.o (Ann.m (387 : Nat) (Ann.m (16 : Nat) Ann.o (Ann.m (16 : Nat) Ann.o Ann.o)) Ann.o)))
                  Ann.o)
                Ann.o)))
          Ann.o)
        Ann.o))
    (Ann.m (16 : Nat) Ann.o (Ann.m (16 : Nat) Ann.o Ann.o)))
def ann15 : Ann := Ann.m (0 : Nat) Ann.o
  (Ann.m (2 : Nat) Ann.o
    (Ann.m (2 : Nat)
      (Ann.m (6 : Nat) Ann.o
        (Ann.m (2 : Nat)
          (Ann.m (6 : Nat)
            (Ann.m (6 : Nat) (Ann.m (70 : Nat) Ann.o (Ann.m (6 : Nat) Ann.o (Ann.m (2 : Nat) Ann.o Ann.o)))
              (Ann.m (6 : Nat) (Ann.m (6 : Nat) Ann.o Ann.o) Ann.o))
            Ann.o)
          Ann.o))
      (Ann.m (1 : Nat) Ann.o (Ann.m (1 : Nat) Ann.o Ann.o))))
def ann18 : Ann := Ann.m (1 : Nat) Ann.o
  (Ann.m (9 : Nat) Ann.o
    (Ann.m (8 : Nat)
      (Ann.m (25 : Nat) Ann.o
        (Ann.m (8 : Nat)
          (Ann.m (25 : Nat)
            (Ann.m (25 : Nat) (Ann.m (89 : Nat) Ann.o (Ann.m (25 : Nat) Ann.o (Ann.m (8 : Nat) Ann.o Ann.o)))
              (Ann.m (25 : Nat) (Ann.m (25 : Nat) (Ann.m (536870937 : Nat) Ann.o (Ann.m (25 : Nat) Ann.o Ann.o)) Ann.o) Ann.o))
            Ann.o)
          Ann.o))
      (Ann.m (4 : Nat) Ann.o (Ann.m (4 : Nat) Ann.o Ann.o))))
def ann25 : Ann := Ann.m (7 : Nat) Ann.o
  (Ann.m (7 : Nat) (Ann.m (131079 : Nat) Ann.o (Ann.m (7 : Nat) (Ann.m (64 : Nat) Ann.o (Ann.m (64 : Nat) Ann.o Ann.o)) Ann.o))
    (Ann.m (7 : Nat) Ann.o (Ann.m (0 : Nat) Ann.o (Ann.m (64 : Nat) Ann.o (Ann.m (64 : Nat) Ann.o Ann.o)))))
def ann26 : Ann := Ann.m (3 : Nat) Ann.o
  (Ann.m (3 : Nat) (Ann.m (515 : Nat) Ann.o (Ann.m (3 : Nat) (Ann.m (48 : Nat) Ann.o (Ann.m (48 : Nat) Ann.o Ann.o)) Ann.o))
    (Ann.m (67 : Nat) Ann.o (Ann.m (64 : Nat) Ann.o (Ann.m (48 : Nat) Ann.o (Ann.m (48 : Nat) Ann.o Ann.o)))))
def ann27 : Ann := Ann.m (3 : Nat) Ann.o
  (Ann.m (3 : Nat) (Ann.m (515 : Nat) Ann.o (Ann.m (3 : Nat) (Ann.m (48 : Nat) Ann.o (Ann.m (48 : Nat) Ann.o Ann.o)) Ann.o))
    (Ann.m (3 : Nat) (Ann.m (65539 : Nat) Ann.o (Ann.m (3 : Nat) (Ann.m (48 : Nat) Ann.o (Ann.m (48 : Nat) Ann.o Ann.o)) Ann.o))
      (Ann.m (67 : Nat) Ann.o
        (Ann.m (67 : Nat) (Ann.m (33554499 : Nat) Ann.o (Ann.m (67 : Nat) Ann.o Ann.o))
          (Ann.m (64 : Nat) Ann.o (Ann.m (48 : Nat) Ann.o (Ann.m (48 : Nat) Ann.o Ann.o)))))))
def ann28 : Ann := Ann.m (3 : Nat) Ann.o
  (Ann.m (3 : Nat) (Ann.m (16387 : Nat) Ann.o (Ann.m (3 : Nat) (Ann.m (48 : Nat) Ann.o (Ann.m (48 : Nat) Ann.o Ann.o)) Ann.o))
    (Ann.m (3 : Nat) (Ann.m (2097155 : Nat) Ann.o (Ann.m (3 : Nat) (Ann.m (48 : Nat) Ann.o (Ann.m (48 : Nat) Ann.o Ann.o)) Ann.o))
      (Ann.m (1 : Nat) Ann.o
        (Ann.m (65 : Nat) Ann.o
          (Ann.m (64 : Nat)
            (Ann.m (64 : Nat)
              (Ann.m (65 : Nat)
                (Ann.m (65 : Nat) (Ann.m (4398046511169 : Nat) Ann.o (Ann.m (65 : Nat) Ann.o (Ann.m (64 : Nat) Ann.o Ann.o)))
                  (Ann.m (65 : Nat)
                    (Ann.m (193 : Nat) Ann.o
                      (Ann.m (449 : Nat) Ann.o
                        (Ann.m (65 : Nat)
                          (Ann.m (449 : Nat)
                            (Ann.m (449 : Nat) (Ann.m (70368744178113 : Nat) Ann.o (Ann.m (449 : Nat) Ann.o (Ann.m (65 : Nat) Ann.o Ann.o)))
                              (Ann.m (449 : Nat)
                                (Ann.m (449 : Nat) (Ann.m (72057594037928385 : Nat) Ann.o (Ann.m (449 : Nat) (Ann.m (449 : Nat) Ann.o Ann.o) Ann.o))
                                  Ann.o)
                                Ann.o))
                            Ann.o)
                          Ann.o)))
                    Ann.o))
                Ann.o)
              Ann.o)
            (Ann.m (48 : Nat) Ann.o (Ann.m (48 : Nat) Ann.o Ann.o)))))))
def ann31 : Ann := Ann.m (1 : Nat) Ann.o (Ann.m (4 : Nat) Ann.o (Ann.m (4 : Nat) Ann.o Ann.o))
def ann16 : Ann := Ann.m (35 : Nat) Ann.o
  (Ann.m (0 : Nat)
    (Ann.m (1048611 : Nat) Ann.o
      (Ann.m (0 : Nat)
        (Ann.m (3145763 : Nat) (Ann.m (3145763 : Nat) Ann.o (Ann.m (3145763 : Nat) Ann.o Ann.o))
          (Ann.m (0 : Nat) (Ann.m (64 : Nat) Ann.o (Ann.m (64 : Nat) Ann.o Ann.o))
            (Ann.m (137440002083 : Nat) Ann.o
              (Ann.m (0 : Nat) (Ann.m (418 : Nat) Ann.o (Ann.m (1920 : Nat) Ann.o (Ann.m (64 : Nat) Ann.o (Ann.m (64 : Nat) Ann.o Ann.o))))
                (Ann.m (2305843009214742563 : Nat) Ann.o
                  (Ann.m (0 : Nat) (Ann.m (6178 : Nat) Ann.o (Ann.m (30720 : Nat) Ann.o (Ann.m (64 : Nat) Ann.o (Ann.m (64 : Nat) Ann.o Ann.o))))
                    (Ann.m (38685626227668133590597667 : Nat) Ann.o
                      (Ann.m (0 : Nat)
                        (Ann.m (98338 : Nat) Ann.o (Ann.m (491520 : Nat) Ann.o (Ann.m (64 : Nat) Ann.o (Ann.m (64 : Nat) Ann.o Ann.o)))) Ann.o))))))))
        Ann.o))
    (Ann.m (64 : Nat) Ann.o (Ann.m (64 : Nat) Ann.o Ann.o)))
def ann3 : Ann := Ann.m (3 : Nat) Ann.o
  (Ann.m (35 : Nat) Ann.o
    (Ann.m (35 : Nat) (Ann.m (4194339 : Nat) Ann.o (Ann.m (35 : Nat) (Ann.m (16 : Nat) Ann.o (Ann.m (16 : Nat) Ann.o Ann.o)) Ann.o))
      (Ann.m (35 : Nat) (Ann.m (2147483683 : Nat) Ann.o (Ann.m (35 : Nat) (Ann.m (16 : Nat) Ann.o (Ann.m (16 : Nat) Ann.o Ann.o)) Ann.o))
        (Ann.m (98 : Nat) Ann.o
          (Ann.m (0 : Nat)
            (Ann.m (226 : Nat) Ann.o
              (Ann.m (0 : Nat)
                (Ann.m (226 : Nat)
                  (Ann.m (226 : Nat) (Ann.m (17592186044642 : Nat) Ann.o (Ann.m (226 : Nat) Ann.o (Ann.m (0 : Nat) Ann.o Ann.o)))
                    (Ann.m (226 : Nat)
                      (Ann.m (226 : Nat)
                        (Ann.m (226 : Nat) Ann.o
                          (Ann.m (226 : Nat) (Ann.m (1125899906842850 : Nat) Ann.o (Ann.m (226 : Nat) Ann.o Ann.o))
                            (Ann.m (994 : Nat) Ann.o
                              (Ann.m (4066 : Nat) Ann.o
                                (Ann.m (226 : Nat)
                                  (Ann.m (604462909807314587353314 : Nat) Ann.o
                                    (Ann.m (226 : Nat) (Ann.m (16 : Nat) Ann.o (Ann.m (16 : Nat) Ann.o Ann.o)) Ann.o))
                                  Ann.o)))))
                        Ann.o)
                      Ann.o))
                  Ann.o)
                Ann.o))
            (Ann.m (16 : Nat) Ann.o (Ann.m (16 : Nat) Ann.o Ann.o)))))))
def ann4 : Ann := Ann.m (1 : Nat) Ann.o
  (Ann.m (9 : Nat) Ann.o
    (Ann.m (9 : Nat) (Ann.m (4194313 : Nat) Ann.o (Ann.m (9 : Nat) (Ann.m (4 : Nat) Ann.o (Ann.m (4 : Nat) Ann.o Ann.o)) Ann.o))
      (Ann.m (25 : Nat) Ann.o
        (Ann.m (0 : Nat)
          (Ann.m (1879048216 : Nat) Ann.o
            (Ann.m (0 : Nat)
              (Ann.m (1879048216 : Nat)
                (Ann.m (4026531864 : Nat) Ann.o
                  (Ann.m (1879048216 : Nat) (Ann.m (1879048216 : Nat) Ann.o (Ann.m (0 : Nat) Ann.o Ann.o))
                    (Ann.m (1879048216 : Nat)
                      (Ann.m (1879048216 : Nat)
                        (Ann.m (1879048280 : Nat) Ann.o
                          (Ann.m (1879048280 : Nat)
                            (Ann.m (2200902303832 : Nat) Ann.o (Ann.m (1879048280 : Nat) (Ann.m (1879048216 : Nat) Ann.o Ann.o) Ann.o))
                            (Ann.m (8797972070488 : Nat) Ann.o
                              (Ann.m (1879048216 : Nat)
                                (Ann.m (26390158114904 : Nat) (Ann.m (26390158114904 : Nat) Ann.o (Ann.m (26390158114904 : Nat) Ann.o Ann.o))
                                  (Ann.m (1879048216 : Nat) (Ann.m (9007201133789272 : Nat) Ann.o (Ann.m (1879048216 : Nat) Ann.o Ann.o))
                                    (Ann.m (4611694816399458392 : Nat) Ann.o
                                      (Ann.m (1879048216 : Nat) (Ann.m (1879048280 : Nat) Ann.o Ann.o)
                                        (Ann.m (2361183250232794677336 : Nat) Ann.o
                                          (Ann.m (1879048216 : Nat)
                                            (Ann.m (1879048664 : Nat) Ann.o
                                              (Ann.m (1879048664 : Nat)
                                                (Ann.m (154742504910672536241439192 : Nat) Ann.o
                                                  (Ann.m (1879048664 : Nat) (Ann.m (4 : Nat) Ann.o (Ann.m (4 : Nat) Ann.o Ann.o)) Ann.o))
                                                (Ann.m (618970019642690139328610520 : Nat) Ann.o (Ann.m (1879048216 : Nat) Ann.o Ann.o))))
                                            (Ann.m (158456325028528675188966948952 : Nat) Ann.o
                                              (Ann.m (1879048216 : Nat)
                                                (Ann.m (1879049752 : Nat) Ann.o
                                                  (Ann.m (1879048728 : Nat)
                                                    (Ann.m (162259276829213363391579889336856 : Nat) Ann.o
                                                      (Ann.m (1879048728 : Nat) (Ann.m (1879048216 : Nat) Ann.o Ann.o) Ann.o))
                                                    (Ann.m (1879048216 : Nat)
                                                      (Ann.m (2271629875608987087482094023082008 : Nat) Ann.o
                                                        (Ann.m (1879048216 : Nat)
                                                          (Ann.m (2271629875608987087482094023082008 : Nat)
                                                            (Ann.m (4867778304876400901747342187692056 : Nat) Ann.o
                                                              (Ann.m (2271629875608987087482094023082008 : Nat)
                                                                (Ann.m (2271629875608987087482094023082008 : Nat) Ann.o
                                                                  (Ann.m (1879048216 : Nat) Ann.o Ann.o))
                                                                (Ann.m (2271629875608987087482094023082008 : Nat)
                                                                  (Ann.m (2271629875608987087482094023082008 : Nat)
                                                                    (Ann.m (2271629875608987087482094023086104 : Nat) Ann.o
                                                                      (Ann.m (2271629875608987087482094023086104 : Nat)
                                                                        (Ann.m (10889038013099906439815074919910605852696 : Nat) Ann.o
                                                                          (Ann.m (2271629875608987087482094023086104 : Nat)
                                                                            (Ann.m (4 : Nat) Ann.o (Ann.m (4 : Nat) Ann.o Ann.o)) Ann.o))
                                                                        Ann.o))
                                                                    Ann.o)
                                                                  Ann.o)))
                                                            Ann.o)
                                                          Ann.o))
                                                      (Ann.m (522673715590561479879743397015197851844632 : Nat) Ann.o
                                                        (Ann.m (1879048216 : Nat)
                                                          (Ann.m (522673715590561479879743397015197851844632 : Nat)
                                                            (Ann.m (1219572003044643453052734593035459148906520 : Nat) Ann.o
                                                              (Ann.m (522673715590561479879743397015197851844632 : Nat)
                                                                (Ann.m (522673715590561479879743397015197851844632 : Nat) Ann.o
                                                                  (Ann.m (1879048216 : Nat) Ann.o Ann.o))
                                                                (Ann.m (522673715590561479879743397015197851844632 : Nat)
                                                                  (Ann.m (522673715590561479879743397015197851844632 : Nat)
                                                                    (Ann.m (522673715590561479879743397015197851861016 : Nat) Ann.o
                                                                      (Ann.m (357334596892080531744451235759388981947531288 : Nat) Ann.o
                                                                        (Ann.m (522673715590561479879743397015197851844632 : Nat)
                                                                          (Ann.m (4 : Nat) Ann.o (Ann.m (4 : Nat) Ann.o Ann.o)) Ann.o)))
                                                                    Ann.o)
                                                                  Ann.o)))
                                                            Ann.o)
                                                          Ann.o)))))
                                                Ann.o))))))))
                                Ann.o))))
                        Ann.o)
                      Ann.o)))
                Ann.o)
              Ann.o))
          (Ann.m (4 : Nat) Ann.o (Ann.m (4 : Nat) Ann.o Ann.o))))))
def ann5 : Ann := Ann.m (1 : Nat) Ann.o
  (Ann.m (9 : Nat) Ann.o
    (Ann.m (9 : Nat) (Ann.m (1048585 : Nat) Ann.o (Ann.m (9 : Nat) (Ann.m (4 : Nat) Ann.o (Ann.m (4 : Nat) Ann.o Ann.o)) Ann.o))
      (Ann.m (25 : Nat) Ann.o
        (Ann.m (0 : Nat)
          (Ann.m (939524120 : Nat) Ann.o
            (Ann.m (0 : Nat)
              (Ann.m (939524120 : Nat)
                (Ann.m (2013265944 : Nat) Ann.o
                  (Ann.m (939524120 : Nat) (Ann.m (939524120 : Nat) Ann.o (Ann.m (0 : Nat) Ann.o Ann.o))
                    (Ann.m (939524120 : Nat)
                      (Ann.m (939524120 : Nat)
                        (Ann.m (939524184 : Nat) Ann.o
                          (Ann.m (939524184 : Nat)
                            (Ann.m (138378477656 : Nat) Ann.o (Ann.m (939524184 : Nat) (Ann.m (4 : Nat) Ann.o (Ann.m (4 : Nat) Ann.o Ann.o)) Ann.o))
                            (Ann.m (939524568 : Nat) Ann.o
                              (Ann.m (939525080 : Nat) Ann.o
                                (Ann.m (939528152 : Nat) Ann.o
                                  (Ann.m (939532248 : Nat) Ann.o
                                    (Ann.m (939532184 : Nat) (Ann.m (576460753242955736 : Nat) Ann.o (Ann.m (939532184 : Nat) Ann.o Ann.o))
                                      (Ann.m (166153499473114484112975883474567192 : Nat) Ann.o
                                        (Ann.m (939524120 : Nat) (Ann.m (4 : Nat) Ann.o (Ann.m (4 : Nat) Ann.o Ann.o)) Ann.o)))))))))
                        Ann.o)
                      Ann.o)))
                Ann.o)
              Ann.o))
          (Ann.m (4 : Nat) Ann.o (Ann.m (4 : Nat) Ann.o Ann.o))))))
def ann6 : Ann := Ann.m (3 : Nat) Ann.o
  (Ann.m (35 : Nat) Ann.o
    (Ann.m (227 : Nat) Ann.o
      (Ann.m (995 : Nat) Ann.o
        (Ann.m (3043 : Nat) Ann.o
          (Ann.m (11235 : Nat) Ann.o
            (Ann.m (44003 : Nat) Ann.o
              (Ann.m (109539 : Nat) Ann.o (Ann.m (240611 : Nat) Ann.o (Ann.m (16 : Nat) Ann.o (Ann.m (16 : Nat) Ann.o Ann.o))))))))))
def ann : FuncId → Ann
  | 7 => ann7
  | 12 => ann12
  | 20 => ann20
  | 22 => ann22
  | 11 => ann11
  | 14 => ann14
  | 9 => ann9
  | 10 => ann10
  | 21 => ann21
  | 24 => ann24
  | 29 => ann29
  | 30 => ann30
  | 49 => ann49
  | 50 => ann50
  | 51 => ann51
  | 52 => ann52
  | 53 => ann53
  | 13 => ann13
  | 17 => ann17
  | 23 => ann23
  | 8 => ann8
  | 19 => ann19
  | 15 => ann15
  | 18 => ann18
  | 25 => ann25
  | 26 => ann26
  | 27 => ann27
  | 28 => ann28
  | 31 => ann31
  | 16 => ann16
  | 3 => ann3
  | 4 => ann4
  | 5 => ann5
  | 6 => ann6
  | _ => .o
end Go.Proofs.Ytciibgjmdgpgnaa
